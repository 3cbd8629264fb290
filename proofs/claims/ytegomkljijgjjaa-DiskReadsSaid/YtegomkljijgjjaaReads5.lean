/- For every disk, two numbers and two lists of bytes, the law DiskReads of chapter 44 returns true. -/
import Derived.Test.YtegomkljijgjjaaReads4
import Derived.Test.YtegomkljijgjjaaRows
import Derived.WalkKit
import Derived.ShutString
set_option linter.unusedVariables false
set_option linter.unusedSimpArgs false
set_option maxRecDepth 100000
set_option maxHeartbeats 0
namespace Go.Fx
open Go Go.RowKit Go.Proofs
def m5_overflightlaw44_DiskReads_B0 (d : XDisk) (write_2 : XDisk × Int) (sync_1 : XDisk × Int) (sf170 : Int → Option Bool) (k_1 : Int) : Option Bool :=
  bif (decide (k_1 < (d.sectors.length : Int))) then
    (m27_disk_Read write_2.1 k_1).bind fun read_4 =>
    (m27_disk_Read sync_1.1 k_1).bind fun read_5 =>
    jn (fun (v_4 : Bool) =>
      bif v_4 then
        some false
      else
        sf170 (IntKind.wrap .i64 (k_1 + 1)))
    (fun k209 =>
      bif (decide (read_4.2 ≠ 0)) then
        k209 true
      else
        bif (decide (read_5.2 ≠ 0)) then
          k209 true
        else
          k209 (decide (read_4.1 ≠ read_5.1)))
  else
    bif (decide ((sync_1.1.pending.length : Int) = 0)) then
      (m18_disk_Check sync_1.1).bind fun check_1 =>
      some (decide (check_1 = 0))
    else
      some false

def m5_overflightlaw44_DiskReads (d : XDisk) (at_ : Int) (other : Int) (b : List UInt8) (c : List UInt8) : Option Bool :=
  (m13_overflightlaw44_sane).bind fun sane_1 =>
  bif (!sane_1) then
    some false
  else
    jn (fun (v_1 : Bool) =>
      bif v_1 then
        some true
      else
        (m27_disk_Read d other).bind fun read_1 =>
        (m23_disk_Write d at_ b).bind fun write_1 =>
        jn (fun (v_2 : Bool) =>
          bif v_2 then
            some true
          else
            (m27_disk_Read write_1.1 other).bind fun read_2 =>
            (m27_disk_Read write_1.1 at_).bind fun read_3 =>
            jn (fun (v_3 : Bool) =>
              bif v_3 then
                some false
              else
                (m23_disk_Write write_1.1 other c).bind fun write_2 =>
                bif (decide (write_2.2 ≠ 0)) then
                  some (decide (write_2.2 = 2))
                else
                  (m25_disk_Sync write_2.1).bind fun sync_1 =>
                  bif (decide (sync_1.2 ≠ 0)) then
                    bif (decide (sync_1.2 = 440)) then
                      some sync_1.1.stopped
                    else
                      some false
                  else
                    loop1 (m5_overflightlaw44_DiskReads_B0 d write_2 sync_1) (((d.sectors.length : Int) - 0).toNat + 1) 0)
            (fun k105 =>
              bif (decide (read_2.2 ≠ 0)) then
                k105 true
              else
                bif (decide (read_3.2 ≠ 0)) then
                  k105 true
                else
                  bif (decide ((read_3.1.length : Int) ≠ 128)) then
                    k105 true
                  else
                    ck ((0 : Int) ≤ (b.length : Int) ∧ (b.length : Int) ≤ (read_3.1.length : Int)) <|
                    bif (decide (((read_3.1.drop 0).take (b.length - 0)) ≠ b)) then
                      k105 true
                    else
                      bif (decide (at_ ≠ other)) then
                        k105 (decide (read_1.1 ≠ read_2.1))
                      else
                        k105 false))
        (fun k66 =>
          bif (decide (read_1.2 ≠ 0)) then
            k66 true
          else
            k66 (decide (write_1.2 ≠ 0))))
    (fun k19 =>
      (m14_overflightref44_Few d).bind fun few_1 =>
      bif (!few_1) then
        k19 true
      else
        bif (decide (128 < (b.length : Int))) then
          k19 true
        else
          k19 (decide (128 < (c.length : Int))))

theorem c5_overflightlaw44_DiskReads {w : World} {O : List Nat} {d : XDisk} {at_ : Int} {other : Int} {b : List UInt8} {c : List UInt8} {a_d_sectors : Option Addr} {c_d_sectors : Nat} {a_d_pending : Option Addr} {c_d_pending : Nat} {a_b : Option Addr} {c_b : Nat} {a_c : Option Addr} {c_c : Nat} (hO : ∀ k ∈ O, k < w.heap.size) (f_d_sectors : SlR (rSl rU8) w O a_d_sectors c_d_sectors d.sectors) (f_d_pending : SlR rXWrite w O a_d_pending c_d_pending d.pending) (r_d_left : InK .i64 d.left) (r_at_ : InK .i64 at_) (r_other : InK .i64 other) (f_b : SlR rU8 w O a_b c_b b) (f_c : SlR rU8 w O a_c c_c c) {x : Bool} (hm : m5_overflightlaw44_DiskReads d at_ other b c = some x) :
    Ok Try.prog 5 [(Value.agg [(Value.slice a_d_sectors d.sectors.length c_d_sectors), (Value.slice a_d_pending d.pending.length c_d_pending), (Value.int .i64 d.left), (Value.bool d.stopped)].toArray), (Value.int .i64 at_), (Value.int .i64 other), (Value.slice a_b b.length c_b), (Value.slice a_c c.length c_c)] w O vB x := by
  unfold m5_overflightlaw44_DiskReads at hm
  refine Fn_of_Wp (n := 172) (xs := [.tmp 10]) Try.func5 rfl Try.ntmps5 Try.results5 rfl ?_
  have hs := St.start hO
  refine Wp_seq ?_
  refine Wp_region ?_  -- 0 law.go:152
  refine Rg_op rfl (op_box (cs := [(Value.slice a_d_sectors d.sectors.length c_d_sectors), (Value.slice a_d_pending d.pending.length c_d_pending), (Value.int .i64 d.left), (Value.bool d.stopped)]) hs rfl rfl ?_)
  intro b1 w2 _ p3 hs4
  replace f_d_sectors := f_d_sectors.step p3
  replace f_d_pending := f_d_pending.step p3
  replace f_b := f_b.step p3
  replace f_c := f_c.step p3
  clear p3
  refine Rg_op rfl (op_assign (v := (Value.bool false)) rfl ?_)
  refine Rg_nil ?_
  refine Wp_seq ?_
  refine Wp_seq ?_
  refine Wp_region ?_  -- 1 law.go:153
  replace hm := bd hm; obtain ⟨sane_1, hv6, hm⟩ := hm
  refine Rg_op rfl (op_call Try.call13 (c13_overflightlaw44_sane  hs4.ltw  hv6) rfl ?_)
  rintro v7 w8 ⟨hx9, h10⟩
  have hs11 := hs4.call hx9
  have p12 := Step.ext (O := ks [(some b1, Obj.cells [(Value.slice a_d_sectors d.sectors.length c_d_sectors), (Value.slice a_d_pending d.pending.length c_d_pending), (Value.int .i64 d.left), (Value.bool d.stopped)].toArray 25)] O) hx9
  clear hx9
  replace f_d_sectors := f_d_sectors.step p12
  replace f_d_pending := f_d_pending.step p12
  replace f_b := f_b.step p12
  replace f_c := f_c.step p12
  clear p12 hs4
  obtain rfl := h10
  refine Rg_op rfl (op_not rfl ?_)
  refine Rg_nil ?_
  refine Wp_cond rfl (fun hc14 => ?_) (fun hc14 => ?_)
  ·
    replace hm := bif_t hm hc14
    refine Wp_seq ?_
    obtain ⟨hs15, p16⟩ := hs11.sub (bs' := []) (.cons _ List.Sublist.slnil)
    clear f_d_sectors f_d_pending f_b f_c
    clear p16 hs11
    refine Wp_region ?_  -- 2 law.go:154
    refine Rg_op rfl (op_assign (v := (Value.bool false)) rfl ?_)
    refine Rg_nil ?_
    refine Wp_ret ?_
    have hz := step_all hs15
    refine ⟨_, (show Closes [] _ _ from rfl), [(Value.bool false)], ⟨rfl, trivial⟩, hs15.ext, ?_⟩
    exact Vr.eq (a := vB) (x := false) rfl (Option.some.inj hm)
  ·
    replace hm := bif_f hm hc14
    refine Wp_skip ?_
    refine Wp_seq ?_
    refine Wp_reset [] [(1, (Value.int .i64 at_)), (2, (Value.int .i64 other)), (3, (Value.slice a_b b.length c_b)), (4, (Value.slice a_c c.length c_c)), (5, (Value.pointer (some ⟨b1, 0, none⟩)))] rfl ⟨rfl, rfl, rfl, rfl, rfl, trivial⟩ fun ξ17 => ?_
    replace hm := jn_elim hm; obtain ⟨k19, hk20, hm⟩ := hm
    refine Wp_seqJ [30, 31, 32, 33, 34, 35, 36, 37, 38, 39, 40, 41, 42] (fun fr w' => ∃ (v_1 : Bool) (Ebs : Ents), Ebs = [(some b1, Obj.cells [(Value.slice a_d_sectors d.sectors.length c_d_sectors), (Value.slice a_d_pending d.pending.length c_d_pending), (Value.int .i64 d.left), (Value.bool d.stopped)].toArray 25)] ∧ fr [] [(42, (Value.bool v_1))] ∧ Step (ks [(some b1, Obj.cells [(Value.slice a_d_sectors d.sectors.length c_d_sectors), (Value.slice a_d_pending d.pending.length c_d_pending), (Value.int .i64 d.left), (Value.bool d.stopped)].toArray 25)] O) w8 (ks Ebs O) w' ∧ St ⟨w, [], []⟩ O w' Ebs ∧ k19 v_1 = some x) ?_ ?_
    ·
      rintro ρ26 w22 ⟨v_1, Ebs, hEbs, hfr25, hst24, hs23, hm⟩
      replace hm := jnE1 hk20 hm
      subst hEbs; rw [hfr25.eq]; clear hfr25
      replace f_d_sectors := f_d_sectors.step hst24
      replace f_d_pending := f_d_pending.step hst24
      replace f_b := f_b.step hst24
      replace f_c := f_c.step hst24
      clear hst24 hs11
      refine Wp_cond rfl (fun hc27 => ?_) (fun hc27 => ?_)
      ·
        replace hm := bif_t hm hc27
        refine Wp_seq ?_
        obtain ⟨hs28, p29⟩ := hs23.sub (bs' := []) (.cons _ List.Sublist.slnil)
        clear f_d_sectors f_d_pending f_b f_c
        clear p29 hs23
        refine Wp_region ?_  -- 4 law.go:157
        refine Rg_op rfl (op_assign (v := (Value.bool true)) rfl ?_)
        refine Rg_nil ?_
        refine Wp_ret ?_
        have hz := step_all hs28
        refine ⟨_, (show Closes [] _ _ from rfl), [(Value.bool true)], ⟨rfl, trivial⟩, hs28.ext, ?_⟩
        exact Vr.eq (a := vB) (x := true) rfl (Option.some.inj hm)
      ·
        replace hm := bif_f hm hc27
        refine Wp_skip ?_
        refine Wp_seq ?_
        refine Wp_region ?_  -- 5 law.go:159
        refine Rg_op rfl (op_loadA (cs := [(Value.slice a_d_sectors d.sectors.length c_d_sectors), (Value.slice a_d_pending d.pending.length c_d_pending), (Value.int .i64 d.left), (Value.bool d.stopped)]) (vs := [(Value.slice a_d_sectors d.sectors.length c_d_sectors), (Value.slice a_d_pending d.pending.length c_d_pending), (Value.int .i64 d.left), (Value.bool d.stopped)]) (i := 0) ty25 hs23 rfl rfl rfl rfl ?_)
        refine Rg_op rfl (op_move (v := (Value.int .i64 other)) rfl ?_)
        replace hm := bd hm; obtain ⟨read_1, hv30, hm⟩ := hm
        refine Rg_op rfl (op_call Try.call27 (c27_disk_Read (d := d) (at_ := other) hs23.ltw f_d_sectors f_d_pending r_d_left r_other hv30) rfl ?_)
        rintro v31 w32 ⟨hx33, h34⟩
        have hs35 := hs23.call hx33
        have p36 := Step.ext (O := ks [(some b1, Obj.cells [(Value.slice a_d_sectors d.sectors.length c_d_sectors), (Value.slice a_d_pending d.pending.length c_d_pending), (Value.int .i64 d.left), (Value.bool d.stopped)].toArray 25)] O) hx33
        clear hx33
        replace f_d_sectors := f_d_sectors.step p36
        replace f_d_pending := f_d_pending.step p36
        replace f_b := f_b.step p36
        replace f_c := f_c.step p36
        clear p36 hs23
        obtain ⟨v37, v38, rfl, h39, h40⟩ := h34
        obtain ⟨a_y41, c_y41, rfl, f_y41⟩ := un_sl h39
        obtain ⟨rfl, r_y42⟩ := h40
        refine Rg_op rfl (op_move (v := (Value.tuple [(Value.slice a_y41 read_1.1.length c_y41), (Value.int .i64 read_1.2)].toArray)) rfl ?_)
        refine Rg_op rfl (op_extract (v := (Value.slice a_y41 read_1.1.length c_y41)) rfl rfl ?_)
        refine Rg_op rfl (op_extract (v := (Value.int .i64 read_1.2)) rfl rfl ?_)
        refine Rg_op rfl (op_assign (v := (Value.slice a_y41 read_1.1.length c_y41)) rfl ?_)
        refine Rg_op rfl (op_assign (v := (Value.int .i64 read_1.2)) rfl ?_)
        refine Rg_nil ?_
        refine Wp_seq ?_
        refine Wp_region ?_  -- 6 law.go:160
        refine Rg_op rfl (op_loadA (cs := [(Value.slice a_d_sectors d.sectors.length c_d_sectors), (Value.slice a_d_pending d.pending.length c_d_pending), (Value.int .i64 d.left), (Value.bool d.stopped)]) (vs := [(Value.slice a_d_sectors d.sectors.length c_d_sectors), (Value.slice a_d_pending d.pending.length c_d_pending), (Value.int .i64 d.left), (Value.bool d.stopped)]) (i := 0) ty25 hs35 rfl rfl rfl rfl ?_)
        refine Rg_op rfl (op_move (v := (Value.int .i64 at_)) rfl ?_)
        refine Rg_op rfl (op_move (v := (Value.slice a_b b.length c_b)) rfl ?_)
        replace hm := bd hm; obtain ⟨write_1, hv43, hm⟩ := hm
        refine Rg_op rfl (op_call Try.call23 (c23_disk_Write (d := d) (at_ := at_) (b := b) hs35.ltw f_d_sectors f_d_pending r_d_left r_at_ f_b hv43) rfl ?_)
        rintro v44 w45 ⟨hx46, h47⟩
        have hs48 := hs35.call hx46
        have p49 := Step.ext (O := ks [(some b1, Obj.cells [(Value.slice a_d_sectors d.sectors.length c_d_sectors), (Value.slice a_d_pending d.pending.length c_d_pending), (Value.int .i64 d.left), (Value.bool d.stopped)].toArray 25)] O) hx46
        clear hx46
        replace f_d_sectors := f_d_sectors.step p49
        replace f_d_pending := f_d_pending.step p49
        replace f_b := f_b.step p49
        replace f_c := f_c.step p49
        replace f_y41 := f_y41.step p49
        clear p49 hs35
        obtain ⟨v50, v51, rfl, h52, h53⟩ := h47
        obtain ⟨_, rfl, ⟨_, _, rfl, ⟨a_y54_sectors, c_y54_sectors, rfl, f_y54_sectors⟩, ⟨_, _, rfl, ⟨a_y54_pending, c_y54_pending, rfl, f_y54_pending⟩, ⟨_, _, rfl, ⟨rfl, r_y54_left⟩, rfl⟩⟩⟩⟩ := h52
        obtain ⟨rfl, r_y55⟩ := h53
        refine Rg_op rfl (op_move (v := (Value.tuple [(Value.agg [(Value.slice a_y54_sectors write_1.1.sectors.length c_y54_sectors), (Value.slice a_y54_pending write_1.1.pending.length c_y54_pending), (Value.int .i64 write_1.1.left), (Value.bool write_1.1.stopped)].toArray), (Value.int .i64 write_1.2)].toArray)) rfl ?_)
        refine Rg_op rfl (op_extract (v := (Value.agg [(Value.slice a_y54_sectors write_1.1.sectors.length c_y54_sectors), (Value.slice a_y54_pending write_1.1.pending.length c_y54_pending), (Value.int .i64 write_1.1.left), (Value.bool write_1.1.stopped)].toArray)) rfl rfl ?_)
        refine Rg_op rfl (op_extract (v := (Value.int .i64 write_1.2)) rfl rfl ?_)
        refine Rg_op rfl (op_alloc ty25 hs48 ?_)
        intro b56 w57 _ p58 hs59
        replace f_d_sectors := f_d_sectors.step p58
        replace f_d_pending := f_d_pending.step p58
        replace f_b := f_b.step p58
        replace f_c := f_c.step p58
        replace f_y41 := f_y41.step p58
        replace f_y54_sectors := f_y54_sectors.step p58
        replace f_y54_pending := f_y54_pending.step p58
        clear p58 hs48
        refine Rg_op_ (op_store (cs := [(Value.slice none 0 0), (Value.slice none 0 0), (Value.int .i64 0), (Value.bool false)]) (vs := [(Value.slice a_y54_sectors write_1.1.sectors.length c_y54_sectors), (Value.slice a_y54_pending write_1.1.pending.length c_y54_pending), (Value.int .i64 write_1.1.left), (Value.bool write_1.1.stopped)]) (cs' := [(Value.slice a_y54_sectors write_1.1.sectors.length c_y54_sectors), (Value.slice a_y54_pending write_1.1.pending.length c_y54_pending), (Value.int .i64 write_1.1.left), (Value.bool write_1.1.stopped)]) (bs' := [(some b56, Obj.cells [(Value.slice a_y54_sectors write_1.1.sectors.length c_y54_sectors), (Value.slice a_y54_pending write_1.1.pending.length c_y54_pending), (Value.int .i64 write_1.1.left), (Value.bool write_1.1.stopped)].toArray 25), (some b1, Obj.cells [(Value.slice a_d_sectors d.sectors.length c_d_sectors), (Value.slice a_d_pending d.pending.length c_d_pending), (Value.int .i64 d.left), (Value.bool d.stopped)].toArray 25)]) (i := 0) ty25 hs59 rfl rfl rfl rfl rfl (le_lit rfl) rfl rfl rfl ?_)
        intro w61 p62 hs63
        replace f_d_sectors := f_d_sectors.step p62
        replace f_d_pending := f_d_pending.step p62
        replace f_b := f_b.step p62
        replace f_c := f_c.step p62
        replace f_y41 := f_y41.step p62
        replace f_y54_sectors := f_y54_sectors.step p62
        replace f_y54_pending := f_y54_pending.step p62
        clear p62 hs59
        refine Rg_op rfl (op_assign (v := (Value.int .i64 write_1.2)) rfl ?_)
        refine Rg_nil ?_
        refine Wp_seq ?_
        refine Wp_reset [] [(1, (Value.int .i64 at_)), (2, (Value.int .i64 other)), (3, (Value.slice a_b b.length c_b)), (4, (Value.slice a_c c.length c_c)), (5, (Value.pointer (some ⟨b1, 0, none⟩))), (11, (Value.slice a_y41 read_1.1.length c_y41)), (12, (Value.int .i64 read_1.2)), (13, (Value.pointer (some ⟨b56, 0, none⟩))), (14, (Value.int .i64 write_1.2))] rfl ⟨rfl, rfl, rfl, rfl, rfl, rfl, rfl, rfl, rfl, trivial⟩ fun ξ64 => ?_
        replace hm := jn_elim hm; obtain ⟨k66, hk67, hm⟩ := hm
        refine Wp_seqJ [56, 57, 58, 59, 60, 61] (fun fr w' => ∃ (v_2 : Bool) (Ebs : Ents), Ebs = [(some b56, Obj.cells [(Value.slice a_y54_sectors write_1.1.sectors.length c_y54_sectors), (Value.slice a_y54_pending write_1.1.pending.length c_y54_pending), (Value.int .i64 write_1.1.left), (Value.bool write_1.1.stopped)].toArray 25), (some b1, Obj.cells [(Value.slice a_d_sectors d.sectors.length c_d_sectors), (Value.slice a_d_pending d.pending.length c_d_pending), (Value.int .i64 d.left), (Value.bool d.stopped)].toArray 25)] ∧ fr [] [(61, (Value.bool v_2))] ∧ Step (ks [(some b56, Obj.cells [(Value.slice a_y54_sectors write_1.1.sectors.length c_y54_sectors), (Value.slice a_y54_pending write_1.1.pending.length c_y54_pending), (Value.int .i64 write_1.1.left), (Value.bool write_1.1.stopped)].toArray 25), (some b1, Obj.cells [(Value.slice a_d_sectors d.sectors.length c_d_sectors), (Value.slice a_d_pending d.pending.length c_d_pending), (Value.int .i64 d.left), (Value.bool d.stopped)].toArray 25)] O) w61 (ks Ebs O) w' ∧ St ⟨w, [], []⟩ O w' Ebs ∧ k66 v_2 = some x) ?_ ?_
        ·
          rintro ρ73 w69 ⟨v_2, Ebs, hEbs, hfr72, hst71, hs70, hm⟩
          replace hm := jnE1 hk67 hm
          subst hEbs; rw [hfr72.eq]; clear hfr72
          replace f_d_sectors := f_d_sectors.step hst71
          replace f_d_pending := f_d_pending.step hst71
          replace f_b := f_b.step hst71
          replace f_c := f_c.step hst71
          replace f_y41 := f_y41.step hst71
          replace f_y54_sectors := f_y54_sectors.step hst71
          replace f_y54_pending := f_y54_pending.step hst71
          clear hst71 hs63
          refine Wp_cond rfl (fun hc74 => ?_) (fun hc74 => ?_)
          ·
            replace hm := bif_t hm hc74
            refine Wp_seq ?_
            obtain ⟨hs75, p76⟩ := hs70.sub (bs' := []) (.cons _ (.cons _ List.Sublist.slnil))
            clear f_d_sectors f_d_pending f_b f_c f_y41 f_y54_sectors f_y54_pending
            clear p76 hs70
            refine Wp_region ?_  -- 8 law.go:162
            refine Rg_op rfl (op_assign (v := (Value.bool true)) rfl ?_)
            refine Rg_nil ?_
            refine Wp_ret ?_
            have hz := step_all hs75
            refine ⟨_, (show Closes [] _ _ from rfl), [(Value.bool true)], ⟨rfl, trivial⟩, hs75.ext, ?_⟩
            exact Vr.eq (a := vB) (x := true) rfl (Option.some.inj hm)
          ·
            replace hm := bif_f hm hc74
            refine Wp_skip ?_
            refine Wp_seq ?_
            refine Wp_region ?_  -- 9 law.go:164
            refine Rg_op rfl (op_loadA (cs := [(Value.slice a_y54_sectors write_1.1.sectors.length c_y54_sectors), (Value.slice a_y54_pending write_1.1.pending.length c_y54_pending), (Value.int .i64 write_1.1.left), (Value.bool write_1.1.stopped)]) (vs := [(Value.slice a_y54_sectors write_1.1.sectors.length c_y54_sectors), (Value.slice a_y54_pending write_1.1.pending.length c_y54_pending), (Value.int .i64 write_1.1.left), (Value.bool write_1.1.stopped)]) (i := 0) ty25 hs70 rfl rfl rfl rfl ?_)
            refine Rg_op rfl (op_move (v := (Value.int .i64 other)) rfl ?_)
            replace hm := bd hm; obtain ⟨read_2, hv77, hm⟩ := hm
            refine Rg_op rfl (op_call Try.call27 (c27_disk_Read (d := write_1.1) (at_ := other) hs70.ltw f_y54_sectors f_y54_pending r_y54_left r_other hv77) rfl ?_)
            rintro v78 w79 ⟨hx80, h81⟩
            have hs82 := hs70.call hx80
            have p83 := Step.ext (O := ks [(some b56, Obj.cells [(Value.slice a_y54_sectors write_1.1.sectors.length c_y54_sectors), (Value.slice a_y54_pending write_1.1.pending.length c_y54_pending), (Value.int .i64 write_1.1.left), (Value.bool write_1.1.stopped)].toArray 25), (some b1, Obj.cells [(Value.slice a_d_sectors d.sectors.length c_d_sectors), (Value.slice a_d_pending d.pending.length c_d_pending), (Value.int .i64 d.left), (Value.bool d.stopped)].toArray 25)] O) hx80
            clear hx80
            replace f_d_sectors := f_d_sectors.step p83
            replace f_d_pending := f_d_pending.step p83
            replace f_b := f_b.step p83
            replace f_c := f_c.step p83
            replace f_y41 := f_y41.step p83
            replace f_y54_sectors := f_y54_sectors.step p83
            replace f_y54_pending := f_y54_pending.step p83
            clear p83 hs70
            obtain ⟨v84, v85, rfl, h86, h87⟩ := h81
            obtain ⟨a_y88, c_y88, rfl, f_y88⟩ := un_sl h86
            obtain ⟨rfl, r_y89⟩ := h87
            refine Rg_op rfl (op_move (v := (Value.tuple [(Value.slice a_y88 read_2.1.length c_y88), (Value.int .i64 read_2.2)].toArray)) rfl ?_)
            refine Rg_op rfl (op_extract (v := (Value.slice a_y88 read_2.1.length c_y88)) rfl rfl ?_)
            refine Rg_op rfl (op_extract (v := (Value.int .i64 read_2.2)) rfl rfl ?_)
            refine Rg_op rfl (op_assign (v := (Value.slice a_y88 read_2.1.length c_y88)) rfl ?_)
            refine Rg_op rfl (op_assign (v := (Value.int .i64 read_2.2)) rfl ?_)
            refine Rg_nil ?_
            refine Wp_seq ?_
            refine Wp_region ?_  -- 10 law.go:165
            refine Rg_op rfl (op_loadA (cs := [(Value.slice a_y54_sectors write_1.1.sectors.length c_y54_sectors), (Value.slice a_y54_pending write_1.1.pending.length c_y54_pending), (Value.int .i64 write_1.1.left), (Value.bool write_1.1.stopped)]) (vs := [(Value.slice a_y54_sectors write_1.1.sectors.length c_y54_sectors), (Value.slice a_y54_pending write_1.1.pending.length c_y54_pending), (Value.int .i64 write_1.1.left), (Value.bool write_1.1.stopped)]) (i := 0) ty25 hs82 rfl rfl rfl rfl ?_)
            refine Rg_op rfl (op_move (v := (Value.int .i64 at_)) rfl ?_)
            replace hm := bd hm; obtain ⟨read_3, hv90, hm⟩ := hm
            refine Rg_op rfl (op_call Try.call27 (c27_disk_Read (d := write_1.1) (at_ := at_) hs82.ltw f_y54_sectors f_y54_pending r_y54_left r_at_ hv90) rfl ?_)
            rintro v91 w92 ⟨hx93, h94⟩
            have hs95 := hs82.call hx93
            have p96 := Step.ext (O := ks [(some b56, Obj.cells [(Value.slice a_y54_sectors write_1.1.sectors.length c_y54_sectors), (Value.slice a_y54_pending write_1.1.pending.length c_y54_pending), (Value.int .i64 write_1.1.left), (Value.bool write_1.1.stopped)].toArray 25), (some b1, Obj.cells [(Value.slice a_d_sectors d.sectors.length c_d_sectors), (Value.slice a_d_pending d.pending.length c_d_pending), (Value.int .i64 d.left), (Value.bool d.stopped)].toArray 25)] O) hx93
            clear hx93
            replace f_d_sectors := f_d_sectors.step p96
            replace f_d_pending := f_d_pending.step p96
            replace f_b := f_b.step p96
            replace f_c := f_c.step p96
            replace f_y41 := f_y41.step p96
            replace f_y54_sectors := f_y54_sectors.step p96
            replace f_y54_pending := f_y54_pending.step p96
            replace f_y88 := f_y88.step p96
            clear p96 hs82
            obtain ⟨v97, v98, rfl, h99, h100⟩ := h94
            obtain ⟨a_y101, c_y101, rfl, f_y101⟩ := un_sl h99
            obtain ⟨rfl, r_y102⟩ := h100
            refine Rg_op rfl (op_move (v := (Value.tuple [(Value.slice a_y101 read_3.1.length c_y101), (Value.int .i64 read_3.2)].toArray)) rfl ?_)
            refine Rg_op rfl (op_extract (v := (Value.slice a_y101 read_3.1.length c_y101)) rfl rfl ?_)
            refine Rg_op rfl (op_extract (v := (Value.int .i64 read_3.2)) rfl rfl ?_)
            refine Rg_op rfl (op_assign (v := (Value.slice a_y101 read_3.1.length c_y101)) rfl ?_)
            refine Rg_op rfl (op_assign (v := (Value.int .i64 read_3.2)) rfl ?_)
            refine Rg_nil ?_
            refine Wp_seq ?_
            refine Wp_reset [] [(1, (Value.int .i64 at_)), (2, (Value.int .i64 other)), (3, (Value.slice a_b b.length c_b)), (4, (Value.slice a_c c.length c_c)), (5, (Value.pointer (some ⟨b1, 0, none⟩))), (11, (Value.slice a_y41 read_1.1.length c_y41)), (13, (Value.pointer (some ⟨b56, 0, none⟩))), (15, (Value.slice a_y88 read_2.1.length c_y88)), (16, (Value.int .i64 read_2.2)), (17, (Value.slice a_y101 read_3.1.length c_y101)), (18, (Value.int .i64 read_3.2))] rfl ⟨rfl, rfl, rfl, rfl, rfl, rfl, rfl, rfl, rfl, rfl, rfl, trivial⟩ fun ξ103 => ?_
            replace hm := jn_elim hm; obtain ⟨k105, hk106, hm⟩ := hm
            refine Wp_seqJ [74, 75, 76, 77, 78, 79, 80, 81, 82, 83, 84, 85, 86, 87, 88, 89, 90, 91, 92, 93, 94, 95, 96, 97, 98, 99, 100, 101, 102, 103, 104, 105, 106] (fun fr w' => ∃ (v_3 : Bool) (Ebs : Ents), Ebs = [(some b56, Obj.cells [(Value.slice a_y54_sectors write_1.1.sectors.length c_y54_sectors), (Value.slice a_y54_pending write_1.1.pending.length c_y54_pending), (Value.int .i64 write_1.1.left), (Value.bool write_1.1.stopped)].toArray 25), (some b1, Obj.cells [(Value.slice a_d_sectors d.sectors.length c_d_sectors), (Value.slice a_d_pending d.pending.length c_d_pending), (Value.int .i64 d.left), (Value.bool d.stopped)].toArray 25)] ∧ fr [] [(106, (Value.bool v_3))] ∧ Step (ks [(some b56, Obj.cells [(Value.slice a_y54_sectors write_1.1.sectors.length c_y54_sectors), (Value.slice a_y54_pending write_1.1.pending.length c_y54_pending), (Value.int .i64 write_1.1.left), (Value.bool write_1.1.stopped)].toArray 25), (some b1, Obj.cells [(Value.slice a_d_sectors d.sectors.length c_d_sectors), (Value.slice a_d_pending d.pending.length c_d_pending), (Value.int .i64 d.left), (Value.bool d.stopped)].toArray 25)] O) w92 (ks Ebs O) w' ∧ St ⟨w, [], []⟩ O w' Ebs ∧ k105 v_3 = some x) ?_ ?_
            ·
              rintro ρ112 w108 ⟨v_3, Ebs, hEbs, hfr111, hst110, hs109, hm⟩
              replace hm := jnE1 hk106 hm
              subst hEbs; rw [hfr111.eq]; clear hfr111
              replace f_d_sectors := f_d_sectors.step hst110
              replace f_d_pending := f_d_pending.step hst110
              replace f_b := f_b.step hst110
              replace f_c := f_c.step hst110
              replace f_y41 := f_y41.step hst110
              replace f_y54_sectors := f_y54_sectors.step hst110
              replace f_y54_pending := f_y54_pending.step hst110
              replace f_y88 := f_y88.step hst110
              replace f_y101 := f_y101.step hst110
              clear hst110 hs95
              refine Wp_cond rfl (fun hc113 => ?_) (fun hc113 => ?_)
              ·
                replace hm := bif_t hm hc113
                refine Wp_seq ?_
                obtain ⟨hs114, p115⟩ := hs109.sub (bs' := []) (.cons _ (.cons _ List.Sublist.slnil))
                clear f_d_sectors f_d_pending f_b f_c f_y41 f_y54_sectors f_y54_pending f_y88 f_y101
                clear p115 hs109
                refine Wp_region ?_  -- 12 law.go:167
                refine Rg_op rfl (op_assign (v := (Value.bool false)) rfl ?_)
                refine Rg_nil ?_
                refine Wp_ret ?_
                have hz := step_all hs114
                refine ⟨_, (show Closes [] _ _ from rfl), [(Value.bool false)], ⟨rfl, trivial⟩, hs114.ext, ?_⟩
                exact Vr.eq (a := vB) (x := false) rfl (Option.some.inj hm)
              ·
                replace hm := bif_f hm hc113
                refine Wp_skip ?_
                refine Wp_seq ?_
                clear f_b f_y41 f_y88 f_y101
                refine Wp_region ?_  -- 13 law.go:169
                refine Rg_op rfl (op_loadA (cs := [(Value.slice a_y54_sectors write_1.1.sectors.length c_y54_sectors), (Value.slice a_y54_pending write_1.1.pending.length c_y54_pending), (Value.int .i64 write_1.1.left), (Value.bool write_1.1.stopped)]) (vs := [(Value.slice a_y54_sectors write_1.1.sectors.length c_y54_sectors), (Value.slice a_y54_pending write_1.1.pending.length c_y54_pending), (Value.int .i64 write_1.1.left), (Value.bool write_1.1.stopped)]) (i := 0) ty25 hs109 rfl rfl rfl rfl ?_)
                refine Rg_op rfl (op_move (v := (Value.int .i64 other)) rfl ?_)
                refine Rg_op rfl (op_move (v := (Value.slice a_c c.length c_c)) rfl ?_)
                replace hm := bd hm; obtain ⟨write_2, hv116, hm⟩ := hm
                refine Rg_op rfl (op_call Try.call23 (c23_disk_Write (d := write_1.1) (at_ := other) (b := c) hs109.ltw f_y54_sectors f_y54_pending r_y54_left r_other f_c hv116) rfl ?_)
                rintro v117 w118 ⟨hx119, h120⟩
                have hs121 := hs109.call hx119
                have p122 := Step.ext (O := ks [(some b56, Obj.cells [(Value.slice a_y54_sectors write_1.1.sectors.length c_y54_sectors), (Value.slice a_y54_pending write_1.1.pending.length c_y54_pending), (Value.int .i64 write_1.1.left), (Value.bool write_1.1.stopped)].toArray 25), (some b1, Obj.cells [(Value.slice a_d_sectors d.sectors.length c_d_sectors), (Value.slice a_d_pending d.pending.length c_d_pending), (Value.int .i64 d.left), (Value.bool d.stopped)].toArray 25)] O) hx119
                clear hx119
                replace f_d_sectors := f_d_sectors.step p122
                replace f_d_pending := f_d_pending.step p122
                replace f_c := f_c.step p122
                replace f_y54_sectors := f_y54_sectors.step p122
                replace f_y54_pending := f_y54_pending.step p122
                clear p122 hs109
                obtain ⟨v123, v124, rfl, h125, h126⟩ := h120
                obtain ⟨_, rfl, ⟨_, _, rfl, ⟨a_y127_sectors, c_y127_sectors, rfl, f_y127_sectors⟩, ⟨_, _, rfl, ⟨a_y127_pending, c_y127_pending, rfl, f_y127_pending⟩, ⟨_, _, rfl, ⟨rfl, r_y127_left⟩, rfl⟩⟩⟩⟩ := h125
                obtain ⟨rfl, r_y128⟩ := h126
                refine Rg_op rfl (op_move (v := (Value.tuple [(Value.agg [(Value.slice a_y127_sectors write_2.1.sectors.length c_y127_sectors), (Value.slice a_y127_pending write_2.1.pending.length c_y127_pending), (Value.int .i64 write_2.1.left), (Value.bool write_2.1.stopped)].toArray), (Value.int .i64 write_2.2)].toArray)) rfl ?_)
                refine Rg_op rfl (op_extract (v := (Value.agg [(Value.slice a_y127_sectors write_2.1.sectors.length c_y127_sectors), (Value.slice a_y127_pending write_2.1.pending.length c_y127_pending), (Value.int .i64 write_2.1.left), (Value.bool write_2.1.stopped)].toArray)) rfl rfl ?_)
                refine Rg_op rfl (op_extract (v := (Value.int .i64 write_2.2)) rfl rfl ?_)
                refine Rg_op rfl (op_alloc ty25 hs121 ?_)
                intro b129 w130 _ p131 hs132
                replace f_d_sectors := f_d_sectors.step p131
                replace f_d_pending := f_d_pending.step p131
                replace f_c := f_c.step p131
                replace f_y54_sectors := f_y54_sectors.step p131
                replace f_y54_pending := f_y54_pending.step p131
                replace f_y127_sectors := f_y127_sectors.step p131
                replace f_y127_pending := f_y127_pending.step p131
                clear p131 hs121
                refine Rg_op_ (op_store (cs := [(Value.slice none 0 0), (Value.slice none 0 0), (Value.int .i64 0), (Value.bool false)]) (vs := [(Value.slice a_y127_sectors write_2.1.sectors.length c_y127_sectors), (Value.slice a_y127_pending write_2.1.pending.length c_y127_pending), (Value.int .i64 write_2.1.left), (Value.bool write_2.1.stopped)]) (cs' := [(Value.slice a_y127_sectors write_2.1.sectors.length c_y127_sectors), (Value.slice a_y127_pending write_2.1.pending.length c_y127_pending), (Value.int .i64 write_2.1.left), (Value.bool write_2.1.stopped)]) (bs' := [(some b129, Obj.cells [(Value.slice a_y127_sectors write_2.1.sectors.length c_y127_sectors), (Value.slice a_y127_pending write_2.1.pending.length c_y127_pending), (Value.int .i64 write_2.1.left), (Value.bool write_2.1.stopped)].toArray 25), (some b56, Obj.cells [(Value.slice a_y54_sectors write_1.1.sectors.length c_y54_sectors), (Value.slice a_y54_pending write_1.1.pending.length c_y54_pending), (Value.int .i64 write_1.1.left), (Value.bool write_1.1.stopped)].toArray 25), (some b1, Obj.cells [(Value.slice a_d_sectors d.sectors.length c_d_sectors), (Value.slice a_d_pending d.pending.length c_d_pending), (Value.int .i64 d.left), (Value.bool d.stopped)].toArray 25)]) (i := 0) ty25 hs132 rfl rfl rfl rfl rfl (le_lit rfl) rfl rfl rfl ?_)
                intro w134 p135 hs136
                replace f_d_sectors := f_d_sectors.step p135
                replace f_d_pending := f_d_pending.step p135
                replace f_c := f_c.step p135
                replace f_y54_sectors := f_y54_sectors.step p135
                replace f_y54_pending := f_y54_pending.step p135
                replace f_y127_sectors := f_y127_sectors.step p135
                replace f_y127_pending := f_y127_pending.step p135
                clear p135 hs132
                refine Rg_op rfl (op_assign (v := (Value.int .i64 write_2.2)) rfl ?_)
                refine Rg_nil ?_
                refine Wp_seq ?_
                refine Wp_seq ?_
                obtain ⟨hs137, p138⟩ := hs136.sub (bs' := [(some b129, Obj.cells [(Value.slice a_y127_sectors write_2.1.sectors.length c_y127_sectors), (Value.slice a_y127_pending write_2.1.pending.length c_y127_pending), (Value.int .i64 write_2.1.left), (Value.bool write_2.1.stopped)].toArray 25), (some b1, Obj.cells [(Value.slice a_d_sectors d.sectors.length c_d_sectors), (Value.slice a_d_pending d.pending.length c_d_pending), (Value.int .i64 d.left), (Value.bool d.stopped)].toArray 25)]) (.cons_cons _ (.cons _ (.cons_cons _ List.Sublist.slnil)))
                clear f_c f_y54_sectors f_y54_pending
                replace f_d_sectors := f_d_sectors.step p138
                replace f_d_pending := f_d_pending.step p138
                replace f_y127_sectors := f_y127_sectors.step p138
                replace f_y127_pending := f_y127_pending.step p138
                clear p138 hs136
                refine Wp_region ?_  -- 14 law.go:170
                refine Rg_op rfl (op_move (v := (Value.int .i64 write_2.2)) rfl ?_)
                refine Rg_op rfl (op_neq rfl rfl ?_)
                refine Rg_nil ?_
                refine Wp_cond rfl (fun hc139 => ?_) (fun hc139 => ?_)
                ·
                  replace hm := bif_t hm hc139
                  refine Wp_seq ?_
                  obtain ⟨hs140, p141⟩ := hs137.sub (bs' := []) (.cons _ (.cons _ List.Sublist.slnil))
                  clear f_d_sectors f_d_pending f_y127_sectors f_y127_pending
                  clear p141 hs137
                  refine Wp_region ?_  -- 15 law.go:171
                  refine Rg_op rfl (op_move (v := (Value.int .i64 write_2.2)) rfl ?_)
                  refine Rg_op rfl (op_eql rfl rfl ?_)
                  refine Rg_op rfl (op_assign (v := (Value.bool (decide (write_2.2 = 2)))) rfl ?_)
                  refine Rg_nil ?_
                  refine Wp_ret ?_
                  have hz := step_all hs140
                  refine ⟨_, (show Closes [] _ _ from rfl), [(Value.bool (decide (write_2.2 = 2)))], ⟨rfl, trivial⟩, hs140.ext, ?_⟩
                  exact Vr.eq (a := vB) (x := (decide (write_2.2 = 2))) rfl (Option.some.inj hm)
                ·
                  replace hm := bif_f hm hc139
                  refine Wp_skip ?_
                  refine Wp_seq ?_
                  refine Wp_region ?_  -- 16 law.go:173
                  refine Rg_op rfl (op_loadA (cs := [(Value.slice a_y127_sectors write_2.1.sectors.length c_y127_sectors), (Value.slice a_y127_pending write_2.1.pending.length c_y127_pending), (Value.int .i64 write_2.1.left), (Value.bool write_2.1.stopped)]) (vs := [(Value.slice a_y127_sectors write_2.1.sectors.length c_y127_sectors), (Value.slice a_y127_pending write_2.1.pending.length c_y127_pending), (Value.int .i64 write_2.1.left), (Value.bool write_2.1.stopped)]) (i := 0) ty25 hs137 rfl rfl rfl rfl ?_)
                  replace hm := bd hm; obtain ⟨sync_1, hv142, hm⟩ := hm
                  refine Rg_op rfl (op_call Try.call25 (c25_disk_Sync (d := write_2.1) hs137.ltw f_y127_sectors f_y127_pending r_y127_left hv142) rfl ?_)
                  rintro v143 w144 ⟨hx145, h146⟩
                  have hs147 := hs137.call hx145
                  have p148 := Step.ext (O := ks [(some b129, Obj.cells [(Value.slice a_y127_sectors write_2.1.sectors.length c_y127_sectors), (Value.slice a_y127_pending write_2.1.pending.length c_y127_pending), (Value.int .i64 write_2.1.left), (Value.bool write_2.1.stopped)].toArray 25), (some b1, Obj.cells [(Value.slice a_d_sectors d.sectors.length c_d_sectors), (Value.slice a_d_pending d.pending.length c_d_pending), (Value.int .i64 d.left), (Value.bool d.stopped)].toArray 25)] O) hx145
                  clear hx145
                  replace f_d_sectors := f_d_sectors.step p148
                  replace f_d_pending := f_d_pending.step p148
                  replace f_y127_sectors := f_y127_sectors.step p148
                  replace f_y127_pending := f_y127_pending.step p148
                  clear p148 hs137
                  obtain ⟨v149, v150, rfl, h151, h152⟩ := h146
                  obtain ⟨_, rfl, ⟨_, _, rfl, ⟨a_y153_sectors, c_y153_sectors, rfl, f_y153_sectors⟩, ⟨_, _, rfl, ⟨a_y153_pending, c_y153_pending, rfl, f_y153_pending⟩, ⟨_, _, rfl, ⟨rfl, r_y153_left⟩, rfl⟩⟩⟩⟩ := h151
                  obtain ⟨rfl, r_y154⟩ := h152
                  refine Rg_op rfl (op_move (v := (Value.tuple [(Value.agg [(Value.slice a_y153_sectors sync_1.1.sectors.length c_y153_sectors), (Value.slice a_y153_pending sync_1.1.pending.length c_y153_pending), (Value.int .i64 sync_1.1.left), (Value.bool sync_1.1.stopped)].toArray), (Value.int .i64 sync_1.2)].toArray)) rfl ?_)
                  refine Rg_op rfl (op_extract (v := (Value.agg [(Value.slice a_y153_sectors sync_1.1.sectors.length c_y153_sectors), (Value.slice a_y153_pending sync_1.1.pending.length c_y153_pending), (Value.int .i64 sync_1.1.left), (Value.bool sync_1.1.stopped)].toArray)) rfl rfl ?_)
                  refine Rg_op rfl (op_extract (v := (Value.int .i64 sync_1.2)) rfl rfl ?_)
                  refine Rg_op rfl (op_alloc ty25 hs147 ?_)
                  intro b155 w156 _ p157 hs158
                  replace f_d_sectors := f_d_sectors.step p157
                  replace f_d_pending := f_d_pending.step p157
                  replace f_y127_sectors := f_y127_sectors.step p157
                  replace f_y127_pending := f_y127_pending.step p157
                  replace f_y153_sectors := f_y153_sectors.step p157
                  replace f_y153_pending := f_y153_pending.step p157
                  clear p157 hs147
                  refine Rg_op_ (op_store (cs := [(Value.slice none 0 0), (Value.slice none 0 0), (Value.int .i64 0), (Value.bool false)]) (vs := [(Value.slice a_y153_sectors sync_1.1.sectors.length c_y153_sectors), (Value.slice a_y153_pending sync_1.1.pending.length c_y153_pending), (Value.int .i64 sync_1.1.left), (Value.bool sync_1.1.stopped)]) (cs' := [(Value.slice a_y153_sectors sync_1.1.sectors.length c_y153_sectors), (Value.slice a_y153_pending sync_1.1.pending.length c_y153_pending), (Value.int .i64 sync_1.1.left), (Value.bool sync_1.1.stopped)]) (bs' := [(some b155, Obj.cells [(Value.slice a_y153_sectors sync_1.1.sectors.length c_y153_sectors), (Value.slice a_y153_pending sync_1.1.pending.length c_y153_pending), (Value.int .i64 sync_1.1.left), (Value.bool sync_1.1.stopped)].toArray 25), (some b129, Obj.cells [(Value.slice a_y127_sectors write_2.1.sectors.length c_y127_sectors), (Value.slice a_y127_pending write_2.1.pending.length c_y127_pending), (Value.int .i64 write_2.1.left), (Value.bool write_2.1.stopped)].toArray 25), (some b1, Obj.cells [(Value.slice a_d_sectors d.sectors.length c_d_sectors), (Value.slice a_d_pending d.pending.length c_d_pending), (Value.int .i64 d.left), (Value.bool d.stopped)].toArray 25)]) (i := 0) ty25 hs158 rfl rfl rfl rfl rfl (le_lit rfl) rfl rfl rfl ?_)
                  intro w160 p161 hs162
                  replace f_d_sectors := f_d_sectors.step p161
                  replace f_d_pending := f_d_pending.step p161
                  replace f_y127_sectors := f_y127_sectors.step p161
                  replace f_y127_pending := f_y127_pending.step p161
                  replace f_y153_sectors := f_y153_sectors.step p161
                  replace f_y153_pending := f_y153_pending.step p161
                  clear p161 hs158
                  refine Rg_op rfl (op_assign (v := (Value.int .i64 sync_1.2)) rfl ?_)
                  refine Rg_nil ?_
                  refine Wp_seq ?_
                  refine Wp_seq ?_
                  refine Wp_reset [] [(5, (Value.pointer (some ⟨b1, 0, none⟩))), (19, (Value.pointer (some ⟨b129, 0, none⟩))), (21, (Value.pointer (some ⟨b155, 0, none⟩))), (22, (Value.int .i64 sync_1.2))] rfl ⟨rfl, rfl, rfl, rfl, trivial⟩ fun ξ163 => ?_
                  refine Wp_region ?_  -- 17 law.go:174
                  refine Rg_op rfl (op_move (v := (Value.int .i64 sync_1.2)) rfl ?_)
                  refine Rg_op rfl (op_neq rfl rfl ?_)
                  refine Rg_nil ?_
                  refine Wp_cond rfl (fun hc164 => ?_) (fun hc164 => ?_)
                  ·
                    replace hm := bif_t hm hc164
                    refine Wp_seq ?_
                    obtain ⟨hs165, p166⟩ := hs162.sub (bs' := [(some b155, Obj.cells [(Value.slice a_y153_sectors sync_1.1.sectors.length c_y153_sectors), (Value.slice a_y153_pending sync_1.1.pending.length c_y153_pending), (Value.int .i64 sync_1.1.left), (Value.bool sync_1.1.stopped)].toArray 25)]) (.cons_cons _ (.cons _ (.cons _ List.Sublist.slnil)))
                    clear f_d_sectors f_d_pending f_y127_sectors f_y127_pending
                    replace f_y153_sectors := f_y153_sectors.step p166
                    replace f_y153_pending := f_y153_pending.step p166
                    clear p166 hs162
                    refine Wp_region ?_  -- 18 law.go:175
                    refine Rg_op rfl (op_move (v := (Value.int .i64 sync_1.2)) rfl ?_)
                    refine Rg_op rfl (op_eql rfl rfl ?_)
                    refine Rg_op rfl (op_move (v := (Value.bool (decide (sync_1.2 = 440)))) rfl ?_)
                    refine Rg_case (fun hg167 => ?_) (fun hg167 => ?_)
                    ·
                      replace hm := bif_t hm hg167
                      refine Rg_opg rfl rfl rfl (op_fieldAddr ty25 rfl ty4 (by decide) rfl (rfl : _ = (⟨_, 3, none⟩ : Addr)) ?_)
                      refine Rg_opg rfl rfl rfl (op_load (cs := [(Value.slice a_y153_sectors sync_1.1.sectors.length c_y153_sectors), (Value.slice a_y153_pending sync_1.1.pending.length c_y153_pending), (Value.int .i64 sync_1.1.left), (Value.bool sync_1.1.stopped)]) (i := 0) ty4 hs165 rfl rfl rfl ?_)
                      refine Rg_op rfl (op_pick_t (v := (Value.bool sync_1.1.stopped)) rfl rfl ?_)
                      refine Rg_op rfl (op_assign (v := (Value.bool sync_1.1.stopped)) rfl ?_)
                      refine Rg_nil ?_
                      refine Wp_ret ?_
                      have hz := step_all hs165
                      replace f_y153_sectors := f_y153_sectors.step hz
                      replace f_y153_pending := f_y153_pending.step hz
                      refine ⟨_, (show Closes [] _ _ from rfl), [(Value.bool sync_1.1.stopped)], ⟨rfl, trivial⟩, hs165.ext, ?_⟩
                      exact Vr.eq (a := vB) (x := sync_1.1.stopped) rfl (Option.some.inj hm)
                    ·
                      replace hm := bif_f hm hg167
                      refine Rg_opx rfl (asB_ne rfl rfl) rfl ?_
                      refine Rg_opx rfl (asB_ne rfl rfl) rfl ?_
                      refine Rg_op rfl (op_pick_f (v := (Value.bool false)) rfl rfl ?_)
                      refine Rg_op rfl (op_assign (v := (Value.bool false)) rfl ?_)
                      refine Rg_nil ?_
                      refine Wp_ret ?_
                      have hz := step_all hs165
                      replace f_y153_sectors := f_y153_sectors.step hz
                      replace f_y153_pending := f_y153_pending.step hz
                      refine ⟨_, (show Closes [] _ _ from rfl), [(Value.bool false)], ⟨rfl, trivial⟩, hs165.ext, ?_⟩
                      exact Vr.eq (a := vB) (x := false) rfl (Option.some.inj hm)
                  ·
                    replace hm := bif_f hm hc164
                    refine Wp_skip ?_
                    refine Wp_seq ?_
                    refine Wp_seq ?_
                    refine Wp_region ?_  -- 19 law.go:177
                    refine Rg_op rfl (op_assign (v := (Value.int .i64 0)) rfl ?_)
                    refine Rg_nil ?_
                    refine Wp_block ?_
                    refine Wp_reset [] [(5, (Value.pointer (some ⟨b1, 0, none⟩))), (19, (Value.pointer (some ⟨b129, 0, none⟩))), (21, (Value.pointer (some ⟨b155, 0, none⟩))), (23, (Value.int .i64 0))] rfl ⟨rfl, rfl, rfl, rfl, trivial⟩ fun ξ169 => ?_
                    refine Wp_loopM [10, 23, 24, 25, 26, 27, 131, 132, 133, 134, 135, 136, 137, 138, 139, 140, 141, 142, 143, 144, 145, 146, 147, 148, 149, 150, 151, 152, 153, 154, 155, 156, 157, 158, 159, 160, 161, 162] (fun m fr w' => ∃ (k_1 : Int) (Ebs : Ents), Ebs = [(some b155, Obj.cells [(Value.slice a_y153_sectors sync_1.1.sectors.length c_y153_sectors), (Value.slice a_y153_pending sync_1.1.pending.length c_y153_pending), (Value.int .i64 sync_1.1.left), (Value.bool sync_1.1.stopped)].toArray 25), (some b129, Obj.cells [(Value.slice a_y127_sectors write_2.1.sectors.length c_y127_sectors), (Value.slice a_y127_pending write_2.1.pending.length c_y127_pending), (Value.int .i64 write_2.1.left), (Value.bool write_2.1.stopped)].toArray 25), (some b1, Obj.cells [(Value.slice a_d_sectors d.sectors.length c_d_sectors), (Value.slice a_d_pending d.pending.length c_d_pending), (Value.int .i64 d.left), (Value.bool d.stopped)].toArray 25)] ∧ fr [] [(23, (Value.int .i64 k_1))] ∧ Step (ks [(some b155, Obj.cells [(Value.slice a_y153_sectors sync_1.1.sectors.length c_y153_sectors), (Value.slice a_y153_pending sync_1.1.pending.length c_y153_pending), (Value.int .i64 sync_1.1.left), (Value.bool sync_1.1.stopped)].toArray 25), (some b129, Obj.cells [(Value.slice a_y127_sectors write_2.1.sectors.length c_y127_sectors), (Value.slice a_y127_pending write_2.1.pending.length c_y127_pending), (Value.int .i64 write_2.1.left), (Value.bool write_2.1.stopped)].toArray 25), (some b1, Obj.cells [(Value.slice a_d_sectors d.sectors.length c_d_sectors), (Value.slice a_d_pending d.pending.length c_d_pending), (Value.int .i64 d.left), (Value.bool d.stopped)].toArray 25)] O) w160 (ks Ebs O) w' ∧ St ⟨w, [], []⟩ O w' Ebs ∧ InK .i64 k_1 ∧ loop1 (m5_overflightlaw44_DiskReads_B0 d write_2 sync_1) m k_1 = some x) (((d.sectors.length : Int) - 0).toNat + 1) ⟨0, _, rfl, ⟨Out.refl _ _, rfl, rfl, trivial⟩, Step.refl _ _, hs162, (show InK .i64 0 from by decide), hm⟩ ?_ ?_
                    · rintro _ _ ⟨_, _, _, _, _, _, _, hm⟩; exact loop1_z hm
                    · rintro m173 K172 hK172 ρ178 w174 ⟨k_1, Ebs, hEbs, hfr177, hst176, hs175, r_y168, hm⟩
                      obtain ⟨sf170, hsf171, hm⟩ := loop1_s hm; unfold m5_overflightlaw44_DiskReads_B0 at hm
                      subst hEbs; rw [hfr177.eq]; clear hfr177
                      replace f_d_sectors := f_d_sectors.step hst176
                      replace f_d_pending := f_d_pending.step hst176
                      replace f_y127_sectors := f_y127_sectors.step hst176
                      replace f_y127_pending := f_y127_pending.step hst176
                      replace f_y153_sectors := f_y153_sectors.step hst176
                      replace f_y153_pending := f_y153_pending.step hst176
                      have ch179 := hst176
                      refine Wp_seq ?_
                      refine Wp_seq ?_
                      refine Wp_region ?_  -- 20 law.go:177
                      refine Rg_op rfl (op_move (v := (Value.int .i64 k_1)) rfl ?_)
                      refine Rg_op rfl (op_fieldAddr ty25 rfl ty22 (by decide) rfl (rfl : _ = (⟨_, 0, none⟩ : Addr)) ?_)
                      refine Rg_op rfl (op_load (cs := [(Value.slice a_d_sectors d.sectors.length c_d_sectors), (Value.slice a_d_pending d.pending.length c_d_pending), (Value.int .i64 d.left), (Value.bool d.stopped)]) (i := 2) ty22 hs175 rfl rfl rfl ?_)
                      refine Rg_op rfl (op_len Try.underlying22 rfl ?_)
                      refine Rg_op rfl (op_lss rfl rfl ?_)
                      refine Rg_nil ?_
                      refine Wp_cond rfl (fun hc180 => ?_) (fun hc180 => ?_)
                      ·
                        replace hm := bif_t hm hc180
                        refine Wp_skip ?_
                        refine Wp_seq ?_
                        refine Wp_block ?_
                        refine Wp_seq ?_
                        refine Wp_region ?_  -- 22 law.go:178
                        refine Rg_op rfl (op_loadA (cs := [(Value.slice a_y127_sectors write_2.1.sectors.length c_y127_sectors), (Value.slice a_y127_pending write_2.1.pending.length c_y127_pending), (Value.int .i64 write_2.1.left), (Value.bool write_2.1.stopped)]) (vs := [(Value.slice a_y127_sectors write_2.1.sectors.length c_y127_sectors), (Value.slice a_y127_pending write_2.1.pending.length c_y127_pending), (Value.int .i64 write_2.1.left), (Value.bool write_2.1.stopped)]) (i := 1) ty25 hs175 rfl rfl rfl rfl ?_)
                        refine Rg_op rfl (op_move (v := (Value.int .i64 k_1)) rfl ?_)
                        replace hm := bd hm; obtain ⟨read_4, hv181, hm⟩ := hm
                        refine Rg_op rfl (op_call Try.call27 (c27_disk_Read (d := write_2.1) (at_ := k_1) hs175.ltw f_y127_sectors f_y127_pending r_y127_left r_y168 hv181) rfl ?_)
                        rintro v182 w183 ⟨hx184, h185⟩
                        have hs186 := hs175.call hx184
                        have p187 := Step.ext (O := ks [(some b155, Obj.cells [(Value.slice a_y153_sectors sync_1.1.sectors.length c_y153_sectors), (Value.slice a_y153_pending sync_1.1.pending.length c_y153_pending), (Value.int .i64 sync_1.1.left), (Value.bool sync_1.1.stopped)].toArray 25), (some b129, Obj.cells [(Value.slice a_y127_sectors write_2.1.sectors.length c_y127_sectors), (Value.slice a_y127_pending write_2.1.pending.length c_y127_pending), (Value.int .i64 write_2.1.left), (Value.bool write_2.1.stopped)].toArray 25), (some b1, Obj.cells [(Value.slice a_d_sectors d.sectors.length c_d_sectors), (Value.slice a_d_pending d.pending.length c_d_pending), (Value.int .i64 d.left), (Value.bool d.stopped)].toArray 25)] O) hx184
                        clear hx184
                        replace f_d_sectors := f_d_sectors.step p187
                        replace f_d_pending := f_d_pending.step p187
                        replace f_y127_sectors := f_y127_sectors.step p187
                        replace f_y127_pending := f_y127_pending.step p187
                        replace f_y153_sectors := f_y153_sectors.step p187
                        replace f_y153_pending := f_y153_pending.step p187
                        replace ch179 := ch179.trans p187
                        clear p187 hs175
                        obtain ⟨v188, v189, rfl, h190, h191⟩ := h185
                        obtain ⟨a_y192, c_y192, rfl, f_y192⟩ := un_sl h190
                        obtain ⟨rfl, r_y193⟩ := h191
                        refine Rg_op rfl (op_move (v := (Value.tuple [(Value.slice a_y192 read_4.1.length c_y192), (Value.int .i64 read_4.2)].toArray)) rfl ?_)
                        refine Rg_op rfl (op_extract (v := (Value.slice a_y192 read_4.1.length c_y192)) rfl rfl ?_)
                        refine Rg_op rfl (op_extract (v := (Value.int .i64 read_4.2)) rfl rfl ?_)
                        refine Rg_op rfl (op_assign (v := (Value.slice a_y192 read_4.1.length c_y192)) rfl ?_)
                        refine Rg_op rfl (op_assign (v := (Value.int .i64 read_4.2)) rfl ?_)
                        refine Rg_nil ?_
                        refine Wp_seq ?_
                        refine Wp_region ?_  -- 23 law.go:179
                        refine Rg_op rfl (op_loadA (cs := [(Value.slice a_y153_sectors sync_1.1.sectors.length c_y153_sectors), (Value.slice a_y153_pending sync_1.1.pending.length c_y153_pending), (Value.int .i64 sync_1.1.left), (Value.bool sync_1.1.stopped)]) (vs := [(Value.slice a_y153_sectors sync_1.1.sectors.length c_y153_sectors), (Value.slice a_y153_pending sync_1.1.pending.length c_y153_pending), (Value.int .i64 sync_1.1.left), (Value.bool sync_1.1.stopped)]) (i := 0) ty25 hs186 rfl rfl rfl rfl ?_)
                        refine Rg_op rfl (op_move (v := (Value.int .i64 k_1)) rfl ?_)
                        replace hm := bd hm; obtain ⟨read_5, hv194, hm⟩ := hm
                        refine Rg_op rfl (op_call Try.call27 (c27_disk_Read (d := sync_1.1) (at_ := k_1) hs186.ltw f_y153_sectors f_y153_pending r_y153_left r_y168 hv194) rfl ?_)
                        rintro v195 w196 ⟨hx197, h198⟩
                        have hs199 := hs186.call hx197
                        have p200 := Step.ext (O := ks [(some b155, Obj.cells [(Value.slice a_y153_sectors sync_1.1.sectors.length c_y153_sectors), (Value.slice a_y153_pending sync_1.1.pending.length c_y153_pending), (Value.int .i64 sync_1.1.left), (Value.bool sync_1.1.stopped)].toArray 25), (some b129, Obj.cells [(Value.slice a_y127_sectors write_2.1.sectors.length c_y127_sectors), (Value.slice a_y127_pending write_2.1.pending.length c_y127_pending), (Value.int .i64 write_2.1.left), (Value.bool write_2.1.stopped)].toArray 25), (some b1, Obj.cells [(Value.slice a_d_sectors d.sectors.length c_d_sectors), (Value.slice a_d_pending d.pending.length c_d_pending), (Value.int .i64 d.left), (Value.bool d.stopped)].toArray 25)] O) hx197
                        clear hx197
                        replace f_d_sectors := f_d_sectors.step p200
                        replace f_d_pending := f_d_pending.step p200
                        replace f_y127_sectors := f_y127_sectors.step p200
                        replace f_y127_pending := f_y127_pending.step p200
                        replace f_y153_sectors := f_y153_sectors.step p200
                        replace f_y153_pending := f_y153_pending.step p200
                        replace f_y192 := f_y192.step p200
                        replace ch179 := ch179.trans p200
                        clear p200 hs186
                        obtain ⟨v201, v202, rfl, h203, h204⟩ := h198
                        obtain ⟨a_y205, c_y205, rfl, f_y205⟩ := un_sl h203
                        obtain ⟨rfl, r_y206⟩ := h204
                        refine Rg_op rfl (op_move (v := (Value.tuple [(Value.slice a_y205 read_5.1.length c_y205), (Value.int .i64 read_5.2)].toArray)) rfl ?_)
                        refine Rg_op rfl (op_extract (v := (Value.slice a_y205 read_5.1.length c_y205)) rfl rfl ?_)
                        refine Rg_op rfl (op_extract (v := (Value.int .i64 read_5.2)) rfl rfl ?_)
                        refine Rg_op rfl (op_assign (v := (Value.slice a_y205 read_5.1.length c_y205)) rfl ?_)
                        refine Rg_op rfl (op_assign (v := (Value.int .i64 read_5.2)) rfl ?_)
                        refine Rg_nil ?_
                        refine Wp_reset2 [10, 23, 24, 25, 26, 27, 131, 132, 133, 134, 135, 136, 137, 138, 139, 140, 141, 142, 143, 144, 145, 146, 147, 148, 149, 150, 151, 152, 153, 154, 155, 156, 157, 158, 159, 160, 161, 162] [] (updL ⟨ξ169, []⟩ [(5, (Value.pointer (some ⟨b1, 0, none⟩))), (19, (Value.pointer (some ⟨b129, 0, none⟩))), (21, (Value.pointer (some ⟨b155, 0, none⟩))), (23, (Value.int .i64 0))]) [(23, (Value.int .i64 k_1)), (24, (Value.slice a_y192 read_4.1.length c_y192)), (25, (Value.int .i64 read_4.2)), (26, (Value.slice a_y205 read_5.1.length c_y205)), (27, (Value.int .i64 read_5.2))] (by repeat (first | with_reducible exact Out.refl _ _ | refine Out.upd ?_ rfl | refine Out.updL ?_ rfl | refine Out.mix' ?_ rfl | exact Out.refl _ _)) rfl ⟨rfl, rfl, rfl, rfl, rfl, trivial⟩ fun ξ207 => ?_
                        replace hm := jn_elim hm; obtain ⟨k209, hk210, hm⟩ := hm
                        refine Wp_seqJ [150, 151, 152, 153, 154, 155, 156, 157, 158, 159, 160, 161, 162] (fun fr w' => ∃ (v_4 : Bool) (Ebs : Ents), Ebs = [(some b155, Obj.cells [(Value.slice a_y153_sectors sync_1.1.sectors.length c_y153_sectors), (Value.slice a_y153_pending sync_1.1.pending.length c_y153_pending), (Value.int .i64 sync_1.1.left), (Value.bool sync_1.1.stopped)].toArray 25), (some b129, Obj.cells [(Value.slice a_y127_sectors write_2.1.sectors.length c_y127_sectors), (Value.slice a_y127_pending write_2.1.pending.length c_y127_pending), (Value.int .i64 write_2.1.left), (Value.bool write_2.1.stopped)].toArray 25), (some b1, Obj.cells [(Value.slice a_d_sectors d.sectors.length c_d_sectors), (Value.slice a_d_pending d.pending.length c_d_pending), (Value.int .i64 d.left), (Value.bool d.stopped)].toArray 25)] ∧ fr [] [(162, (Value.bool v_4))] ∧ Step (ks [(some b155, Obj.cells [(Value.slice a_y153_sectors sync_1.1.sectors.length c_y153_sectors), (Value.slice a_y153_pending sync_1.1.pending.length c_y153_pending), (Value.int .i64 sync_1.1.left), (Value.bool sync_1.1.stopped)].toArray 25), (some b129, Obj.cells [(Value.slice a_y127_sectors write_2.1.sectors.length c_y127_sectors), (Value.slice a_y127_pending write_2.1.pending.length c_y127_pending), (Value.int .i64 write_2.1.left), (Value.bool write_2.1.stopped)].toArray 25), (some b1, Obj.cells [(Value.slice a_d_sectors d.sectors.length c_d_sectors), (Value.slice a_d_pending d.pending.length c_d_pending), (Value.int .i64 d.left), (Value.bool d.stopped)].toArray 25)] O) w196 (ks Ebs O) w' ∧ St ⟨w, [], []⟩ O w' Ebs ∧ k209 v_4 = some x) ?_ ?_
                        ·
                          rintro ρ216 w212 ⟨v_4, Ebs, hEbs, hfr215, hst214, hs213, hm⟩
                          replace hm := jnE1 hk210 hm
                          subst hEbs; rw [hfr215.eq]; clear hfr215
                          replace f_d_sectors := f_d_sectors.step hst214
                          replace f_d_pending := f_d_pending.step hst214
                          replace f_y127_sectors := f_y127_sectors.step hst214
                          replace f_y127_pending := f_y127_pending.step hst214
                          replace f_y153_sectors := f_y153_sectors.step hst214
                          replace f_y153_pending := f_y153_pending.step hst214
                          replace f_y192 := f_y192.step hst214
                          replace f_y205 := f_y205.step hst214
                          replace ch179 := ch179.trans hst214
                          clear hst214 hs199
                          refine Wp_cond rfl (fun hc217 => ?_) (fun hc217 => ?_)
                          ·
                            replace hm := bif_t hm hc217
                            refine Wp_seq ?_
                            clear f_y192 f_y205
                            refine Wp_region ?_  -- 25 law.go:181
                            refine Rg_op rfl (op_assign (v := (Value.bool false)) rfl ?_)
                            refine Rg_nil ?_
                            refine Wp_ret ?_
                            have hz := step_all hs213
                            replace f_d_sectors := f_d_sectors.step hz
                            replace f_d_pending := f_d_pending.step hz
                            replace f_y127_sectors := f_y127_sectors.step hz
                            replace f_y127_pending := f_y127_pending.step hz
                            replace f_y153_sectors := f_y153_sectors.step hz
                            replace f_y153_pending := f_y153_pending.step hz
                            refine ⟨_, (show Closes [] _ _ from rfl), [(Value.bool false)], ⟨rfl, trivial⟩, hs213.ext, ?_⟩
                            exact Vr.eq (a := vB) (x := false) rfl (Option.some.inj hm)
                          ·
                            replace hm := bif_f hm hc217
                            refine Wp_skip ?_
                            clear f_y192 f_y205
                            refine Wp_region ?_  -- 21 law.go:177
                            refine Rg_op rfl (op_move (v := (Value.int .i64 k_1)) rfl ?_)
                            refine Rg_op rfl (op_addw rfl rfl ?_)
                            refine Rg_op rfl (op_assign (v := (Value.int .i64 (IntKind.wrap .i64 (k_1 + 1)))) rfl ?_)
                            refine Rg_nil ?_
                            exact hK172 _ _ ⟨(IntKind.wrap .i64 (k_1 + 1)), _, rfl, ⟨(by repeat (first | with_reducible exact Out.refl _ _ | refine Out.upd ?_ rfl | refine Out.updL ?_ rfl | refine Out.mix' ?_ rfl | exact Out.refl _ _)), rfl, rfl, trivial⟩, ch179, hs213, (inK_wrap .i64 _), jnE1 hsf171 hm⟩
                        ·
                          intro K211 hK211
                          have ch218 := Step.refl (ks [(some b155, Obj.cells [(Value.slice a_y153_sectors sync_1.1.sectors.length c_y153_sectors), (Value.slice a_y153_pending sync_1.1.pending.length c_y153_pending), (Value.int .i64 sync_1.1.left), (Value.bool sync_1.1.stopped)].toArray 25), (some b129, Obj.cells [(Value.slice a_y127_sectors write_2.1.sectors.length c_y127_sectors), (Value.slice a_y127_pending write_2.1.pending.length c_y127_pending), (Value.int .i64 write_2.1.left), (Value.bool write_2.1.stopped)].toArray 25), (some b1, Obj.cells [(Value.slice a_d_sectors d.sectors.length c_d_sectors), (Value.slice a_d_pending d.pending.length c_d_pending), (Value.int .i64 d.left), (Value.bool d.stopped)].toArray 25)] O) w196
                          refine Wp_region ?_  -- 24 law.go:180
                          refine Rg_op rfl (op_move (v := (Value.int .i64 read_4.2)) rfl ?_)
                          refine Rg_op rfl (op_neq rfl rfl ?_)
                          refine Rg_op rfl (op_move (v := (Value.bool (decide (read_4.2 ≠ 0)))) rfl ?_)
                          refine Rg_case (fun hg219 => ?_) (fun hg219 => ?_)
                          ·
                            replace hm := bif_t hm hg219
                            refine Rg_opx rfl (asB_ne rfl rfl) rfl ?_
                            refine Rg_opx rfl (asB_ne rfl rfl) rfl ?_
                            refine Rg_op rfl (op_pick_t (v := (Value.bool true)) rfl rfl ?_)
                            refine Rg_op rfl (op_move (v := (Value.bool true)) rfl ?_)
                            refine Rg_opx rfl (asB_ne rfl rfl) rfl ?_
                            refine Rg_opx rfl (asB_ne rfl rfl) rfl ?_
                            refine Rg_opx rfl (asB_ne rfl rfl) rfl ?_
                            refine Rg_opx rfl (asB_ne rfl rfl) rfl ?_
                            refine Rg_opx rfl (asB_ne rfl rfl) rfl ?_
                            refine Rg_op rfl (op_pick_t (v := (Value.bool true)) rfl rfl ?_)
                            refine Rg_nil ?_
                            exact hK211 _ _ ⟨true, _, rfl, ⟨(by repeat (first | with_reducible exact Out.refl _ _ | refine Out.upd ?_ rfl | refine Out.updL ?_ rfl | refine Out.mix' ?_ rfl | exact Out.refl _ _)), rfl, rfl, trivial⟩, ch218, hs199, hm⟩
                          ·
                            replace hm := bif_f hm hg219
                            refine Rg_opg rfl rfl rfl (op_move (v := (Value.int .i64 read_5.2)) rfl ?_)
                            refine Rg_opg rfl rfl rfl (op_neq rfl rfl ?_)
                            refine Rg_op rfl (op_pick_f (v := (Value.bool (decide (read_5.2 ≠ 0)))) rfl rfl ?_)
                            refine Rg_op rfl (op_move (v := (Value.bool (decide (read_5.2 ≠ 0)))) rfl ?_)
                            refine Rg_case (fun hg220 => ?_) (fun hg220 => ?_)
                            ·
                              replace hm := bif_t hm hg220
                              refine Rg_opx rfl (asB_ne rfl rfl) rfl ?_
                              refine Rg_opx rfl (asB_ne rfl rfl) rfl ?_
                              refine Rg_opx rfl (asB_ne rfl rfl) rfl ?_
                              refine Rg_opx rfl (asB_ne rfl rfl) rfl ?_
                              refine Rg_opx rfl (asB_ne rfl rfl) rfl ?_
                              refine Rg_op rfl (op_pick_t (v := (Value.bool true)) rfl rfl ?_)
                              refine Rg_nil ?_
                              exact hK211 _ _ ⟨true, _, rfl, ⟨(by repeat (first | with_reducible exact Out.refl _ _ | refine Out.upd ?_ rfl | refine Out.updL ?_ rfl | refine Out.mix' ?_ rfl | exact Out.refl _ _)), rfl, rfl, trivial⟩, ch218, hs199, hm⟩
                            ·
                              replace hm := bif_f hm hg220
                              refine Rg_opg rfl rfl rfl (op_move (v := (Value.slice a_y192 read_4.1.length c_y192)) rfl ?_)
                              refine Rg_opg rfl rfl rfl (op_bytesToString ty41 Try.underlying5 Try.underlying9 rfl f_y192 ?_)
                              refine Rg_opg rfl rfl rfl (op_move (v := (Value.slice a_y205 read_5.1.length c_y205)) rfl ?_)
                              refine Rg_opg rfl rfl rfl (op_bytesToString ty41 Try.underlying5 Try.underlying9 rfl f_y205 ?_)
                              refine Rg_opg rfl rfl rfl (op_neqs (a := read_4.1) (b := read_5.1) rfl rfl ?_)
                              refine Rg_op rfl (op_pick_f (v := (Value.bool (decide (read_4.1 ≠ read_5.1)))) rfl rfl ?_)
                              refine Rg_nil ?_
                              exact hK211 _ _ ⟨(decide (read_4.1 ≠ read_5.1)), _, rfl, ⟨(by repeat (first | with_reducible exact Out.refl _ _ | refine Out.upd ?_ rfl | refine Out.updL ?_ rfl | refine Out.mix' ?_ rfl | exact Out.refl _ _)), rfl, rfl, trivial⟩, ch218, hs199, hm⟩
                      ·
                        replace hm := bif_f hm hc180
                        refine Wp_exit ?_
                        refine Wp_seq ?_
                        obtain ⟨hs221, p222⟩ := hs175.sub (bs' := [(some b155, Obj.cells [(Value.slice a_y153_sectors sync_1.1.sectors.length c_y153_sectors), (Value.slice a_y153_pending sync_1.1.pending.length c_y153_pending), (Value.int .i64 sync_1.1.left), (Value.bool sync_1.1.stopped)].toArray 25)]) (.cons_cons _ (.cons _ (.cons _ List.Sublist.slnil)))
                        clear f_d_sectors f_d_pending f_y127_sectors f_y127_pending
                        replace f_y153_sectors := f_y153_sectors.step p222
                        replace f_y153_pending := f_y153_pending.step p222
                        replace ch179 := ch179.trans p222
                        clear p222 hs175
                        refine Wp_region ?_  -- 26 law.go:184
                        refine Rg_op rfl (op_fieldAddr ty25 rfl ty23 (by decide) rfl (rfl : _ = (⟨_, 1, none⟩ : Addr)) ?_)
                        refine Rg_op rfl (op_load (cs := [(Value.slice a_y153_sectors sync_1.1.sectors.length c_y153_sectors), (Value.slice a_y153_pending sync_1.1.pending.length c_y153_pending), (Value.int .i64 sync_1.1.left), (Value.bool sync_1.1.stopped)]) (i := 0) ty23 hs221 rfl rfl rfl ?_)
                        refine Rg_op rfl (op_len Try.underlying23 rfl ?_)
                        refine Rg_op rfl (op_eql rfl rfl ?_)
                        refine Rg_op rfl (op_move (v := (Value.bool (decide ((sync_1.1.pending.length : Int) = 0)))) rfl ?_)
                        refine Rg_case (fun hg223 => ?_) (fun hg223 => ?_)
                        ·
                          replace hm := bif_t hm hg223
                          refine Rg_opg rfl rfl rfl (op_loadA (cs := [(Value.slice a_y153_sectors sync_1.1.sectors.length c_y153_sectors), (Value.slice a_y153_pending sync_1.1.pending.length c_y153_pending), (Value.int .i64 sync_1.1.left), (Value.bool sync_1.1.stopped)]) (vs := [(Value.slice a_y153_sectors sync_1.1.sectors.length c_y153_sectors), (Value.slice a_y153_pending sync_1.1.pending.length c_y153_pending), (Value.int .i64 sync_1.1.left), (Value.bool sync_1.1.stopped)]) (i := 0) ty25 hs221 rfl rfl rfl rfl ?_)
                          replace hm := bd hm; obtain ⟨check_1, hv224, hm⟩ := hm
                          refine Rg_opg rfl rfl rfl (op_call Try.call18 (c18_disk_Check (d := sync_1.1) hs221.ltw f_y153_sectors f_y153_pending r_y153_left hv224) rfl ?_)
                          rintro v225 w226 ⟨hx227, h228⟩
                          have hs229 := hs221.call hx227
                          have p230 := Step.ext (O := ks [(some b155, Obj.cells [(Value.slice a_y153_sectors sync_1.1.sectors.length c_y153_sectors), (Value.slice a_y153_pending sync_1.1.pending.length c_y153_pending), (Value.int .i64 sync_1.1.left), (Value.bool sync_1.1.stopped)].toArray 25)] O) hx227
                          clear hx227
                          replace f_y153_sectors := f_y153_sectors.step p230
                          replace f_y153_pending := f_y153_pending.step p230
                          replace ch179 := ch179.trans p230
                          clear p230 hs221
                          obtain ⟨rfl, r_y231⟩ := h228
                          refine Rg_opg rfl rfl rfl (op_eql rfl rfl ?_)
                          refine Rg_op rfl (op_pick_t (v := (Value.bool (decide (check_1 = 0)))) rfl rfl ?_)
                          refine Rg_op rfl (op_assign (v := (Value.bool (decide (check_1 = 0)))) rfl ?_)
                          refine Rg_nil ?_
                          refine Wp_ret ?_
                          have hz := step_all hs229
                          replace f_y153_sectors := f_y153_sectors.step hz
                          replace f_y153_pending := f_y153_pending.step hz
                          refine ⟨_, (show Closes [] _ _ from rfl), [(Value.bool (decide (check_1 = 0)))], ⟨rfl, trivial⟩, hs229.ext, ?_⟩
                          exact Vr.eq (a := vB) (x := (decide (check_1 = 0))) rfl (Option.some.inj hm)
                        ·
                          replace hm := bif_f hm hg223
                          refine Rg_opx rfl (asB_ne rfl rfl) rfl ?_
                          refine Rg_opx rfl (asB_ne rfl rfl) rfl ?_
                          refine Rg_opx rfl (asB_ne rfl rfl) rfl ?_
                          refine Rg_op rfl (op_pick_f (v := (Value.bool false)) rfl rfl ?_)
                          refine Rg_op rfl (op_assign (v := (Value.bool false)) rfl ?_)
                          refine Rg_nil ?_
                          refine Wp_ret ?_
                          have hz := step_all hs221
                          replace f_y153_sectors := f_y153_sectors.step hz
                          replace f_y153_pending := f_y153_pending.step hz
                          refine ⟨_, (show Closes [] _ _ from rfl), [(Value.bool false)], ⟨rfl, trivial⟩, hs221.ext, ?_⟩
                          exact Vr.eq (a := vB) (x := false) rfl (Option.some.inj hm)
            ·
              intro K107 hK107
              have ch232 := Step.refl (ks [(some b56, Obj.cells [(Value.slice a_y54_sectors write_1.1.sectors.length c_y54_sectors), (Value.slice a_y54_pending write_1.1.pending.length c_y54_pending), (Value.int .i64 write_1.1.left), (Value.bool write_1.1.stopped)].toArray 25), (some b1, Obj.cells [(Value.slice a_d_sectors d.sectors.length c_d_sectors), (Value.slice a_d_pending d.pending.length c_d_pending), (Value.int .i64 d.left), (Value.bool d.stopped)].toArray 25)] O) w92
              refine Wp_drawR (g0 := []) (m := 33) (fl := []) (TS_inv hs95) (.inl rfl) rfl (by decide +kernel) ?_  -- 11
              refine Dw_eq (Value.int .i64 read_2.2) (fun ρ233 w234 g hle hi ht => ?_) ?_
              ·
                obtain ⟨-, hst, -⟩ := hle
                refine StepOp_plain (op_move (v := (Value.int .i64 read_2.2)) (ht 16 rfl) ?_)
                exact Goes.same hi rfl
              refine Dw_eq (Value.bool (decide (read_2.2 ≠ 0))) (fun ρ236 w237 g hle hi ht => ?_) ?_
              ·
                obtain ⟨-, hst, -⟩ := hle
                refine StepOp_plain (op_neq (ht 74 rfl) rfl ?_)
                exact Goes.same hi rfl
              refine Dw_opB (decide (read_2.2 ≠ 0)) (fun ρ239 w240 g hle hi ht => ?_) (fun hg242 => ?_) (fun hg242 => ?_)
              ·
                obtain ⟨-, hst, -⟩ := hle
                refine StepOp_plain (op_move (v := (Value.bool (decide (read_2.2 ≠ 0)))) (ht 75 rfl) ?_)
                exact Goes.same hi rfl
              ·
                replace hm := bif_t hm hg242
                refine Dw_skip (fun _ _ _ ht => wanted_x rfl (ht 76 rfl) rfl) ?_
                refine Dw_skip (fun _ _ _ ht => wanted_x rfl (ht 76 rfl) rfl) ?_
                refine Dw_eq (Value.bool true) (fun ρ243 w244 g hle hi ht => ?_) ?_
                ·
                  obtain ⟨-, hst, -⟩ := hle
                  refine StepOp_plain (op_pick_t (v := (Value.bool true)) (ht 76 rfl) rfl ?_)
                  exact Goes.same hi rfl
                refine Dw_eq (Value.bool true) (fun ρ246 w247 g hle hi ht => ?_) ?_
                ·
                  obtain ⟨-, hst, -⟩ := hle
                  refine StepOp_plain (op_move (v := (Value.bool true)) (ht 79 rfl) ?_)
                  exact Goes.same hi rfl
                refine Dw_skip (fun _ _ _ ht => wanted_x rfl (ht 80 rfl) rfl) ?_
                refine Dw_skip (fun _ _ _ ht => wanted_x rfl (ht 80 rfl) rfl) ?_
                refine Dw_skip (fun _ _ _ ht => wanted_x rfl (ht 80 rfl) rfl) ?_
                refine Dw_eq (Value.bool true) (fun ρ249 w250 g hle hi ht => ?_) ?_
                ·
                  obtain ⟨-, hst, -⟩ := hle
                  refine StepOp_plain (op_pick_t (v := (Value.bool true)) (ht 80 rfl) rfl ?_)
                  exact Goes.same hi rfl
                refine Dw_eq (Value.bool true) (fun ρ252 w253 g hle hi ht => ?_) ?_
                ·
                  obtain ⟨-, hst, -⟩ := hle
                  refine StepOp_plain (op_move (v := (Value.bool true)) (ht 84 rfl) ?_)
                  exact Goes.same hi rfl
                refine Dw_skip (fun _ _ _ ht => wanted_x rfl (ht 85 rfl) rfl) ?_
                refine Dw_skip (fun _ _ _ ht => wanted_x rfl (ht 85 rfl) rfl) ?_
                refine Dw_skip (fun _ _ _ ht => wanted_x rfl (ht 85 rfl) rfl) ?_
                refine Dw_skip (fun _ _ _ ht => wanted_x rfl (ht 85 rfl) rfl) ?_
                refine Dw_skip (fun _ _ _ ht => wanted_x rfl (ht 85 rfl) rfl) ?_
                refine Dw_skip (fun _ _ _ ht => wanted_x rfl (ht 85 rfl) rfl) ?_
                refine Dw_skip (fun _ _ _ ht => wanted_x rfl (ht 85 rfl) rfl) ?_
                refine Dw_skip (fun _ _ _ ht => wanted_x rfl (ht 85 rfl) rfl) ?_
                refine Dw_eq (Value.bool true) (fun ρ255 w256 g hle hi ht => ?_) ?_
                ·
                  obtain ⟨-, hst, -⟩ := hle
                  refine StepOp_plain (op_pick_t (v := (Value.bool true)) (ht 85 rfl) rfl ?_)
                  exact Goes.same hi rfl
                refine Dw_eq (Value.bool true) (fun ρ258 w259 g hle hi ht => ?_) ?_
                ·
                  obtain ⟨-, hst, -⟩ := hle
                  refine StepOp_plain (op_move (v := (Value.bool true)) (ht 94 rfl) ?_)
                  exact Goes.same hi rfl
                refine Dw_skip (fun _ _ _ ht => wanted_x rfl (ht 95 rfl) rfl) ?_
                refine Dw_skip (fun _ _ _ ht => wanted_x rfl (ht 95 rfl) rfl) ?_
                refine Dw_skip (fun _ _ _ ht => wanted_x rfl (ht 95 rfl) rfl) ?_
                refine Dw_skip (fun _ _ _ ht => wanted_x rfl (ht 95 rfl) rfl) ?_
                refine Dw_skip (fun _ _ _ ht => wanted_x rfl (ht 99 rfl) rfl) ?_
                refine Dw_skip (fun _ _ _ ht => wanted_x rfl (ht 99 rfl) rfl) ?_
                refine Dw_skip (fun _ _ _ ht => wanted_x rfl (ht 99 rfl) rfl) ?_
                refine Dw_skip (fun _ _ _ ht => wanted_x rfl (ht 99 rfl) rfl) ?_
                refine Dw_skip (fun _ _ _ ht => wanted_x rfl (ht 99 rfl) rfl) ?_
                refine Dw_skip (fun _ _ _ ht => wanted_x rfl (ht 95 rfl) rfl) ?_
                refine Dw_eq (Value.bool true) (fun ρ261 w262 g hle hi ht => ?_) ?_
                ·
                  obtain ⟨-, hst, -⟩ := hle
                  refine StepOp_plain (op_pick_t (v := (Value.bool true)) (ht 95 rfl) rfl ?_)
                  exact Goes.same hi rfl
                refine Dw_nil fun w268 g269 hl270 hi271 => ?_
                obtain ⟨-, hst272, -⟩ := hl270
                obtain ⟨hs274, p273⟩ := Step.nx hi271
                rintro _ rfl
                rintro _ rfl
                rintro _ rfl
                rintro _ rfl
                rintro _ rfl
                rintro _ rfl
                rintro _ rfl
                rintro _ rfl
                rintro _ rfl
                rintro _ rfl
                rintro _ rfl
                rintro _ rfl
                rintro _ rfl
                rintro _ rfl
                rintro _ rfl
                rintro _ rfl
                rintro _ rfl
                rintro _ rfl
                rintro _ rfl
                rintro _ rfl
                rintro _ rfl
                rintro _ rfl
                rintro _ rfl
                rintro _ rfl
                rintro _ rfl
                rintro _ rfl
                rintro _ rfl
                rintro _ rfl
                rintro _ rfl
                rintro _ rfl
                rintro _ rfl
                rintro _ rfl
                rintro _ rfl
                have p275 : Step (ks [(some b56, Obj.cells [(Value.slice a_y54_sectors write_1.1.sectors.length c_y54_sectors), (Value.slice a_y54_pending write_1.1.pending.length c_y54_pending), (Value.int .i64 write_1.1.left), (Value.bool write_1.1.stopped)].toArray 25), (some b1, Obj.cells [(Value.slice a_d_sectors d.sectors.length c_d_sectors), (Value.slice a_d_pending d.pending.length c_d_pending), (Value.int .i64 d.left), (Value.bool d.stopped)].toArray 25)] O) w92 (ks [(some b56, Obj.cells [(Value.slice a_y54_sectors write_1.1.sectors.length c_y54_sectors), (Value.slice a_y54_pending write_1.1.pending.length c_y54_pending), (Value.int .i64 write_1.1.left), (Value.bool write_1.1.stopped)].toArray 25), (some b1, Obj.cells [(Value.slice a_d_sectors d.sectors.length c_d_sectors), (Value.slice a_d_pending d.pending.length c_d_pending), (Value.int .i64 d.left), (Value.bool d.stopped)].toArray 25)] O) w268 := hst272.trans p273
                replace f_d_sectors := f_d_sectors.step p275
                replace f_d_pending := f_d_pending.step p275
                replace f_b := f_b.step p275
                replace f_c := f_c.step p275
                replace f_y41 := f_y41.step p275
                replace f_y54_sectors := f_y54_sectors.step p275
                replace f_y54_pending := f_y54_pending.step p275
                replace f_y88 := f_y88.step p275
                replace f_y101 := f_y101.step p275
                replace ch232 := ch232.trans p275
                clear p275 hs95
                refine Rg_nil ?_
                exact hK107 _ _ ⟨true, _, rfl, ⟨(by repeat (first | with_reducible exact Out.refl _ _ | refine Out.upd ?_ rfl | refine Out.updL ?_ rfl | refine Out.mix' ?_ rfl | exact Out.refl _ _)), rfl, rfl, trivial⟩, ch232, hs274, hm⟩
              ·
                replace hm := bif_f hm hg242
                refine Dw_eq (Value.int .i64 read_3.2) (fun ρ276 w277 g hle hi ht => ?_) ?_
                ·
                  obtain ⟨-, hst, -⟩ := hle
                  refine StepOp_g rfl (ht 76 rfl) (op_move (v := (Value.int .i64 read_3.2)) (ht 18 rfl) ?_)
                  exact Goes.same hi rfl
                refine Dw_eq (Value.bool (decide (read_3.2 ≠ 0))) (fun ρ279 w280 g hle hi ht => ?_) ?_
                ·
                  obtain ⟨-, hst, -⟩ := hle
                  refine StepOp_g rfl (ht 76 rfl) (op_neq (ht 77 rfl) rfl ?_)
                  exact Goes.same hi rfl
                refine Dw_eq (Value.bool (decide (read_3.2 ≠ 0))) (fun ρ282 w283 g hle hi ht => ?_) ?_
                ·
                  obtain ⟨-, hst, -⟩ := hle
                  refine StepOp_plain (op_pick_f (v := (Value.bool (decide (read_3.2 ≠ 0)))) (ht 76 rfl) (ht 78 rfl) ?_)
                  exact Goes.same hi rfl
                refine Dw_opB (decide (read_3.2 ≠ 0)) (fun ρ285 w286 g hle hi ht => ?_) (fun hg288 => ?_) (fun hg288 => ?_)
                ·
                  obtain ⟨-, hst, -⟩ := hle
                  refine StepOp_plain (op_move (v := (Value.bool (decide (read_3.2 ≠ 0)))) (ht 79 rfl) ?_)
                  exact Goes.same hi rfl
                ·
                  replace hm := bif_t hm hg288
                  refine Dw_skip (fun _ _ _ ht => wanted_x rfl (ht 80 rfl) rfl) ?_
                  refine Dw_skip (fun _ _ _ ht => wanted_x rfl (ht 80 rfl) rfl) ?_
                  refine Dw_skip (fun _ _ _ ht => wanted_x rfl (ht 80 rfl) rfl) ?_
                  refine Dw_eq (Value.bool true) (fun ρ289 w290 g hle hi ht => ?_) ?_
                  ·
                    obtain ⟨-, hst, -⟩ := hle
                    refine StepOp_plain (op_pick_t (v := (Value.bool true)) (ht 80 rfl) rfl ?_)
                    exact Goes.same hi rfl
                  refine Dw_eq (Value.bool true) (fun ρ292 w293 g hle hi ht => ?_) ?_
                  ·
                    obtain ⟨-, hst, -⟩ := hle
                    refine StepOp_plain (op_move (v := (Value.bool true)) (ht 84 rfl) ?_)
                    exact Goes.same hi rfl
                  refine Dw_skip (fun _ _ _ ht => wanted_x rfl (ht 85 rfl) rfl) ?_
                  refine Dw_skip (fun _ _ _ ht => wanted_x rfl (ht 85 rfl) rfl) ?_
                  refine Dw_skip (fun _ _ _ ht => wanted_x rfl (ht 85 rfl) rfl) ?_
                  refine Dw_skip (fun _ _ _ ht => wanted_x rfl (ht 85 rfl) rfl) ?_
                  refine Dw_skip (fun _ _ _ ht => wanted_x rfl (ht 85 rfl) rfl) ?_
                  refine Dw_skip (fun _ _ _ ht => wanted_x rfl (ht 85 rfl) rfl) ?_
                  refine Dw_skip (fun _ _ _ ht => wanted_x rfl (ht 85 rfl) rfl) ?_
                  refine Dw_skip (fun _ _ _ ht => wanted_x rfl (ht 85 rfl) rfl) ?_
                  refine Dw_eq (Value.bool true) (fun ρ295 w296 g hle hi ht => ?_) ?_
                  ·
                    obtain ⟨-, hst, -⟩ := hle
                    refine StepOp_plain (op_pick_t (v := (Value.bool true)) (ht 85 rfl) rfl ?_)
                    exact Goes.same hi rfl
                  refine Dw_eq (Value.bool true) (fun ρ298 w299 g hle hi ht => ?_) ?_
                  ·
                    obtain ⟨-, hst, -⟩ := hle
                    refine StepOp_plain (op_move (v := (Value.bool true)) (ht 94 rfl) ?_)
                    exact Goes.same hi rfl
                  refine Dw_skip (fun _ _ _ ht => wanted_x rfl (ht 95 rfl) rfl) ?_
                  refine Dw_skip (fun _ _ _ ht => wanted_x rfl (ht 95 rfl) rfl) ?_
                  refine Dw_skip (fun _ _ _ ht => wanted_x rfl (ht 95 rfl) rfl) ?_
                  refine Dw_skip (fun _ _ _ ht => wanted_x rfl (ht 95 rfl) rfl) ?_
                  refine Dw_skip (fun _ _ _ ht => wanted_x rfl (ht 99 rfl) rfl) ?_
                  refine Dw_skip (fun _ _ _ ht => wanted_x rfl (ht 99 rfl) rfl) ?_
                  refine Dw_skip (fun _ _ _ ht => wanted_x rfl (ht 99 rfl) rfl) ?_
                  refine Dw_skip (fun _ _ _ ht => wanted_x rfl (ht 99 rfl) rfl) ?_
                  refine Dw_skip (fun _ _ _ ht => wanted_x rfl (ht 99 rfl) rfl) ?_
                  refine Dw_skip (fun _ _ _ ht => wanted_x rfl (ht 95 rfl) rfl) ?_
                  refine Dw_eq (Value.bool true) (fun ρ301 w302 g hle hi ht => ?_) ?_
                  ·
                    obtain ⟨-, hst, -⟩ := hle
                    refine StepOp_plain (op_pick_t (v := (Value.bool true)) (ht 95 rfl) rfl ?_)
                    exact Goes.same hi rfl
                  refine Dw_nil fun w308 g309 hl310 hi311 => ?_
                  obtain ⟨-, hst312, -⟩ := hl310
                  obtain ⟨hs314, p313⟩ := Step.nx hi311
                  rintro _ rfl
                  rintro _ rfl
                  rintro _ rfl
                  rintro _ rfl
                  rintro _ rfl
                  rintro _ rfl
                  rintro _ rfl
                  rintro _ rfl
                  rintro _ rfl
                  rintro _ rfl
                  rintro _ rfl
                  rintro _ rfl
                  rintro _ rfl
                  rintro _ rfl
                  rintro _ rfl
                  rintro _ rfl
                  rintro _ rfl
                  rintro _ rfl
                  rintro _ rfl
                  rintro _ rfl
                  rintro _ rfl
                  rintro _ rfl
                  rintro _ rfl
                  rintro _ rfl
                  rintro _ rfl
                  rintro _ rfl
                  rintro _ rfl
                  rintro _ rfl
                  rintro _ rfl
                  rintro _ rfl
                  rintro _ rfl
                  rintro _ rfl
                  rintro _ rfl
                  have p315 : Step (ks [(some b56, Obj.cells [(Value.slice a_y54_sectors write_1.1.sectors.length c_y54_sectors), (Value.slice a_y54_pending write_1.1.pending.length c_y54_pending), (Value.int .i64 write_1.1.left), (Value.bool write_1.1.stopped)].toArray 25), (some b1, Obj.cells [(Value.slice a_d_sectors d.sectors.length c_d_sectors), (Value.slice a_d_pending d.pending.length c_d_pending), (Value.int .i64 d.left), (Value.bool d.stopped)].toArray 25)] O) w92 (ks [(some b56, Obj.cells [(Value.slice a_y54_sectors write_1.1.sectors.length c_y54_sectors), (Value.slice a_y54_pending write_1.1.pending.length c_y54_pending), (Value.int .i64 write_1.1.left), (Value.bool write_1.1.stopped)].toArray 25), (some b1, Obj.cells [(Value.slice a_d_sectors d.sectors.length c_d_sectors), (Value.slice a_d_pending d.pending.length c_d_pending), (Value.int .i64 d.left), (Value.bool d.stopped)].toArray 25)] O) w308 := hst312.trans p313
                  replace f_d_sectors := f_d_sectors.step p315
                  replace f_d_pending := f_d_pending.step p315
                  replace f_b := f_b.step p315
                  replace f_c := f_c.step p315
                  replace f_y41 := f_y41.step p315
                  replace f_y54_sectors := f_y54_sectors.step p315
                  replace f_y54_pending := f_y54_pending.step p315
                  replace f_y88 := f_y88.step p315
                  replace f_y101 := f_y101.step p315
                  replace ch232 := ch232.trans p315
                  clear p315 hs95
                  refine Rg_nil ?_
                  exact hK107 _ _ ⟨true, _, rfl, ⟨(by repeat (first | with_reducible exact Out.refl _ _ | refine Out.upd ?_ rfl | refine Out.updL ?_ rfl | refine Out.mix' ?_ rfl | exact Out.refl _ _)), rfl, rfl, trivial⟩, ch232, hs314, hm⟩
                ·
                  replace hm := bif_f hm hg288
                  refine Dw_eq (Value.slice a_y101 read_3.1.length c_y101) (fun ρ316 w317 g hle hi ht => ?_) ?_
                  ·
                    obtain ⟨-, hst, -⟩ := hle
                    refine StepOp_g rfl (ht 80 rfl) (op_move (v := (Value.slice a_y101 read_3.1.length c_y101)) (ht 17 rfl) ?_)
                    exact Goes.same hi rfl
                  refine Dw_eq (Value.int .i64 (read_3.1.length : Int)) (fun ρ319 w320 g hle hi ht => ?_) ?_
                  ·
                    obtain ⟨-, hst, -⟩ := hle
                    refine StepOp_g rfl (ht 80 rfl) (op_len Try.underlying41 (ht 81 rfl) ?_)
                    exact Goes.same hi rfl
                  refine Dw_eq (Value.bool (decide ((read_3.1.length : Int) ≠ 128))) (fun ρ322 w323 g hle hi ht => ?_) ?_
                  ·
                    obtain ⟨-, hst, -⟩ := hle
                    refine StepOp_g rfl (ht 80 rfl) (op_neq (ht 82 rfl) rfl ?_)
                    exact Goes.same hi rfl
                  refine Dw_eq (Value.bool (decide ((read_3.1.length : Int) ≠ 128))) (fun ρ325 w326 g hle hi ht => ?_) ?_
                  ·
                    obtain ⟨-, hst, -⟩ := hle
                    refine StepOp_plain (op_pick_f (v := (Value.bool (decide ((read_3.1.length : Int) ≠ 128)))) (ht 80 rfl) (ht 83 rfl) ?_)
                    exact Goes.same hi rfl
                  refine Dw_opB (decide ((read_3.1.length : Int) ≠ 128)) (fun ρ328 w329 g hle hi ht => ?_) (fun hg331 => ?_) (fun hg331 => ?_)
                  ·
                    obtain ⟨-, hst, -⟩ := hle
                    refine StepOp_plain (op_move (v := (Value.bool (decide ((read_3.1.length : Int) ≠ 128)))) (ht 84 rfl) ?_)
                    exact Goes.same hi rfl
                  ·
                    replace hm := bif_t hm hg331
                    refine Dw_skip (fun _ _ _ ht => wanted_x rfl (ht 85 rfl) rfl) ?_
                    refine Dw_skip (fun _ _ _ ht => wanted_x rfl (ht 85 rfl) rfl) ?_
                    refine Dw_skip (fun _ _ _ ht => wanted_x rfl (ht 85 rfl) rfl) ?_
                    refine Dw_skip (fun _ _ _ ht => wanted_x rfl (ht 85 rfl) rfl) ?_
                    refine Dw_skip (fun _ _ _ ht => wanted_x rfl (ht 85 rfl) rfl) ?_
                    refine Dw_skip (fun _ _ _ ht => wanted_x rfl (ht 85 rfl) rfl) ?_
                    refine Dw_skip (fun _ _ _ ht => wanted_x rfl (ht 85 rfl) rfl) ?_
                    refine Dw_skip (fun _ _ _ ht => wanted_x rfl (ht 85 rfl) rfl) ?_
                    refine Dw_eq (Value.bool true) (fun ρ332 w333 g hle hi ht => ?_) ?_
                    ·
                      obtain ⟨-, hst, -⟩ := hle
                      refine StepOp_plain (op_pick_t (v := (Value.bool true)) (ht 85 rfl) rfl ?_)
                      exact Goes.same hi rfl
                    refine Dw_eq (Value.bool true) (fun ρ335 w336 g hle hi ht => ?_) ?_
                    ·
                      obtain ⟨-, hst, -⟩ := hle
                      refine StepOp_plain (op_move (v := (Value.bool true)) (ht 94 rfl) ?_)
                      exact Goes.same hi rfl
                    refine Dw_skip (fun _ _ _ ht => wanted_x rfl (ht 95 rfl) rfl) ?_
                    refine Dw_skip (fun _ _ _ ht => wanted_x rfl (ht 95 rfl) rfl) ?_
                    refine Dw_skip (fun _ _ _ ht => wanted_x rfl (ht 95 rfl) rfl) ?_
                    refine Dw_skip (fun _ _ _ ht => wanted_x rfl (ht 95 rfl) rfl) ?_
                    refine Dw_skip (fun _ _ _ ht => wanted_x rfl (ht 99 rfl) rfl) ?_
                    refine Dw_skip (fun _ _ _ ht => wanted_x rfl (ht 99 rfl) rfl) ?_
                    refine Dw_skip (fun _ _ _ ht => wanted_x rfl (ht 99 rfl) rfl) ?_
                    refine Dw_skip (fun _ _ _ ht => wanted_x rfl (ht 99 rfl) rfl) ?_
                    refine Dw_skip (fun _ _ _ ht => wanted_x rfl (ht 99 rfl) rfl) ?_
                    refine Dw_skip (fun _ _ _ ht => wanted_x rfl (ht 95 rfl) rfl) ?_
                    refine Dw_eq (Value.bool true) (fun ρ338 w339 g hle hi ht => ?_) ?_
                    ·
                      obtain ⟨-, hst, -⟩ := hle
                      refine StepOp_plain (op_pick_t (v := (Value.bool true)) (ht 95 rfl) rfl ?_)
                      exact Goes.same hi rfl
                    refine Dw_nil fun w345 g346 hl347 hi348 => ?_
                    obtain ⟨-, hst349, -⟩ := hl347
                    obtain ⟨hs351, p350⟩ := Step.nx hi348
                    rintro _ rfl
                    rintro _ rfl
                    rintro _ rfl
                    rintro _ rfl
                    rintro _ rfl
                    rintro _ rfl
                    rintro _ rfl
                    rintro _ rfl
                    rintro _ rfl
                    rintro _ rfl
                    rintro _ rfl
                    rintro _ rfl
                    rintro _ rfl
                    rintro _ rfl
                    rintro _ rfl
                    rintro _ rfl
                    rintro _ rfl
                    rintro _ rfl
                    rintro _ rfl
                    rintro _ rfl
                    rintro _ rfl
                    rintro _ rfl
                    rintro _ rfl
                    rintro _ rfl
                    rintro _ rfl
                    rintro _ rfl
                    rintro _ rfl
                    rintro _ rfl
                    rintro _ rfl
                    rintro _ rfl
                    rintro _ rfl
                    rintro _ rfl
                    rintro _ rfl
                    have p352 : Step (ks [(some b56, Obj.cells [(Value.slice a_y54_sectors write_1.1.sectors.length c_y54_sectors), (Value.slice a_y54_pending write_1.1.pending.length c_y54_pending), (Value.int .i64 write_1.1.left), (Value.bool write_1.1.stopped)].toArray 25), (some b1, Obj.cells [(Value.slice a_d_sectors d.sectors.length c_d_sectors), (Value.slice a_d_pending d.pending.length c_d_pending), (Value.int .i64 d.left), (Value.bool d.stopped)].toArray 25)] O) w92 (ks [(some b56, Obj.cells [(Value.slice a_y54_sectors write_1.1.sectors.length c_y54_sectors), (Value.slice a_y54_pending write_1.1.pending.length c_y54_pending), (Value.int .i64 write_1.1.left), (Value.bool write_1.1.stopped)].toArray 25), (some b1, Obj.cells [(Value.slice a_d_sectors d.sectors.length c_d_sectors), (Value.slice a_d_pending d.pending.length c_d_pending), (Value.int .i64 d.left), (Value.bool d.stopped)].toArray 25)] O) w345 := hst349.trans p350
                    replace f_d_sectors := f_d_sectors.step p352
                    replace f_d_pending := f_d_pending.step p352
                    replace f_b := f_b.step p352
                    replace f_c := f_c.step p352
                    replace f_y41 := f_y41.step p352
                    replace f_y54_sectors := f_y54_sectors.step p352
                    replace f_y54_pending := f_y54_pending.step p352
                    replace f_y88 := f_y88.step p352
                    replace f_y101 := f_y101.step p352
                    replace ch232 := ch232.trans p352
                    clear p352 hs95
                    refine Rg_nil ?_
                    exact hK107 _ _ ⟨true, _, rfl, ⟨(by repeat (first | with_reducible exact Out.refl _ _ | refine Out.upd ?_ rfl | refine Out.updL ?_ rfl | refine Out.mix' ?_ rfl | exact Out.refl _ _)), rfl, rfl, trivial⟩, ch232, hs351, hm⟩
                  ·
                    replace hm := bif_f hm hg331
                    refine Dw_eq (Value.slice a_y101 read_3.1.length c_y101) (fun ρ353 w354 g hle hi ht => ?_) ?_
                    ·
                      obtain ⟨-, hst, -⟩ := hle
                      refine StepOp_g rfl (ht 85 rfl) (op_move (v := (Value.slice a_y101 read_3.1.length c_y101)) (ht 17 rfl) ?_)
                      exact Goes.same hi rfl
                    refine Dw_eq (Value.slice a_b b.length c_b) (fun ρ356 w357 g hle hi ht => ?_) ?_
                    ·
                      obtain ⟨-, hst, -⟩ := hle
                      refine StepOp_g rfl (ht 85 rfl) (op_move (v := (Value.slice a_b b.length c_b)) (ht 3 rfl) ?_)
                      exact Goes.same hi rfl
                    refine Dw_eq (Value.int .i64 (b.length : Int)) (fun ρ359 w360 g hle hi ht => ?_) ?_
                    ·
                      obtain ⟨-, hst, -⟩ := hle
                      refine StepOp_g rfl (ht 85 rfl) (op_len Try.underlying41 (ht 87 rfl) ?_)
                      exact Goes.same hi rfl
                    replace hm := ck_some hm; obtain ⟨hc365, hm⟩ := hm
                    refine Dw_op (VD O [(some b56, Obj.cells [(Value.slice a_y54_sectors write_1.1.sectors.length c_y54_sectors), (Value.slice a_y54_pending write_1.1.pending.length c_y54_pending), (Value.int .i64 write_1.1.left), (Value.bool write_1.1.stopped)].toArray 25), (some b1, Obj.cells [(Value.slice a_d_sectors d.sectors.length c_d_sectors), (Value.slice a_d_pending d.pending.length c_d_pending), (Value.int .i64 d.left), (Value.bool d.stopped)].toArray 25)] (vC (rSl rU8)) ((read_3.1.drop 0).take (b.length - 0))) (VD.stab _ _) (fun ρ362 w363 g hle hi ht => ?_) ?_
                    ·
                      obtain ⟨-, hst, -⟩ := hle
                      replace f_y101 := f_y101.step hst
                      refine StepOp_g rfl (ht 85 rfl) (op_slice (q := rU8) (l := 0) (h := b.length) (m := c_y101) ty41 ty5 (ht 86 rfl) f_y101 rfl rfl (bndI (ht 88 rfl) (by omega)) rfl (by decide) (by omega) (by omega) (by have := f_y101.le; omega) (by have := f_y101.le; omega) ?_)
                      intro a366 f367
                      exact Goes.same hi (show Vr.vd (vC (rSl rU8)) _ _ _ _ from (mkC (mk_sl f367)))
                    refine Dw_eq (Value.string (bs ((read_3.1.drop 0).take (b.length - 0)))) (fun ρ368 w369 g hle hi ht => ?_) ?_
                    ·
                      obtain ⟨-, hst, -⟩ := hle
                      have h371 : Vr.vd (vC (rSl rU8)) _ _ _ _ := ht 89 rfl
                      obtain ⟨a_y373, c_y373, q372, f_y373⟩ := un_sl h371
                      refine StepOp_g rfl (ht 85 rfl) (op_bytesToString ty41 Try.underlying5 Try.underlying9 q372 f_y373 ?_)
                      exact Goes.same hi rfl
                    refine Dw_eq (Value.slice a_b b.length c_b) (fun ρ374 w375 g hle hi ht => ?_) ?_
                    ·
                      obtain ⟨-, hst, -⟩ := hle
                      refine StepOp_g rfl (ht 85 rfl) (op_move (v := (Value.slice a_b b.length c_b)) (ht 3 rfl) ?_)
                      exact Goes.same hi rfl
                    refine Dw_eq (Value.string (bs b)) (fun ρ377 w378 g hle hi ht => ?_) ?_
                    ·
                      obtain ⟨-, hst, -⟩ := hle
                      replace f_b := f_b.step hst
                      refine StepOp_g rfl (ht 85 rfl) (op_bytesToString ty41 Try.underlying5 Try.underlying9 (ht 91 rfl) f_b ?_)
                      exact Goes.same hi rfl
                    refine Dw_eq (Value.bool (decide (((read_3.1.drop 0).take (b.length - 0)) ≠ b))) (fun ρ380 w381 g hle hi ht => ?_) ?_
                    ·
                      obtain ⟨-, hst, -⟩ := hle
                      refine StepOp_g rfl (ht 85 rfl) (op_neqs (a := ((read_3.1.drop 0).take (b.length - 0))) (b := b) (ht 90 rfl) (ht 92 rfl) ?_)
                      exact Goes.same hi rfl
                    refine Dw_eq (Value.bool (decide (((read_3.1.drop 0).take (b.length - 0)) ≠ b))) (fun ρ383 w384 g hle hi ht => ?_) ?_
                    ·
                      obtain ⟨-, hst, -⟩ := hle
                      refine StepOp_plain (op_pick_f (v := (Value.bool (decide (((read_3.1.drop 0).take (b.length - 0)) ≠ b)))) (ht 85 rfl) (ht 93 rfl) ?_)
                      exact Goes.same hi rfl
                    refine Dw_opB (decide (((read_3.1.drop 0).take (b.length - 0)) ≠ b)) (fun ρ386 w387 g hle hi ht => ?_) (fun hg389 => ?_) (fun hg389 => ?_)
                    ·
                      obtain ⟨-, hst, -⟩ := hle
                      refine StepOp_plain (op_move (v := (Value.bool (decide (((read_3.1.drop 0).take (b.length - 0)) ≠ b)))) (ht 94 rfl) ?_)
                      exact Goes.same hi rfl
                    ·
                      replace hm := bif_t hm hg389
                      refine Dw_skip (fun _ _ _ ht => wanted_x rfl (ht 95 rfl) rfl) ?_
                      refine Dw_skip (fun _ _ _ ht => wanted_x rfl (ht 95 rfl) rfl) ?_
                      refine Dw_skip (fun _ _ _ ht => wanted_x rfl (ht 95 rfl) rfl) ?_
                      refine Dw_skip (fun _ _ _ ht => wanted_x rfl (ht 95 rfl) rfl) ?_
                      refine Dw_skip (fun _ _ _ ht => wanted_x rfl (ht 99 rfl) rfl) ?_
                      refine Dw_skip (fun _ _ _ ht => wanted_x rfl (ht 99 rfl) rfl) ?_
                      refine Dw_skip (fun _ _ _ ht => wanted_x rfl (ht 99 rfl) rfl) ?_
                      refine Dw_skip (fun _ _ _ ht => wanted_x rfl (ht 99 rfl) rfl) ?_
                      refine Dw_skip (fun _ _ _ ht => wanted_x rfl (ht 99 rfl) rfl) ?_
                      refine Dw_skip (fun _ _ _ ht => wanted_x rfl (ht 95 rfl) rfl) ?_
                      refine Dw_eq (Value.bool true) (fun ρ390 w391 g hle hi ht => ?_) ?_
                      ·
                        obtain ⟨-, hst, -⟩ := hle
                        refine StepOp_plain (op_pick_t (v := (Value.bool true)) (ht 95 rfl) rfl ?_)
                        exact Goes.same hi rfl
                      refine Dw_nil fun w397 g398 hl399 hi400 => ?_
                      obtain ⟨-, hst401, -⟩ := hl399
                      obtain ⟨hs403, p402⟩ := Step.nx hi400
                      rintro _ rfl
                      rintro _ rfl
                      rintro _ rfl
                      rintro _ rfl
                      rintro _ rfl
                      rintro _ rfl
                      rintro _ rfl
                      rintro _ rfl
                      rintro _ rfl
                      rintro _ rfl
                      rintro _ rfl
                      rintro _ rfl
                      rintro _ rfl
                      rintro _ rfl
                      rintro _ rfl
                      rintro _ rfl
                      rintro _ rfl
                      rintro v404 h405
                      replace h405 : Vr.vd (vC (rSl rU8)) _ _ _ _ := h405
                      obtain ⟨a_y406, c_y406, rfl, f_y406⟩ := un_sl h405
                      rintro _ rfl
                      rintro _ rfl
                      rintro _ rfl
                      rintro _ rfl
                      rintro _ rfl
                      rintro _ rfl
                      rintro _ rfl
                      rintro _ rfl
                      rintro _ rfl
                      rintro _ rfl
                      rintro _ rfl
                      rintro _ rfl
                      rintro _ rfl
                      rintro _ rfl
                      rintro _ rfl
                      have p407 : Step (ks [(some b56, Obj.cells [(Value.slice a_y54_sectors write_1.1.sectors.length c_y54_sectors), (Value.slice a_y54_pending write_1.1.pending.length c_y54_pending), (Value.int .i64 write_1.1.left), (Value.bool write_1.1.stopped)].toArray 25), (some b1, Obj.cells [(Value.slice a_d_sectors d.sectors.length c_d_sectors), (Value.slice a_d_pending d.pending.length c_d_pending), (Value.int .i64 d.left), (Value.bool d.stopped)].toArray 25)] O) w92 (ks [(some b56, Obj.cells [(Value.slice a_y54_sectors write_1.1.sectors.length c_y54_sectors), (Value.slice a_y54_pending write_1.1.pending.length c_y54_pending), (Value.int .i64 write_1.1.left), (Value.bool write_1.1.stopped)].toArray 25), (some b1, Obj.cells [(Value.slice a_d_sectors d.sectors.length c_d_sectors), (Value.slice a_d_pending d.pending.length c_d_pending), (Value.int .i64 d.left), (Value.bool d.stopped)].toArray 25)] O) w397 := hst401.trans p402
                      replace f_y406 := f_y406.step p402
                      replace f_d_sectors := f_d_sectors.step p407
                      replace f_d_pending := f_d_pending.step p407
                      replace f_b := f_b.step p407
                      replace f_c := f_c.step p407
                      replace f_y41 := f_y41.step p407
                      replace f_y54_sectors := f_y54_sectors.step p407
                      replace f_y54_pending := f_y54_pending.step p407
                      replace f_y88 := f_y88.step p407
                      replace f_y101 := f_y101.step p407
                      replace ch232 := ch232.trans p407
                      clear p407 hs95
                      refine Rg_nil ?_
                      exact hK107 _ _ ⟨true, _, rfl, ⟨(by repeat (first | with_reducible exact Out.refl _ _ | refine Out.upd ?_ rfl | refine Out.updL ?_ rfl | refine Out.mix' ?_ rfl | exact Out.refl _ _)), rfl, rfl, trivial⟩, ch232, hs403, hm⟩
                    ·
                      replace hm := bif_f hm hg389
                      refine Dw_eq (Value.int .i64 at_) (fun ρ408 w409 g hle hi ht => ?_) ?_
                      ·
                        obtain ⟨-, hst, -⟩ := hle
                        refine StepOp_g rfl (ht 95 rfl) (op_move (v := (Value.int .i64 at_)) (ht 1 rfl) ?_)
                        exact Goes.same hi rfl
                      refine Dw_eq (Value.int .i64 other) (fun ρ411 w412 g hle hi ht => ?_) ?_
                      ·
                        obtain ⟨-, hst, -⟩ := hle
                        refine StepOp_g rfl (ht 95 rfl) (op_move (v := (Value.int .i64 other)) (ht 2 rfl) ?_)
                        exact Goes.same hi rfl
                      refine Dw_eq (Value.bool (decide (at_ ≠ other))) (fun ρ414 w415 g hle hi ht => ?_) ?_
                      ·
                        obtain ⟨-, hst, -⟩ := hle
                        refine StepOp_g rfl (ht 95 rfl) (op_neq (ht 96 rfl) (ht 97 rfl) ?_)
                        exact Goes.same hi rfl
                      refine Dw_opB (decide (at_ ≠ other)) (fun ρ417 w418 g hle hi ht => ?_) (fun hg420 => ?_) (fun hg420 => ?_)
                      ·
                        obtain ⟨-, hst, -⟩ := hle
                        refine StepOp_g rfl (ht 95 rfl) (op_move (v := (Value.bool (decide (at_ ≠ other)))) (ht 98 rfl) ?_)
                        exact Goes.same hi rfl
                      ·
                        replace hm := bif_t hm hg420
                        refine Dw_eq (Value.slice a_y41 read_1.1.length c_y41) (fun ρ421 w422 g hle hi ht => ?_) ?_
                        ·
                          obtain ⟨-, hst, -⟩ := hle
                          refine StepOp_g rfl (ht 99 rfl) (op_move (v := (Value.slice a_y41 read_1.1.length c_y41)) (ht 11 rfl) ?_)
                          exact Goes.same hi rfl
                        refine Dw_eq (Value.string (bs read_1.1)) (fun ρ424 w425 g hle hi ht => ?_) ?_
                        ·
                          obtain ⟨-, hst, -⟩ := hle
                          replace f_y41 := f_y41.step hst
                          refine StepOp_g rfl (ht 99 rfl) (op_bytesToString ty41 Try.underlying5 Try.underlying9 (ht 100 rfl) f_y41 ?_)
                          exact Goes.same hi rfl
                        refine Dw_eq (Value.slice a_y88 read_2.1.length c_y88) (fun ρ427 w428 g hle hi ht => ?_) ?_
                        ·
                          obtain ⟨-, hst, -⟩ := hle
                          refine StepOp_g rfl (ht 99 rfl) (op_move (v := (Value.slice a_y88 read_2.1.length c_y88)) (ht 15 rfl) ?_)
                          exact Goes.same hi rfl
                        refine Dw_eq (Value.string (bs read_2.1)) (fun ρ430 w431 g hle hi ht => ?_) ?_
                        ·
                          obtain ⟨-, hst, -⟩ := hle
                          replace f_y88 := f_y88.step hst
                          refine StepOp_g rfl (ht 99 rfl) (op_bytesToString ty41 Try.underlying5 Try.underlying9 (ht 102 rfl) f_y88 ?_)
                          exact Goes.same hi rfl
                        refine Dw_eq (Value.bool (decide (read_1.1 ≠ read_2.1))) (fun ρ433 w434 g hle hi ht => ?_) ?_
                        ·
                          obtain ⟨-, hst, -⟩ := hle
                          refine StepOp_g rfl (ht 99 rfl) (op_neqs (a := read_1.1) (b := read_2.1) (ht 101 rfl) (ht 103 rfl) ?_)
                          exact Goes.same hi rfl
                        refine Dw_eq (Value.bool (decide (read_1.1 ≠ read_2.1))) (fun ρ436 w437 g hle hi ht => ?_) ?_
                        ·
                          obtain ⟨-, hst, -⟩ := hle
                          refine StepOp_g rfl (ht 95 rfl) (op_pick_t (v := (Value.bool (decide (read_1.1 ≠ read_2.1)))) (ht 99 rfl) (ht 104 rfl) ?_)
                          exact Goes.same hi rfl
                        refine Dw_eq (Value.bool (decide (read_1.1 ≠ read_2.1))) (fun ρ439 w440 g hle hi ht => ?_) ?_
                        ·
                          obtain ⟨-, hst, -⟩ := hle
                          refine StepOp_plain (op_pick_f (v := (Value.bool (decide (read_1.1 ≠ read_2.1)))) (ht 95 rfl) (ht 105 rfl) ?_)
                          exact Goes.same hi rfl
                        refine Dw_nil fun w446 g447 hl448 hi449 => ?_
                        obtain ⟨-, hst450, -⟩ := hl448
                        obtain ⟨hs452, p451⟩ := Step.nx hi449
                        rintro _ rfl
                        rintro _ rfl
                        rintro _ rfl
                        rintro _ rfl
                        rintro _ rfl
                        rintro _ rfl
                        rintro _ rfl
                        rintro _ rfl
                        rintro _ rfl
                        rintro _ rfl
                        rintro _ rfl
                        rintro _ rfl
                        rintro _ rfl
                        rintro _ rfl
                        rintro _ rfl
                        rintro _ rfl
                        rintro _ rfl
                        rintro v453 h454
                        replace h454 : Vr.vd (vC (rSl rU8)) _ _ _ _ := h454
                        obtain ⟨a_y455, c_y455, rfl, f_y455⟩ := un_sl h454
                        rintro _ rfl
                        rintro _ rfl
                        rintro _ rfl
                        rintro _ rfl
                        rintro _ rfl
                        rintro _ rfl
                        rintro _ rfl
                        rintro _ rfl
                        rintro _ rfl
                        rintro _ rfl
                        rintro _ rfl
                        rintro _ rfl
                        rintro _ rfl
                        rintro _ rfl
                        rintro _ rfl
                        have p456 : Step (ks [(some b56, Obj.cells [(Value.slice a_y54_sectors write_1.1.sectors.length c_y54_sectors), (Value.slice a_y54_pending write_1.1.pending.length c_y54_pending), (Value.int .i64 write_1.1.left), (Value.bool write_1.1.stopped)].toArray 25), (some b1, Obj.cells [(Value.slice a_d_sectors d.sectors.length c_d_sectors), (Value.slice a_d_pending d.pending.length c_d_pending), (Value.int .i64 d.left), (Value.bool d.stopped)].toArray 25)] O) w92 (ks [(some b56, Obj.cells [(Value.slice a_y54_sectors write_1.1.sectors.length c_y54_sectors), (Value.slice a_y54_pending write_1.1.pending.length c_y54_pending), (Value.int .i64 write_1.1.left), (Value.bool write_1.1.stopped)].toArray 25), (some b1, Obj.cells [(Value.slice a_d_sectors d.sectors.length c_d_sectors), (Value.slice a_d_pending d.pending.length c_d_pending), (Value.int .i64 d.left), (Value.bool d.stopped)].toArray 25)] O) w446 := hst450.trans p451
                        replace f_y455 := f_y455.step p451
                        replace f_d_sectors := f_d_sectors.step p456
                        replace f_d_pending := f_d_pending.step p456
                        replace f_b := f_b.step p456
                        replace f_c := f_c.step p456
                        replace f_y41 := f_y41.step p456
                        replace f_y54_sectors := f_y54_sectors.step p456
                        replace f_y54_pending := f_y54_pending.step p456
                        replace f_y88 := f_y88.step p456
                        replace f_y101 := f_y101.step p456
                        replace ch232 := ch232.trans p456
                        clear p456 hs95
                        refine Rg_nil ?_
                        exact hK107 _ _ ⟨(decide (read_1.1 ≠ read_2.1)), _, rfl, ⟨(by repeat (first | with_reducible exact Out.refl _ _ | refine Out.upd ?_ rfl | refine Out.updL ?_ rfl | refine Out.mix' ?_ rfl | exact Out.refl _ _)), rfl, rfl, trivial⟩, ch232, hs452, hm⟩
                      ·
                        replace hm := bif_f hm hg420
                        refine Dw_skip (fun _ _ _ ht => wanted_x rfl (ht 99 rfl) rfl) ?_
                        refine Dw_skip (fun _ _ _ ht => wanted_x rfl (ht 99 rfl) rfl) ?_
                        refine Dw_skip (fun _ _ _ ht => wanted_x rfl (ht 99 rfl) rfl) ?_
                        refine Dw_skip (fun _ _ _ ht => wanted_x rfl (ht 99 rfl) rfl) ?_
                        refine Dw_skip (fun _ _ _ ht => wanted_x rfl (ht 99 rfl) rfl) ?_
                        refine Dw_eq (Value.bool false) (fun ρ457 w458 g hle hi ht => ?_) ?_
                        ·
                          obtain ⟨-, hst, -⟩ := hle
                          refine StepOp_g rfl (ht 95 rfl) (op_pick_f (v := (Value.bool false)) (ht 99 rfl) rfl ?_)
                          exact Goes.same hi rfl
                        refine Dw_eq (Value.bool false) (fun ρ460 w461 g hle hi ht => ?_) ?_
                        ·
                          obtain ⟨-, hst, -⟩ := hle
                          refine StepOp_plain (op_pick_f (v := (Value.bool false)) (ht 95 rfl) (ht 105 rfl) ?_)
                          exact Goes.same hi rfl
                        refine Dw_nil fun w467 g468 hl469 hi470 => ?_
                        obtain ⟨-, hst471, -⟩ := hl469
                        obtain ⟨hs473, p472⟩ := Step.nx hi470
                        rintro _ rfl
                        rintro _ rfl
                        rintro _ rfl
                        rintro _ rfl
                        rintro _ rfl
                        rintro _ rfl
                        rintro _ rfl
                        rintro _ rfl
                        rintro _ rfl
                        rintro _ rfl
                        rintro _ rfl
                        rintro _ rfl
                        rintro _ rfl
                        rintro _ rfl
                        rintro _ rfl
                        rintro _ rfl
                        rintro _ rfl
                        rintro v474 h475
                        replace h475 : Vr.vd (vC (rSl rU8)) _ _ _ _ := h475
                        obtain ⟨a_y476, c_y476, rfl, f_y476⟩ := un_sl h475
                        rintro _ rfl
                        rintro _ rfl
                        rintro _ rfl
                        rintro _ rfl
                        rintro _ rfl
                        rintro _ rfl
                        rintro _ rfl
                        rintro _ rfl
                        rintro _ rfl
                        rintro _ rfl
                        rintro _ rfl
                        rintro _ rfl
                        rintro _ rfl
                        rintro _ rfl
                        rintro _ rfl
                        have p477 : Step (ks [(some b56, Obj.cells [(Value.slice a_y54_sectors write_1.1.sectors.length c_y54_sectors), (Value.slice a_y54_pending write_1.1.pending.length c_y54_pending), (Value.int .i64 write_1.1.left), (Value.bool write_1.1.stopped)].toArray 25), (some b1, Obj.cells [(Value.slice a_d_sectors d.sectors.length c_d_sectors), (Value.slice a_d_pending d.pending.length c_d_pending), (Value.int .i64 d.left), (Value.bool d.stopped)].toArray 25)] O) w92 (ks [(some b56, Obj.cells [(Value.slice a_y54_sectors write_1.1.sectors.length c_y54_sectors), (Value.slice a_y54_pending write_1.1.pending.length c_y54_pending), (Value.int .i64 write_1.1.left), (Value.bool write_1.1.stopped)].toArray 25), (some b1, Obj.cells [(Value.slice a_d_sectors d.sectors.length c_d_sectors), (Value.slice a_d_pending d.pending.length c_d_pending), (Value.int .i64 d.left), (Value.bool d.stopped)].toArray 25)] O) w467 := hst471.trans p472
                        replace f_y476 := f_y476.step p472
                        replace f_d_sectors := f_d_sectors.step p477
                        replace f_d_pending := f_d_pending.step p477
                        replace f_b := f_b.step p477
                        replace f_c := f_c.step p477
                        replace f_y41 := f_y41.step p477
                        replace f_y54_sectors := f_y54_sectors.step p477
                        replace f_y54_pending := f_y54_pending.step p477
                        replace f_y88 := f_y88.step p477
                        replace f_y101 := f_y101.step p477
                        replace ch232 := ch232.trans p477
                        clear p477 hs95
                        refine Rg_nil ?_
                        exact hK107 _ _ ⟨false, _, rfl, ⟨(by repeat (first | with_reducible exact Out.refl _ _ | refine Out.upd ?_ rfl | refine Out.updL ?_ rfl | refine Out.mix' ?_ rfl | exact Out.refl _ _)), rfl, rfl, trivial⟩, ch232, hs473, hm⟩
        ·
          intro K68 hK68
          have ch478 := Step.refl (ks [(some b56, Obj.cells [(Value.slice a_y54_sectors write_1.1.sectors.length c_y54_sectors), (Value.slice a_y54_pending write_1.1.pending.length c_y54_pending), (Value.int .i64 write_1.1.left), (Value.bool write_1.1.stopped)].toArray 25), (some b1, Obj.cells [(Value.slice a_d_sectors d.sectors.length c_d_sectors), (Value.slice a_d_pending d.pending.length c_d_pending), (Value.int .i64 d.left), (Value.bool d.stopped)].toArray 25)] O) w61
          refine Wp_region ?_  -- 7 law.go:161
          refine Rg_op rfl (op_move (v := (Value.int .i64 read_1.2)) rfl ?_)
          refine Rg_op rfl (op_neq rfl rfl ?_)
          refine Rg_op rfl (op_move (v := (Value.bool (decide (read_1.2 ≠ 0)))) rfl ?_)
          refine Rg_case (fun hg479 => ?_) (fun hg479 => ?_)
          ·
            replace hm := bif_t hm hg479
            refine Rg_opx rfl (asB_ne rfl rfl) rfl ?_
            refine Rg_opx rfl (asB_ne rfl rfl) rfl ?_
            refine Rg_op rfl (op_pick_t (v := (Value.bool true)) rfl rfl ?_)
            refine Rg_nil ?_
            exact hK68 _ _ ⟨true, _, rfl, ⟨(by repeat (first | with_reducible exact Out.refl _ _ | refine Out.upd ?_ rfl | refine Out.updL ?_ rfl | refine Out.mix' ?_ rfl | exact Out.refl _ _)), rfl, rfl, trivial⟩, ch478, hs63, hm⟩
          ·
            replace hm := bif_f hm hg479
            refine Rg_opg rfl rfl rfl (op_move (v := (Value.int .i64 write_1.2)) rfl ?_)
            refine Rg_opg rfl rfl rfl (op_neq rfl rfl ?_)
            refine Rg_op rfl (op_pick_f (v := (Value.bool (decide (write_1.2 ≠ 0)))) rfl rfl ?_)
            refine Rg_nil ?_
            exact hK68 _ _ ⟨(decide (write_1.2 ≠ 0)), _, rfl, ⟨(by repeat (first | with_reducible exact Out.refl _ _ | refine Out.upd ?_ rfl | refine Out.updL ?_ rfl | refine Out.mix' ?_ rfl | exact Out.refl _ _)), rfl, rfl, trivial⟩, ch478, hs63, hm⟩
    ·
      intro K21 hK21
      have ch480 := Step.refl (ks [(some b1, Obj.cells [(Value.slice a_d_sectors d.sectors.length c_d_sectors), (Value.slice a_d_pending d.pending.length c_d_pending), (Value.int .i64 d.left), (Value.bool d.stopped)].toArray 25)] O) w8
      refine Wp_region ?_  -- 3 law.go:156
      refine Rg_op rfl (op_loadA (cs := [(Value.slice a_d_sectors d.sectors.length c_d_sectors), (Value.slice a_d_pending d.pending.length c_d_pending), (Value.int .i64 d.left), (Value.bool d.stopped)]) (vs := [(Value.slice a_d_sectors d.sectors.length c_d_sectors), (Value.slice a_d_pending d.pending.length c_d_pending), (Value.int .i64 d.left), (Value.bool d.stopped)]) (i := 0) ty25 hs11 rfl rfl rfl rfl ?_)
      replace hm := bd hm; obtain ⟨few_1, hv481, hm⟩ := hm
      refine Rg_op rfl (op_call Try.call14 (c14_overflightref44_Few (d := d) hs11.ltw f_d_sectors f_d_pending r_d_left hv481) rfl ?_)
      rintro v482 w483 ⟨hx484, h485⟩
      have hs486 := hs11.call hx484
      have p487 := Step.ext (O := ks [(some b1, Obj.cells [(Value.slice a_d_sectors d.sectors.length c_d_sectors), (Value.slice a_d_pending d.pending.length c_d_pending), (Value.int .i64 d.left), (Value.bool d.stopped)].toArray 25)] O) hx484
      clear hx484
      replace f_d_sectors := f_d_sectors.step p487
      replace f_d_pending := f_d_pending.step p487
      replace f_b := f_b.step p487
      replace f_c := f_c.step p487
      replace ch480 := ch480.trans p487
      clear p487 hs11
      obtain rfl := h485
      refine Rg_op rfl (op_not rfl ?_)
      refine Rg_op rfl (op_move (v := (Value.bool (!few_1))) rfl ?_)
      refine Rg_case (fun hg489 => ?_) (fun hg489 => ?_)
      ·
        replace hm := bif_t hm hg489
        refine Rg_opx rfl (asB_ne rfl rfl) rfl ?_
        refine Rg_opx rfl (asB_ne rfl rfl) rfl ?_
        refine Rg_opx rfl (asB_ne rfl rfl) rfl ?_
        refine Rg_op rfl (op_pick_t (v := (Value.bool true)) rfl rfl ?_)
        refine Rg_op rfl (op_move (v := (Value.bool true)) rfl ?_)
        refine Rg_opx rfl (asB_ne rfl rfl) rfl ?_
        refine Rg_opx rfl (asB_ne rfl rfl) rfl ?_
        refine Rg_opx rfl (asB_ne rfl rfl) rfl ?_
        refine Rg_op rfl (op_pick_t (v := (Value.bool true)) rfl rfl ?_)
        refine Rg_nil ?_
        exact hK21 _ _ ⟨true, _, rfl, ⟨(by repeat (first | with_reducible exact Out.refl _ _ | refine Out.upd ?_ rfl | refine Out.updL ?_ rfl | refine Out.mix' ?_ rfl | exact Out.refl _ _)), rfl, rfl, trivial⟩, ch480, hs486, hm⟩
      ·
        replace hm := bif_f hm hg489
        refine Rg_opg rfl rfl rfl (op_move (v := (Value.slice a_b b.length c_b)) rfl ?_)
        refine Rg_opg rfl rfl rfl (op_len Try.underlying41 rfl ?_)
        refine Rg_opg rfl rfl rfl (op_gtr rfl rfl ?_)
        refine Rg_op rfl (op_pick_f (v := (Value.bool (decide (128 < (b.length : Int))))) rfl rfl ?_)
        refine Rg_op rfl (op_move (v := (Value.bool (decide (128 < (b.length : Int))))) rfl ?_)
        refine Rg_case (fun hg490 => ?_) (fun hg490 => ?_)
        ·
          replace hm := bif_t hm hg490
          refine Rg_opx rfl (asB_ne rfl rfl) rfl ?_
          refine Rg_opx rfl (asB_ne rfl rfl) rfl ?_
          refine Rg_opx rfl (asB_ne rfl rfl) rfl ?_
          refine Rg_op rfl (op_pick_t (v := (Value.bool true)) rfl rfl ?_)
          refine Rg_nil ?_
          exact hK21 _ _ ⟨true, _, rfl, ⟨(by repeat (first | with_reducible exact Out.refl _ _ | refine Out.upd ?_ rfl | refine Out.updL ?_ rfl | refine Out.mix' ?_ rfl | exact Out.refl _ _)), rfl, rfl, trivial⟩, ch480, hs486, hm⟩
        ·
          replace hm := bif_f hm hg490
          refine Rg_opg rfl rfl rfl (op_move (v := (Value.slice a_c c.length c_c)) rfl ?_)
          refine Rg_opg rfl rfl rfl (op_len Try.underlying41 rfl ?_)
          refine Rg_opg rfl rfl rfl (op_gtr rfl rfl ?_)
          refine Rg_op rfl (op_pick_f (v := (Value.bool (decide (128 < (c.length : Int))))) rfl rfl ?_)
          refine Rg_nil ?_
          exact hK21 _ _ ⟨(decide (128 < (c.length : Int))), _, rfl, ⟨(by repeat (first | with_reducible exact Out.refl _ _ | refine Out.upd ?_ rfl | refine Out.updL ?_ rfl | refine Out.mix' ?_ rfl | exact Out.refl _ _)), rfl, rfl, trivial⟩, ch480, hs486, hm⟩

end Go.Fx


/- What the models of functions compute: loops over lists, checks, meetings. No program in sight. -/
set_option linter.unusedSimpArgs false
set_option linter.unusedVariables false
namespace Go.Fx
open Go Go.RowKit

section
variable {R α σ : Type}
@[simp] theorem jn_eq {κ : Type _} (k : κ) (f : κ → Option R) : jn k f = f k := rfl
theorem ck_eq {c : Prop} [Decidable c] {m : Option R} (h : c) : ck c m = m := if_pos h
@[simp] theorem ck_True {m : Option R} : ck True m = m := if_pos trivial
theorem wrapN {i : Nat} (h : i < 9223372036854775808) : IntKind.i64.wrap (i : Int) = (i : Int) := wrap_i64 (by omega) (by omega)
theorem wrapS {i : Nat} (h : i + 1 < 9223372036854775808) : IntKind.i64.wrap ((i : Int) + 1) = (i : Int) + 1 := wrap_i64 (by omega) (by omega)
theorem wrapA {i j : Nat} (h : i + j < 9223372036854775808) : IntKind.i64.wrap ((i : Int) + (j : Int)) = ((i + j : Nat) : Int) := (wrap_i64 (by omega) (by omega)).trans (by omega)
theorem wrapP {i : Nat} (h : i < 9223372036854775808) : IntKind.i64.wrap (((i + 1 : Nat) : Int) - 1) = (i : Int) := (wrap_i64 (by omega) (by omega)).trans (by omega)

/-- a loop that goes up an index over a list: L fuel index state -/
theorem up_list {L : Nat → Int → σ → Option R} (I : Nat → σ → Prop) (F : Nat → List α → σ → Option R) (l : List α) (hl : l.length < 9223372036854775807)
    (hE : ∀ n s, I l.length s → L (n + 1) (l.length : Nat) s = F l.length [] s)
    (hS : ∀ n (i : Nat) s x t, i < l.length → l[i]? = some x → IntKind.i64.wrap ((i : Int) + 1) = (i : Int) + 1 → I i s →
      (∀ s, I (i + 1) s → L n ((i : Int) + 1) s = F (i + 1) t s) → L (n + 1) (i : Int) s = F i (x :: t) s) :
    ∀ (fuel : Nat) s, l.length < fuel → I 0 s → L fuel 0 s = F 0 l s := by
  have main : ∀ (t : List α) (i fuel : Nat) s, l.drop i = t → i ≤ l.length → l.length - i < fuel → I i s → L fuel (i : Int) s = F i t s := by
    intro t
    induction t with
    | nil =>
      intro i fuel s hd hi hf hI
      have : i = l.length := by have := congrArg List.length hd; simp at this; omega
      subst this
      obtain ⟨n, rfl⟩ : ∃ n, fuel = n + 1 := ⟨fuel - 1, by omega⟩
      exact hE n s hI
    | cons x t ih =>
      intro i fuel s hd hi hf hI
      have hlt : i < l.length := by have := congrArg List.length hd; simp at this; omega
      obtain ⟨n, rfl⟩ : ∃ n, fuel = n + 1 := ⟨fuel - 1, by omega⟩
      have hx : l[i]? = some x := by rw [← List.head?_drop, hd]; rfl
      refine hS n i s x t hlt hx (wrapS (by omega)) hI fun s' hI' => (ih (i + 1) n s' ?_ (by omega) (by omega) hI')
      rw [← List.drop_drop, hd]; rfl
  intro fuel s hf hI
  exact main l 0 fuel s rfl (by omega) (by omega) hI

theorem getD_of {l : List α} {i : Nat} {x d : α} (h : l[i]? = some x) : l.getD i d = x := by simp [List.getD, h]

/-- a loop that goes up an index over a list, no state -/
theorem up_list0 {B : (Int → Option R) → Int → Option R} (F : List α → Option R) (l : List α) (hl : l.length < 9223372036854775807)
    (hE : ∀ sf, B sf (l.length : Nat) = F [])
    (hS : ∀ sf (i : Nat) x t, i < l.length → l[i]? = some x → IntKind.i64.wrap ((i : Int) + 1) = (i : Int) + 1 →
      sf ((i : Int) + 1) = F t → B sf (i : Int) = F (x :: t))
    {fuel : Nat} (hf : l.length < fuel) : loop1 B fuel 0 = F l := by
  refine up_list (L := fun n i (_ : Unit) => loop1 B n i) (fun _ _ => True) (fun _ t _ => F t) l hl ?_ ?_ fuel () hf trivial
  · intro n _ _; show loop1 B (n + 1) _ = _; rw [loop1_succ]; exact hE _
  · intro n i _ x t h1 h2 h3 _ ih; show loop1 B (n + 1) _ = _; rw [loop1_succ]; exact hS _ i x t h1 h2 h3 (ih () trivial)
/-- index first, then a state -/
theorem up_listA {B : (Int → σ → Option R) → Int → σ → Option R} (I : Nat → σ → Prop) (F : Nat → List α → σ → Option R) (l : List α) (hl : l.length < 9223372036854775807)
    (hE : ∀ sf s, I l.length s → B sf (l.length : Nat) s = F l.length [] s)
    (hS : ∀ sf (i : Nat) s x t, i < l.length → l[i]? = some x → IntKind.i64.wrap ((i : Int) + 1) = (i : Int) + 1 → I i s →
      (∀ s, I (i + 1) s → sf ((i : Int) + 1) s = F (i + 1) t s) → B sf (i : Int) s = F i (x :: t) s)
    {fuel : Nat} {s : σ} (hf : l.length < fuel) (hI : I 0 s) : loop2 B fuel 0 s = F 0 l s := by
  refine up_list (L := fun n i s => loop2 B n i s) I F l hl ?_ ?_ fuel s hf hI
  · intro n s h; show loop2 B (n + 1) _ _ = _; rw [loop2_succ]; exact hE _ _ h
  · intro n i s x t h1 h2 h3 h4 ih; show loop2 B (n + 1) _ _ = _; rw [loop2_succ]; exact hS _ i s x t h1 h2 h3 h4 ih
/-- a state first, then the index -/
theorem up_listB {B : (σ → Int → Option R) → σ → Int → Option R} (I : Nat → σ → Prop) (F : Nat → List α → σ → Option R) (l : List α) (hl : l.length < 9223372036854775807)
    (hE : ∀ sf s, I l.length s → B sf s (l.length : Nat) = F l.length [] s)
    (hS : ∀ sf (i : Nat) s x t, i < l.length → l[i]? = some x → IntKind.i64.wrap ((i : Int) + 1) = (i : Int) + 1 → I i s →
      (∀ s, I (i + 1) s → sf s ((i : Int) + 1) = F (i + 1) t s) → B sf s (i : Int) = F i (x :: t) s)
    {fuel : Nat} {s : σ} (hf : l.length < fuel) (hI : I 0 s) : loop2 B fuel s 0 = F 0 l s := by
  refine up_list (L := fun n i s => loop2 B n s i) I F l hl ?_ ?_ fuel s hf hI
  · intro n s h; show loop2 B (n + 1) _ _ = _; rw [loop2_succ]; exact hE _ _ h
  · intro n i s x t h1 h2 h3 h4 ih; show loop2 B (n + 1) _ _ = _; rw [loop2_succ]; exact hS _ i s x t h1 h2 h3 h4 ih

/-- the same, where the answer needs the index -/
theorem up_listI {B : (Int → Option R) → Int → Option R} (F : Nat → List α → Option R) (l : List α) (hl : l.length < 9223372036854775807)
    (hE : ∀ sf, B sf (l.length : Nat) = F l.length [])
    (hS : ∀ sf (i : Nat) x t, i < l.length → l[i]? = some x → IntKind.i64.wrap ((i : Int) + 1) = (i : Int) + 1 →
      sf ((i : Int) + 1) = F (i + 1) t → B sf (i : Int) = F i (x :: t))
    {fuel : Nat} (hf : l.length < fuel) : loop1 B fuel 0 = F 0 l := by
  refine up_list (L := fun n i (_ : Unit) => loop1 B n i) (fun _ _ => True) (fun i t _ => F i t) l hl ?_ ?_ fuel () hf trivial
  · intro n _ _; show loop1 B (n + 1) _ = _; rw [loop1_succ]; exact hE _
  · intro n i _ x t h1 h2 h3 _ ih; show loop1 B (n + 1) _ = _; rw [loop1_succ]; exact hS _ i x t h1 h2 h3 (ih () trivial)
end
end Go.Fx


set_option linter.unusedVariables false
set_option linter.unusedSimpArgs false
set_option maxRecDepth 100000
set_option maxHeartbeats 0
namespace Go.Fx
open Go Go.RowKit Go.Proofs
def m17_overflightref44_Same_B1 (a : XDisk) (b : XDisk) (sf125 : Int → Option Bool) (i_2 : Int) : Option Bool :=
  bif (decide (i_2 < (a.pending.length : Int))) then
    jn (fun (v_2 : Bool) =>
      bif v_2 then
        some false
      else
        sf125 (IntKind.wrap .i64 (i_2 + 1)))
    (fun k138 =>
      ck ((0 : Int) ≤ i_2 ∧ i_2 < (a.pending.length : Int)) <|
      ck ((0 : Int) ≤ i_2 ∧ i_2 < (b.pending.length : Int)) <|
      bif (decide (((a.pending.getD i_2.toNat default).at_) ≠ ((b.pending.getD i_2.toNat default).at_))) then
        k138 true
      else
        ck ((0 : Int) ≤ i_2 ∧ i_2 < (a.pending.length : Int)) <|
        ck ((0 : Int) ≤ i_2 ∧ i_2 < (b.pending.length : Int)) <|
        k138 (decide (((a.pending.getD i_2.toNat default).data) ≠ ((b.pending.getD i_2.toNat default).data))))
  else
    some true

def m17_overflightref44_Same_B0 (a : XDisk) (b : XDisk) (sf26 : Int → Option Bool) (i_1 : Int) : Option Bool :=
  bif (decide (i_1 < (a.sectors.length : Int))) then
    ck ((0 : Int) ≤ i_1 ∧ i_1 < (a.sectors.length : Int)) <|
    ck ((0 : Int) ≤ i_1 ∧ i_1 < (b.sectors.length : Int)) <|
    bif (decide ((a.sectors.getD i_1.toNat default) ≠ (b.sectors.getD i_1.toNat default))) then
      some false
    else
      sf26 (IntKind.wrap .i64 (i_1 + 1))
  else
    loop1 (m17_overflightref44_Same_B1 a b) (((a.pending.length : Int) - 0).toNat + 1) 0

def m17_overflightref44_Same (a : XDisk) (b : XDisk) : Option Bool :=
  jn (fun (v_1 : Bool) =>
    bif v_1 then
      some false
    else
      loop1 (m17_overflightref44_Same_B0 a b) (((a.sectors.length : Int) - 0).toNat + 1) 0)
  (fun k13 =>
    bif (decide ((a.sectors.length : Int) ≠ (b.sectors.length : Int))) then
      k13 true
    else
      bif (decide ((a.pending.length : Int) ≠ (b.pending.length : Int))) then
        k13 true
      else
        bif (decide (a.left ≠ b.left)) then
          k13 true
        else
          k13 (!(a.stopped == b.stopped)))

theorem c17_overflightref44_Same {w : World} {O : List Nat} {a : XDisk} {b : XDisk} {a_a_sectors : Option Addr} {c_a_sectors : Nat} {a_a_pending : Option Addr} {c_a_pending : Nat} {a_b_sectors : Option Addr} {c_b_sectors : Nat} {a_b_pending : Option Addr} {c_b_pending : Nat} (hO : ∀ k ∈ O, k < w.heap.size) (f_a_sectors : SlR (rSl rU8) w O a_a_sectors c_a_sectors a.sectors) (f_a_pending : SlR rXWrite w O a_a_pending c_a_pending a.pending) (r_a_left : InK .i64 a.left) (f_b_sectors : SlR (rSl rU8) w O a_b_sectors c_b_sectors b.sectors) (f_b_pending : SlR rXWrite w O a_b_pending c_b_pending b.pending) (r_b_left : InK .i64 b.left) {x : Bool} (hm : m17_overflightref44_Same a b = some x) :
    Ok Try.prog 17 [(Value.agg [(Value.slice a_a_sectors a.sectors.length c_a_sectors), (Value.slice a_a_pending a.pending.length c_a_pending), (Value.int .i64 a.left), (Value.bool a.stopped)].toArray), (Value.agg [(Value.slice a_b_sectors b.sectors.length c_b_sectors), (Value.slice a_b_pending b.pending.length c_b_pending), (Value.int .i64 b.left), (Value.bool b.stopped)].toArray)] w O vB x := by
  unfold m17_overflightref44_Same at hm
  refine Fn_of_Wp (n := 94) (xs := [.tmp 4]) Try.func17 rfl Try.ntmps17 Try.results17 rfl ?_
  have hs := St.start hO
  refine Wp_seq ?_
  refine Wp_region ?_  -- 0 ref.go:114
  refine Rg_op rfl (op_box (cs := [(Value.slice a_a_sectors a.sectors.length c_a_sectors), (Value.slice a_a_pending a.pending.length c_a_pending), (Value.int .i64 a.left), (Value.bool a.stopped)]) hs rfl rfl ?_)
  intro b1 w2 _ p3 hs4
  replace f_a_sectors := f_a_sectors.step p3
  replace f_a_pending := f_a_pending.step p3
  replace f_b_sectors := f_b_sectors.step p3
  replace f_b_pending := f_b_pending.step p3
  clear p3
  refine Rg_op rfl (op_box (cs := [(Value.slice a_b_sectors b.sectors.length c_b_sectors), (Value.slice a_b_pending b.pending.length c_b_pending), (Value.int .i64 b.left), (Value.bool b.stopped)]) hs4 rfl rfl ?_)
  intro b6 w7 _ p8 hs9
  replace f_a_sectors := f_a_sectors.step p8
  replace f_a_pending := f_a_pending.step p8
  replace f_b_sectors := f_b_sectors.step p8
  replace f_b_pending := f_b_pending.step p8
  clear p8 hs4
  refine Rg_op rfl (op_assign (v := (Value.bool false)) rfl ?_)
  refine Rg_nil ?_
  refine Wp_seq ?_
  refine Wp_reset [] [(2, (Value.pointer (some ⟨b1, 0, none⟩))), (3, (Value.pointer (some ⟨b6, 0, none⟩)))] rfl ⟨rfl, rfl, trivial⟩ fun ξ11 => ?_
  replace hm := jn_elim hm; obtain ⟨k13, hk14, hm⟩ := hm
  refine Wp_seqJ [7, 8, 9, 10, 11, 12, 13, 14, 15, 16, 17, 18, 19, 20, 21, 22, 23, 24, 25, 26, 27, 28, 29, 30, 31, 32, 33, 34, 35, 36] (fun fr w' => ∃ (v_1 : Bool) (Ebs : Ents), Ebs = [(some b6, Obj.cells [(Value.slice a_b_sectors b.sectors.length c_b_sectors), (Value.slice a_b_pending b.pending.length c_b_pending), (Value.int .i64 b.left), (Value.bool b.stopped)].toArray 25), (some b1, Obj.cells [(Value.slice a_a_sectors a.sectors.length c_a_sectors), (Value.slice a_a_pending a.pending.length c_a_pending), (Value.int .i64 a.left), (Value.bool a.stopped)].toArray 25)] ∧ fr [] [(36, (Value.bool v_1))] ∧ Step (ks [(some b6, Obj.cells [(Value.slice a_b_sectors b.sectors.length c_b_sectors), (Value.slice a_b_pending b.pending.length c_b_pending), (Value.int .i64 b.left), (Value.bool b.stopped)].toArray 25), (some b1, Obj.cells [(Value.slice a_a_sectors a.sectors.length c_a_sectors), (Value.slice a_a_pending a.pending.length c_a_pending), (Value.int .i64 a.left), (Value.bool a.stopped)].toArray 25)] O) w7 (ks Ebs O) w' ∧ St ⟨w, [], []⟩ O w' Ebs ∧ k13 v_1 = some x) ?_ ?_
  ·
    rintro ρ20 w16 ⟨v_1, Ebs, hEbs, hfr19, hst18, hs17, hm⟩
    replace hm := jnE1 hk14 hm
    subst hEbs; rw [hfr19.eq]; clear hfr19
    replace f_a_sectors := f_a_sectors.step hst18
    replace f_a_pending := f_a_pending.step hst18
    replace f_b_sectors := f_b_sectors.step hst18
    replace f_b_pending := f_b_pending.step hst18
    clear hst18 hs9
    refine Wp_cond rfl (fun hc21 => ?_) (fun hc21 => ?_)
    ·
      replace hm := bif_t hm hc21
      refine Wp_seq ?_
      obtain ⟨hs22, p23⟩ := hs17.sub (bs' := []) (.cons _ (.cons _ List.Sublist.slnil))
      clear f_a_sectors f_a_pending f_b_sectors f_b_pending
      clear p23 hs17
      refine Wp_region ?_  -- 2 ref.go:116
      refine Rg_op rfl (op_assign (v := (Value.bool false)) rfl ?_)
      refine Rg_nil ?_
      refine Wp_ret ?_
      have hz := step_all hs22
      refine ⟨_, (show Closes [] _ _ from rfl), [(Value.bool false)], ⟨rfl, trivial⟩, hs22.ext, ?_⟩
      exact Vr.eq (a := vB) (x := false) rfl (Option.some.inj hm)
    ·
      replace hm := bif_f hm hc21
      refine Wp_skip ?_
      refine Wp_seq ?_
      refine Wp_seq ?_
      refine Wp_region ?_  -- 3 ref.go:118
      refine Rg_op rfl (op_assign (v := (Value.int .i64 0)) rfl ?_)
      refine Rg_nil ?_
      refine Wp_block ?_
      refine Wp_reset [] [(2, (Value.pointer (some ⟨b1, 0, none⟩))), (3, (Value.pointer (some ⟨b6, 0, none⟩))), (5, (Value.int .i64 0))] rfl ⟨rfl, rfl, rfl, trivial⟩ fun ξ25 => ?_
      refine Wp_loopM [4, 5, 37, 38, 39, 40, 41, 42, 43, 44, 45, 46, 47, 48, 49, 50, 51, 52, 53, 54, 55, 56] (fun m fr w' => ∃ (i_1 : Int) (Ebs : Ents), Ebs = [(some b6, Obj.cells [(Value.slice a_b_sectors b.sectors.length c_b_sectors), (Value.slice a_b_pending b.pending.length c_b_pending), (Value.int .i64 b.left), (Value.bool b.stopped)].toArray 25), (some b1, Obj.cells [(Value.slice a_a_sectors a.sectors.length c_a_sectors), (Value.slice a_a_pending a.pending.length c_a_pending), (Value.int .i64 a.left), (Value.bool a.stopped)].toArray 25)] ∧ fr [] [(5, (Value.int .i64 i_1))] ∧ Step (ks [(some b6, Obj.cells [(Value.slice a_b_sectors b.sectors.length c_b_sectors), (Value.slice a_b_pending b.pending.length c_b_pending), (Value.int .i64 b.left), (Value.bool b.stopped)].toArray 25), (some b1, Obj.cells [(Value.slice a_a_sectors a.sectors.length c_a_sectors), (Value.slice a_a_pending a.pending.length c_a_pending), (Value.int .i64 a.left), (Value.bool a.stopped)].toArray 25)] O) w16 (ks Ebs O) w' ∧ St ⟨w, [], []⟩ O w' Ebs ∧ InK .i64 i_1 ∧ loop1 (m17_overflightref44_Same_B0 a b) m i_1 = some x) (((a.sectors.length : Int) - 0).toNat + 1) ⟨0, _, rfl, ⟨Out.refl _ _, rfl, rfl, trivial⟩, Step.refl _ _, hs17, (show InK .i64 0 from by decide), hm⟩ ?_ ?_
      · rintro _ _ ⟨_, _, _, _, _, _, _, hm⟩; exact loop1_z hm
      · rintro m29 K28 hK28 ρ34 w30 ⟨i_1, Ebs, hEbs, hfr33, hst32, hs31, r_y24, hm⟩
        obtain ⟨sf26, hsf27, hm⟩ := loop1_s hm; unfold m17_overflightref44_Same_B0 at hm
        subst hEbs; rw [hfr33.eq]; clear hfr33
        replace f_a_sectors := f_a_sectors.step hst32
        replace f_a_pending := f_a_pending.step hst32
        replace f_b_sectors := f_b_sectors.step hst32
        replace f_b_pending := f_b_pending.step hst32
        have ch35 := hst32
        refine Wp_seq ?_
        refine Wp_seq ?_
        refine Wp_region ?_  -- 4 ref.go:118
        refine Rg_op rfl (op_move (v := (Value.int .i64 i_1)) rfl ?_)
        refine Rg_op rfl (op_fieldAddr ty25 rfl ty22 (by decide) rfl (rfl : _ = (⟨_, 0, none⟩ : Addr)) ?_)
        refine Rg_op rfl (op_load (cs := [(Value.slice a_a_sectors a.sectors.length c_a_sectors), (Value.slice a_a_pending a.pending.length c_a_pending), (Value.int .i64 a.left), (Value.bool a.stopped)]) (i := 1) ty22 hs31 rfl rfl rfl ?_)
        refine Rg_op rfl (op_len Try.underlying22 rfl ?_)
        refine Rg_op rfl (op_lss rfl rfl ?_)
        refine Rg_nil ?_
        refine Wp_cond rfl (fun hc36 => ?_) (fun hc36 => ?_)
        ·
          replace hm := bif_t hm hc36
          refine Wp_skip ?_
          refine Wp_seq ?_
          refine Wp_block ?_
          refine Wp_seq ?_
          refine Wp_drawR (g0 := []) (m := 13) (fl := []) (TS_inv hs31) (.inl rfl) rfl (by decide +kernel) ?_  -- 6
          refine Dw_eq (Value.pointer (some ⟨b1, 0, none⟩)) (fun ρ37 w38 g hle hi ht => ?_) ?_
          ·
            obtain ⟨-, hst, -⟩ := hle
            refine StepOp_plain (op_fieldAddr ty25 rfl ty22 (by decide) (ht 2 rfl) (rfl : _ = (⟨_, 0, none⟩ : Addr)) ?_)
            exact Goes.same hi rfl
          refine Dw_eq (Value.slice a_a_sectors a.sectors.length c_a_sectors) (fun ρ40 w41 g hle hi ht => ?_) ?_
          ·
            obtain ⟨-, hst, -⟩ := hle
            have hsn := (Step.nx hi).1
            refine StepOp_plain (op_load (cs := [(Value.slice a_a_sectors a.sectors.length c_a_sectors), (Value.slice a_a_pending a.pending.length c_a_pending), (Value.int .i64 a.left), (Value.bool a.stopped)]) (i := 1) ty22 hsn (ht 44 rfl) rfl rfl ?_)
            exact Goes.same hi rfl
          refine Dw_eq (Value.int .i64 i_1) (fun ρ43 w44 g hle hi ht => ?_) ?_
          ·
            obtain ⟨-, hst, -⟩ := hle
            refine StepOp_plain (op_move (v := (Value.int .i64 i_1)) (ht 5 rfl) ?_)
            exact Goes.same hi rfl
          replace hm := ck_some hm; obtain ⟨hc49, hm⟩ := hm
          refine Dw_op (VP O [(some b6, Obj.cells [(Value.slice a_b_sectors b.sectors.length c_b_sectors), (Value.slice a_b_pending b.pending.length c_b_pending), (Value.int .i64 b.left), (Value.bool b.stopped)].toArray 25), (some b1, Obj.cells [(Value.slice a_a_sectors a.sectors.length c_a_sectors), (Value.slice a_a_pending a.pending.length c_a_pending), (Value.int .i64 a.left), (Value.bool a.stopped)].toArray 25)] (rSl rU8) (a.sectors.getD i_1.toNat default)) (VP.stab _ _) (fun ρ46 w47 g hle hi ht => ?_) ?_
          ·
            obtain ⟨-, hst, -⟩ := hle
            replace f_a_sectors := f_a_sectors.step hst
            refine StepOp_plain (op_indexAddr (q := (rSl rU8)) ty22 ty41 (ht 45 rfl) (ht 46 rfl) f_a_sectors rfl hc49.1 hc49.2 ?_)
            intro p50 f51
            exact Goes.same hi ⟨_, rfl, f51⟩
          refine Dw_op (VD O [(some b6, Obj.cells [(Value.slice a_b_sectors b.sectors.length c_b_sectors), (Value.slice a_b_pending b.pending.length c_b_pending), (Value.int .i64 b.left), (Value.bool b.stopped)].toArray 25), (some b1, Obj.cells [(Value.slice a_a_sectors a.sectors.length c_a_sectors), (Value.slice a_a_pending a.pending.length c_a_pending), (Value.int .i64 a.left), (Value.bool a.stopped)].toArray 25)] (vC (rSl rU8)) (a.sectors.getD i_1.toNat default)) (VD.stab _ _) (fun ρ52 w53 g hle hi ht => ?_) ?_
          ·
            obtain ⟨-, hst, -⟩ := hle
            obtain ⟨p55, q56, f57⟩ := ht 47 rfl
            refine StepOp_plain (op_loadP ty41 q56 f57 rfl ?_)
            intro v58 h59
            obtain ⟨a_y60, c_y60, rfl, f_y60⟩ := un_sl h59
            exact Goes.same hi (show Vr.vd (vC (rSl rU8)) _ _ _ _ from (mkC (mk_sl f_y60)))
          refine Dw_eq (Value.string (bs (a.sectors.getD i_1.toNat default))) (fun ρ61 w62 g hle hi ht => ?_) ?_
          ·
            obtain ⟨-, hst, -⟩ := hle
            have h64 : Vr.vd (vC (rSl rU8)) _ _ _ _ := ht 48 rfl
            obtain ⟨a_y66, c_y66, q65, f_y66⟩ := un_sl h64
            refine StepOp_plain (op_bytesToString ty41 Try.underlying5 Try.underlying9 q65 f_y66 ?_)
            exact Goes.same hi rfl
          refine Dw_eq (Value.pointer (some ⟨b6, 0, none⟩)) (fun ρ67 w68 g hle hi ht => ?_) ?_
          ·
            obtain ⟨-, hst, -⟩ := hle
            refine StepOp_plain (op_fieldAddr ty25 rfl ty22 (by decide) (ht 3 rfl) (rfl : _ = (⟨_, 0, none⟩ : Addr)) ?_)
            exact Goes.same hi rfl
          refine Dw_eq (Value.slice a_b_sectors b.sectors.length c_b_sectors) (fun ρ70 w71 g hle hi ht => ?_) ?_
          ·
            obtain ⟨-, hst, -⟩ := hle
            have hsn := (Step.nx hi).1
            refine StepOp_plain (op_load (cs := [(Value.slice a_b_sectors b.sectors.length c_b_sectors), (Value.slice a_b_pending b.pending.length c_b_pending), (Value.int .i64 b.left), (Value.bool b.stopped)]) (i := 0) ty22 hsn (ht 50 rfl) rfl rfl ?_)
            exact Goes.same hi rfl
          refine Dw_eq (Value.int .i64 i_1) (fun ρ73 w74 g hle hi ht => ?_) ?_
          ·
            obtain ⟨-, hst, -⟩ := hle
            refine StepOp_plain (op_move (v := (Value.int .i64 i_1)) (ht 5 rfl) ?_)
            exact Goes.same hi rfl
          replace hm := ck_some hm; obtain ⟨hc79, hm⟩ := hm
          refine Dw_op (VP O [(some b6, Obj.cells [(Value.slice a_b_sectors b.sectors.length c_b_sectors), (Value.slice a_b_pending b.pending.length c_b_pending), (Value.int .i64 b.left), (Value.bool b.stopped)].toArray 25), (some b1, Obj.cells [(Value.slice a_a_sectors a.sectors.length c_a_sectors), (Value.slice a_a_pending a.pending.length c_a_pending), (Value.int .i64 a.left), (Value.bool a.stopped)].toArray 25)] (rSl rU8) (b.sectors.getD i_1.toNat default)) (VP.stab _ _) (fun ρ76 w77 g hle hi ht => ?_) ?_
          ·
            obtain ⟨-, hst, -⟩ := hle
            replace f_b_sectors := f_b_sectors.step hst
            refine StepOp_plain (op_indexAddr (q := (rSl rU8)) ty22 ty41 (ht 51 rfl) (ht 52 rfl) f_b_sectors rfl hc79.1 hc79.2 ?_)
            intro p80 f81
            exact Goes.same hi ⟨_, rfl, f81⟩
          refine Dw_op (VD O [(some b6, Obj.cells [(Value.slice a_b_sectors b.sectors.length c_b_sectors), (Value.slice a_b_pending b.pending.length c_b_pending), (Value.int .i64 b.left), (Value.bool b.stopped)].toArray 25), (some b1, Obj.cells [(Value.slice a_a_sectors a.sectors.length c_a_sectors), (Value.slice a_a_pending a.pending.length c_a_pending), (Value.int .i64 a.left), (Value.bool a.stopped)].toArray 25)] (vC (rSl rU8)) (b.sectors.getD i_1.toNat default)) (VD.stab _ _) (fun ρ82 w83 g hle hi ht => ?_) ?_
          ·
            obtain ⟨-, hst, -⟩ := hle
            obtain ⟨p85, q86, f87⟩ := ht 53 rfl
            refine StepOp_plain (op_loadP ty41 q86 f87 rfl ?_)
            intro v88 h89
            obtain ⟨a_y90, c_y90, rfl, f_y90⟩ := un_sl h89
            exact Goes.same hi (show Vr.vd (vC (rSl rU8)) _ _ _ _ from (mkC (mk_sl f_y90)))
          refine Dw_eq (Value.string (bs (b.sectors.getD i_1.toNat default))) (fun ρ91 w92 g hle hi ht => ?_) ?_
          ·
            obtain ⟨-, hst, -⟩ := hle
            have h94 : Vr.vd (vC (rSl rU8)) _ _ _ _ := ht 54 rfl
            obtain ⟨a_y96, c_y96, q95, f_y96⟩ := un_sl h94
            refine StepOp_plain (op_bytesToString ty41 Try.underlying5 Try.underlying9 q95 f_y96 ?_)
            exact Goes.same hi rfl
          refine Dw_eq (Value.bool (decide ((a.sectors.getD i_1.toNat default) ≠ (b.sectors.getD i_1.toNat default)))) (fun ρ97 w98 g hle hi ht => ?_) ?_
          ·
            obtain ⟨-, hst, -⟩ := hle
            refine StepOp_plain (op_neqs (a := (a.sectors.getD i_1.toNat default)) (b := (b.sectors.getD i_1.toNat default)) (ht 49 rfl) (ht 55 rfl) ?_)
            exact Goes.same hi rfl
          refine Dw_nil fun w104 g105 hl106 hi107 => ?_
          obtain ⟨-, hst108, -⟩ := hl106
          obtain ⟨hs110, p109⟩ := Step.nx hi107
          rintro _ rfl
          rintro _ rfl
          rintro v111 h112
          replace h112 : Vr.vd (vC (rSl rU8)) _ _ _ _ := h112
          obtain ⟨a_y113, c_y113, rfl, f_y113⟩ := un_sl h112
          rintro _ ⟨p114, rfl, f115⟩
          rintro _ rfl
          rintro _ rfl
          rintro _ rfl
          rintro _ rfl
          rintro v116 h117
          replace h117 : Vr.vd (vC (rSl rU8)) _ _ _ _ := h117
          obtain ⟨a_y118, c_y118, rfl, f_y118⟩ := un_sl h117
          rintro _ ⟨p119, rfl, f120⟩
          rintro _ rfl
          rintro _ rfl
          rintro _ rfl
          have p121 : Step (ks [(some b6, Obj.cells [(Value.slice a_b_sectors b.sectors.length c_b_sectors), (Value.slice a_b_pending b.pending.length c_b_pending), (Value.int .i64 b.left), (Value.bool b.stopped)].toArray 25), (some b1, Obj.cells [(Value.slice a_a_sectors a.sectors.length c_a_sectors), (Value.slice a_a_pending a.pending.length c_a_pending), (Value.int .i64 a.left), (Value.bool a.stopped)].toArray 25)] O) w30 (ks [(some b6, Obj.cells [(Value.slice a_b_sectors b.sectors.length c_b_sectors), (Value.slice a_b_pending b.pending.length c_b_pending), (Value.int .i64 b.left), (Value.bool b.stopped)].toArray 25), (some b1, Obj.cells [(Value.slice a_a_sectors a.sectors.length c_a_sectors), (Value.slice a_a_pending a.pending.length c_a_pending), (Value.int .i64 a.left), (Value.bool a.stopped)].toArray 25)] O) w104 := hst108.trans p109
          replace f_y113 := f_y113.step p109
          replace f115 := f115.step p109
          replace f_y118 := f_y118.step p109
          replace f120 := f120.step p109
          replace f_a_sectors := f_a_sectors.step p121
          replace f_a_pending := f_a_pending.step p121
          replace f_b_sectors := f_b_sectors.step p121
          replace f_b_pending := f_b_pending.step p121
          replace ch35 := ch35.trans p121
          clear p121 hs31
          refine Rg_nil ?_
          refine Wp_cond rfl (fun hc122 => ?_) (fun hc122 => ?_)
          ·
            replace hm := bif_t hm hc122
            refine Wp_seq ?_
            clear f_y113 f115 f_y118 f120
            refine Wp_region ?_  -- 7 ref.go:120
            refine Rg_op rfl (op_assign (v := (Value.bool false)) rfl ?_)
            refine Rg_nil ?_
            refine Wp_ret ?_
            have hz := step_all hs110
            replace f_a_sectors := f_a_sectors.step hz
            replace f_a_pending := f_a_pending.step hz
            replace f_b_sectors := f_b_sectors.step hz
            replace f_b_pending := f_b_pending.step hz
            refine ⟨_, (show Closes [] _ _ from rfl), [(Value.bool false)], ⟨rfl, trivial⟩, hs110.ext, ?_⟩
            exact Vr.eq (a := vB) (x := false) rfl (Option.some.inj hm)
          ·
            replace hm := bif_f hm hc122
            refine Wp_skip ?_
            clear f_y113 f115 f_y118 f120
            refine Wp_region ?_  -- 5 ref.go:118
            refine Rg_op rfl (op_move (v := (Value.int .i64 i_1)) rfl ?_)
            refine Rg_op rfl (op_addw rfl rfl ?_)
            refine Rg_op rfl (op_assign (v := (Value.int .i64 (IntKind.wrap .i64 (i_1 + 1)))) rfl ?_)
            refine Rg_nil ?_
            exact hK28 _ _ ⟨(IntKind.wrap .i64 (i_1 + 1)), _, rfl, ⟨(by repeat (first | with_reducible exact Out.refl _ _ | refine Out.upd ?_ rfl | refine Out.updL ?_ rfl | refine Out.mix' ?_ rfl | exact Out.refl _ _)), rfl, rfl, trivial⟩, ch35, hs110, (inK_wrap .i64 _), jnE1 hsf27 hm⟩
        ·
          replace hm := bif_f hm hc36
          refine Wp_exit ?_
          refine Wp_seq ?_
          refine Wp_seq ?_
          refine Wp_region ?_  -- 8 ref.go:123
          refine Rg_op rfl (op_assign (v := (Value.int .i64 0)) rfl ?_)
          refine Rg_nil ?_
          refine Wp_block ?_
          refine Wp_reset [] [(2, (Value.pointer (some ⟨b1, 0, none⟩))), (3, (Value.pointer (some ⟨b6, 0, none⟩))), (6, (Value.int .i64 0))] rfl ⟨rfl, rfl, rfl, trivial⟩ fun ξ124 => ?_
          refine Wp_loopM [4, 6, 57, 58, 59, 60, 61, 62, 63, 64, 65, 66, 67, 68, 69, 70, 71, 72, 73, 74, 75, 76, 77, 78, 79, 80, 81, 82, 83, 84, 85, 86, 87, 88, 89, 90, 91, 92, 93] (fun m fr w' => ∃ (i_2 : Int) (Ebs : Ents), Ebs = [(some b6, Obj.cells [(Value.slice a_b_sectors b.sectors.length c_b_sectors), (Value.slice a_b_pending b.pending.length c_b_pending), (Value.int .i64 b.left), (Value.bool b.stopped)].toArray 25), (some b1, Obj.cells [(Value.slice a_a_sectors a.sectors.length c_a_sectors), (Value.slice a_a_pending a.pending.length c_a_pending), (Value.int .i64 a.left), (Value.bool a.stopped)].toArray 25)] ∧ fr [] [(6, (Value.int .i64 i_2))] ∧ Step (ks [(some b6, Obj.cells [(Value.slice a_b_sectors b.sectors.length c_b_sectors), (Value.slice a_b_pending b.pending.length c_b_pending), (Value.int .i64 b.left), (Value.bool b.stopped)].toArray 25), (some b1, Obj.cells [(Value.slice a_a_sectors a.sectors.length c_a_sectors), (Value.slice a_a_pending a.pending.length c_a_pending), (Value.int .i64 a.left), (Value.bool a.stopped)].toArray 25)] O) w30 (ks Ebs O) w' ∧ St ⟨w, [], []⟩ O w' Ebs ∧ InK .i64 i_2 ∧ loop1 (m17_overflightref44_Same_B1 a b) m i_2 = some x) (((a.pending.length : Int) - 0).toNat + 1) ⟨0, _, rfl, ⟨Out.refl _ _, rfl, rfl, trivial⟩, Step.refl _ _, hs31, (show InK .i64 0 from by decide), hm⟩ ?_ ?_
          · rintro _ _ ⟨_, _, _, _, _, _, _, hm⟩; exact loop1_z hm
          · rintro m128 K127 hK127 ρ133 w129 ⟨i_2, Ebs, hEbs, hfr132, hst131, hs130, r_y123, hm⟩
            obtain ⟨sf125, hsf126, hm⟩ := loop1_s hm; unfold m17_overflightref44_Same_B1 at hm
            subst hEbs; rw [hfr132.eq]; clear hfr132
            replace f_a_sectors := f_a_sectors.step hst131
            replace f_a_pending := f_a_pending.step hst131
            replace f_b_sectors := f_b_sectors.step hst131
            replace f_b_pending := f_b_pending.step hst131
            replace ch35 := ch35.trans hst131
            have ch134 := hst131
            refine Wp_seq ?_
            refine Wp_seq ?_
            refine Wp_region ?_  -- 9 ref.go:123
            refine Rg_op rfl (op_move (v := (Value.int .i64 i_2)) rfl ?_)
            refine Rg_op rfl (op_fieldAddr ty25 rfl ty23 (by decide) rfl (rfl : _ = (⟨_, 1, none⟩ : Addr)) ?_)
            refine Rg_op rfl (op_load (cs := [(Value.slice a_a_sectors a.sectors.length c_a_sectors), (Value.slice a_a_pending a.pending.length c_a_pending), (Value.int .i64 a.left), (Value.bool a.stopped)]) (i := 1) ty23 hs130 rfl rfl rfl ?_)
            refine Rg_op rfl (op_len Try.underlying23 rfl ?_)
            refine Rg_op rfl (op_lss rfl rfl ?_)
            refine Rg_nil ?_
            refine Wp_cond rfl (fun hc135 => ?_) (fun hc135 => ?_)
            ·
              replace hm := bif_t hm hc135
              refine Wp_skip ?_
              refine Wp_seq ?_
              refine Wp_block ?_
              refine Wp_reset2 [4, 6, 57, 58, 59, 60, 61, 62, 63, 64, 65, 66, 67, 68, 69, 70, 71, 72, 73, 74, 75, 76, 77, 78, 79, 80, 81, 82, 83, 84, 85, 86, 87, 88, 89, 90, 91, 92, 93] [] (updL ⟨ξ124, []⟩ [(2, (Value.pointer (some ⟨b1, 0, none⟩))), (3, (Value.pointer (some ⟨b6, 0, none⟩))), (6, (Value.int .i64 0))]) [(6, (Value.int .i64 i_2))] (by repeat (first | with_reducible exact Out.refl _ _ | refine Out.upd ?_ rfl | refine Out.updL ?_ rfl | refine Out.mix' ?_ rfl | exact Out.refl _ _)) rfl ⟨rfl, trivial⟩ fun ξ136 => ?_
              replace hm := jn_elim hm; obtain ⟨k138, hk139, hm⟩ := hm
              refine Wp_seqJ [64, 65, 66, 67, 68, 69, 70, 71, 72, 73, 74, 75, 76, 77, 78, 79, 80, 81, 82, 83, 84, 85, 86, 87, 88, 89, 90, 91, 92, 93] (fun fr w' => ∃ (v_2 : Bool) (Ebs : Ents), Ebs = [(some b6, Obj.cells [(Value.slice a_b_sectors b.sectors.length c_b_sectors), (Value.slice a_b_pending b.pending.length c_b_pending), (Value.int .i64 b.left), (Value.bool b.stopped)].toArray 25), (some b1, Obj.cells [(Value.slice a_a_sectors a.sectors.length c_a_sectors), (Value.slice a_a_pending a.pending.length c_a_pending), (Value.int .i64 a.left), (Value.bool a.stopped)].toArray 25)] ∧ fr [] [(93, (Value.bool v_2))] ∧ Step (ks [(some b6, Obj.cells [(Value.slice a_b_sectors b.sectors.length c_b_sectors), (Value.slice a_b_pending b.pending.length c_b_pending), (Value.int .i64 b.left), (Value.bool b.stopped)].toArray 25), (some b1, Obj.cells [(Value.slice a_a_sectors a.sectors.length c_a_sectors), (Value.slice a_a_pending a.pending.length c_a_pending), (Value.int .i64 a.left), (Value.bool a.stopped)].toArray 25)] O) w129 (ks Ebs O) w' ∧ St ⟨w, [], []⟩ O w' Ebs ∧ k138 v_2 = some x) ?_ ?_
              ·
                rintro ρ145 w141 ⟨v_2, Ebs, hEbs, hfr144, hst143, hs142, hm⟩
                replace hm := jnE1 hk139 hm
                subst hEbs; rw [hfr144.eq]; clear hfr144
                replace f_a_sectors := f_a_sectors.step hst143
                replace f_a_pending := f_a_pending.step hst143
                replace f_b_sectors := f_b_sectors.step hst143
                replace f_b_pending := f_b_pending.step hst143
                replace ch35 := ch35.trans hst143
                replace ch134 := ch134.trans hst143
                clear hst143 hs130
                refine Wp_cond rfl (fun hc146 => ?_) (fun hc146 => ?_)
                ·
                  replace hm := bif_t hm hc146
                  refine Wp_seq ?_
                  refine Wp_region ?_  -- 12 ref.go:125
                  refine Rg_op rfl (op_assign (v := (Value.bool false)) rfl ?_)
                  refine Rg_nil ?_
                  refine Wp_ret ?_
                  have hz := step_all hs142
                  replace f_a_sectors := f_a_sectors.step hz
                  replace f_a_pending := f_a_pending.step hz
                  replace f_b_sectors := f_b_sectors.step hz
                  replace f_b_pending := f_b_pending.step hz
                  refine ⟨_, (show Closes [] _ _ from rfl), [(Value.bool false)], ⟨rfl, trivial⟩, hs142.ext, ?_⟩
                  exact Vr.eq (a := vB) (x := false) rfl (Option.some.inj hm)
                ·
                  replace hm := bif_f hm hc146
                  refine Wp_skip ?_
                  refine Wp_region ?_  -- 10 ref.go:123
                  refine Rg_op rfl (op_move (v := (Value.int .i64 i_2)) rfl ?_)
                  refine Rg_op rfl (op_addw rfl rfl ?_)
                  refine Rg_op rfl (op_assign (v := (Value.int .i64 (IntKind.wrap .i64 (i_2 + 1)))) rfl ?_)
                  refine Rg_nil ?_
                  exact hK127 _ _ ⟨(IntKind.wrap .i64 (i_2 + 1)), _, rfl, ⟨(by repeat (first | with_reducible exact Out.refl _ _ | refine Out.upd ?_ rfl | refine Out.updL ?_ rfl | refine Out.mix' ?_ rfl | exact Out.refl _ _)), rfl, rfl, trivial⟩, ch134, hs142, (inK_wrap .i64 _), jnE1 hsf126 hm⟩
              ·
                intro K140 hK140
                have ch147 := Step.refl (ks [(some b6, Obj.cells [(Value.slice a_b_sectors b.sectors.length c_b_sectors), (Value.slice a_b_pending b.pending.length c_b_pending), (Value.int .i64 b.left), (Value.bool b.stopped)].toArray 25), (some b1, Obj.cells [(Value.slice a_a_sectors a.sectors.length c_a_sectors), (Value.slice a_a_pending a.pending.length c_a_pending), (Value.int .i64 a.left), (Value.bool a.stopped)].toArray 25)] O) w129
                refine Wp_drawR (g0 := []) (m := 30) (fl := []) (TS_inv hs130) (.inl rfl) rfl (by decide +kernel) ?_  -- 11
                refine Dw_eq (Value.pointer (some ⟨b1, 1, none⟩)) (fun ρ148 w149 g hle hi ht => ?_) ?_
                ·
                  obtain ⟨-, hst, -⟩ := hle
                  refine StepOp_plain (op_fieldAddr ty25 rfl ty23 (by decide) (ht 2 rfl) (rfl : _ = (⟨_, 1, none⟩ : Addr)) ?_)
                  exact Goes.same hi rfl
                refine Dw_eq (Value.slice a_a_pending a.pending.length c_a_pending) (fun ρ151 w152 g hle hi ht => ?_) ?_
                ·
                  obtain ⟨-, hst, -⟩ := hle
                  have hsn := (Step.nx hi).1
                  refine StepOp_plain (op_load (cs := [(Value.slice a_a_sectors a.sectors.length c_a_sectors), (Value.slice a_a_pending a.pending.length c_a_pending), (Value.int .i64 a.left), (Value.bool a.stopped)]) (i := 1) ty23 hsn (ht 64 rfl) rfl rfl ?_)
                  exact Goes.same hi rfl
                refine Dw_eq (Value.int .i64 i_2) (fun ρ154 w155 g hle hi ht => ?_) ?_
                ·
                  obtain ⟨-, hst, -⟩ := hle
                  refine StepOp_plain (op_move (v := (Value.int .i64 i_2)) (ht 6 rfl) ?_)
                  exact Goes.same hi rfl
                replace hm := ck_some hm; obtain ⟨hc160, hm⟩ := hm
                refine Dw_op (VP O [(some b6, Obj.cells [(Value.slice a_b_sectors b.sectors.length c_b_sectors), (Value.slice a_b_pending b.pending.length c_b_pending), (Value.int .i64 b.left), (Value.bool b.stopped)].toArray 25), (some b1, Obj.cells [(Value.slice a_a_sectors a.sectors.length c_a_sectors), (Value.slice a_a_pending a.pending.length c_a_pending), (Value.int .i64 a.left), (Value.bool a.stopped)].toArray 25)] rXWrite (a.pending.getD i_2.toNat default)) (VP.stab _ _) (fun ρ157 w158 g hle hi ht => ?_) ?_
                ·
                  obtain ⟨-, hst, -⟩ := hle
                  replace f_a_pending := f_a_pending.step hst
                  refine StepOp_plain (op_indexAddr (q := rXWrite) ty23 ty73 (ht 65 rfl) (ht 66 rfl) f_a_pending rfl hc160.1 hc160.2 ?_)
                  intro p161 f162
                  exact Goes.same hi ⟨_, rfl, f162⟩
                refine Dw_op (VP O [(some b6, Obj.cells [(Value.slice a_b_sectors b.sectors.length c_b_sectors), (Value.slice a_b_pending b.pending.length c_b_pending), (Value.int .i64 b.left), (Value.bool b.stopped)].toArray 25), (some b1, Obj.cells [(Value.slice a_a_sectors a.sectors.length c_a_sectors), (Value.slice a_a_pending a.pending.length c_a_pending), (Value.int .i64 a.left), (Value.bool a.stopped)].toArray 25)] (rInt .i64) ((a.pending.getD i_2.toNat default).at_)) (VP.stab _ _) (fun ρ163 w164 g hle hi ht => ?_) ?_
                ·
                  obtain ⟨-, hst, -⟩ := hle
                  obtain ⟨p166, q167, f168⟩ := ht 67 rfl
                  refine StepOp_plain (op_fieldAddr ty73 rfl ty3 (by decide) q167 rfl ?_)
                  have f169 := f168.via.fst
                  exact Goes.same hi ⟨_, rfl, f169⟩
                refine Dw_op (VD O [(some b6, Obj.cells [(Value.slice a_b_sectors b.sectors.length c_b_sectors), (Value.slice a_b_pending b.pending.length c_b_pending), (Value.int .i64 b.left), (Value.bool b.stopped)].toArray 25), (some b1, Obj.cells [(Value.slice a_a_sectors a.sectors.length c_a_sectors), (Value.slice a_a_pending a.pending.length c_a_pending), (Value.int .i64 a.left), (Value.bool a.stopped)].toArray 25)] (vI .i64) ((a.pending.getD i_2.toNat default).at_)) (VD.stab _ _) (fun ρ170 w171 g hle hi ht => ?_) ?_
                ·
                  obtain ⟨-, hst, -⟩ := hle
                  obtain ⟨p173, q174, f175⟩ := ht 68 rfl
                  refine StepOp_plain (op_loadP ty3 q174 f175 rfl ?_)
                  intro v176 h177
                  obtain ⟨rfl, r_y178⟩ := un_int h177
                  exact Goes.same hi (show Vr.vd (vI .i64) _ _ _ _ from ⟨rfl, r_y178⟩)
                refine Dw_eq (Value.pointer (some ⟨b6, 1, none⟩)) (fun ρ179 w180 g hle hi ht => ?_) ?_
                ·
                  obtain ⟨-, hst, -⟩ := hle
                  refine StepOp_plain (op_fieldAddr ty25 rfl ty23 (by decide) (ht 3 rfl) (rfl : _ = (⟨_, 1, none⟩ : Addr)) ?_)
                  exact Goes.same hi rfl
                refine Dw_eq (Value.slice a_b_pending b.pending.length c_b_pending) (fun ρ182 w183 g hle hi ht => ?_) ?_
                ·
                  obtain ⟨-, hst, -⟩ := hle
                  have hsn := (Step.nx hi).1
                  refine StepOp_plain (op_load (cs := [(Value.slice a_b_sectors b.sectors.length c_b_sectors), (Value.slice a_b_pending b.pending.length c_b_pending), (Value.int .i64 b.left), (Value.bool b.stopped)]) (i := 0) ty23 hsn (ht 70 rfl) rfl rfl ?_)
                  exact Goes.same hi rfl
                refine Dw_eq (Value.int .i64 i_2) (fun ρ185 w186 g hle hi ht => ?_) ?_
                ·
                  obtain ⟨-, hst, -⟩ := hle
                  refine StepOp_plain (op_move (v := (Value.int .i64 i_2)) (ht 6 rfl) ?_)
                  exact Goes.same hi rfl
                replace hm := ck_some hm; obtain ⟨hc191, hm⟩ := hm
                refine Dw_op (VP O [(some b6, Obj.cells [(Value.slice a_b_sectors b.sectors.length c_b_sectors), (Value.slice a_b_pending b.pending.length c_b_pending), (Value.int .i64 b.left), (Value.bool b.stopped)].toArray 25), (some b1, Obj.cells [(Value.slice a_a_sectors a.sectors.length c_a_sectors), (Value.slice a_a_pending a.pending.length c_a_pending), (Value.int .i64 a.left), (Value.bool a.stopped)].toArray 25)] rXWrite (b.pending.getD i_2.toNat default)) (VP.stab _ _) (fun ρ188 w189 g hle hi ht => ?_) ?_
                ·
                  obtain ⟨-, hst, -⟩ := hle
                  replace f_b_pending := f_b_pending.step hst
                  refine StepOp_plain (op_indexAddr (q := rXWrite) ty23 ty73 (ht 71 rfl) (ht 72 rfl) f_b_pending rfl hc191.1 hc191.2 ?_)
                  intro p192 f193
                  exact Goes.same hi ⟨_, rfl, f193⟩
                refine Dw_op (VP O [(some b6, Obj.cells [(Value.slice a_b_sectors b.sectors.length c_b_sectors), (Value.slice a_b_pending b.pending.length c_b_pending), (Value.int .i64 b.left), (Value.bool b.stopped)].toArray 25), (some b1, Obj.cells [(Value.slice a_a_sectors a.sectors.length c_a_sectors), (Value.slice a_a_pending a.pending.length c_a_pending), (Value.int .i64 a.left), (Value.bool a.stopped)].toArray 25)] (rInt .i64) ((b.pending.getD i_2.toNat default).at_)) (VP.stab _ _) (fun ρ194 w195 g hle hi ht => ?_) ?_
                ·
                  obtain ⟨-, hst, -⟩ := hle
                  obtain ⟨p197, q198, f199⟩ := ht 73 rfl
                  refine StepOp_plain (op_fieldAddr ty73 rfl ty3 (by decide) q198 rfl ?_)
                  have f200 := f199.via.fst
                  exact Goes.same hi ⟨_, rfl, f200⟩
                refine Dw_op (VD O [(some b6, Obj.cells [(Value.slice a_b_sectors b.sectors.length c_b_sectors), (Value.slice a_b_pending b.pending.length c_b_pending), (Value.int .i64 b.left), (Value.bool b.stopped)].toArray 25), (some b1, Obj.cells [(Value.slice a_a_sectors a.sectors.length c_a_sectors), (Value.slice a_a_pending a.pending.length c_a_pending), (Value.int .i64 a.left), (Value.bool a.stopped)].toArray 25)] (vI .i64) ((b.pending.getD i_2.toNat default).at_)) (VD.stab _ _) (fun ρ201 w202 g hle hi ht => ?_) ?_
                ·
                  obtain ⟨-, hst, -⟩ := hle
                  obtain ⟨p204, q205, f206⟩ := ht 74 rfl
                  refine StepOp_plain (op_loadP ty3 q205 f206 rfl ?_)
                  intro v207 h208
                  obtain ⟨rfl, r_y209⟩ := un_int h208
                  exact Goes.same hi (show Vr.vd (vI .i64) _ _ _ _ from ⟨rfl, r_y209⟩)
                refine Dw_eq (Value.bool (decide (((a.pending.getD i_2.toNat default).at_) ≠ ((b.pending.getD i_2.toNat default).at_)))) (fun ρ210 w211 g hle hi ht => ?_) ?_
                ·
                  obtain ⟨-, hst, -⟩ := hle
                  have h213 : Vr.vd (vI .i64) _ _ _ _ := ht 69 rfl
                  obtain ⟨q214, r_y215⟩ := h213
                  have h216 : Vr.vd (vI .i64) _ _ _ _ := ht 75 rfl
                  obtain ⟨q217, r_y218⟩ := h216
                  refine StepOp_plain (op_neq q214 q217 ?_)
                  exact Goes.same hi rfl
                refine Dw_opB (decide (((a.pending.getD i_2.toNat default).at_) ≠ ((b.pending.getD i_2.toNat default).at_))) (fun ρ219 w220 g hle hi ht => ?_) (fun hg222 => ?_) (fun hg222 => ?_)
                ·
                  obtain ⟨-, hst, -⟩ := hle
                  refine StepOp_plain (op_move (v := (Value.bool (decide (((a.pending.getD i_2.toNat default).at_) ≠ ((b.pending.getD i_2.toNat default).at_))))) (ht 76 rfl) ?_)
                  exact Goes.same hi rfl
                ·
                  replace hm := bif_t hm hg222
                  refine Dw_skip (fun _ _ _ ht => wanted_x rfl (ht 77 rfl) rfl) ?_
                  refine Dw_skip (fun _ _ _ ht => wanted_x rfl (ht 77 rfl) rfl) ?_
                  refine Dw_skip (fun _ _ _ ht => wanted_x rfl (ht 77 rfl) rfl) ?_
                  refine Dw_skip (fun _ _ _ ht => wanted_x rfl (ht 77 rfl) rfl) ?_
                  refine Dw_skip (fun _ _ _ ht => wanted_x rfl (ht 77 rfl) rfl) ?_
                  refine Dw_skip (fun _ _ _ ht => wanted_x rfl (ht 77 rfl) rfl) ?_
                  refine Dw_skip (fun _ _ _ ht => wanted_x rfl (ht 77 rfl) rfl) ?_
                  refine Dw_skip (fun _ _ _ ht => wanted_x rfl (ht 77 rfl) rfl) ?_
                  refine Dw_skip (fun _ _ _ ht => wanted_x rfl (ht 77 rfl) rfl) ?_
                  refine Dw_skip (fun _ _ _ ht => wanted_x rfl (ht 77 rfl) rfl) ?_
                  refine Dw_skip (fun _ _ _ ht => wanted_x rfl (ht 77 rfl) rfl) ?_
                  refine Dw_skip (fun _ _ _ ht => wanted_x rfl (ht 77 rfl) rfl) ?_
                  refine Dw_skip (fun _ _ _ ht => wanted_x rfl (ht 77 rfl) rfl) ?_
                  refine Dw_skip (fun _ _ _ ht => wanted_x rfl (ht 77 rfl) rfl) ?_
                  refine Dw_skip (fun _ _ _ ht => wanted_x rfl (ht 77 rfl) rfl) ?_
                  refine Dw_eq (Value.bool true) (fun ρ223 w224 g hle hi ht => ?_) ?_
                  ·
                    obtain ⟨-, hst, -⟩ := hle
                    refine StepOp_plain (op_pick_t (v := (Value.bool true)) (ht 77 rfl) rfl ?_)
                    exact Goes.same hi rfl
                  refine Dw_nil fun w230 g231 hl232 hi233 => ?_
                  obtain ⟨-, hst234, -⟩ := hl232
                  obtain ⟨hs236, p235⟩ := Step.nx hi233
                  rintro _ rfl
                  rintro _ rfl
                  rintro _ rfl
                  rintro _ rfl
                  rintro _ rfl
                  rintro _ rfl
                  rintro _ rfl
                  rintro _ rfl
                  rintro _ rfl
                  rintro _ rfl
                  rintro _ rfl
                  rintro _ rfl
                  rintro _ rfl
                  rintro _ rfl
                  rintro _ rfl
                  rintro _ rfl
                  rintro _ rfl
                  rintro _ rfl
                  rintro v237 h238
                  replace h238 : Vr.vd (vI .i64) _ _ _ _ := h238
                  obtain ⟨rfl, r_y239⟩ := h238
                  rintro _ ⟨p240, rfl, f241⟩
                  rintro _ ⟨p242, rfl, f243⟩
                  rintro _ rfl
                  rintro _ rfl
                  rintro _ rfl
                  rintro v244 h245
                  replace h245 : Vr.vd (vI .i64) _ _ _ _ := h245
                  obtain ⟨rfl, r_y246⟩ := h245
                  rintro _ ⟨p247, rfl, f248⟩
                  rintro _ ⟨p249, rfl, f250⟩
                  rintro _ rfl
                  rintro _ rfl
                  rintro _ rfl
                  have p251 : Step (ks [(some b6, Obj.cells [(Value.slice a_b_sectors b.sectors.length c_b_sectors), (Value.slice a_b_pending b.pending.length c_b_pending), (Value.int .i64 b.left), (Value.bool b.stopped)].toArray 25), (some b1, Obj.cells [(Value.slice a_a_sectors a.sectors.length c_a_sectors), (Value.slice a_a_pending a.pending.length c_a_pending), (Value.int .i64 a.left), (Value.bool a.stopped)].toArray 25)] O) w129 (ks [(some b6, Obj.cells [(Value.slice a_b_sectors b.sectors.length c_b_sectors), (Value.slice a_b_pending b.pending.length c_b_pending), (Value.int .i64 b.left), (Value.bool b.stopped)].toArray 25), (some b1, Obj.cells [(Value.slice a_a_sectors a.sectors.length c_a_sectors), (Value.slice a_a_pending a.pending.length c_a_pending), (Value.int .i64 a.left), (Value.bool a.stopped)].toArray 25)] O) w230 := hst234.trans p235
                  replace f241 := f241.step p235
                  replace f243 := f243.step p235
                  replace f248 := f248.step p235
                  replace f250 := f250.step p235
                  replace f_a_sectors := f_a_sectors.step p251
                  replace f_a_pending := f_a_pending.step p251
                  replace f_b_sectors := f_b_sectors.step p251
                  replace f_b_pending := f_b_pending.step p251
                  replace ch35 := ch35.trans p251
                  replace ch134 := ch134.trans p251
                  replace ch147 := ch147.trans p251
                  clear p251 hs130
                  refine Rg_nil ?_
                  exact hK140 _ _ ⟨true, _, rfl, ⟨(by repeat (first | with_reducible exact Out.refl _ _ | refine Out.upd ?_ rfl | refine Out.updL ?_ rfl | refine Out.mix' ?_ rfl | exact Out.refl _ _)), rfl, rfl, trivial⟩, ch147, hs236, hm⟩
                ·
                  replace hm := bif_f hm hg222
                  refine Dw_eq (Value.pointer (some ⟨b1, 1, none⟩)) (fun ρ252 w253 g hle hi ht => ?_) ?_
                  ·
                    obtain ⟨-, hst, -⟩ := hle
                    refine StepOp_g rfl (ht 77 rfl) (op_fieldAddr ty25 rfl ty23 (by decide) (ht 2 rfl) (rfl : _ = (⟨_, 1, none⟩ : Addr)) ?_)
                    exact Goes.same hi rfl
                  refine Dw_eq (Value.slice a_a_pending a.pending.length c_a_pending) (fun ρ255 w256 g hle hi ht => ?_) ?_
                  ·
                    obtain ⟨-, hst, -⟩ := hle
                    have hsn := (Step.nx hi).1
                    refine StepOp_g rfl (ht 77 rfl) (op_load (cs := [(Value.slice a_a_sectors a.sectors.length c_a_sectors), (Value.slice a_a_pending a.pending.length c_a_pending), (Value.int .i64 a.left), (Value.bool a.stopped)]) (i := 1) ty23 hsn (ht 78 rfl) rfl rfl ?_)
                    exact Goes.same hi rfl
                  refine Dw_eq (Value.int .i64 i_2) (fun ρ258 w259 g hle hi ht => ?_) ?_
                  ·
                    obtain ⟨-, hst, -⟩ := hle
                    refine StepOp_g rfl (ht 77 rfl) (op_move (v := (Value.int .i64 i_2)) (ht 6 rfl) ?_)
                    exact Goes.same hi rfl
                  replace hm := ck_some hm; obtain ⟨hc264, hm⟩ := hm
                  refine Dw_op (VP O [(some b6, Obj.cells [(Value.slice a_b_sectors b.sectors.length c_b_sectors), (Value.slice a_b_pending b.pending.length c_b_pending), (Value.int .i64 b.left), (Value.bool b.stopped)].toArray 25), (some b1, Obj.cells [(Value.slice a_a_sectors a.sectors.length c_a_sectors), (Value.slice a_a_pending a.pending.length c_a_pending), (Value.int .i64 a.left), (Value.bool a.stopped)].toArray 25)] rXWrite (a.pending.getD i_2.toNat default)) (VP.stab _ _) (fun ρ261 w262 g hle hi ht => ?_) ?_
                  ·
                    obtain ⟨-, hst, -⟩ := hle
                    replace f_a_pending := f_a_pending.step hst
                    refine StepOp_g rfl (ht 77 rfl) (op_indexAddr (q := rXWrite) ty23 ty73 (ht 79 rfl) (ht 80 rfl) f_a_pending rfl hc264.1 hc264.2 ?_)
                    intro p265 f266
                    exact Goes.same hi ⟨_, rfl, f266⟩
                  refine Dw_op (VP O [(some b6, Obj.cells [(Value.slice a_b_sectors b.sectors.length c_b_sectors), (Value.slice a_b_pending b.pending.length c_b_pending), (Value.int .i64 b.left), (Value.bool b.stopped)].toArray 25), (some b1, Obj.cells [(Value.slice a_a_sectors a.sectors.length c_a_sectors), (Value.slice a_a_pending a.pending.length c_a_pending), (Value.int .i64 a.left), (Value.bool a.stopped)].toArray 25)] (rSl rU8) ((a.pending.getD i_2.toNat default).data)) (VP.stab _ _) (fun ρ267 w268 g hle hi ht => ?_) ?_
                  ·
                    obtain ⟨-, hst, -⟩ := hle
                    obtain ⟨p270, q271, f272⟩ := ht 81 rfl
                    refine StepOp_g rfl (ht 77 rfl) (op_fieldAddr ty73 rfl ty41 (by decide) q271 rfl ?_)
                    have f273 := f272.via.snd
                    exact Goes.same hi ⟨_, rfl, f273⟩
                  refine Dw_op (VD O [(some b6, Obj.cells [(Value.slice a_b_sectors b.sectors.length c_b_sectors), (Value.slice a_b_pending b.pending.length c_b_pending), (Value.int .i64 b.left), (Value.bool b.stopped)].toArray 25), (some b1, Obj.cells [(Value.slice a_a_sectors a.sectors.length c_a_sectors), (Value.slice a_a_pending a.pending.length c_a_pending), (Value.int .i64 a.left), (Value.bool a.stopped)].toArray 25)] (vC (rSl rU8)) ((a.pending.getD i_2.toNat default).data)) (VD.stab _ _) (fun ρ274 w275 g hle hi ht => ?_) ?_
                  ·
                    obtain ⟨-, hst, -⟩ := hle
                    obtain ⟨p277, q278, f279⟩ := ht 82 rfl
                    refine StepOp_g rfl (ht 77 rfl) (op_loadP ty41 q278 f279 rfl ?_)
                    intro v280 h281
                    obtain ⟨a_y282, c_y282, rfl, f_y282⟩ := un_sl h281
                    exact Goes.same hi (show Vr.vd (vC (rSl rU8)) _ _ _ _ from (mkC (mk_sl f_y282)))
                  refine Dw_eq (Value.string (bs ((a.pending.getD i_2.toNat default).data))) (fun ρ283 w284 g hle hi ht => ?_) ?_
                  ·
                    obtain ⟨-, hst, -⟩ := hle
                    have h286 : Vr.vd (vC (rSl rU8)) _ _ _ _ := ht 83 rfl
                    obtain ⟨a_y288, c_y288, q287, f_y288⟩ := un_sl h286
                    refine StepOp_g rfl (ht 77 rfl) (op_bytesToString ty41 Try.underlying5 Try.underlying9 q287 f_y288 ?_)
                    exact Goes.same hi rfl
                  refine Dw_eq (Value.pointer (some ⟨b6, 1, none⟩)) (fun ρ289 w290 g hle hi ht => ?_) ?_
                  ·
                    obtain ⟨-, hst, -⟩ := hle
                    refine StepOp_g rfl (ht 77 rfl) (op_fieldAddr ty25 rfl ty23 (by decide) (ht 3 rfl) (rfl : _ = (⟨_, 1, none⟩ : Addr)) ?_)
                    exact Goes.same hi rfl
                  refine Dw_eq (Value.slice a_b_pending b.pending.length c_b_pending) (fun ρ292 w293 g hle hi ht => ?_) ?_
                  ·
                    obtain ⟨-, hst, -⟩ := hle
                    have hsn := (Step.nx hi).1
                    refine StepOp_g rfl (ht 77 rfl) (op_load (cs := [(Value.slice a_b_sectors b.sectors.length c_b_sectors), (Value.slice a_b_pending b.pending.length c_b_pending), (Value.int .i64 b.left), (Value.bool b.stopped)]) (i := 0) ty23 hsn (ht 85 rfl) rfl rfl ?_)
                    exact Goes.same hi rfl
                  refine Dw_eq (Value.int .i64 i_2) (fun ρ295 w296 g hle hi ht => ?_) ?_
                  ·
                    obtain ⟨-, hst, -⟩ := hle
                    refine StepOp_g rfl (ht 77 rfl) (op_move (v := (Value.int .i64 i_2)) (ht 6 rfl) ?_)
                    exact Goes.same hi rfl
                  replace hm := ck_some hm; obtain ⟨hc301, hm⟩ := hm
                  refine Dw_op (VP O [(some b6, Obj.cells [(Value.slice a_b_sectors b.sectors.length c_b_sectors), (Value.slice a_b_pending b.pending.length c_b_pending), (Value.int .i64 b.left), (Value.bool b.stopped)].toArray 25), (some b1, Obj.cells [(Value.slice a_a_sectors a.sectors.length c_a_sectors), (Value.slice a_a_pending a.pending.length c_a_pending), (Value.int .i64 a.left), (Value.bool a.stopped)].toArray 25)] rXWrite (b.pending.getD i_2.toNat default)) (VP.stab _ _) (fun ρ298 w299 g hle hi ht => ?_) ?_
                  ·
                    obtain ⟨-, hst, -⟩ := hle
                    replace f_b_pending := f_b_pending.step hst
                    refine StepOp_g rfl (ht 77 rfl) (op_indexAddr (q := rXWrite) ty23 ty73 (ht 86 rfl) (ht 87 rfl) f_b_pending rfl hc301.1 hc301.2 ?_)
                    intro p302 f303
                    exact Goes.same hi ⟨_, rfl, f303⟩
                  refine Dw_op (VP O [(some b6, Obj.cells [(Value.slice a_b_sectors b.sectors.length c_b_sectors), (Value.slice a_b_pending b.pending.length c_b_pending), (Value.int .i64 b.left), (Value.bool b.stopped)].toArray 25), (some b1, Obj.cells [(Value.slice a_a_sectors a.sectors.length c_a_sectors), (Value.slice a_a_pending a.pending.length c_a_pending), (Value.int .i64 a.left), (Value.bool a.stopped)].toArray 25)] (rSl rU8) ((b.pending.getD i_2.toNat default).data)) (VP.stab _ _) (fun ρ304 w305 g hle hi ht => ?_) ?_
                  ·
                    obtain ⟨-, hst, -⟩ := hle
                    obtain ⟨p307, q308, f309⟩ := ht 88 rfl
                    refine StepOp_g rfl (ht 77 rfl) (op_fieldAddr ty73 rfl ty41 (by decide) q308 rfl ?_)
                    have f310 := f309.via.snd
                    exact Goes.same hi ⟨_, rfl, f310⟩
                  refine Dw_op (VD O [(some b6, Obj.cells [(Value.slice a_b_sectors b.sectors.length c_b_sectors), (Value.slice a_b_pending b.pending.length c_b_pending), (Value.int .i64 b.left), (Value.bool b.stopped)].toArray 25), (some b1, Obj.cells [(Value.slice a_a_sectors a.sectors.length c_a_sectors), (Value.slice a_a_pending a.pending.length c_a_pending), (Value.int .i64 a.left), (Value.bool a.stopped)].toArray 25)] (vC (rSl rU8)) ((b.pending.getD i_2.toNat default).data)) (VD.stab _ _) (fun ρ311 w312 g hle hi ht => ?_) ?_
                  ·
                    obtain ⟨-, hst, -⟩ := hle
                    obtain ⟨p314, q315, f316⟩ := ht 89 rfl
                    refine StepOp_g rfl (ht 77 rfl) (op_loadP ty41 q315 f316 rfl ?_)
                    intro v317 h318
                    obtain ⟨a_y319, c_y319, rfl, f_y319⟩ := un_sl h318
                    exact Goes.same hi (show Vr.vd (vC (rSl rU8)) _ _ _ _ from (mkC (mk_sl f_y319)))
                  refine Dw_eq (Value.string (bs ((b.pending.getD i_2.toNat default).data))) (fun ρ320 w321 g hle hi ht => ?_) ?_
                  ·
                    obtain ⟨-, hst, -⟩ := hle
                    have h323 : Vr.vd (vC (rSl rU8)) _ _ _ _ := ht 90 rfl
                    obtain ⟨a_y325, c_y325, q324, f_y325⟩ := un_sl h323
                    refine StepOp_g rfl (ht 77 rfl) (op_bytesToString ty41 Try.underlying5 Try.underlying9 q324 f_y325 ?_)
                    exact Goes.same hi rfl
                  refine Dw_eq (Value.bool (decide (((a.pending.getD i_2.toNat default).data) ≠ ((b.pending.getD i_2.toNat default).data)))) (fun ρ326 w327 g hle hi ht => ?_) ?_
                  ·
                    obtain ⟨-, hst, -⟩ := hle
                    refine StepOp_g rfl (ht 77 rfl) (op_neqs (a := (a.pending.getD i_2.toNat default).data) (b := (b.pending.getD i_2.toNat default).data) (ht 84 rfl) (ht 91 rfl) ?_)
                    exact Goes.same hi rfl
                  refine Dw_eq (Value.bool (decide (((a.pending.getD i_2.toNat default).data) ≠ ((b.pending.getD i_2.toNat default).data)))) (fun ρ329 w330 g hle hi ht => ?_) ?_
                  ·
                    obtain ⟨-, hst, -⟩ := hle
                    refine StepOp_plain (op_pick_f (v := (Value.bool (decide (((a.pending.getD i_2.toNat default).data) ≠ ((b.pending.getD i_2.toNat default).data))))) (ht 77 rfl) (ht 92 rfl) ?_)
                    exact Goes.same hi rfl
                  refine Dw_nil fun w336 g337 hl338 hi339 => ?_
                  obtain ⟨-, hst340, -⟩ := hl338
                  obtain ⟨hs342, p341⟩ := Step.nx hi339
                  rintro _ rfl
                  rintro _ rfl
                  rintro _ rfl
                  rintro v343 h344
                  replace h344 : Vr.vd (vC (rSl rU8)) _ _ _ _ := h344
                  obtain ⟨a_y345, c_y345, rfl, f_y345⟩ := un_sl h344
                  rintro _ ⟨p346, rfl, f347⟩
                  rintro _ ⟨p348, rfl, f349⟩
                  rintro _ rfl
                  rintro _ rfl
                  rintro _ rfl
                  rintro _ rfl
                  rintro v350 h351
                  replace h351 : Vr.vd (vC (rSl rU8)) _ _ _ _ := h351
                  obtain ⟨a_y352, c_y352, rfl, f_y352⟩ := un_sl h351
                  rintro _ ⟨p353, rfl, f354⟩
                  rintro _ ⟨p355, rfl, f356⟩
                  rintro _ rfl
                  rintro _ rfl
                  rintro _ rfl
                  rintro _ rfl
                  rintro _ rfl
                  rintro v357 h358
                  replace h358 : Vr.vd (vI .i64) _ _ _ _ := h358
                  obtain ⟨rfl, r_y359⟩ := h358
                  rintro _ ⟨p360, rfl, f361⟩
                  rintro _ ⟨p362, rfl, f363⟩
                  rintro _ rfl
                  rintro _ rfl
                  rintro _ rfl
                  rintro v364 h365
                  replace h365 : Vr.vd (vI .i64) _ _ _ _ := h365
                  obtain ⟨rfl, r_y366⟩ := h365
                  rintro _ ⟨p367, rfl, f368⟩
                  rintro _ ⟨p369, rfl, f370⟩
                  rintro _ rfl
                  rintro _ rfl
                  rintro _ rfl
                  have p371 : Step (ks [(some b6, Obj.cells [(Value.slice a_b_sectors b.sectors.length c_b_sectors), (Value.slice a_b_pending b.pending.length c_b_pending), (Value.int .i64 b.left), (Value.bool b.stopped)].toArray 25), (some b1, Obj.cells [(Value.slice a_a_sectors a.sectors.length c_a_sectors), (Value.slice a_a_pending a.pending.length c_a_pending), (Value.int .i64 a.left), (Value.bool a.stopped)].toArray 25)] O) w129 (ks [(some b6, Obj.cells [(Value.slice a_b_sectors b.sectors.length c_b_sectors), (Value.slice a_b_pending b.pending.length c_b_pending), (Value.int .i64 b.left), (Value.bool b.stopped)].toArray 25), (some b1, Obj.cells [(Value.slice a_a_sectors a.sectors.length c_a_sectors), (Value.slice a_a_pending a.pending.length c_a_pending), (Value.int .i64 a.left), (Value.bool a.stopped)].toArray 25)] O) w336 := hst340.trans p341
                  replace f_y345 := f_y345.step p341
                  replace f347 := f347.step p341
                  replace f349 := f349.step p341
                  replace f_y352 := f_y352.step p341
                  replace f354 := f354.step p341
                  replace f356 := f356.step p341
                  replace f361 := f361.step p341
                  replace f363 := f363.step p341
                  replace f368 := f368.step p341
                  replace f370 := f370.step p341
                  replace f_a_sectors := f_a_sectors.step p371
                  replace f_a_pending := f_a_pending.step p371
                  replace f_b_sectors := f_b_sectors.step p371
                  replace f_b_pending := f_b_pending.step p371
                  replace ch35 := ch35.trans p371
                  replace ch134 := ch134.trans p371
                  replace ch147 := ch147.trans p371
                  clear p371 hs130
                  refine Rg_nil ?_
                  exact hK140 _ _ ⟨(decide (((a.pending.getD i_2.toNat default).data) ≠ ((b.pending.getD i_2.toNat default).data))), _, rfl, ⟨(by repeat (first | with_reducible exact Out.refl _ _ | refine Out.upd ?_ rfl | refine Out.updL ?_ rfl | refine Out.mix' ?_ rfl | exact Out.refl _ _)), rfl, rfl, trivial⟩, ch147, hs342, hm⟩
            ·
              replace hm := bif_f hm hc135
              refine Wp_exit ?_
              refine Wp_seq ?_
              obtain ⟨hs372, p373⟩ := hs130.sub (bs' := []) (.cons _ (.cons _ List.Sublist.slnil))
              clear f_a_sectors f_a_pending f_b_sectors f_b_pending
              replace ch35 := ch35.trans p373
              replace ch134 := ch134.trans p373
              clear p373 hs130
              refine Wp_region ?_  -- 13 ref.go:128
              refine Rg_op rfl (op_assign (v := (Value.bool true)) rfl ?_)
              refine Rg_nil ?_
              refine Wp_ret ?_
              have hz := step_all hs372
              refine ⟨_, (show Closes [] _ _ from rfl), [(Value.bool true)], ⟨rfl, trivial⟩, hs372.ext, ?_⟩
              exact Vr.eq (a := vB) (x := true) rfl (Option.some.inj hm)
  ·
    intro K15 hK15
    have ch374 := Step.refl (ks [(some b6, Obj.cells [(Value.slice a_b_sectors b.sectors.length c_b_sectors), (Value.slice a_b_pending b.pending.length c_b_pending), (Value.int .i64 b.left), (Value.bool b.stopped)].toArray 25), (some b1, Obj.cells [(Value.slice a_a_sectors a.sectors.length c_a_sectors), (Value.slice a_a_pending a.pending.length c_a_pending), (Value.int .i64 a.left), (Value.bool a.stopped)].toArray 25)] O) w7
    refine Wp_region ?_  -- 1 ref.go:115
    refine Rg_op rfl (op_fieldAddr ty25 rfl ty22 (by decide) rfl (rfl : _ = (⟨_, 0, none⟩ : Addr)) ?_)
    refine Rg_op rfl (op_load (cs := [(Value.slice a_a_sectors a.sectors.length c_a_sectors), (Value.slice a_a_pending a.pending.length c_a_pending), (Value.int .i64 a.left), (Value.bool a.stopped)]) (i := 1) ty22 hs9 rfl rfl rfl ?_)
    refine Rg_op rfl (op_len Try.underlying22 rfl ?_)
    refine Rg_op rfl (op_fieldAddr ty25 rfl ty22 (by decide) rfl (rfl : _ = (⟨_, 0, none⟩ : Addr)) ?_)
    refine Rg_op rfl (op_load (cs := [(Value.slice a_b_sectors b.sectors.length c_b_sectors), (Value.slice a_b_pending b.pending.length c_b_pending), (Value.int .i64 b.left), (Value.bool b.stopped)]) (i := 0) ty22 hs9 rfl rfl rfl ?_)
    refine Rg_op rfl (op_len Try.underlying22 rfl ?_)
    refine Rg_op rfl (op_neq rfl rfl ?_)
    refine Rg_op rfl (op_move (v := (Value.bool (decide ((a.sectors.length : Int) ≠ (b.sectors.length : Int))))) rfl ?_)
    refine Rg_case (fun hg375 => ?_) (fun hg375 => ?_)
    ·
      replace hm := bif_t hm hg375
      refine Rg_opx rfl (asB_ne rfl rfl) rfl ?_
      refine Rg_opx rfl (asB_ne rfl rfl) rfl ?_
      refine Rg_opx rfl (asB_ne rfl rfl) rfl ?_
      refine Rg_opx rfl (asB_ne rfl rfl) rfl ?_
      refine Rg_opx rfl (asB_ne rfl rfl) rfl ?_
      refine Rg_opx rfl (asB_ne rfl rfl) rfl ?_
      refine Rg_opx rfl (asB_ne rfl rfl) rfl ?_
      refine Rg_op rfl (op_pick_t (v := (Value.bool true)) rfl rfl ?_)
      refine Rg_op rfl (op_move (v := (Value.bool true)) rfl ?_)
      refine Rg_opx rfl (asB_ne rfl rfl) rfl ?_
      refine Rg_opx rfl (asB_ne rfl rfl) rfl ?_
      refine Rg_opx rfl (asB_ne rfl rfl) rfl ?_
      refine Rg_opx rfl (asB_ne rfl rfl) rfl ?_
      refine Rg_opx rfl (asB_ne rfl rfl) rfl ?_
      refine Rg_op rfl (op_pick_t (v := (Value.bool true)) rfl rfl ?_)
      refine Rg_op rfl (op_move (v := (Value.bool true)) rfl ?_)
      refine Rg_opx rfl (asB_ne rfl rfl) rfl ?_
      refine Rg_opx rfl (asB_ne rfl rfl) rfl ?_
      refine Rg_opx rfl (asB_ne rfl rfl) rfl ?_
      refine Rg_opx rfl (asB_ne rfl rfl) rfl ?_
      refine Rg_opx rfl (asB_ne rfl rfl) rfl ?_
      refine Rg_op rfl (op_pick_t (v := (Value.bool true)) rfl rfl ?_)
      refine Rg_nil ?_
      exact hK15 _ _ ⟨true, _, rfl, ⟨(by repeat (first | with_reducible exact Out.refl _ _ | refine Out.upd ?_ rfl | refine Out.updL ?_ rfl | refine Out.mix' ?_ rfl | exact Out.refl _ _)), rfl, rfl, trivial⟩, ch374, hs9, hm⟩
    ·
      replace hm := bif_f hm hg375
      refine Rg_opg rfl rfl rfl (op_fieldAddr ty25 rfl ty23 (by decide) rfl (rfl : _ = (⟨_, 1, none⟩ : Addr)) ?_)
      refine Rg_opg rfl rfl rfl (op_load (cs := [(Value.slice a_a_sectors a.sectors.length c_a_sectors), (Value.slice a_a_pending a.pending.length c_a_pending), (Value.int .i64 a.left), (Value.bool a.stopped)]) (i := 1) ty23 hs9 rfl rfl rfl ?_)
      refine Rg_opg rfl rfl rfl (op_len Try.underlying23 rfl ?_)
      refine Rg_opg rfl rfl rfl (op_fieldAddr ty25 rfl ty23 (by decide) rfl (rfl : _ = (⟨_, 1, none⟩ : Addr)) ?_)
      refine Rg_opg rfl rfl rfl (op_load (cs := [(Value.slice a_b_sectors b.sectors.length c_b_sectors), (Value.slice a_b_pending b.pending.length c_b_pending), (Value.int .i64 b.left), (Value.bool b.stopped)]) (i := 0) ty23 hs9 rfl rfl rfl ?_)
      refine Rg_opg rfl rfl rfl (op_len Try.underlying23 rfl ?_)
      refine Rg_opg rfl rfl rfl (op_neq rfl rfl ?_)
      refine Rg_op rfl (op_pick_f (v := (Value.bool (decide ((a.pending.length : Int) ≠ (b.pending.length : Int))))) rfl rfl ?_)
      refine Rg_op rfl (op_move (v := (Value.bool (decide ((a.pending.length : Int) ≠ (b.pending.length : Int))))) rfl ?_)
      refine Rg_case (fun hg376 => ?_) (fun hg376 => ?_)
      ·
        replace hm := bif_t hm hg376
        refine Rg_opx rfl (asB_ne rfl rfl) rfl ?_
        refine Rg_opx rfl (asB_ne rfl rfl) rfl ?_
        refine Rg_opx rfl (asB_ne rfl rfl) rfl ?_
        refine Rg_opx rfl (asB_ne rfl rfl) rfl ?_
        refine Rg_opx rfl (asB_ne rfl rfl) rfl ?_
        refine Rg_op rfl (op_pick_t (v := (Value.bool true)) rfl rfl ?_)
        refine Rg_op rfl (op_move (v := (Value.bool true)) rfl ?_)
        refine Rg_opx rfl (asB_ne rfl rfl) rfl ?_
        refine Rg_opx rfl (asB_ne rfl rfl) rfl ?_
        refine Rg_opx rfl (asB_ne rfl rfl) rfl ?_
        refine Rg_opx rfl (asB_ne rfl rfl) rfl ?_
        refine Rg_opx rfl (asB_ne rfl rfl) rfl ?_
        refine Rg_op rfl (op_pick_t (v := (Value.bool true)) rfl rfl ?_)
        refine Rg_nil ?_
        exact hK15 _ _ ⟨true, _, rfl, ⟨(by repeat (first | with_reducible exact Out.refl _ _ | refine Out.upd ?_ rfl | refine Out.updL ?_ rfl | refine Out.mix' ?_ rfl | exact Out.refl _ _)), rfl, rfl, trivial⟩, ch374, hs9, hm⟩
      ·
        replace hm := bif_f hm hg376
        refine Rg_opg rfl rfl rfl (op_fieldAddr ty25 rfl ty3 (by decide) rfl (rfl : _ = (⟨_, 2, none⟩ : Addr)) ?_)
        refine Rg_opg rfl rfl rfl (op_load (cs := [(Value.slice a_a_sectors a.sectors.length c_a_sectors), (Value.slice a_a_pending a.pending.length c_a_pending), (Value.int .i64 a.left), (Value.bool a.stopped)]) (i := 1) ty3 hs9 rfl rfl rfl ?_)
        refine Rg_opg rfl rfl rfl (op_fieldAddr ty25 rfl ty3 (by decide) rfl (rfl : _ = (⟨_, 2, none⟩ : Addr)) ?_)
        refine Rg_opg rfl rfl rfl (op_load (cs := [(Value.slice a_b_sectors b.sectors.length c_b_sectors), (Value.slice a_b_pending b.pending.length c_b_pending), (Value.int .i64 b.left), (Value.bool b.stopped)]) (i := 0) ty3 hs9 rfl rfl rfl ?_)
        refine Rg_opg rfl rfl rfl (op_neq rfl rfl ?_)
        refine Rg_op rfl (op_pick_f (v := (Value.bool (decide (a.left ≠ b.left)))) rfl rfl ?_)
        refine Rg_op rfl (op_move (v := (Value.bool (decide (a.left ≠ b.left)))) rfl ?_)
        refine Rg_case (fun hg377 => ?_) (fun hg377 => ?_)
        ·
          replace hm := bif_t hm hg377
          refine Rg_opx rfl (asB_ne rfl rfl) rfl ?_
          refine Rg_opx rfl (asB_ne rfl rfl) rfl ?_
          refine Rg_opx rfl (asB_ne rfl rfl) rfl ?_
          refine Rg_opx rfl (asB_ne rfl rfl) rfl ?_
          refine Rg_opx rfl (asB_ne rfl rfl) rfl ?_
          refine Rg_op rfl (op_pick_t (v := (Value.bool true)) rfl rfl ?_)
          refine Rg_nil ?_
          exact hK15 _ _ ⟨true, _, rfl, ⟨(by repeat (first | with_reducible exact Out.refl _ _ | refine Out.upd ?_ rfl | refine Out.updL ?_ rfl | refine Out.mix' ?_ rfl | exact Out.refl _ _)), rfl, rfl, trivial⟩, ch374, hs9, hm⟩
        ·
          replace hm := bif_f hm hg377
          refine Rg_opg rfl rfl rfl (op_fieldAddr ty25 rfl ty4 (by decide) rfl (rfl : _ = (⟨_, 3, none⟩ : Addr)) ?_)
          refine Rg_opg rfl rfl rfl (op_load (cs := [(Value.slice a_a_sectors a.sectors.length c_a_sectors), (Value.slice a_a_pending a.pending.length c_a_pending), (Value.int .i64 a.left), (Value.bool a.stopped)]) (i := 1) ty4 hs9 rfl rfl rfl ?_)
          refine Rg_opg rfl rfl rfl (op_fieldAddr ty25 rfl ty4 (by decide) rfl (rfl : _ = (⟨_, 3, none⟩ : Addr)) ?_)
          refine Rg_opg rfl rfl rfl (op_load (cs := [(Value.slice a_b_sectors b.sectors.length c_b_sectors), (Value.slice a_b_pending b.pending.length c_b_pending), (Value.int .i64 b.left), (Value.bool b.stopped)]) (i := 0) ty4 hs9 rfl rfl rfl ?_)
          refine Rg_opg rfl rfl rfl (op_neqb Try.underlying4 rfl rfl ?_)
          refine Rg_op rfl (op_pick_f (v := (Value.bool (!(a.stopped == b.stopped)))) rfl rfl ?_)
          refine Rg_nil ?_
          exact hK15 _ _ ⟨(!(a.stopped == b.stopped)), _, rfl, ⟨(by repeat (first | with_reducible exact Out.refl _ _ | refine Out.upd ?_ rfl | refine Out.updL ?_ rfl | refine Out.mix' ?_ rfl | exact Out.refl _ _)), rfl, rfl, trivial⟩, ch374, hs9, hm⟩

end Go.Fx


set_option linter.unusedVariables false
set_option linter.unusedSimpArgs false
set_option maxRecDepth 100000
set_option maxHeartbeats 0
namespace Go.Fx
open Go Go.RowKit Go.Proofs
def m19_overflightref44_Check_B1 (d : XDisk) (sf41 : Int → Option Int) (i_2 : Int) : Option Int :=
  bif (decide (i_2 < (d.pending.length : Int))) then
    ck ((0 : Int) ≤ i_2 ∧ i_2 < (d.pending.length : Int)) <|
    jn (fun (v_2 : Bool) =>
      bif v_2 then
        some 440
      else
        sf41 (IntKind.wrap .i64 (i_2 + 1)))
    (fun k68 =>
      bif (decide (((d.pending.getD i_2.toNat default).at_) < 0)) then
        k68 true
      else
        bif (decide ((d.sectors.length : Int) ≤ ((d.pending.getD i_2.toNat default).at_))) then
          k68 true
        else
          k68 (decide ((((d.pending.getD i_2.toNat default).data).length : Int) ≠ 128)))
  else
    some 0

def m19_overflightref44_Check_B0 (d : XDisk) (sf21 : Int → Option Int) (i_1 : Int) : Option Int :=
  bif (decide (i_1 < (d.sectors.length : Int))) then
    ck ((0 : Int) ≤ i_1 ∧ i_1 < (d.sectors.length : Int)) <|
    bif (decide (((d.sectors.getD i_1.toNat default).length : Int) ≠ 128)) then
      some 440
    else
      sf21 (IntKind.wrap .i64 (i_1 + 1))
  else
    loop1 (m19_overflightref44_Check_B1 d) (((d.pending.length : Int) - 0).toNat + 1) 0

def m19_overflightref44_Check (d : XDisk) : Option Int :=
  jn (fun (v_1 : Bool) =>
    bif v_1 then
      some 440
    else
      loop1 (m19_overflightref44_Check_B0 d) (((d.sectors.length : Int) - 0).toNat + 1) 0)
  (fun k8 =>
    bif (decide ((d.sectors.length : Int) < 1)) then
      k8 true
    else
      bif (decide (4096 < (d.sectors.length : Int))) then
        k8 true
      else
        bif (decide (4096 < (d.pending.length : Int))) then
          k8 true
        else
          bif (decide (d.left < (-1))) then
            k8 true
          else
            k8 (decide (65536 < d.left)))

theorem c19_overflightref44_Check {w : World} {O : List Nat} {d : XDisk} {a_d_sectors : Option Addr} {c_d_sectors : Nat} {a_d_pending : Option Addr} {c_d_pending : Nat} (hO : ∀ k ∈ O, k < w.heap.size) (f_d_sectors : SlR (rSl rU8) w O a_d_sectors c_d_sectors d.sectors) (f_d_pending : SlR rXWrite w O a_d_pending c_d_pending d.pending) (r_d_left : InK .i64 d.left) {x : Int} (hm : m19_overflightref44_Check d = some x) :
    Ok Try.prog 19 [(Value.agg [(Value.slice a_d_sectors d.sectors.length c_d_sectors), (Value.slice a_d_pending d.pending.length c_d_pending), (Value.int .i64 d.left), (Value.bool d.stopped)].toArray)] w O (vI .i64) x := by
  unfold m19_overflightref44_Check at hm
  refine Fn_of_Wp (n := 71) (xs := [.tmp 2]) Try.func19 rfl Try.ntmps19 Try.results19 rfl ?_
  have hs := St.start hO
  refine Wp_seq ?_
  refine Wp_region ?_  -- 0 ref.go:7
  refine Rg_op rfl (op_box (cs := [(Value.slice a_d_sectors d.sectors.length c_d_sectors), (Value.slice a_d_pending d.pending.length c_d_pending), (Value.int .i64 d.left), (Value.bool d.stopped)]) hs rfl rfl ?_)
  intro b1 w2 _ p3 hs4
  replace f_d_sectors := f_d_sectors.step p3
  replace f_d_pending := f_d_pending.step p3
  clear p3
  refine Rg_op rfl (op_assign (v := (Value.int .i64 0)) rfl ?_)
  refine Rg_nil ?_
  refine Wp_seq ?_
  refine Wp_region ?_  -- 1 ref.go:8
  refine Rg_op rfl (op_fieldAddr ty25 rfl ty22 (by decide) rfl (rfl : _ = (⟨_, 0, none⟩ : Addr)) ?_)
  refine Rg_op rfl (op_load (cs := [(Value.slice a_d_sectors d.sectors.length c_d_sectors), (Value.slice a_d_pending d.pending.length c_d_pending), (Value.int .i64 d.left), (Value.bool d.stopped)]) (i := 0) ty22 hs4 rfl rfl rfl ?_)
  refine Rg_op rfl (op_len Try.underlying22 rfl ?_)
  refine Rg_op rfl (op_assign (v := (Value.int .i64 (d.sectors.length : Int))) rfl ?_)
  refine Rg_nil ?_
  refine Wp_seq ?_
  refine Wp_reset [] [(1, (Value.pointer (some ⟨b1, 0, none⟩))), (3, (Value.int .i64 (d.sectors.length : Int)))] rfl ⟨rfl, rfl, trivial⟩ fun ξ6 => ?_
  replace hm := jn_elim hm; obtain ⟨k8, hk9, hm⟩ := hm
  refine Wp_seqJ [10, 11, 12, 13, 14, 15, 16, 17, 18, 19, 20, 21, 22, 23, 24, 25, 26, 27, 28, 29, 30, 31] (fun fr w' => ∃ (v_1 : Bool) (Ebs : Ents), Ebs = [(some b1, Obj.cells [(Value.slice a_d_sectors d.sectors.length c_d_sectors), (Value.slice a_d_pending d.pending.length c_d_pending), (Value.int .i64 d.left), (Value.bool d.stopped)].toArray 25)] ∧ fr [] [(31, (Value.bool v_1))] ∧ Step (ks [(some b1, Obj.cells [(Value.slice a_d_sectors d.sectors.length c_d_sectors), (Value.slice a_d_pending d.pending.length c_d_pending), (Value.int .i64 d.left), (Value.bool d.stopped)].toArray 25)] O) w2 (ks Ebs O) w' ∧ St ⟨w, [], []⟩ O w' Ebs ∧ k8 v_1 = some x) ?_ ?_
  ·
    rintro ρ15 w11 ⟨v_1, Ebs, hEbs, hfr14, hst13, hs12, hm⟩
    replace hm := jnE1 hk9 hm
    subst hEbs; rw [hfr14.eq]; clear hfr14
    replace f_d_sectors := f_d_sectors.step hst13
    replace f_d_pending := f_d_pending.step hst13
    clear hst13 hs4
    refine Wp_cond rfl (fun hc16 => ?_) (fun hc16 => ?_)
    ·
      replace hm := bif_t hm hc16
      refine Wp_seq ?_
      obtain ⟨hs17, p18⟩ := hs12.sub (bs' := []) (.cons _ List.Sublist.slnil)
      clear f_d_sectors f_d_pending
      clear p18 hs12
      refine Wp_region ?_  -- 3 ref.go:10
      refine Rg_op rfl (op_assign (v := (Value.int .i64 440)) rfl ?_)
      refine Rg_nil ?_
      refine Wp_ret ?_
      have hz := step_all hs17
      refine ⟨_, (show Closes [] _ _ from rfl), [(Value.int .i64 440)], ⟨rfl, trivial⟩, hs17.ext, ?_⟩
      exact Vr.eq (a := (vI .i64)) (x := 440) ⟨rfl, (show InK .i64 440 from by decide)⟩ (Option.some.inj hm)
    ·
      replace hm := bif_f hm hc16
      refine Wp_skip ?_
      refine Wp_seq ?_
      refine Wp_seq ?_
      refine Wp_region ?_  -- 4 ref.go:12
      refine Rg_op rfl (op_assign (v := (Value.int .i64 0)) rfl ?_)
      refine Rg_nil ?_
      refine Wp_block ?_
      refine Wp_reset [] [(1, (Value.pointer (some ⟨b1, 0, none⟩))), (3, (Value.int .i64 (d.sectors.length : Int))), (4, (Value.int .i64 0))] rfl ⟨rfl, rfl, rfl, trivial⟩ fun ξ20 => ?_
      refine Wp_loopM [2, 4, 32, 33, 34, 35, 36, 37, 38, 39, 40, 41, 42, 43] (fun m fr w' => ∃ (i_1 : Int) (Ebs : Ents), Ebs = [(some b1, Obj.cells [(Value.slice a_d_sectors d.sectors.length c_d_sectors), (Value.slice a_d_pending d.pending.length c_d_pending), (Value.int .i64 d.left), (Value.bool d.stopped)].toArray 25)] ∧ fr [] [(4, (Value.int .i64 i_1))] ∧ Step (ks [(some b1, Obj.cells [(Value.slice a_d_sectors d.sectors.length c_d_sectors), (Value.slice a_d_pending d.pending.length c_d_pending), (Value.int .i64 d.left), (Value.bool d.stopped)].toArray 25)] O) w11 (ks Ebs O) w' ∧ St ⟨w, [], []⟩ O w' Ebs ∧ InK .i64 i_1 ∧ loop1 (m19_overflightref44_Check_B0 d) m i_1 = some x) (((d.sectors.length : Int) - 0).toNat + 1) ⟨0, _, rfl, ⟨Out.refl _ _, rfl, rfl, trivial⟩, Step.refl _ _, hs12, (show InK .i64 0 from by decide), hm⟩ ?_ ?_
      · rintro _ _ ⟨_, _, _, _, _, _, _, hm⟩; exact loop1_z hm
      · rintro m24 K23 hK23 ρ29 w25 ⟨i_1, Ebs, hEbs, hfr28, hst27, hs26, r_y19, hm⟩
        obtain ⟨sf21, hsf22, hm⟩ := loop1_s hm; unfold m19_overflightref44_Check_B0 at hm
        subst hEbs; rw [hfr28.eq]; clear hfr28
        replace f_d_sectors := f_d_sectors.step hst27
        replace f_d_pending := f_d_pending.step hst27
        have ch30 := hst27
        refine Wp_seq ?_
        refine Wp_seq ?_
        refine Wp_region ?_  -- 5 ref.go:12
        refine Rg_op rfl (op_move (v := (Value.int .i64 i_1)) rfl ?_)
        refine Rg_op rfl (op_move (v := (Value.int .i64 (d.sectors.length : Int))) rfl ?_)
        refine Rg_op rfl (op_lss rfl rfl ?_)
        refine Rg_nil ?_
        refine Wp_cond rfl (fun hc31 => ?_) (fun hc31 => ?_)
        ·
          replace hm := bif_t hm hc31
          refine Wp_skip ?_
          refine Wp_seq ?_
          refine Wp_block ?_
          refine Wp_seq ?_
          refine Wp_region ?_  -- 7 ref.go:13
          refine Rg_op rfl (op_fieldAddr ty25 rfl ty22 (by decide) rfl (rfl : _ = (⟨_, 0, none⟩ : Addr)) ?_)
          refine Rg_op rfl (op_load (cs := [(Value.slice a_d_sectors d.sectors.length c_d_sectors), (Value.slice a_d_pending d.pending.length c_d_pending), (Value.int .i64 d.left), (Value.bool d.stopped)]) (i := 0) ty22 hs26 rfl rfl rfl ?_)
          refine Rg_op rfl (op_move (v := (Value.int .i64 i_1)) rfl ?_)
          replace hm := ck_some hm; obtain ⟨hc32, hm⟩ := hm
          refine Rg_op rfl (op_indexAddr (q := (rSl rU8)) ty22 ty41 rfl rfl f_d_sectors rfl hc32.1 hc32.2 ?_)
          intro p33 f34
          refine Rg_op rfl (op_loadP ty41 rfl f34 rfl ?_)
          intro v35 h36
          obtain ⟨a_y37, c_y37, rfl, f_y37⟩ := un_sl h36
          refine Rg_op rfl (op_len Try.underlying41 rfl ?_)
          refine Rg_op rfl (op_neq rfl rfl ?_)
          refine Rg_nil ?_
          refine Wp_cond rfl (fun hc38 => ?_) (fun hc38 => ?_)
          ·
            replace hm := bif_t hm hc38
            refine Wp_seq ?_
            clear f34 f_y37
            refine Wp_region ?_  -- 8 ref.go:14
            refine Rg_op rfl (op_assign (v := (Value.int .i64 440)) rfl ?_)
            refine Rg_nil ?_
            refine Wp_ret ?_
            have hz := step_all hs26
            replace f_d_sectors := f_d_sectors.step hz
            replace f_d_pending := f_d_pending.step hz
            refine ⟨_, (show Closes [] _ _ from rfl), [(Value.int .i64 440)], ⟨rfl, trivial⟩, hs26.ext, ?_⟩
            exact Vr.eq (a := (vI .i64)) (x := 440) ⟨rfl, (show InK .i64 440 from by decide)⟩ (Option.some.inj hm)
          ·
            replace hm := bif_f hm hc38
            refine Wp_skip ?_
            clear f34 f_y37
            refine Wp_region ?_  -- 6 ref.go:12
            refine Rg_op rfl (op_move (v := (Value.int .i64 i_1)) rfl ?_)
            refine Rg_op rfl (op_addw rfl rfl ?_)
            refine Rg_op rfl (op_assign (v := (Value.int .i64 (IntKind.wrap .i64 (i_1 + 1)))) rfl ?_)
            refine Rg_nil ?_
            exact hK23 _ _ ⟨(IntKind.wrap .i64 (i_1 + 1)), _, rfl, ⟨(by repeat (first | with_reducible exact Out.refl _ _ | refine Out.upd ?_ rfl | refine Out.updL ?_ rfl | refine Out.mix' ?_ rfl | exact Out.refl _ _)), rfl, rfl, trivial⟩, ch30, hs26, (inK_wrap .i64 _), jnE1 hsf22 hm⟩
        ·
          replace hm := bif_f hm hc31
          refine Wp_exit ?_
          refine Wp_seq ?_
          refine Wp_seq ?_
          refine Wp_region ?_  -- 9 ref.go:17
          refine Rg_op rfl (op_assign (v := (Value.int .i64 0)) rfl ?_)
          refine Rg_nil ?_
          refine Wp_block ?_
          refine Wp_reset [] [(1, (Value.pointer (some ⟨b1, 0, none⟩))), (3, (Value.int .i64 (d.sectors.length : Int))), (5, (Value.int .i64 0))] rfl ⟨rfl, rfl, rfl, trivial⟩ fun ξ40 => ?_
          refine Wp_loopM [2, 5, 6, 44, 45, 46, 47, 48, 49, 50, 51, 52, 53, 54, 55, 56, 57, 58, 59, 60, 61, 62, 63, 64, 65, 66, 67, 68, 69, 70] (fun m fr w' => ∃ (i_2 : Int) (Ebs : Ents), Ebs = [(some b1, Obj.cells [(Value.slice a_d_sectors d.sectors.length c_d_sectors), (Value.slice a_d_pending d.pending.length c_d_pending), (Value.int .i64 d.left), (Value.bool d.stopped)].toArray 25)] ∧ fr [] [(5, (Value.int .i64 i_2))] ∧ Step (ks [(some b1, Obj.cells [(Value.slice a_d_sectors d.sectors.length c_d_sectors), (Value.slice a_d_pending d.pending.length c_d_pending), (Value.int .i64 d.left), (Value.bool d.stopped)].toArray 25)] O) w25 (ks Ebs O) w' ∧ St ⟨w, [], []⟩ O w' Ebs ∧ InK .i64 i_2 ∧ loop1 (m19_overflightref44_Check_B1 d) m i_2 = some x) (((d.pending.length : Int) - 0).toNat + 1) ⟨0, _, rfl, ⟨Out.refl _ _, rfl, rfl, trivial⟩, Step.refl _ _, hs26, (show InK .i64 0 from by decide), hm⟩ ?_ ?_
          · rintro _ _ ⟨_, _, _, _, _, _, _, hm⟩; exact loop1_z hm
          · rintro m44 K43 hK43 ρ49 w45 ⟨i_2, Ebs, hEbs, hfr48, hst47, hs46, r_y39, hm⟩
            obtain ⟨sf41, hsf42, hm⟩ := loop1_s hm; unfold m19_overflightref44_Check_B1 at hm
            subst hEbs; rw [hfr48.eq]; clear hfr48
            replace f_d_sectors := f_d_sectors.step hst47
            replace f_d_pending := f_d_pending.step hst47
            replace ch30 := ch30.trans hst47
            have ch50 := hst47
            refine Wp_seq ?_
            refine Wp_seq ?_
            refine Wp_region ?_  -- 10 ref.go:17
            refine Rg_op rfl (op_move (v := (Value.int .i64 i_2)) rfl ?_)
            refine Rg_op rfl (op_fieldAddr ty25 rfl ty23 (by decide) rfl (rfl : _ = (⟨_, 1, none⟩ : Addr)) ?_)
            refine Rg_op rfl (op_load (cs := [(Value.slice a_d_sectors d.sectors.length c_d_sectors), (Value.slice a_d_pending d.pending.length c_d_pending), (Value.int .i64 d.left), (Value.bool d.stopped)]) (i := 0) ty23 hs46 rfl rfl rfl ?_)
            refine Rg_op rfl (op_len Try.underlying23 rfl ?_)
            refine Rg_op rfl (op_lss rfl rfl ?_)
            refine Rg_nil ?_
            refine Wp_cond rfl (fun hc51 => ?_) (fun hc51 => ?_)
            ·
              replace hm := bif_t hm hc51
              refine Wp_skip ?_
              refine Wp_seq ?_
              refine Wp_block ?_
              refine Wp_seq ?_
              refine Wp_region ?_  -- 12 ref.go:18
              refine Rg_op rfl (op_fieldAddr ty25 rfl ty23 (by decide) rfl (rfl : _ = (⟨_, 1, none⟩ : Addr)) ?_)
              refine Rg_op rfl (op_load (cs := [(Value.slice a_d_sectors d.sectors.length c_d_sectors), (Value.slice a_d_pending d.pending.length c_d_pending), (Value.int .i64 d.left), (Value.bool d.stopped)]) (i := 0) ty23 hs46 rfl rfl rfl ?_)
              refine Rg_op rfl (op_move (v := (Value.int .i64 i_2)) rfl ?_)
              replace hm := ck_some hm; obtain ⟨hc52, hm⟩ := hm
              refine Rg_op rfl (op_indexAddr (q := rXWrite) ty23 ty73 rfl rfl f_d_pending rfl hc52.1 hc52.2 ?_)
              intro p53 f54
              refine Rg_op rfl (op_loadPA ty73 rfl f54 rfl ?_)
              intro vs55 h56
              obtain ⟨_, _, rfl, ⟨rfl, r_y57_at_⟩, ⟨a_y57_data, c_y57_data, rfl, f_y57_data⟩⟩ := h56
              refine Rg_op rfl (op_alloc ty73 hs46 ?_)
              intro b58 w59 _ p60 hs61
              replace f_d_sectors := f_d_sectors.step p60
              replace f_d_pending := f_d_pending.step p60
              replace f54 := f54.step p60
              replace f_y57_data := f_y57_data.step p60
              replace ch30 := ch30.trans p60
              replace ch50 := ch50.trans p60
              clear p60 hs46
              refine Rg_op_ (op_store (cs := [(Value.int .i64 0), (Value.slice none 0 0)]) (vs := [(Value.int .i64 ((d.pending.getD i_2.toNat default).at_)), (Value.slice a_y57_data ((d.pending.getD i_2.toNat default).data).length c_y57_data)]) (cs' := [(Value.int .i64 ((d.pending.getD i_2.toNat default).at_)), (Value.slice a_y57_data ((d.pending.getD i_2.toNat default).data).length c_y57_data)]) (bs' := [(some b58, Obj.cells [(Value.int .i64 ((d.pending.getD i_2.toNat default).at_)), (Value.slice a_y57_data ((d.pending.getD i_2.toNat default).data).length c_y57_data)].toArray 73), (some b1, Obj.cells [(Value.slice a_d_sectors d.sectors.length c_d_sectors), (Value.slice a_d_pending d.pending.length c_d_pending), (Value.int .i64 d.left), (Value.bool d.stopped)].toArray 25)]) (i := 0) ty73 hs61 rfl rfl rfl rfl rfl (le_lit rfl) rfl rfl rfl ?_)
              intro w63 p64 hs65
              replace f_d_sectors := f_d_sectors.step p64
              replace f_d_pending := f_d_pending.step p64
              replace f54 := f54.step p64
              replace f_y57_data := f_y57_data.step p64
              replace ch30 := ch30.trans p64
              replace ch50 := ch50.trans p64
              clear p64 hs61
              refine Rg_nil ?_
              refine Wp_reset2 [2, 5, 6, 44, 45, 46, 47, 48, 49, 50, 51, 52, 53, 54, 55, 56, 57, 58, 59, 60, 61, 62, 63, 64, 65, 66, 67, 68, 69, 70] [] (updL ⟨ξ40, []⟩ [(1, (Value.pointer (some ⟨b1, 0, none⟩))), (3, (Value.int .i64 (d.sectors.length : Int))), (5, (Value.int .i64 0))]) [(5, (Value.int .i64 i_2)), (6, (Value.pointer (some ⟨b58, 0, none⟩)))] (by repeat (first | with_reducible exact Out.refl _ _ | refine Out.upd ?_ rfl | refine Out.updL ?_ rfl | refine Out.mix' ?_ rfl | exact Out.refl _ _)) rfl ⟨rfl, rfl, trivial⟩ fun ξ66 => ?_
              replace hm := jn_elim hm; obtain ⟨k68, hk69, hm⟩ := hm
              refine Wp_seqJ [56, 57, 58, 59, 60, 61, 62, 63, 64, 65, 66, 67, 68, 69, 70] (fun fr w' => ∃ (v_2 : Bool) (Ebs : Ents), Ebs = [(some b58, Obj.cells [(Value.int .i64 ((d.pending.getD i_2.toNat default).at_)), (Value.slice a_y57_data ((d.pending.getD i_2.toNat default).data).length c_y57_data)].toArray 73), (some b1, Obj.cells [(Value.slice a_d_sectors d.sectors.length c_d_sectors), (Value.slice a_d_pending d.pending.length c_d_pending), (Value.int .i64 d.left), (Value.bool d.stopped)].toArray 25)] ∧ fr [] [(70, (Value.bool v_2))] ∧ Step (ks [(some b58, Obj.cells [(Value.int .i64 ((d.pending.getD i_2.toNat default).at_)), (Value.slice a_y57_data ((d.pending.getD i_2.toNat default).data).length c_y57_data)].toArray 73), (some b1, Obj.cells [(Value.slice a_d_sectors d.sectors.length c_d_sectors), (Value.slice a_d_pending d.pending.length c_d_pending), (Value.int .i64 d.left), (Value.bool d.stopped)].toArray 25)] O) w63 (ks Ebs O) w' ∧ St ⟨w, [], []⟩ O w' Ebs ∧ k68 v_2 = some x) ?_ ?_
              ·
                rintro ρ75 w71 ⟨v_2, Ebs, hEbs, hfr74, hst73, hs72, hm⟩
                replace hm := jnE1 hk69 hm
                subst hEbs; rw [hfr74.eq]; clear hfr74
                replace f_d_sectors := f_d_sectors.step hst73
                replace f_d_pending := f_d_pending.step hst73
                replace f54 := f54.step hst73
                replace f_y57_data := f_y57_data.step hst73
                replace ch30 := ch30.trans hst73
                replace ch50 := ch50.trans hst73
                clear hst73 hs65
                refine Wp_cond rfl (fun hc76 => ?_) (fun hc76 => ?_)
                ·
                  replace hm := bif_t hm hc76
                  refine Wp_seq ?_
                  clear f54
                  refine Wp_region ?_  -- 14 ref.go:20
                  refine Rg_op rfl (op_assign (v := (Value.int .i64 440)) rfl ?_)
                  refine Rg_nil ?_
                  refine Wp_ret ?_
                  have hz := step_all hs72
                  replace f_d_sectors := f_d_sectors.step hz
                  replace f_d_pending := f_d_pending.step hz
                  replace f_y57_data := f_y57_data.step hz
                  refine ⟨_, (show Closes [] _ _ from rfl), [(Value.int .i64 440)], ⟨rfl, trivial⟩, hs72.ext, ?_⟩
                  exact Vr.eq (a := (vI .i64)) (x := 440) ⟨rfl, (show InK .i64 440 from by decide)⟩ (Option.some.inj hm)
                ·
                  replace hm := bif_f hm hc76
                  refine Wp_skip ?_
                  clear f54
                  refine Wp_region ?_  -- 11 ref.go:17
                  refine Rg_op rfl (op_move (v := (Value.int .i64 i_2)) rfl ?_)
                  refine Rg_op rfl (op_addw rfl rfl ?_)
                  refine Rg_op rfl (op_assign (v := (Value.int .i64 (IntKind.wrap .i64 (i_2 + 1)))) rfl ?_)
                  refine Rg_nil ?_
                  have hs77 := hs72.drop 0
                  replace f_d_sectors := f_d_sectors.step (Step.drop _ _ [(some b58, Obj.cells [(Value.int .i64 ((d.pending.getD i_2.toNat default).at_)), (Value.slice a_y57_data ((d.pending.getD i_2.toNat default).data).length c_y57_data)].toArray 73), (some b1, Obj.cells [(Value.slice a_d_sectors d.sectors.length c_d_sectors), (Value.slice a_d_pending d.pending.length c_d_pending), (Value.int .i64 d.left), (Value.bool d.stopped)].toArray 25)] 0)
                  replace f_d_pending := f_d_pending.step (Step.drop _ _ [(some b58, Obj.cells [(Value.int .i64 ((d.pending.getD i_2.toNat default).at_)), (Value.slice a_y57_data ((d.pending.getD i_2.toNat default).data).length c_y57_data)].toArray 73), (some b1, Obj.cells [(Value.slice a_d_sectors d.sectors.length c_d_sectors), (Value.slice a_d_pending d.pending.length c_d_pending), (Value.int .i64 d.left), (Value.bool d.stopped)].toArray 25)] 0)
                  replace f_y57_data := f_y57_data.step (Step.drop _ _ [(some b58, Obj.cells [(Value.int .i64 ((d.pending.getD i_2.toNat default).at_)), (Value.slice a_y57_data ((d.pending.getD i_2.toNat default).data).length c_y57_data)].toArray 73), (some b1, Obj.cells [(Value.slice a_d_sectors d.sectors.length c_d_sectors), (Value.slice a_d_pending d.pending.length c_d_pending), (Value.int .i64 d.left), (Value.bool d.stopped)].toArray 25)] 0)
                  replace ch30 := ch30.trans (Step.drop _ _ [(some b58, Obj.cells [(Value.int .i64 ((d.pending.getD i_2.toNat default).at_)), (Value.slice a_y57_data ((d.pending.getD i_2.toNat default).data).length c_y57_data)].toArray 73), (some b1, Obj.cells [(Value.slice a_d_sectors d.sectors.length c_d_sectors), (Value.slice a_d_pending d.pending.length c_d_pending), (Value.int .i64 d.left), (Value.bool d.stopped)].toArray 25)] 0)
                  replace ch50 := ch50.trans (Step.drop _ _ [(some b58, Obj.cells [(Value.int .i64 ((d.pending.getD i_2.toNat default).at_)), (Value.slice a_y57_data ((d.pending.getD i_2.toNat default).data).length c_y57_data)].toArray 73), (some b1, Obj.cells [(Value.slice a_d_sectors d.sectors.length c_d_sectors), (Value.slice a_d_pending d.pending.length c_d_pending), (Value.int .i64 d.left), (Value.bool d.stopped)].toArray 25)] 0)
                  clear hs72
                  exact hK43 _ _ ⟨(IntKind.wrap .i64 (i_2 + 1)), _, rfl, ⟨(by repeat (first | with_reducible exact Out.refl _ _ | refine Out.upd ?_ rfl | refine Out.updL ?_ rfl | refine Out.mix' ?_ rfl | exact Out.refl _ _)), rfl, rfl, trivial⟩, ch50, hs77, (inK_wrap .i64 _), jnE1 hsf42 hm⟩
              ·
                intro K70 hK70
                have ch78 := Step.refl (ks [(some b58, Obj.cells [(Value.int .i64 ((d.pending.getD i_2.toNat default).at_)), (Value.slice a_y57_data ((d.pending.getD i_2.toNat default).data).length c_y57_data)].toArray 73), (some b1, Obj.cells [(Value.slice a_d_sectors d.sectors.length c_d_sectors), (Value.slice a_d_pending d.pending.length c_d_pending), (Value.int .i64 d.left), (Value.bool d.stopped)].toArray 25)] O) w63
                clear f54
                refine Wp_region ?_  -- 13 ref.go:19
                refine Rg_op rfl (op_fieldAddr ty73 rfl ty3 (by decide) rfl (rfl : _ = (⟨_, 0, none⟩ : Addr)) ?_)
                refine Rg_op rfl (op_load (cs := [(Value.int .i64 ((d.pending.getD i_2.toNat default).at_)), (Value.slice a_y57_data ((d.pending.getD i_2.toNat default).data).length c_y57_data)]) (i := 0) ty3 hs65 rfl rfl rfl ?_)
                refine Rg_op rfl (op_lss rfl rfl ?_)
                refine Rg_op rfl (op_move (v := (Value.bool (decide (((d.pending.getD i_2.toNat default).at_) < 0)))) rfl ?_)
                refine Rg_case (fun hg79 => ?_) (fun hg79 => ?_)
                ·
                  replace hm := bif_t hm hg79
                  refine Rg_opx rfl (asB_ne rfl rfl) rfl ?_
                  refine Rg_opx rfl (asB_ne rfl rfl) rfl ?_
                  refine Rg_opx rfl (asB_ne rfl rfl) rfl ?_
                  refine Rg_opx rfl (asB_ne rfl rfl) rfl ?_
                  refine Rg_op rfl (op_pick_t (v := (Value.bool true)) rfl rfl ?_)
                  refine Rg_op rfl (op_move (v := (Value.bool true)) rfl ?_)
                  refine Rg_opx rfl (asB_ne rfl rfl) rfl ?_
                  refine Rg_opx rfl (asB_ne rfl rfl) rfl ?_
                  refine Rg_opx rfl (asB_ne rfl rfl) rfl ?_
                  refine Rg_opx rfl (asB_ne rfl rfl) rfl ?_
                  refine Rg_op rfl (op_pick_t (v := (Value.bool true)) rfl rfl ?_)
                  refine Rg_nil ?_
                  exact hK70 _ _ ⟨true, _, rfl, ⟨(by repeat (first | with_reducible exact Out.refl _ _ | refine Out.upd ?_ rfl | refine Out.updL ?_ rfl | refine Out.mix' ?_ rfl | exact Out.refl _ _)), rfl, rfl, trivial⟩, ch78, hs65, hm⟩
                ·
                  replace hm := bif_f hm hg79
                  refine Rg_opg rfl rfl rfl (op_fieldAddr ty73 rfl ty3 (by decide) rfl (rfl : _ = (⟨_, 0, none⟩ : Addr)) ?_)
                  refine Rg_opg rfl rfl rfl (op_load (cs := [(Value.int .i64 ((d.pending.getD i_2.toNat default).at_)), (Value.slice a_y57_data ((d.pending.getD i_2.toNat default).data).length c_y57_data)]) (i := 0) ty3 hs65 rfl rfl rfl ?_)
                  refine Rg_opg rfl rfl rfl (op_move (v := (Value.int .i64 (d.sectors.length : Int))) rfl ?_)
                  refine Rg_opg rfl rfl rfl (op_geq rfl rfl ?_)
                  refine Rg_op rfl (op_pick_f (v := (Value.bool (decide ((d.sectors.length : Int) ≤ ((d.pending.getD i_2.toNat default).at_))))) rfl rfl ?_)
                  refine Rg_op rfl (op_move (v := (Value.bool (decide ((d.sectors.length : Int) ≤ ((d.pending.getD i_2.toNat default).at_))))) rfl ?_)
                  refine Rg_case (fun hg80 => ?_) (fun hg80 => ?_)
                  ·
                    replace hm := bif_t hm hg80
                    refine Rg_opx rfl (asB_ne rfl rfl) rfl ?_
                    refine Rg_opx rfl (asB_ne rfl rfl) rfl ?_
                    refine Rg_opx rfl (asB_ne rfl rfl) rfl ?_
                    refine Rg_opx rfl (asB_ne rfl rfl) rfl ?_
                    refine Rg_op rfl (op_pick_t (v := (Value.bool true)) rfl rfl ?_)
                    refine Rg_nil ?_
                    exact hK70 _ _ ⟨true, _, rfl, ⟨(by repeat (first | with_reducible exact Out.refl _ _ | refine Out.upd ?_ rfl | refine Out.updL ?_ rfl | refine Out.mix' ?_ rfl | exact Out.refl _ _)), rfl, rfl, trivial⟩, ch78, hs65, hm⟩
                  ·
                    replace hm := bif_f hm hg80
                    refine Rg_opg rfl rfl rfl (op_fieldAddr ty73 rfl ty41 (by decide) rfl (rfl : _ = (⟨_, 1, none⟩ : Addr)) ?_)
                    refine Rg_opg rfl rfl rfl (op_load (cs := [(Value.int .i64 ((d.pending.getD i_2.toNat default).at_)), (Value.slice a_y57_data ((d.pending.getD i_2.toNat default).data).length c_y57_data)]) (i := 0) ty41 hs65 rfl rfl rfl ?_)
                    refine Rg_opg rfl rfl rfl (op_len Try.underlying41 rfl ?_)
                    refine Rg_opg rfl rfl rfl (op_neq rfl rfl ?_)
                    refine Rg_op rfl (op_pick_f (v := (Value.bool (decide ((((d.pending.getD i_2.toNat default).data).length : Int) ≠ 128)))) rfl rfl ?_)
                    refine Rg_nil ?_
                    exact hK70 _ _ ⟨(decide ((((d.pending.getD i_2.toNat default).data).length : Int) ≠ 128)), _, rfl, ⟨(by repeat (first | with_reducible exact Out.refl _ _ | refine Out.upd ?_ rfl | refine Out.updL ?_ rfl | refine Out.mix' ?_ rfl | exact Out.refl _ _)), rfl, rfl, trivial⟩, ch78, hs65, hm⟩
            ·
              replace hm := bif_f hm hc51
              refine Wp_exit ?_
              refine Wp_seq ?_
              obtain ⟨hs81, p82⟩ := hs46.sub (bs' := []) (.cons _ List.Sublist.slnil)
              clear f_d_sectors f_d_pending
              replace ch30 := ch30.trans p82
              replace ch50 := ch50.trans p82
              clear p82 hs46
              refine Wp_region ?_  -- 15 ref.go:23
              refine Rg_op rfl (op_assign (v := (Value.int .i64 0)) rfl ?_)
              refine Rg_nil ?_
              refine Wp_ret ?_
              have hz := step_all hs81
              refine ⟨_, (show Closes [] _ _ from rfl), [(Value.int .i64 0)], ⟨rfl, trivial⟩, hs81.ext, ?_⟩
              exact Vr.eq (a := (vI .i64)) (x := 0) ⟨rfl, (show InK .i64 0 from by decide)⟩ (Option.some.inj hm)
  ·
    intro K10 hK10
    have ch83 := Step.refl (ks [(some b1, Obj.cells [(Value.slice a_d_sectors d.sectors.length c_d_sectors), (Value.slice a_d_pending d.pending.length c_d_pending), (Value.int .i64 d.left), (Value.bool d.stopped)].toArray 25)] O) w2
    refine Wp_region ?_  -- 2 ref.go:9
    refine Rg_op rfl (op_move (v := (Value.int .i64 (d.sectors.length : Int))) rfl ?_)
    refine Rg_op rfl (op_lss rfl rfl ?_)
    refine Rg_op rfl (op_move (v := (Value.bool (decide ((d.sectors.length : Int) < 1)))) rfl ?_)
    refine Rg_case (fun hg84 => ?_) (fun hg84 => ?_)
    ·
      replace hm := bif_t hm hg84
      refine Rg_opx rfl (asB_ne rfl rfl) rfl ?_
      refine Rg_opx rfl (asB_ne rfl rfl) rfl ?_
      refine Rg_op rfl (op_pick_t (v := (Value.bool true)) rfl rfl ?_)
      refine Rg_op rfl (op_move (v := (Value.bool true)) rfl ?_)
      refine Rg_opx rfl (asB_ne rfl rfl) rfl ?_
      refine Rg_opx rfl (asB_ne rfl rfl) rfl ?_
      refine Rg_opx rfl (asB_ne rfl rfl) rfl ?_
      refine Rg_opx rfl (asB_ne rfl rfl) rfl ?_
      refine Rg_op rfl (op_pick_t (v := (Value.bool true)) rfl rfl ?_)
      refine Rg_op rfl (op_move (v := (Value.bool true)) rfl ?_)
      refine Rg_opx rfl (asB_ne rfl rfl) rfl ?_
      refine Rg_opx rfl (asB_ne rfl rfl) rfl ?_
      refine Rg_opx rfl (asB_ne rfl rfl) rfl ?_
      refine Rg_op rfl (op_pick_t (v := (Value.bool true)) rfl rfl ?_)
      refine Rg_op rfl (op_move (v := (Value.bool true)) rfl ?_)
      refine Rg_opx rfl (asB_ne rfl rfl) rfl ?_
      refine Rg_opx rfl (asB_ne rfl rfl) rfl ?_
      refine Rg_opx rfl (asB_ne rfl rfl) rfl ?_
      refine Rg_op rfl (op_pick_t (v := (Value.bool true)) rfl rfl ?_)
      refine Rg_nil ?_
      exact hK10 _ _ ⟨true, _, rfl, ⟨(by repeat (first | with_reducible exact Out.refl _ _ | refine Out.upd ?_ rfl | refine Out.updL ?_ rfl | refine Out.mix' ?_ rfl | exact Out.refl _ _)), rfl, rfl, trivial⟩, ch83, hs4, hm⟩
    ·
      replace hm := bif_f hm hg84
      refine Rg_opg rfl rfl rfl (op_move (v := (Value.int .i64 (d.sectors.length : Int))) rfl ?_)
      refine Rg_opg rfl rfl rfl (op_gtr rfl rfl ?_)
      refine Rg_op rfl (op_pick_f (v := (Value.bool (decide (4096 < (d.sectors.length : Int))))) rfl rfl ?_)
      refine Rg_op rfl (op_move (v := (Value.bool (decide (4096 < (d.sectors.length : Int))))) rfl ?_)
      refine Rg_case (fun hg85 => ?_) (fun hg85 => ?_)
      ·
        replace hm := bif_t hm hg85
        refine Rg_opx rfl (asB_ne rfl rfl) rfl ?_
        refine Rg_opx rfl (asB_ne rfl rfl) rfl ?_
        refine Rg_opx rfl (asB_ne rfl rfl) rfl ?_
        refine Rg_opx rfl (asB_ne rfl rfl) rfl ?_
        refine Rg_op rfl (op_pick_t (v := (Value.bool true)) rfl rfl ?_)
        refine Rg_op rfl (op_move (v := (Value.bool true)) rfl ?_)
        refine Rg_opx rfl (asB_ne rfl rfl) rfl ?_
        refine Rg_opx rfl (asB_ne rfl rfl) rfl ?_
        refine Rg_opx rfl (asB_ne rfl rfl) rfl ?_
        refine Rg_op rfl (op_pick_t (v := (Value.bool true)) rfl rfl ?_)
        refine Rg_op rfl (op_move (v := (Value.bool true)) rfl ?_)
        refine Rg_opx rfl (asB_ne rfl rfl) rfl ?_
        refine Rg_opx rfl (asB_ne rfl rfl) rfl ?_
        refine Rg_opx rfl (asB_ne rfl rfl) rfl ?_
        refine Rg_op rfl (op_pick_t (v := (Value.bool true)) rfl rfl ?_)
        refine Rg_nil ?_
        exact hK10 _ _ ⟨true, _, rfl, ⟨(by repeat (first | with_reducible exact Out.refl _ _ | refine Out.upd ?_ rfl | refine Out.updL ?_ rfl | refine Out.mix' ?_ rfl | exact Out.refl _ _)), rfl, rfl, trivial⟩, ch83, hs4, hm⟩
      ·
        replace hm := bif_f hm hg85
        refine Rg_opg rfl rfl rfl (op_fieldAddr ty25 rfl ty23 (by decide) rfl (rfl : _ = (⟨_, 1, none⟩ : Addr)) ?_)
        refine Rg_opg rfl rfl rfl (op_load (cs := [(Value.slice a_d_sectors d.sectors.length c_d_sectors), (Value.slice a_d_pending d.pending.length c_d_pending), (Value.int .i64 d.left), (Value.bool d.stopped)]) (i := 0) ty23 hs4 rfl rfl rfl ?_)
        refine Rg_opg rfl rfl rfl (op_len Try.underlying23 rfl ?_)
        refine Rg_opg rfl rfl rfl (op_gtr rfl rfl ?_)
        refine Rg_op rfl (op_pick_f (v := (Value.bool (decide (4096 < (d.pending.length : Int))))) rfl rfl ?_)
        refine Rg_op rfl (op_move (v := (Value.bool (decide (4096 < (d.pending.length : Int))))) rfl ?_)
        refine Rg_case (fun hg86 => ?_) (fun hg86 => ?_)
        ·
          replace hm := bif_t hm hg86
          refine Rg_opx rfl (asB_ne rfl rfl) rfl ?_
          refine Rg_opx rfl (asB_ne rfl rfl) rfl ?_
          refine Rg_opx rfl (asB_ne rfl rfl) rfl ?_
          refine Rg_op rfl (op_pick_t (v := (Value.bool true)) rfl rfl ?_)
          refine Rg_op rfl (op_move (v := (Value.bool true)) rfl ?_)
          refine Rg_opx rfl (asB_ne rfl rfl) rfl ?_
          refine Rg_opx rfl (asB_ne rfl rfl) rfl ?_
          refine Rg_opx rfl (asB_ne rfl rfl) rfl ?_
          refine Rg_op rfl (op_pick_t (v := (Value.bool true)) rfl rfl ?_)
          refine Rg_nil ?_
          exact hK10 _ _ ⟨true, _, rfl, ⟨(by repeat (first | with_reducible exact Out.refl _ _ | refine Out.upd ?_ rfl | refine Out.updL ?_ rfl | refine Out.mix' ?_ rfl | exact Out.refl _ _)), rfl, rfl, trivial⟩, ch83, hs4, hm⟩
        ·
          replace hm := bif_f hm hg86
          refine Rg_opg rfl rfl rfl (op_fieldAddr ty25 rfl ty3 (by decide) rfl (rfl : _ = (⟨_, 2, none⟩ : Addr)) ?_)
          refine Rg_opg rfl rfl rfl (op_load (cs := [(Value.slice a_d_sectors d.sectors.length c_d_sectors), (Value.slice a_d_pending d.pending.length c_d_pending), (Value.int .i64 d.left), (Value.bool d.stopped)]) (i := 0) ty3 hs4 rfl rfl rfl ?_)
          refine Rg_opg rfl rfl rfl (op_lss rfl rfl ?_)
          refine Rg_op rfl (op_pick_f (v := (Value.bool (decide (d.left < (-1))))) rfl rfl ?_)
          refine Rg_op rfl (op_move (v := (Value.bool (decide (d.left < (-1))))) rfl ?_)
          refine Rg_case (fun hg87 => ?_) (fun hg87 => ?_)
          ·
            replace hm := bif_t hm hg87
            refine Rg_opx rfl (asB_ne rfl rfl) rfl ?_
            refine Rg_opx rfl (asB_ne rfl rfl) rfl ?_
            refine Rg_opx rfl (asB_ne rfl rfl) rfl ?_
            refine Rg_op rfl (op_pick_t (v := (Value.bool true)) rfl rfl ?_)
            refine Rg_nil ?_
            exact hK10 _ _ ⟨true, _, rfl, ⟨(by repeat (first | with_reducible exact Out.refl _ _ | refine Out.upd ?_ rfl | refine Out.updL ?_ rfl | refine Out.mix' ?_ rfl | exact Out.refl _ _)), rfl, rfl, trivial⟩, ch83, hs4, hm⟩
          ·
            replace hm := bif_f hm hg87
            refine Rg_opg rfl rfl rfl (op_fieldAddr ty25 rfl ty3 (by decide) rfl (rfl : _ = (⟨_, 2, none⟩ : Addr)) ?_)
            refine Rg_opg rfl rfl rfl (op_load (cs := [(Value.slice a_d_sectors d.sectors.length c_d_sectors), (Value.slice a_d_pending d.pending.length c_d_pending), (Value.int .i64 d.left), (Value.bool d.stopped)]) (i := 0) ty3 hs4 rfl rfl rfl ?_)
            refine Rg_opg rfl rfl rfl (op_gtr rfl rfl ?_)
            refine Rg_op rfl (op_pick_f (v := (Value.bool (decide (65536 < d.left)))) rfl rfl ?_)
            refine Rg_nil ?_
            exact hK10 _ _ ⟨(decide (65536 < d.left)), _, rfl, ⟨(by repeat (first | with_reducible exact Out.refl _ _ | refine Out.upd ?_ rfl | refine Out.updL ?_ rfl | refine Out.mix' ?_ rfl | exact Out.refl _ _)), rfl, rfl, trivial⟩, ch83, hs4, hm⟩

end Go.Fx


/- The plain laws of chapter 44. -/
set_option linter.unusedSimpArgs false
set_option linter.unusedVariables false
namespace Go.Fx
open Go Go.RowKit
theorem sane_eq : m13_overflightlaw44_sane = some true := by kernel_rfl

/-- the first index from i where g holds, or -1 -/
def fidx {α} (g : α → Bool) : Nat → List α → Int
  | _, [] => -1
  | i, x :: t => bif g x then (i : Int) else fidx g (i + 1) t
theorem fidx_any {α} (g : α → Bool) (l : List α) (i : Nat) : decide (0 ≤ fidx g i l) = l.any g := by
  induction l generalizing i with
  | nil => rfl
  | cons x t ih => cases h : g x <;> simp [fidx, h, ih]
theorem m44_eq (s : List XWrite) (f : XWrite → Option Bool) (g : XWrite → Bool) (hf : ∀ x, f x = some (g x)) (hl : s.length < 9223372036854775807) : m44_api_Write_ s f = some (s.any g) := by
  have : m65_api_Write_ s f = some (fidx g 0 s) := by
    unfold m65_api_Write_
    refine up_listI (fun i t => some (fidx g i t)) s hl ?_ ?_ (by omega)
    · intro sf; unfold m65_api_Write__B0; simp [fidx]
    · intro sf i x t h1 h2 h3 ih; unfold m65_api_Write__B0; obtain ⟨_, rfl⟩ := List.getElem?_eq_some_iff.1 h2; cases h : g s[i] <;> simp [h1, h3, ih, hf, h, fidx, ck_eq]
  unfold m44_api_Write_; rw [this]; simp [fidx_any]
theorem m45_eq (s : List (List UInt8)) (f : List UInt8 → Option Bool) (g : List UInt8 → Bool) (hf : ∀ x, f x = some (g x)) (hl : s.length < 9223372036854775807) : m45_slices_ContainsFuncbyte_byte_ s f = some (s.any g) := by
  have : m66_slices_IndexFuncbyte_byte_ s f = some (fidx g 0 s) := by
    unfold m66_slices_IndexFuncbyte_byte_
    refine up_listI (fun i t => some (fidx g i t)) s hl ?_ ?_ (by omega)
    · intro sf; unfold m66_slices_IndexFuncbyte_byte__B0; simp [fidx]
    · intro sf i x t h1 h2 h3 ih; unfold m66_slices_IndexFuncbyte_byte__B0; obtain ⟨_, rfl⟩ := List.getElem?_eq_some_iff.1 h2; cases h : g s[i] <;> simp [h1, h3, ih, hf, h, fidx, ck_eq]
  unfold m45_slices_ContainsFuncbyte_byte_; rw [this]; simp [fidx_any]

def secBad (b : List UInt8) : Bool := !decide (b.length = 128)
def wrBad (n : Nat) (w : XWrite) : Bool := decide (w.at_ < 0) || decide ((n : Int) ≤ w.at_) || !decide (w.data.length = 128)
/-- what Check answers -/
def chk (d : XDisk) : Bool := !(decide ((d.sectors.length : Int) < 1) || decide (4096 < (d.sectors.length : Int)) || decide (4096 < (d.pending.length : Int)) || decide (d.left < -1) || decide (65536 < d.left) || d.pending.any (wrBad d.sectors.length) || d.sectors.any secBad)
def lim : Nat := 140737488351232
structure Few' (d : XDisk) : Prop where
  s : d.sectors.length < 9223372036854775807
  p : d.pending.length < 9223372036854775807
theorem m18_eq (d : XDisk) (h : Few' d) : m18_disk_Check d = some (bif chk d then 0 else 440) := by
  unfold m18_disk_Check
  rw [m44_eq _ _ (wrBad d.sectors.length) _ h.p, m45_eq _ _ secBad _ h.s]
  · unfold chk
    simp only [jn_eq, Option.bind_some]
    cases decide ((d.sectors.length : Int) < 1) <;> cases decide (4096 < (d.sectors.length : Int)) <;> cases decide (4096 < (d.pending.length : Int)) <;> cases decide (d.left < -1) <;> cases decide (65536 < d.left) <;> cases d.pending.any (wrBad d.sectors.length) <;> cases d.sectors.any secBad <;> rfl
  · intro x; simp [m46_disk_Check_2, m43_disk_isSector, secBad]; omega
  · intro w; simp only [m42_disk_Check_1, m43_disk_isSector, wrBad]
    by_cases h1 : w.at_ < 0 <;> by_cases h2 : (d.sectors.length : Int) ≤ w.at_ <;> by_cases h3 : w.data.length = 128 <;> simp [h1, h2, h3] <;> omega
theorem m19_eq (d : XDisk) (h : Few' d) : m19_overflightref44_Check d = some (bif chk d then 0 else 440) := by
  unfold m19_overflightref44_Check
  have e1 : loop1 (m19_overflightref44_Check_B1 d) (((d.pending.length : Int) - 0).toNat + 1) 0 = some (bif d.pending.any (wrBad d.sectors.length) then 440 else 0) := by
    refine up_list0 (fun t => some (bif t.any (wrBad d.sectors.length) then 440 else 0)) d.pending h.p ?_ ?_ (by simp)
    · intro sf; simp [m19_overflightref44_Check_B1]
    · intro sf i x t h1 h2 h3 ih; obtain ⟨_, rfl⟩ := List.getElem?_eq_some_iff.1 h2
      unfold m19_overflightref44_Check_B1
      simp only [wrBad, List.any_cons]
      have k4 : ((d.pending[i].data.length : Int) = 128) = (d.pending[i].data.length = 128) := by apply propext; omega
      by_cases k1 : (d.pending[i]).at_ < 0 <;> by_cases k2 : (d.sectors.length : Int) ≤ (d.pending[i]).at_ <;> by_cases k3 : (d.pending[i]).data.length = 128 <;> simp [h1, h3, ih, k1, k2, k3, k4, ck_eq, wrBad]
  have e0 : loop1 (m19_overflightref44_Check_B0 d) (((d.sectors.length : Int) - 0).toNat + 1) 0 = some (bif d.sectors.any secBad then 440 else bif d.pending.any (wrBad d.sectors.length) then 440 else 0) := by
    refine up_list0 (fun t => some (bif t.any secBad then 440 else bif d.pending.any (wrBad d.sectors.length) then 440 else 0)) d.sectors h.s ?_ ?_ (by simp)
    · intro sf; unfold m19_overflightref44_Check_B0; rw [e1]; simp
    · intro sf i x t h1 h2 h3 ih; obtain ⟨_, rfl⟩ := List.getElem?_eq_some_iff.1 h2
      unfold m19_overflightref44_Check_B0
      rw [e1]
      have k4 : ((d.sectors[i].length : Int) = 128) = (d.sectors[i].length = 128) := by apply propext; omega
      by_cases k3 : (d.sectors[i]).length = 128 <;> simp [h1, h3, ih, k3, k4, ck_eq, secBad]
  rw [e0]
  unfold chk
  simp only [jn_eq, Option.bind_some]
  cases decide ((d.sectors.length : Int) < 1) <;> cases decide (4096 < (d.sectors.length : Int)) <;> cases decide (4096 < (d.pending.length : Int)) <;> cases decide (d.left < -1) <;> cases decide (65536 < d.left) <;> cases d.pending.any (wrBad d.sectors.length) <;> cases d.sectors.any secBad <;> rfl
theorem m17_refl (a : XDisk) (h : Few' a) : m17_overflightref44_Same a a = some true := by
  unfold m17_overflightref44_Same
  have e1 : loop1 (m17_overflightref44_Same_B1 a a) (((a.pending.length : Int) - 0).toNat + 1) 0 = some true := by
    refine up_list0 (fun t => some true) a.pending h.p ?_ ?_ (by simp)
    · intro sf; simp [m17_overflightref44_Same_B1]
    · intro sf i x t h1 h2 h3 ih; obtain ⟨_, rfl⟩ := List.getElem?_eq_some_iff.1 h2
      unfold m17_overflightref44_Same_B1
      simp [h1, h3, ih, ck_eq]
  have e0 : loop1 (m17_overflightref44_Same_B0 a a) (((a.sectors.length : Int) - 0).toNat + 1) 0 = some true := by
    refine up_list0 (fun t => some true) a.sectors h.s ?_ ?_ (by simp)
    · intro sf; unfold m17_overflightref44_Same_B0; rw [e1]; simp
    · intro sf i x t h1 h2 h3 ih; obtain ⟨_, rfl⟩ := List.getElem?_eq_some_iff.1 h2
      unfold m17_overflightref44_Same_B0
      simp [h1, h3, ih, ck_eq]
  rw [e0]; simp
theorem up_while {σ R : Type} {L : Nat → σ → Option R} (μ : σ → Nat) (I : σ → Prop) (T : σ → Option R)
    (hS : ∀ n s, I s → (∀ s', I s' → μ s' < μ s → L n s' = T s') → L (n + 1) s = T s) : ∀ fuel s, I s → μ s < fuel → L fuel s = T s := by
  intro fuel
  induction fuel with
  | zero => intro s _ h; omega
  | succ n ih => intro s hI hf; exact hS n s hI fun s' hI' hm => ih s' hI' (by omega)
theorem up_ex {σ R : Type} {L : Nat → σ → Option R} (μ : σ → Nat) (I : σ → Prop) (Q : Option R → Prop)
    (hS : ∀ n s, I s → (∀ s', I s' → μ s' < μ s → Q (L n s')) → Q (L (n + 1) s)) : ∀ fuel s, I s → μ s < fuel → Q (L fuel s) := by
  intro fuel
  induction fuel with
  | zero => intro s _ h; omega
  | succ n ih => intro s hI hf; exact hS n s hI fun s' hI' hm => ih s' hI' (by omega)
/-- the disk is small -/
theorem m14_tot (d : XDisk) (h1 : d.sectors.length ≤ 140737488351232) (h2 : ∀ s ∈ d.sectors, s.length ≤ 140737488351232) (h3 : d.pending.length ≤ 140737488351232) (h4 : ∀ w ∈ d.pending, w.data.length ≤ 140737488351232) : ∃ b, m14_overflightref44_Few d = some b := by
  have e1 : ∀ n : Int, 0 ≤ n → n ≤ 140737488361232 → ∃ b, loop2 (m14_overflightref44_Few_B1 d) 1000000 n 0 = some b := by
    intro n hn hm
    refine up_ex (σ := Int × Nat) (L := fun k s => loop2 (m14_overflightref44_Few_B1 d) k s.1 s.2) (fun s => (9001 - s.1).toNat) (fun s => 0 ≤ s.1 ∧ s.1 ≤ 140737488361232 ∧ s.2 ≤ d.pending.length) (fun r => ∃ b, r = some b) ?_ _ (n, 0) ⟨hn, hm, by simp⟩ (by show (9001 - n).toNat < _; omega)
    rintro k ⟨n, i⟩ ⟨hn, hm, hi⟩ ih
    simp only at hn hm hi ih ⊢
    rw [loop2_succ]
    generalize loop2 (m14_overflightref44_Few_B1 d) k = sf at ih ⊢
    unfold m14_overflightref44_Few_B1
    by_cases a1 : i < d.pending.length <;> by_cases a2 : n ≤ 9000
    · have hl := h4 d.pending[i] (List.getElem_mem a1)
      have w1 : IntKind.i64.wrap (n + 1) = n + 1 := wrap_i64 (by omega) (by omega)
      have w2 : IntKind.i64.wrap (n + 1 + (d.pending[i].data.length : Int)) = n + 1 + (d.pending[i].data.length : Int) := wrap_i64 (by omega) (by omega)
      have w3 : IntKind.i64.wrap ((i : Int) + 1) = ((i + 1 : Nat) : Int) := (wrapS (by omega)).trans (by omega)
      obtain ⟨b, hb⟩ := ih (n + 1 + (d.pending[i].data.length : Int), i + 1) (by simp only; omega) (by simp only; omega)
      refine ⟨b, ?_⟩
      have g : d.pending.getD (i : Int).toNat default = d.pending[i] := by simp [a1]
      have c : (i : Int) < (d.pending.length : Int) := by omega
      simp only [jn_eq, c, a2, decide_true, cond_true, g, w1, w2, w3]
      rw [ck_eq (by simp)]; exact hb
    · simp [a1, a2]
    · simp [a1, a2]
    · simp [a1, a2]
  refine up_ex (σ := Int × Nat) (L := fun k s => loop2 (m14_overflightref44_Few_B0 d) k s.1 s.2) (fun s => (9001 - s.1).toNat) (fun s => 0 ≤ s.1 ∧ s.1 ≤ 140737488361232 ∧ s.2 ≤ d.sectors.length) (fun r => ∃ b, r = some b) ?_ _ (0, 0) ⟨by simp, by simp, by simp⟩ (by decide)
  rintro k ⟨n, i⟩ ⟨hn, hm, hi⟩ ih
  simp only at hn hm hi ih ⊢
  rw [loop2_succ]
  generalize loop2 (m14_overflightref44_Few_B0 d) k = sf at ih ⊢
  obtain ⟨b1, hb1⟩ := e1 n hn hm
  unfold m14_overflightref44_Few_B0
  rw [hb1]
  by_cases a1 : i < d.sectors.length <;> by_cases a2 : n ≤ 9000
  · have hl := h2 d.sectors[i] (List.getElem_mem a1)
    have w1 : IntKind.i64.wrap (n + 1) = n + 1 := wrap_i64 (by omega) (by omega)
    have w2 : IntKind.i64.wrap (n + 1 + (d.sectors[i].length : Int)) = n + 1 + (d.sectors[i].length : Int) := wrap_i64 (by omega) (by omega)
    have w3 : IntKind.i64.wrap ((i : Int) + 1) = ((i + 1 : Nat) : Int) := (wrapS (by omega)).trans (by omega)
    obtain ⟨b, hb⟩ := ih (n + 1 + (d.sectors[i].length : Int), i + 1) (by simp only; omega) (by simp only; omega)
    refine ⟨b, ?_⟩
    have g : d.sectors.getD (i : Int).toNat default = d.sectors[i] := by simp [a1]
    have c : (i : Int) < (d.sectors.length : Int) := by omega
    simp only [jn_eq, c, a2, decide_true, cond_true, g, w1, w2, w3]
    rw [ck_eq (by simp)]; exact hb
  · simp [a1, a2]
  · simp [a1, a2]
  · simp [a1, a2]
theorem sm_few {d : XDisk} (h : smXDisk d) : Few' d := ⟨by have := h.1.1; omega, by have := h.2.1.1; omega⟩
theorem m47_eq (d : XDisk) (h : Few' d) : m47_disk_runs d = some (chk d && !d.stopped) := by
  unfold m47_disk_runs; rw [m18_eq d h]; cases chk d <;> simp
end Go.Fx


/- What the operations of the disk of chapter 44 answer. -/
set_option linter.unusedSimpArgs false
set_option linter.unusedVariables false
namespace Go.Fx
open Go Go.RowKit
theorem m48_eq (d : XDisk) (a : Int) : m48_disk_has d a = some (decide (0 ≤ a) && decide (a < (d.sectors.length : Int))) := by
  unfold m48_disk_has; cases h : decide (0 ≤ a) <;> simp
/-- the pairs of a list from its end, below an index -/
def dn (s : List XWrite) : Nat → List (Int × XWrite)
  | 0 => []
  | n + 1 => ((n : Int), s.getD n default) :: dn s n
theorem m68_eq (s : List XWrite) (hl : s.length < 900000) : m68_api_Write__1 s = some (dn s s.length) := by
  unfold m68_api_Write__1
  have main : ∀ (n fuel : Nat), n ≤ s.length → n < fuel → loop1 (m68_api_Write__1_B0 s) fuel ((n : Int) - 1) = some (dn s n) := by
    intro n
    induction n with
    | zero => intro fuel _ hf; obtain ⟨k, rfl⟩ : ∃ k, fuel = k + 1 := ⟨fuel - 1, by omega⟩; rw [loop1_succ]; unfold m68_api_Write__1_B0; simp [dn]
    | succ n ih =>
      intro fuel hn hf; obtain ⟨k, rfl⟩ : ∃ k, fuel = k + 1 := ⟨fuel - 1, by omega⟩
      rw [loop1_succ]
      have := ih k (by omega) (by omega)
      generalize loop1 (m68_api_Write__1_B0 s) k = sf at this ⊢
      unfold m68_api_Write__1_B0
      have e : ((n + 1 : Nat) : Int) - 1 = (n : Int) := by omega
      have w : IntKind.i64.wrap ((n : Int) - 1) = (n : Int) - 1 := wrap_i64 (by omega) (by omega)
      rw [e, w, this]
      have : n < s.length := by omega
      simp [ck_eq, this, yl, dn]
  have w : IntKind.i64.wrap ((s.length : Int) - 1) = (s.length : Int) - 1 := wrap_i64 (by omega) (by omega)
  rw [w]; exact main s.length _ (by omega) (by omega)
/-- the bytes that were written last at a place -/
def lw (a : Int) (l : List XWrite) (z : List UInt8) : List UInt8 := l.foldl (fun z w => if w.at_ = a then w.data else z) z
theorem rng_lw (a : Int) (s : List XWrite) (K : List UInt8 → Option (List UInt8 × Int)) (z : List UInt8) (hK : ∀ v, K v = some (z, 0)) (n : Nat) (hn : n ≤ s.length) (v : List UInt8) :
    rng1 (m27_disk_Read_B0 a (fun v => some (v, 0))) K (dn s n) v = some (lw a (s.take n) z, 0) := by
  induction n with
  | zero => rw [dn, rng1_nil, hK]; rfl
  | succ n ih =>
    have hlt : n < s.length := by omega
    rw [dn, rng1_cons]
    unfold m27_disk_Read_B0
    rw [List.take_add_one, lw, List.foldl_append]
    have g : s[n]? = some s[n] := List.getElem?_eq_getElem hlt
    by_cases h : s[n].at_ = a
    · simp [g, h]
    · simp [g, h]; exact ih (by omega)
theorem m27_eq (d : XDisk) (a : Int) (h : Few' d) : m27_disk_Read d a = some (bif (chk d && !d.stopped) && (decide (0 ≤ a) && decide (a < (d.sectors.length : Int))) then (lw a d.pending (d.sectors.getD a.toNat default), 0) else ([], 440)) := by
  unfold m27_disk_Read
  rw [m47_eq d h, m48_eq]
  cases hc : chk d && !d.stopped
  · simp
  cases ha : (decide (0 ≤ a) && decide (a < (d.sectors.length : Int)))
  · simp
  have hp : d.pending.length < 900000 := by
    have : chk d = true := by revert hc; cases chk d <;> simp
    unfold chk at this; simp at this; omega
  simp only [Bool.and_eq_true, decide_eq_true_eq] at ha
  have := rng_lw a d.pending (fun v => some ((d.sectors.getD a.toNat default), 0)) (d.sectors.getD a.toNat default) (fun _ => rfl) d.pending.length (by omega) []
  rw [List.take_length] at this
  simp only [Option.bind_some, jn_eq, Bool.not_true, cond_false, m53_api_Write_, m68_eq _ hp, ck_eq ha, this, Bool.and_self, cond_true]
/-- the bytes of a sector that begins with some bytes -/
def pad (b : List UInt8) : List UInt8 := b.take 128 ++ (List.replicate 128 (0 : UInt8)).drop b.length
def dsk0 : XDisk := ⟨[], [], 0, false⟩
theorem m23_eq (d : XDisk) (a : Int) (b : List UInt8) (h : Few' d) : m23_disk_Write d a b =
    some (bif (chk d && !d.stopped) && (decide (0 ≤ a) && decide (a < (d.sectors.length : Int))) then
      (bif decide (128 < b.length) then (dsk0, 1) else bif decide (d.pending.length = 4096) then (dsk0, 2) else (⟨d.sectors, d.pending ++ [⟨a, pad b⟩], d.left, d.stopped⟩, 0)) else (dsk0, 440)) := by
  unfold m23_disk_Write
  rw [m47_eq d h, m48_eq]
  cases hc : chk d && !d.stopped
  · simp [dsk0]
  cases ha : (decide (0 ≤ a) && decide (a < (d.sectors.length : Int)))
  · simp [dsk0]
  have hp : d.pending.length ≤ 4096 := by
    have : chk d = true := by revert hc; cases chk d <;> simp
    unfold chk at this; simp at this; omega
  have e1 : (128 < (b.length : Int)) = (128 < b.length) := by apply propext; omega
  have e2 : ((d.pending.length : Int) = 4096) = (d.pending.length = 4096) := by apply propext; omega
  have e3 : m50_api_Write_ d.pending = some d.pending := by unfold m50_api_Write_; rw [ck_eq (by simp; omega)]; simp
  have e4 : m49_api_Write_ d.pending = some d.pending := by unfold m49_api_Write_; rw [ck_eq (by simp)]; simp
  simp only [Option.bind_some, jn_eq, Bool.not_true, cond_false, e1, e2, e3, e4]
  cases decide (128 < b.length)
  · cases decide (d.pending.length = 4096)
    · simp only [cond_false]
      rw [ck_eq (by omega), ck_eq (by simp), ck_eq (by simp; omega)]; simp [pad]
    · simp [dsk0]
  · simp [dsk0]
/-- the sectors after some writes -/
def perf (s : List (List UInt8)) (l : List XWrite) : List (List UInt8) := l.foldl (fun s w => s.set w.at_.toNat w.data) s
theorem perf_len (l : List XWrite) (s : List (List UInt8)) : (perf s l).length = s.length := by
  induction l generalizing s with
  | nil => rfl
  | cons x t ih => show (perf (s.set _ _) t).length = _; rw [ih]; simp
theorem m51_eq (s : List (List UInt8)) (l : List XWrite) (hs : s.length ≤ 5000) (hl : l.length < 5000) (hw : ∀ w ∈ l, 0 ≤ w.at_ ∧ w.at_ < (s.length : Int)) : m51_disk_perform s l = some (perf s l) := by
  unfold m51_disk_perform
  have e : m67_slices_Clonebyte_byte_ s = some s := by unfold m67_slices_Clonebyte_byte_; rw [ck_eq (by simp; omega)]; simp
  rw [e]
  show loop2 _ _ s 0 = _
  refine up_listB (σ := List (List UInt8)) (fun i x => x.length = s.length) (fun _ t x => some (perf x t)) l (by omega) ?_ ?_ (by simp) rfl
  · intro sf x _; unfold m51_disk_perform_B0; simp [perf]
  · intro sf i x y t h1 h2 h3 hx ih; obtain ⟨_, rfl⟩ := List.getElem?_eq_some_iff.1 h2
    have hm := hw l[i] (List.getElem_mem _)
    have := ih (x.set l[i].at_.toNat l[i].data) (by simpa using hx)
    unfold m51_disk_perform_B0
    have c1 : (i : Int) < (l.length : Int) := by omega
    have g : l.getD (i : Int).toNat default = l[i] := by simp [h1]
    simp only [c1, decide_true, cond_true, g, h3]
    rw [ck_eq (by simp), ck_eq (by rw [hx]; exact hm), this]; rfl
theorem chk_props {d : XDisk} (hk : chk d = true) : 1 ≤ d.sectors.length ∧ d.sectors.length ≤ 4096 ∧ d.pending.length ≤ 4096 ∧ -1 ≤ d.left ∧ d.left ≤ 65536 ∧ (∀ w ∈ d.pending, 0 ≤ w.at_ ∧ w.at_ < (d.sectors.length : Int) ∧ w.data.length = 128) ∧ ∀ s ∈ d.sectors, s.length = 128 := by
  unfold chk at hk
  simp only [Bool.not_eq_true', Bool.or_eq_false_iff, decide_eq_false_iff_not, List.any_eq_false] at hk
  obtain ⟨⟨⟨⟨⟨⟨h1, h2⟩, h3⟩, h4⟩, h5⟩, h6⟩, h7⟩ := hk
  refine ⟨by omega, by omega, by omega, by omega, by omega, fun w hw => ?_, fun s hs => ?_⟩
  · have := h6 w hw; simp [wrBad] at this; omega
  · have := h7 s hs; simpa [secBad] using this
theorem perf_all (l : List XWrite) (s : List (List UInt8)) (hs : ∀ x ∈ s, x.length = 128) (hl : ∀ w ∈ l, w.data.length = 128) : ∀ x ∈ perf s l, x.length = 128 := by
  induction l generalizing s with
  | nil => exact hs
  | cons w t ih =>
    refine ih (s.set w.at_.toNat w.data) (fun x hx => ?_) (fun w hw => hl w (by simp [hw]))
    rcases List.mem_or_eq_of_mem_set hx with h | h
    · exact hs x h
    · subst h; exact hl w (by simp)
/-- the torn sector -/
def torn (s : List UInt8) (w : List UInt8) : List UInt8 := w.take 64 ++ s.drop (min w.length 64)
theorem m25_eq (d : XDisk) (h : Few' d) : m25_disk_Sync d = some (bif chk d && !d.stopped then
      (bif decide (0 ≤ d.left) && decide (d.left < (d.pending.length : Int)) then
        (⟨(perf d.sectors (d.pending.take d.left.toNat)).set (d.pending.getD d.left.toNat default).at_.toNat (torn ((perf d.sectors (d.pending.take d.left.toNat)).getD (d.pending.getD d.left.toNat default).at_.toNat default) (d.pending.getD d.left.toNat default).data), [], 0, true⟩, 440)
      else (⟨perf d.sectors d.pending, [], bif decide (0 ≤ d.left) then d.left - (d.pending.length : Int) else d.left, false⟩, 0)) else (dsk0, 440)) := by
  unfold m25_disk_Sync
  rw [m47_eq d h]
  cases hc : chk d && !d.stopped
  · simp [dsk0]
  have hk : chk d = true := by revert hc; cases chk d <;> simp
  obtain ⟨p1, p2, p3, p4, p5, p6, p7⟩ := chk_props hk
  have hst : d.stopped = false := by revert hc; cases d.stopped <;> simp
  simp only [Option.bind_some, jn_eq, Bool.not_true, cond_false, cond_true]
  cases hL : decide (0 ≤ d.left) && decide (d.left < (d.pending.length : Int))
  · have e : m51_disk_perform d.sectors d.pending = some (perf d.sectors d.pending) := m51_eq _ _ (by omega) (by omega) (fun w hw => ⟨(p6 w hw).1, (p6 w hw).2.1⟩)
    rw [e]
    cases h0 : decide (0 ≤ d.left)
    · simp
    · have h1 : decide (d.left < (d.pending.length : Int)) = false := by rw [h0] at hL; simpa using hL
      have w : IntKind.i64.wrap (d.left - (d.pending.length : Int)) = d.left - (d.pending.length : Int) := wrap_i64 (by omega) (by omega)
      simp [h1, w]
  · simp only [Bool.and_eq_true, decide_eq_true_eq] at hL
    obtain ⟨l0, l1⟩ := hL
    have hn : d.left.toNat < d.pending.length := by omega
    have hm := p6 _ (List.getElem_mem hn)
    have e : m51_disk_perform d.sectors (d.pending.take d.left.toNat) = some (perf d.sectors (d.pending.take d.left.toNat)) := m51_eq _ _ (by omega) (by simp; omega) (fun w hw => ⟨(p6 w (List.mem_of_mem_take hw)).1, (p6 w (List.mem_of_mem_take hw)).2.1⟩)
    have g : d.pending.getD d.left.toNat default = d.pending[d.left.toNat] := by simp [hn]
    simp only [l0, l1, decide_true, cond_true, g, List.drop_zero, Nat.sub_zero, e]
    have hlen : (perf d.sectors (d.pending.take d.left.toNat)).length = d.sectors.length := perf_len _ _
    have hi : d.pending[d.left.toNat].at_.toNat < (perf d.sectors (d.pending.take d.left.toNat)).length := by rw [hlen]; omega
    have h128 := perf_all (d.pending.take d.left.toNat) d.sectors p7 (fun w hw => (p6 w (List.mem_of_mem_take hw)).2.2) _ (List.getElem_mem hi)
    have g2 : (perf d.sectors (d.pending.take d.left.toNat)).getD d.pending[d.left.toNat].at_.toNat default = (perf d.sectors (d.pending.take d.left.toNat))[d.pending[d.left.toNat].at_.toNat] := by simp [hi]
    have e5 : ∀ x : List UInt8, x.length = 128 → m52_slices_Clonebyte_byte_ x = some x := fun x hx => by unfold m52_slices_Clonebyte_byte_; rw [ck_eq (by simp; omega)]; simp
    have hb : 0 ≤ d.pending[d.left.toNat].at_ ∧ d.pending[d.left.toNat].at_ < ((perf d.sectors (d.pending.take d.left.toNat)).length : Int) := by rw [hlen]; exact ⟨hm.1, hm.2.1⟩
    have hc2 : d.left ≤ (d.pending.length : Int) := by omega
    simp only [Option.bind_some, hc2, and_self, ck_True, hb, and_true, g2, e5 _ h128]
    rw [ck_eq (by omega), ck_eq (by omega)]
    simp [torn]
end Go.Fx


/- Facts about disks of chapter 44: valid disks stay valid, what is read is what was performed. -/
set_option linter.unusedSimpArgs false
set_option linter.unusedVariables false
namespace Go.Fx
open Go Go.RowKit
theorem lw_append (a : Int) (l : List XWrite) (w : XWrite) (z : List UInt8) : lw a (l ++ [w]) z = if w.at_ = a then w.data else lw a l z := by simp [lw, List.foldl_append]
theorem perf_append (s : List (List UInt8)) (l m : List XWrite) : perf s (l ++ m) = perf (perf s l) m := by simp [perf, List.foldl_append]
theorem lw_perf (k : Nat) (l : List XWrite) (s : List (List UInt8)) (hk : k < s.length) (hw : ∀ w ∈ l, 0 ≤ w.at_ ∧ w.at_ < (s.length : Int)) :
    lw (k : Int) l (s.getD k default) = (perf s l).getD k default := by
  induction l generalizing s with
  | nil => rfl
  | cons w t ih =>
    show lw (k : Int) t (if w.at_ = (k : Int) then w.data else s.getD k default) = (perf (s.set w.at_.toNat w.data) t).getD k default
    rw [← ih (s.set w.at_.toNat w.data) (by simpa using hk) (fun x hx => by rw [List.length_set]; exact hw x (by simp [hx]))]
    congr 1
    have h0 := hw w (by simp)
    by_cases h : w.at_ = (k : Int)
    · have e : w.at_.toNat = k := by omega
      simp [h, hk]
    · have e : w.at_.toNat ≠ k := by omega
      simp [h, List.getElem?_set_ne e]
theorem lw_len (a : Int) (l : List XWrite) (z : List UInt8) (hz : z.length = 128) (hl : ∀ w ∈ l, w.data.length = 128) : (lw a l z).length = 128 := by
  induction l generalizing z with
  | nil => exact hz
  | cons w t ih =>
    refine ih (if w.at_ = a then w.data else z) ?_ (fun x hx => hl x (by simp [hx]))
    split
    · exact hl w (by simp)
    · exact hz
theorem pad_len {b : List UInt8} (h : b.length ≤ 128) : (pad b).length = 128 := by unfold pad; simp; omega
theorem pad_take {b : List UInt8} (h : b.length ≤ 128) : (pad b).take b.length = b := by unfold pad; rw [List.take_of_length_le h]; simp
theorem pad_full {b : List UInt8} (h : b.length = 128) : pad b = b := by unfold pad; rw [List.take_of_length_le (by omega), List.drop_eq_nil_of_le (by simp; omega)]; simp
theorem chk_of {d : XDisk} (h1 : 1 ≤ d.sectors.length) (h2 : d.sectors.length ≤ 4096) (h3 : d.pending.length ≤ 4096) (h4 : -1 ≤ d.left) (h5 : d.left ≤ 65536) (h6 : ∀ w ∈ d.pending, 0 ≤ w.at_ ∧ w.at_ < (d.sectors.length : Int) ∧ w.data.length = 128) (h7 : ∀ s ∈ d.sectors, s.length = 128) : chk d = true := by
  unfold chk
  simp only [Bool.not_eq_true', Bool.or_eq_false_iff, decide_eq_false_iff_not, List.any_eq_false]
  refine ⟨⟨⟨⟨⟨⟨by omega, by omega⟩, by omega⟩, by omega⟩, by omega⟩, fun w hw => ?_⟩, fun s hs => ?_⟩
  · have := h6 w hw; simp [wrBad, this.2.2]; omega
  · simp [secBad, h7 s hs]
/-- a write -/
def wr (d : XDisk) (a : Int) (b : List UInt8) : XDisk := ⟨d.sectors, d.pending ++ [⟨a, pad b⟩], d.left, d.stopped⟩
theorem chk_wr {d : XDisk} {a : Int} {b : List UInt8} (h : chk d = true) (h0 : 0 ≤ a) (h1 : a < (d.sectors.length : Int)) (hp : d.pending.length ≠ 4096) (hb : b.length ≤ 128) : chk (wr d a b) = true := by
  obtain ⟨p1, p2, p3, p4, p5, p6, p7⟩ := chk_props h
  refine chk_of p1 p2 (by simp [wr]; omega) p4 p5 (fun w hw => ?_) p7
  simp only [wr, List.mem_append, List.mem_singleton] at hw
  rcases hw with hw | hw
  · exact p6 w hw
  · subst hw; exact ⟨h0, h1, pad_len hb⟩
theorem wr_ok {d : XDisk} {a : Int} {b : List UInt8} (hf : Few' d) (h : chk d = true) (hs : d.stopped = false) (h0 : 0 ≤ a) (h1 : a < (d.sectors.length : Int)) (hp : d.pending.length ≠ 4096) (hb : b.length ≤ 128) : m23_disk_Write d a b = some (wr d a b, 0) := by
  rw [m23_eq d a b hf]
  have e1 : decide (128 < b.length) = false := by simp; omega
  simp [h, hs, h0, h1, hp, e1, wr]
theorem rd_ok {d : XDisk} {k : Nat} (hf : Few' d) (h : chk d = true) (hs : d.stopped = false) (h1 : k < d.sectors.length) : m27_disk_Read d (k : Int) = some ((perf d.sectors d.pending).getD k default, 0) := by
  obtain ⟨p1, p2, p3, p4, p5, p6, p7⟩ := chk_props h
  rw [m27_eq d k hf, ← lw_perf k d.pending d.sectors h1 (fun w hw => ⟨(p6 w hw).1, (p6 w hw).2.1⟩)]
  simp [h, hs, h1]
theorem chk_few {d : XDisk} (h : chk d = true) : Few' d := by
  obtain ⟨p1, p2, p3, p4, p5, p6, p7⟩ := chk_props h
  exact ⟨by omega, by omega⟩
/-- the disk after a sync that does not stop -/
def snc (d : XDisk) : XDisk := ⟨perf d.sectors d.pending, [], bif decide (0 ≤ d.left) then d.left - (d.pending.length : Int) else d.left, false⟩
theorem chk_snc {d : XDisk} (h : chk d = true) (hn : ¬ (0 ≤ d.left ∧ d.left < (d.pending.length : Int))) : chk (snc d) = true := by
  obtain ⟨p1, p2, p3, p4, p5, p6, p7⟩ := chk_props h
  refine chk_of (by simp [snc, perf_len]; omega) (by simp [snc, perf_len]; omega) (by simp [snc]) ?_ ?_ (by simp [snc]) ?_
  · by_cases h0 : 0 ≤ d.left <;> simp [snc, h0] <;> omega
  · by_cases h0 : 0 ≤ d.left <;> simp [snc, h0] <;> omega
  · exact perf_all _ _ p7 fun w hw => (p6 w hw).2.2
/-- the disk after a sync that stops -/
def stp (d : XDisk) : XDisk := ⟨(perf d.sectors (d.pending.take d.left.toNat)).set (d.pending.getD d.left.toNat default).at_.toNat (torn ((perf d.sectors (d.pending.take d.left.toNat)).getD (d.pending.getD d.left.toNat default).at_.toNat default) (d.pending.getD d.left.toNat default).data), [], 0, true⟩
theorem sn_ok {d : XDisk} (h : chk d = true) (hs : d.stopped = false) : m25_disk_Sync d = some (bif decide (0 ≤ d.left) && decide (d.left < (d.pending.length : Int)) then (stp d, 440) else (snc d, 0)) := by
  rw [m25_eq d (chk_few h)]; simp [h, hs, stp, snc]
end Go.Fx


/- DiskReads: the plain law. -/
set_option linter.unusedSimpArgs false
set_option linter.unusedVariables false
namespace Go.Fx
open Go Go.RowKit
theorem DiskReads_loop (d : XDisk) (w : XDisk) (hl : d.sectors.length = w.sectors.length) (hw : chk w = true) (hs : w.stopped = false) (hn : ¬ (0 ≤ w.left ∧ w.left < (w.pending.length : Int))) :
    loop1 (m5_overflightlaw44_DiskReads_B0 d (w, 0) (snc w, 0)) (((d.sectors.length : Int) - 0).toNat + 1) 0 = some true := by
  have hz := chk_snc hw hn
  have p2 := (chk_props hw).2.1
  refine up_list0 (fun t => some true) d.sectors (by omega) ?_ ?_ (by simp)
  · intro sf; unfold m5_overflightlaw44_DiskReads_B0; rw [m18_eq _ (chk_few hz)]; have : (snc w).pending = [] := rfl; simp [hz, this]
  · intro sf i x t h1 h2 h3 ih
    unfold m5_overflightlaw44_DiskReads_B0
    have e1 := rd_ok (d := w) (k := i) (chk_few hw) hw hs (by omega)
    have e2 := rd_ok (d := snc w) (k := i) (chk_few hz) hz rfl (by simp [snc, perf_len]; omega)
    simp only at e1 e2 ⊢
    rw [e1, e2]
    simp [h1, h3, ih, snc, perf]
theorem DiskReads_law (d : XDisk) (at_ other : Int) (b c : List UInt8) (hd : smXDisk d) (_ : InK .i64 at_) (_ : InK .i64 other) (_ : SmL SmT b) (_ : SmL SmT c) : m5_overflightlaw44_DiskReads d at_ other b c = some true := by
  obtain ⟨f, hb⟩ := m14_tot d hd.1.1 (fun s hs => (hd.1.2 s hs).1) hd.2.1.1 (fun w hw => (hd.2.1.2 w hw).2.1)
  have hf := sm_few hd
  unfold m5_overflightlaw44_DiskReads
  rw [sane_eq, hb]
  simp only [Option.bind_some, jn_eq, Bool.not_true, cond_false]
  cases f
  · simp
  simp only [Bool.not_true, cond_false]
  by_cases hb1 : b.length ≤ 128
  case neg => have e : decide (128 < (b.length : Int)) = true := by simp; omega
              simp [e]
  by_cases hc1 : c.length ≤ 128
  case neg => have e : decide (128 < (c.length : Int)) = true := by simp; omega
              simp [e]
  have eb : decide (128 < (b.length : Int)) = false := by simp; omega
  have ec : decide (128 < (c.length : Int)) = false := by simp; omega
  simp only [eb, ec, cond_false]
  -- what is read before
  by_cases hk : chk d = true ∧ d.stopped = false ∧ 0 ≤ other ∧ other < (d.sectors.length : Int)
  case neg =>
    have e : m27_disk_Read d other = some ([], 440) := by
      rw [m27_eq d other hf]
      have : ((chk d && !d.stopped) && (decide (0 ≤ other) && decide (other < (d.sectors.length : Int)))) = false := by
        apply Bool.eq_false_iff.2; intro h; apply hk; simp at h; exact ⟨h.1.1, h.1.2, h.2.1, h.2.2⟩
      simp [this]
    rw [e, m23_eq d at_ b hf]
    simp
  obtain ⟨k1, k2, k3, k4⟩ := hk
  obtain ⟨o, rfl⟩ : ∃ o : Nat, other = (o : Int) := ⟨other.toNat, by omega⟩
  have ho : o < d.sectors.length := by omega
  obtain ⟨p1, p2, p3, p4, p5, p6, p7⟩ := chk_props k1
  rw [rd_ok hf k1 k2 ho]
  by_cases hw : 0 ≤ at_ ∧ at_ < (d.sectors.length : Int) ∧ d.pending.length ≠ 4096
  case neg =>
    have e : ∃ z, m23_disk_Write d at_ b = some z ∧ z.2 ≠ 0 := by
      rw [m23_eq d at_ b hf]
      have e1 : decide (128 < b.length) = false := by simp; omega
      by_cases h1 : 0 ≤ at_ ∧ at_ < (d.sectors.length : Int)
      · have h2 : d.pending.length = 4096 := by
          apply Classical.byContradiction; intro h; exact hw ⟨h1.1, h1.2, h⟩
        refine ⟨(dsk0, 2), ?_, by decide⟩
        simp [k1, k2, h1.1, h1.2, e1, h2]
      · refine ⟨(dsk0, 440), ?_, by decide⟩
        have : (decide (0 ≤ at_) && decide (at_ < (d.sectors.length : Int))) = false := by
          apply Bool.eq_false_iff.2; intro h; apply h1; simpa using h
        simp [this]
    obtain ⟨z, hz, hz2⟩ := e
    rw [hz]; simp [hz2]
  obtain ⟨w1, w2, w3⟩ := hw
  obtain ⟨a, rfl⟩ : ∃ a : Nat, at_ = (a : Int) := ⟨at_.toNat, by omega⟩
  have ha : a < d.sectors.length := by omega
  have hx := chk_wr (b := b) k1 w1 w2 w3 hb1
  have hxs : (wr d (a : Int) b).stopped = false := k2
  have hxf := chk_few hx
  rw [wr_ok hf k1 k2 w1 w2 w3 hb1]
  simp only [Option.bind_some, rd_ok (k := o) hxf hx hxs ho, rd_ok (k := a) hxf hx hxs ha, ne_eq, not_true_eq_false, decide_false, cond_false]
  -- what is read after
  have hp : (perf (wr d (a : Int) b).sectors (wr d (a : Int) b).pending) = (perf d.sectors d.pending).set a (pad b) := by simp [wr, perf, List.foldl_append]
  have hlen : a < (perf d.sectors d.pending).length := by rw [perf_len]; exact ha
  have r1 : (perf (wr d (a : Int) b).sectors (wr d (a : Int) b).pending).getD a default = pad b := by rw [hp]; simp [hlen]
  have r2 : (a : Int) ≠ (o : Int) → (perf (wr d (a : Int) b).sectors (wr d (a : Int) b).pending).getD o default = (perf d.sectors d.pending).getD o default := by
    intro h; rw [hp]; have : a ≠ o := by omega
    simp [List.getElem?_set_ne this]
  have l1 : decide (¬ ((pad b).length : Int) = 128) = false := by rw [pad_len hb1]; rfl
  have l2 : decide (¬ List.take (b.length - 0) (List.drop 0 (pad b)) = b) = false := by rw [List.drop_zero, Nat.sub_zero, pad_take hb1]; simp
  rw [r1]
  simp only [l1, l2, cond_false]
  rw [ck_eq (by rw [pad_len hb1]; omega)]
  have hy : (bif decide (¬(a : Int) = (o : Int)) then (bif decide (¬(perf d.sectors d.pending).getD o default = (perf (wr d (a : Int) b).sectors (wr d (a : Int) b).pending).getD o default) then some false else none (α := Bool)) else none) = none := by
    by_cases h : (a : Int) = (o : Int)
    · simp [h]
    · simp only [h, not_false_iff, decide_true, cond_true, r2 h, not_true_eq_false, decide_false, cond_false]
  have hv : ∀ X : Option Bool, (bif decide (¬(a : Int) = (o : Int)) then (bif decide (¬(perf d.sectors d.pending).getD o default = (perf (wr d (a : Int) b).sectors (wr d (a : Int) b).pending).getD o default) then some false else X) else X) = X := by
    intro X
    by_cases h : (a : Int) = (o : Int)
    · simp [h]
    · simp only [h, not_false_iff, decide_true, cond_true, r2 h, not_true_eq_false, decide_false, cond_false]
  refine (hv _).trans ?_
  -- the second write
  by_cases hq : (wr d (a : Int) b).pending.length = 4096
  · have e1 : decide (128 < c.length) = false := by simp; omega
    rw [m23_eq _ _ _ hxf]
    simp [hx, hxs, k3, k4, e1, hq, show (wr d (a : Int) b).sectors = d.sectors from rfl, ho]
  have hyc := chk_wr (b := c) hx k3 k4 hq hc1
  rw [wr_ok hxf hx hxs k3 k4 hq hc1]
  have hys : (wr (wr d (a : Int) b) (o : Int) c).stopped = false := k2
  simp only [Option.bind_some, sn_ok hyc hys, ne_eq, not_true_eq_false, decide_false, cond_false]
  by_cases hn : 0 ≤ (wr (wr d (a : Int) b) (o : Int) c).left ∧ (wr (wr d (a : Int) b) (o : Int) c).left < ((wr (wr d (a : Int) b) (o : Int) c).pending.length : Int)
  · simp [hn.1, hn.2, stp]
  · have e : (decide (0 ≤ (wr (wr d (a : Int) b) (o : Int) c).left) && decide ((wr (wr d (a : Int) b) (o : Int) c).left < ((wr (wr d (a : Int) b) (o : Int) c).pending.length : Int))) = false := by
      apply Bool.eq_false_iff.2; intro h; apply hn; simpa using h
    simp only [e, cond_false, not_true_eq_false, decide_false]
    exact DiskReads_loop d (wr (wr d (a : Int) b) (o : Int) c) rfl hyc hys hn
end Go.Fx


namespace Go.Proofs.Ytegomkljijgjjaa.lawDiskReads
open Go Go.Proofs Go.ChangeShapes Go.WideShapes Go.ChangeAt Go.RowKit Go.Fx
open Go.ChangeMaps (open_string shut_string)
set_option linter.unusedVariables false
set_option maxRecDepth 100000
theorem own : ownKnob Try.prog.godebug = none := by kernel_rfl
theorem laidOut : laidOutB Try.prog = true := by kernel_rfl
set_option maxRecDepth 100000 in
set_option maxHeartbeats 1000000 in
theorem lifted (os : Os) (started : os.Started) (H : Type) (enc : TypeId × Value → H) :
    ReturnsInHanded {} Try.checked os 5 .any (Rows.diskReadsSpec.pre6 enc Try.prog Try.f5 Rows.diskReadsRow.domain false) (Rows.diskReadsSpec.post enc Try.prog Try.f5 false true false false) := by
  refine returnsInHanded_of_change_sized (C := Try.checked) own started (by kernel_rfl) Try.func5
    (ChangeSpec.witness6 (enc := enc) (C := Try.checked) false ⟨#[], #[.agg #[(.slice none 0 0), (.slice none 0 0), (.int .i64 0), (.bool false)], (.int .i64 0), (.int .i64 0), (.slice none 0 0), (.slice none 0 0)], []⟩ 8 (by kernel_rfl) (by kernel_rfl) (by kernel_rfl) (by kernel_rfl)) ?_
  intro W base args ds gs before hval0 hW hcnd hsz _
  have hval : ∀ (j : Nat) t v, Try.f5.params[j]? = some t → args[j]? = some v → Value.okWide Try.prog W .any base t v := hval0
  have hW' := hW
  obtain ⟨p, q, hA0, hV, rfl, hfz, hnd⟩ := hW
  have hA : DataW.TrodAll enc Try.prog W 0 (fun _ => true) true Try.f5.params.toList args.toList ds p := hA0
  rw [Try.params5] at hA hval
  obtain ⟨v0, vs0, d0, ds0, p0, q0, hargs, rfl, rfl, h0, r0⟩ := trodAll_cons hA
  obtain ⟨v1, vs1, d1, ds1, p1, q1, rfl, rfl, rfl, h1, r1⟩ := trodAll_cons r0
  obtain ⟨v2, vs2, d2, ds2, p2, q2, rfl, rfl, rfl, h2, r2⟩ := trodAll_cons r1
  obtain ⟨v3, vs3, d3, ds3, p3, q3, rfl, rfl, rfl, h3, r3⟩ := trodAll_cons r2
  obtain ⟨v4, vs4, d4, ds4, p4, q4, rfl, rfl, rfl, h4, r4⟩ := trodAll_cons r3
  obtain ⟨rfl, rfl, rfl⟩ := trodAll_nil r4
  obtain rfl : args = #[v0, v1, v2, v3, v4] := by cases args; simp_all
  obtain ⟨rfl, rfl⟩ := trodVars_none hV
  have k0 := h0
  have lt0 : ∀ x ∈ p0, x.block < W.heap.size := by obtain ⟨m, hm⟩ := k0; exact DataW.trod_lt m _ _ _ hm
  obtain ⟨fu0, hf0⟩ := h0
  obtain ⟨d, rr0, sm0⟩ := rd25.2 _ _ _ hf0
  replace sm0 := sm0 (fun n hn => by have := List.all_eq_true.1 hsz n (DataW.weights_mem_each (j := 0) (t := 25) rfl rfl n hn); simpa using this)
  obtain ⟨⟨cs0⟩, rfl, _⟩ := okWide_struct Try.underlying25 (hval 0 25 v0 rfl rfl)
  replace rr0 : rXDisk.rd W [] cs0 d := rr0
  obtain ⟨_, _, rfl, ⟨a_d_sectors, c_d_sectors, rfl, f_d_sectors⟩, ⟨_, _, rfl, ⟨a_d_pending, c_d_pending, rfl, f_d_pending⟩, ⟨_, _, rfl, ⟨rfl, r_d_left⟩, rfl⟩⟩⟩ := rr0
  have k1 := h1
  have lt1 : ∀ x ∈ p1, x.block < W.heap.size := by obtain ⟨m, hm⟩ := k1; exact DataW.trod_lt m _ _ _ hm
  obtain ⟨fu1, hf1⟩ := h1
  obtain ⟨at_, rr1, sm1⟩ := rd3.2 _ _ _ hf1
  replace sm1 := sm1 (fun n hn => by have := List.all_eq_true.1 hsz n (DataW.weights_mem_each (j := 1) (t := 3) rfl rfl n hn); simpa using this)
  obtain ⟨n1, rfl⟩ := okWide_int Try.underlying3 (hval 1 3 v1 rfl rfl)
  replace rr1 : (rInt .i64).rd W [] [.int .i64 n1] at_ := rr1
  obtain ⟨e1, r_at_⟩ := un_int rr1
  obtain rfl : at_ = n1 := by simpa using e1.symm
  have k2 := h2
  have lt2 : ∀ x ∈ p2, x.block < W.heap.size := by obtain ⟨m, hm⟩ := k2; exact DataW.trod_lt m _ _ _ hm
  obtain ⟨fu2, hf2⟩ := h2
  obtain ⟨other, rr2, sm2⟩ := rd3.2 _ _ _ hf2
  replace sm2 := sm2 (fun n hn => by have := List.all_eq_true.1 hsz n (DataW.weights_mem_each (j := 2) (t := 3) rfl rfl n hn); simpa using this)
  obtain ⟨n2, rfl⟩ := okWide_int Try.underlying3 (hval 2 3 v2 rfl rfl)
  replace rr2 : (rInt .i64).rd W [] [.int .i64 n2] other := rr2
  obtain ⟨e2, r_other⟩ := un_int rr2
  obtain rfl : other = n2 := by simpa using e2.symm
  have k3 := h3
  have lt3 : ∀ x ∈ p3, x.block < W.heap.size := by obtain ⟨m, hm⟩ := k3; exact DataW.trod_lt m _ _ _ hm
  obtain ⟨fu3, hf3⟩ := h3
  obtain ⟨b, rr3, sm3⟩ := rd41.2 _ _ _ hf3
  replace sm3 := sm3 (fun n hn => by have := List.all_eq_true.1 hsz n (DataW.weights_mem_each (j := 3) (t := 41) rfl rfl n hn); simpa using this)
  obtain ⟨b3, l3, c3, rfl⟩ := okWide_slice Try.underlying41 (hval 3 41 v3 rfl rfl)
  replace rr3 : (rSl rU8).rd W [] [.slice b3 l3 c3] b := rr3
  obtain ⟨a_b, c_b, e3, f_b⟩ := un_sl rr3
  simp only [Value.slice.injEq] at e3
  obtain ⟨rfl, rfl, rfl⟩ := e3
  have k4 := h4
  have lt4 : ∀ x ∈ p4, x.block < W.heap.size := by obtain ⟨m, hm⟩ := k4; exact DataW.trod_lt m _ _ _ hm
  obtain ⟨fu4, hf4⟩ := h4
  obtain ⟨c, rr4, sm4⟩ := rd41.2 _ _ _ hf4
  replace sm4 := sm4 (fun n hn => by have := List.all_eq_true.1 hsz n (DataW.weights_mem_each (j := 4) (t := 41) rfl rfl n hn); simpa using this)
  obtain ⟨b4, l4, c4, rfl⟩ := okWide_slice Try.underlying41 (hval 4 41 v4 rfl rfl)
  replace rr4 : (rSl rU8).rd W [] [.slice b4 l4 c4] c := rr4
  obtain ⟨a_c, c_c, e4, f_c⟩ := un_sl rr4
  simp only [Value.slice.injEq] at e4
  obtain ⟨rfl, rfl, rfl⟩ := e4
  have hm : m5_overflightlaw44_DiskReads d at_ other b c = some true := DiskReads_law _ _ _ _ _ sm0 sm1 sm2 sm3 sm4
  have hc := Fn.calls (c5_overflightlaw44_DiskReads (d := d) (at_ := at_) (other := other) (b := b) (c := c) (w := W) (O := []) (by simp) f_d_sectors f_d_pending r_d_left r_at_ r_other f_b f_c hm)
  clear hA0 hval0
  refine Calls.mono hc ?_
  rintro e W' ⟨v, rfl, bel, hv⟩
  obtain rfl : v = .bool true := hv
  exact ⟨_, rfl, _, _, _, [], _, [], hW', trodAll_mk1 (shut_bool Try.underlying4 _), (trodAll_cons_mk (Below.trod laidOut (by kernel_rfl) (of_decide_eq_true (by kernel_rfl)) k0 bel lt0) (trodAll_cons_mk (Below.trod laidOut (by kernel_rfl) (of_decide_eq_true (by kernel_rfl)) k1 bel lt1) (trodAll_cons_mk (Below.trod laidOut (by kernel_rfl) (of_decide_eq_true (by kernel_rfl)) k2 bel lt2) (trodAll_cons_mk (Below.trod laidOut (by kernel_rfl) (of_decide_eq_true (by kernel_rfl)) k3 bel lt3) (trodAll_cons_mk (Below.trod laidOut (by kernel_rfl) (of_decide_eq_true (by kernel_rfl)) k4 bel lt4) trodAll_mk0))))), rfl, bel.frame _, fun h => by cases h⟩
theorem over : Rows.diskReadsRow.holds Try.pinned (OpenSpec.ofChange Rows.diskReadsSpec) :=
  OpenClaim.holds_of_wide 5 Try.f5 rfl rfl rfl rfl rfl rfl rfl ⟨rfl, rfl, rfl, rfl, rfl⟩ rfl rfl rfl rfl rfl (by kernel_rfl) Try.func5 (by kernel_rfl)
    (of_decide_eq_true (by kernel_rfl)) (by unfold Func.isWrapper; first | (rw [if_pos (by decide +kernel)]; kernel_rfl) | (rw [if_neg (by decide +kernel)]; exact ⟨rfl, rfl⟩))
    (fun os started H enc _ => lifted os started H enc)
theorem proved : Rows.DiskReadsSaid := over
end Go.Proofs.Ytegomkljijgjjaa.lawDiskReads

