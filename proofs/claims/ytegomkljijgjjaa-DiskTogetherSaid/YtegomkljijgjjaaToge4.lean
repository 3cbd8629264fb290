/- Part 4 of the proof: for every disk and list of writes, the law DiskTogether of chapter 44 returns true. -/
import Derived.Test.YtegomkljijgjjaaToge3
set_option linter.unusedVariables false
set_option linter.unusedSimpArgs false
set_option maxRecDepth 100000
set_option maxHeartbeats 0
namespace Go.Fx
open Go Go.RowKit Go.Proofs
def m13_overflightlaw44_sane : Option Bool :=
  (m15_disk_New 0).bind fun new_1 =>
  (m15_disk_New 2).bind fun new_2 =>
  (m23_disk_Write new_2.1 1 [7]).bind fun write_1 =>
  (m27_disk_Read write_1.1 1).bind fun read_1 =>
  (m27_disk_Read new_2.1 2).bind fun read_2 =>
  ck ((0 : Int) ≤ (129 : Int) ∧ (129 : Int) ≤ (129 : Int) ∧ (1 : Int) * 129 ≤ 281474976710656 ∧ (129 : Int) ≤ 281474976710656) <|
  (m23_disk_Write new_2.1 0 (List.replicate 129 (0 : UInt8))).bind fun write_2 =>
  (m22_disk_Stop write_1.1 1).bind fun stop_1 =>
  (m24_overflightlaw44_double 8).bind fun double_1 =>
  (m23_disk_Write stop_1.1 0 double_1).bind fun write_3 =>
  (m25_disk_Sync write_3.1).bind fun sync_1 =>
  jn (fun (v_1 : Bool) =>
    bif v_1 then
      some false
    else
      (m20_disk_Restart sync_1.1).bind fun restart_1 =>
      (m27_disk_Read restart_1 1).bind fun read_3 =>
      (m27_disk_Read restart_1 0).bind fun read_4 =>
      (m20_disk_Restart write_1.1).bind fun restart_2 =>
      (m27_disk_Read restart_2 1).bind fun read_5 =>
      jn (fun (v_2 : Bool) =>
        some v_2)
      (fun k435 =>
        bif (decide (read_3.2 = 0)) then
          bif (decide (read_4.2 = 0)) then
            bif (decide (read_5.2 = 0)) then
              bif (decide ((read_1.1.length : Int) = 128)) then
                ck ((0 : Int) ≤ 0 ∧ 0 < (read_1.1.length : Int)) <|
                bif (decide (((read_1.1.getD 0 default).toNat : Int) = 7)) then
                  bif (decide ((read_3.1.length : Int) = 128)) then
                    ck ((0 : Int) ≤ 0 ∧ 0 < (read_3.1.length : Int)) <|
                    bif (decide (((read_3.1.getD 0 default).toNat : Int) = 7)) then
                      bif (decide ((read_4.1.length : Int) = 128)) then
                        ck ((0 : Int) ≤ 0 ∧ 0 < (read_4.1.length : Int)) <|
                        bif (decide (((read_4.1.getD 0 default).toNat : Int) = 8)) then
                          ck ((0 : Int) ≤ 64 ∧ 64 < (read_4.1.length : Int)) <|
                          bif (decide (((read_4.1.getD 64 default).toNat : Int) = 0)) then
                            bif (decide ((read_5.1.length : Int) = 128)) then
                              ck ((0 : Int) ≤ 0 ∧ 0 < (read_5.1.length : Int)) <|
                              bif (decide (((read_5.1.getD 0 default).toNat : Int) = 0)) then
                                (m18_disk_Check (⟨([] : List (List UInt8)), ([] : List XWrite), 0, false⟩ : XDisk)).bind fun check_1 =>
                                bif (decide (check_1 = 440)) then
                                  (m20_disk_Restart (⟨([] : List (List UInt8)), ([] : List XWrite), 0, false⟩ : XDisk)).bind fun restart_3 =>
                                  k435 (decide (restart_3.left = (-1)))
                                else
                                  k435 false
                              else
                                k435 false
                            else
                              k435 false
                          else
                            k435 false
                        else
                          k435 false
                      else
                        k435 false
                    else
                      k435 false
                  else
                    k435 false
                else
                  k435 false
              else
                k435 false
            else
              k435 false
          else
            k435 false
        else
          k435 false))
  (fun k359 =>
    bif (decide (new_1.2 ≠ 1)) then
      k359 true
    else
      bif (decide (new_2.2 ≠ 0)) then
        k359 true
      else
        bif (decide (write_1.2 ≠ 0)) then
          k359 true
        else
          bif (decide (read_1.2 ≠ 0)) then
            k359 true
          else
            bif (decide (read_2.2 ≠ 440)) then
              k359 true
            else
              bif (decide (write_2.2 ≠ 1)) then
                k359 true
              else
                bif (decide (stop_1.2 ≠ 0)) then
                  k359 true
                else
                  bif (decide (write_3.2 ≠ 0)) then
                    k359 true
                  else
                    bif (decide (sync_1.2 ≠ 440)) then
                      k359 true
                    else
                      k359 (!sync_1.1.stopped))

theorem c13_overflightlaw44_sane {w : World} {O : List Nat} (hO : ∀ k ∈ O, k < w.heap.size) {x : Bool} (hm : m13_overflightlaw44_sane = some x) :
    Ok Try.prog 13 [] w O vB x := by
  unfold m13_overflightlaw44_sane at hm
  refine Fn_of_Wp (n := 198) (xs := [.tmp 0]) Try.func13 rfl Try.ntmps13 Try.results13 rfl ?_
  have hs := St.start hO
  refine Wp_seq ?_
  refine Wp_region ?_  -- 0 law.go:11
  refine Rg_op rfl (op_assign (v := (Value.bool false)) rfl ?_)
  refine Rg_nil ?_
  refine Wp_seq ?_
  refine Wp_region ?_  -- 1 law.go:12
  replace hm := bd hm; obtain ⟨new_1, hv1, hm⟩ := hm
  refine Rg_op rfl (op_call Try.call15 (c15_disk_New (sectors := 0) hs.ltw (show InK .i64 0 from by decide) hv1) rfl ?_)
  rintro v2 w3 ⟨hx4, h5⟩
  have hs6 := hs.call hx4
  have p7 := Step.ext (O := ks [] O) hx4
  clear hx4
  clear p7
  obtain ⟨v8, v9, rfl, h10, h11⟩ := h5
  obtain ⟨_, rfl, ⟨_, _, rfl, ⟨a_y12_sectors, c_y12_sectors, rfl, f_y12_sectors⟩, ⟨_, _, rfl, ⟨a_y12_pending, c_y12_pending, rfl, f_y12_pending⟩, ⟨_, _, rfl, ⟨rfl, r_y12_left⟩, rfl⟩⟩⟩⟩ := h10
  obtain ⟨rfl, r_y13⟩ := h11
  refine Rg_op rfl (op_move (v := (Value.tuple [(Value.agg [(Value.slice a_y12_sectors new_1.1.sectors.length c_y12_sectors), (Value.slice a_y12_pending new_1.1.pending.length c_y12_pending), (Value.int .i64 new_1.1.left), (Value.bool new_1.1.stopped)].toArray), (Value.int .i64 new_1.2)].toArray)) rfl ?_)
  refine Rg_op rfl (op_extract (v := (Value.agg [(Value.slice a_y12_sectors new_1.1.sectors.length c_y12_sectors), (Value.slice a_y12_pending new_1.1.pending.length c_y12_pending), (Value.int .i64 new_1.1.left), (Value.bool new_1.1.stopped)].toArray)) rfl rfl ?_)
  refine Rg_op rfl (op_extract (v := (Value.int .i64 new_1.2)) rfl rfl ?_)
  refine Rg_op rfl (op_alloc ty25 hs6 ?_)
  intro b14 w15 _ p16 hs17
  replace f_y12_sectors := f_y12_sectors.step p16
  replace f_y12_pending := f_y12_pending.step p16
  clear p16 hs6
  refine Rg_op_ (op_store (cs := [(Value.slice none 0 0), (Value.slice none 0 0), (Value.int .i64 0), (Value.bool false)]) (vs := [(Value.slice a_y12_sectors new_1.1.sectors.length c_y12_sectors), (Value.slice a_y12_pending new_1.1.pending.length c_y12_pending), (Value.int .i64 new_1.1.left), (Value.bool new_1.1.stopped)]) (cs' := [(Value.slice a_y12_sectors new_1.1.sectors.length c_y12_sectors), (Value.slice a_y12_pending new_1.1.pending.length c_y12_pending), (Value.int .i64 new_1.1.left), (Value.bool new_1.1.stopped)]) (bs' := [(some b14, Obj.cells [(Value.slice a_y12_sectors new_1.1.sectors.length c_y12_sectors), (Value.slice a_y12_pending new_1.1.pending.length c_y12_pending), (Value.int .i64 new_1.1.left), (Value.bool new_1.1.stopped)].toArray 25)]) (i := 0) ty25 hs17 rfl rfl rfl rfl rfl (le_lit rfl) rfl rfl rfl ?_)
  intro w19 p20 hs21
  replace f_y12_sectors := f_y12_sectors.step p20
  replace f_y12_pending := f_y12_pending.step p20
  clear p20 hs17
  refine Rg_op rfl (op_assign (v := (Value.int .i64 new_1.2)) rfl ?_)
  refine Rg_nil ?_
  refine Wp_seq ?_
  obtain ⟨hs22, p23⟩ := hs21.sub (bs' := []) (.cons _ List.Sublist.slnil)
  clear f_y12_sectors f_y12_pending
  clear p23 hs21
  refine Wp_region ?_  -- 2 law.go:13
  replace hm := bd hm; obtain ⟨new_2, hv24, hm⟩ := hm
  refine Rg_op rfl (op_call Try.call15 (c15_disk_New (sectors := 2) hs22.ltw (show InK .i64 2 from by decide) hv24) rfl ?_)
  rintro v25 w26 ⟨hx27, h28⟩
  have hs29 := hs22.call hx27
  have p30 := Step.ext (O := ks [] O) hx27
  clear hx27
  clear p30 hs22
  obtain ⟨v31, v32, rfl, h33, h34⟩ := h28
  obtain ⟨_, rfl, ⟨_, _, rfl, ⟨a_y35_sectors, c_y35_sectors, rfl, f_y35_sectors⟩, ⟨_, _, rfl, ⟨a_y35_pending, c_y35_pending, rfl, f_y35_pending⟩, ⟨_, _, rfl, ⟨rfl, r_y35_left⟩, rfl⟩⟩⟩⟩ := h33
  obtain ⟨rfl, r_y36⟩ := h34
  refine Rg_op rfl (op_move (v := (Value.tuple [(Value.agg [(Value.slice a_y35_sectors new_2.1.sectors.length c_y35_sectors), (Value.slice a_y35_pending new_2.1.pending.length c_y35_pending), (Value.int .i64 new_2.1.left), (Value.bool new_2.1.stopped)].toArray), (Value.int .i64 new_2.2)].toArray)) rfl ?_)
  refine Rg_op rfl (op_extract (v := (Value.agg [(Value.slice a_y35_sectors new_2.1.sectors.length c_y35_sectors), (Value.slice a_y35_pending new_2.1.pending.length c_y35_pending), (Value.int .i64 new_2.1.left), (Value.bool new_2.1.stopped)].toArray)) rfl rfl ?_)
  refine Rg_op rfl (op_extract (v := (Value.int .i64 new_2.2)) rfl rfl ?_)
  refine Rg_op rfl (op_alloc ty25 hs29 ?_)
  intro b37 w38 _ p39 hs40
  replace f_y35_sectors := f_y35_sectors.step p39
  replace f_y35_pending := f_y35_pending.step p39
  clear p39 hs29
  refine Rg_op_ (op_store (cs := [(Value.slice none 0 0), (Value.slice none 0 0), (Value.int .i64 0), (Value.bool false)]) (vs := [(Value.slice a_y35_sectors new_2.1.sectors.length c_y35_sectors), (Value.slice a_y35_pending new_2.1.pending.length c_y35_pending), (Value.int .i64 new_2.1.left), (Value.bool new_2.1.stopped)]) (cs' := [(Value.slice a_y35_sectors new_2.1.sectors.length c_y35_sectors), (Value.slice a_y35_pending new_2.1.pending.length c_y35_pending), (Value.int .i64 new_2.1.left), (Value.bool new_2.1.stopped)]) (bs' := [(some b37, Obj.cells [(Value.slice a_y35_sectors new_2.1.sectors.length c_y35_sectors), (Value.slice a_y35_pending new_2.1.pending.length c_y35_pending), (Value.int .i64 new_2.1.left), (Value.bool new_2.1.stopped)].toArray 25)]) (i := 0) ty25 hs40 rfl rfl rfl rfl rfl (le_lit rfl) rfl rfl rfl ?_)
  intro w42 p43 hs44
  replace f_y35_sectors := f_y35_sectors.step p43
  replace f_y35_pending := f_y35_pending.step p43
  clear p43 hs40
  refine Rg_op rfl (op_assign (v := (Value.int .i64 new_2.2)) rfl ?_)
  refine Rg_nil ?_
  refine Wp_seq ?_
  refine Wp_region ?_  -- 3 law.go:14
  refine Rg_op rfl (op_loadA (cs := [(Value.slice a_y35_sectors new_2.1.sectors.length c_y35_sectors), (Value.slice a_y35_pending new_2.1.pending.length c_y35_pending), (Value.int .i64 new_2.1.left), (Value.bool new_2.1.stopped)]) (vs := [(Value.slice a_y35_sectors new_2.1.sectors.length c_y35_sectors), (Value.slice a_y35_pending new_2.1.pending.length c_y35_pending), (Value.int .i64 new_2.1.left), (Value.bool new_2.1.stopped)]) (i := 0) ty25 hs44 rfl rfl rfl rfl ?_)
  refine Rg_op rfl (op_buildSlice (cs := [(Value.int .u8 7)]) (parts := [(0, .const (.int .u8 7))]) ty41 ty5 hs44 (by decide) rfl ?_)
  intro b45 w46 hx49 p47 hs48
  replace f_y35_sectors := f_y35_sectors.step p47
  replace f_y35_pending := f_y35_pending.step p47
  clear p47 hs44
  obtain ⟨hs52, p53, f51⟩ := St.publish (i := 0) (o := 0) (c := 1) (xs := [7]) hs48 rfl (show Els rU8 _ _ [(Value.int .u8 7)] [7] from ⟨_, _, rfl, (mk_u8 (show InK .u8 7 from by decide)), Els.nil⟩) (le_lit rfl) (le_lit rfl) (le_lit rfl)
  replace f_y35_sectors := f_y35_sectors.step p53
  replace f_y35_pending := f_y35_pending.step p53
  clear p53 hs48
  replace hm := bd hm; obtain ⟨write_1, hv54, hm⟩ := hm
  refine Rg_op rfl (op_call Try.call23 (c23_disk_Write (d := new_2.1) (at_ := 1) (b := [7]) hs52.ltw f_y35_sectors f_y35_pending r_y35_left (show InK .i64 1 from by decide) f51 hv54) rfl ?_)
  rintro v55 w56 ⟨hx57, h58⟩
  have hs59 := hs52.call hx57
  have p60 := Step.ext (O := ks [(some b37, Obj.cells [(Value.slice a_y35_sectors new_2.1.sectors.length c_y35_sectors), (Value.slice a_y35_pending new_2.1.pending.length c_y35_pending), (Value.int .i64 new_2.1.left), (Value.bool new_2.1.stopped)].toArray 25)] O) hx57
  clear hx57
  replace f_y35_sectors := f_y35_sectors.step p60
  replace f_y35_pending := f_y35_pending.step p60
  replace f51 := f51.step p60
  clear p60 hs52
  obtain ⟨v61, v62, rfl, h63, h64⟩ := h58
  obtain ⟨_, rfl, ⟨_, _, rfl, ⟨a_y65_sectors, c_y65_sectors, rfl, f_y65_sectors⟩, ⟨_, _, rfl, ⟨a_y65_pending, c_y65_pending, rfl, f_y65_pending⟩, ⟨_, _, rfl, ⟨rfl, r_y65_left⟩, rfl⟩⟩⟩⟩ := h63
  obtain ⟨rfl, r_y66⟩ := h64
  refine Rg_op rfl (op_move (v := (Value.tuple [(Value.agg [(Value.slice a_y65_sectors write_1.1.sectors.length c_y65_sectors), (Value.slice a_y65_pending write_1.1.pending.length c_y65_pending), (Value.int .i64 write_1.1.left), (Value.bool write_1.1.stopped)].toArray), (Value.int .i64 write_1.2)].toArray)) rfl ?_)
  refine Rg_op rfl (op_extract (v := (Value.agg [(Value.slice a_y65_sectors write_1.1.sectors.length c_y65_sectors), (Value.slice a_y65_pending write_1.1.pending.length c_y65_pending), (Value.int .i64 write_1.1.left), (Value.bool write_1.1.stopped)].toArray)) rfl rfl ?_)
  refine Rg_op rfl (op_extract (v := (Value.int .i64 write_1.2)) rfl rfl ?_)
  refine Rg_op rfl (op_alloc ty25 hs59 ?_)
  intro b67 w68 _ p69 hs70
  replace f_y35_sectors := f_y35_sectors.step p69
  replace f_y35_pending := f_y35_pending.step p69
  replace f51 := f51.step p69
  replace f_y65_sectors := f_y65_sectors.step p69
  replace f_y65_pending := f_y65_pending.step p69
  clear p69 hs59
  refine Rg_op_ (op_store (cs := [(Value.slice none 0 0), (Value.slice none 0 0), (Value.int .i64 0), (Value.bool false)]) (vs := [(Value.slice a_y65_sectors write_1.1.sectors.length c_y65_sectors), (Value.slice a_y65_pending write_1.1.pending.length c_y65_pending), (Value.int .i64 write_1.1.left), (Value.bool write_1.1.stopped)]) (cs' := [(Value.slice a_y65_sectors write_1.1.sectors.length c_y65_sectors), (Value.slice a_y65_pending write_1.1.pending.length c_y65_pending), (Value.int .i64 write_1.1.left), (Value.bool write_1.1.stopped)]) (bs' := [(some b67, Obj.cells [(Value.slice a_y65_sectors write_1.1.sectors.length c_y65_sectors), (Value.slice a_y65_pending write_1.1.pending.length c_y65_pending), (Value.int .i64 write_1.1.left), (Value.bool write_1.1.stopped)].toArray 25), (some b37, Obj.cells [(Value.slice a_y35_sectors new_2.1.sectors.length c_y35_sectors), (Value.slice a_y35_pending new_2.1.pending.length c_y35_pending), (Value.int .i64 new_2.1.left), (Value.bool new_2.1.stopped)].toArray 25)]) (i := 0) ty25 hs70 rfl rfl rfl rfl rfl (le_lit rfl) rfl rfl rfl ?_)
  intro w72 p73 hs74
  replace f_y35_sectors := f_y35_sectors.step p73
  replace f_y35_pending := f_y35_pending.step p73
  replace f51 := f51.step p73
  replace f_y65_sectors := f_y65_sectors.step p73
  replace f_y65_pending := f_y65_pending.step p73
  clear p73 hs70
  refine Rg_op rfl (op_assign (v := (Value.int .i64 write_1.2)) rfl ?_)
  refine Rg_nil ?_
  refine Wp_seq ?_
  clear f51
  refine Wp_region ?_  -- 4 law.go:15
  refine Rg_op rfl (op_loadA (cs := [(Value.slice a_y65_sectors write_1.1.sectors.length c_y65_sectors), (Value.slice a_y65_pending write_1.1.pending.length c_y65_pending), (Value.int .i64 write_1.1.left), (Value.bool write_1.1.stopped)]) (vs := [(Value.slice a_y65_sectors write_1.1.sectors.length c_y65_sectors), (Value.slice a_y65_pending write_1.1.pending.length c_y65_pending), (Value.int .i64 write_1.1.left), (Value.bool write_1.1.stopped)]) (i := 0) ty25 hs74 rfl rfl rfl rfl ?_)
  replace hm := bd hm; obtain ⟨read_1, hv75, hm⟩ := hm
  refine Rg_op rfl (op_call Try.call27 (c27_disk_Read (d := write_1.1) (at_ := 1) hs74.ltw f_y65_sectors f_y65_pending r_y65_left (show InK .i64 1 from by decide) hv75) rfl ?_)
  rintro v76 w77 ⟨hx78, h79⟩
  have hs80 := hs74.call hx78
  have p81 := Step.ext (O := ks [(some b67, Obj.cells [(Value.slice a_y65_sectors write_1.1.sectors.length c_y65_sectors), (Value.slice a_y65_pending write_1.1.pending.length c_y65_pending), (Value.int .i64 write_1.1.left), (Value.bool write_1.1.stopped)].toArray 25), (some b37, Obj.cells [(Value.slice a_y35_sectors new_2.1.sectors.length c_y35_sectors), (Value.slice a_y35_pending new_2.1.pending.length c_y35_pending), (Value.int .i64 new_2.1.left), (Value.bool new_2.1.stopped)].toArray 25)] O) hx78
  clear hx78
  replace f_y35_sectors := f_y35_sectors.step p81
  replace f_y35_pending := f_y35_pending.step p81
  replace f_y65_sectors := f_y65_sectors.step p81
  replace f_y65_pending := f_y65_pending.step p81
  clear p81 hs74
  obtain ⟨v82, v83, rfl, h84, h85⟩ := h79
  obtain ⟨a_y86, c_y86, rfl, f_y86⟩ := un_sl h84
  obtain ⟨rfl, r_y87⟩ := h85
  refine Rg_op rfl (op_move (v := (Value.tuple [(Value.slice a_y86 read_1.1.length c_y86), (Value.int .i64 read_1.2)].toArray)) rfl ?_)
  refine Rg_op rfl (op_extract (v := (Value.slice a_y86 read_1.1.length c_y86)) rfl rfl ?_)
  refine Rg_op rfl (op_extract (v := (Value.int .i64 read_1.2)) rfl rfl ?_)
  refine Rg_op rfl (op_assign (v := (Value.slice a_y86 read_1.1.length c_y86)) rfl ?_)
  refine Rg_op rfl (op_assign (v := (Value.int .i64 read_1.2)) rfl ?_)
  refine Rg_nil ?_
  refine Wp_seq ?_
  refine Wp_reset [] [(2, (Value.int .i64 new_1.2)), (3, (Value.pointer (some ⟨b37, 0, none⟩))), (4, (Value.int .i64 new_2.2)), (5, (Value.pointer (some ⟨b67, 0, none⟩))), (6, (Value.int .i64 write_1.2)), (7, (Value.slice a_y86 read_1.1.length c_y86)), (8, (Value.int .i64 read_1.2))] rfl ⟨rfl, rfl, rfl, rfl, rfl, rfl, rfl, trivial⟩ fun ξ88 => ?_
  refine Wp_region ?_  -- 5 law.go:16
  refine Rg_op rfl (op_loadA (cs := [(Value.slice a_y35_sectors new_2.1.sectors.length c_y35_sectors), (Value.slice a_y35_pending new_2.1.pending.length c_y35_pending), (Value.int .i64 new_2.1.left), (Value.bool new_2.1.stopped)]) (vs := [(Value.slice a_y35_sectors new_2.1.sectors.length c_y35_sectors), (Value.slice a_y35_pending new_2.1.pending.length c_y35_pending), (Value.int .i64 new_2.1.left), (Value.bool new_2.1.stopped)]) (i := 1) ty25 hs80 rfl rfl rfl rfl ?_)
  replace hm := bd hm; obtain ⟨read_2, hv89, hm⟩ := hm
  refine Rg_op rfl (op_call Try.call27 (c27_disk_Read (d := new_2.1) (at_ := 2) hs80.ltw f_y35_sectors f_y35_pending r_y35_left (show InK .i64 2 from by decide) hv89) rfl ?_)
  rintro v90 w91 ⟨hx92, h93⟩
  have hs94 := hs80.call hx92
  have p95 := Step.ext (O := ks [(some b67, Obj.cells [(Value.slice a_y65_sectors write_1.1.sectors.length c_y65_sectors), (Value.slice a_y65_pending write_1.1.pending.length c_y65_pending), (Value.int .i64 write_1.1.left), (Value.bool write_1.1.stopped)].toArray 25), (some b37, Obj.cells [(Value.slice a_y35_sectors new_2.1.sectors.length c_y35_sectors), (Value.slice a_y35_pending new_2.1.pending.length c_y35_pending), (Value.int .i64 new_2.1.left), (Value.bool new_2.1.stopped)].toArray 25)] O) hx92
  clear hx92
  replace f_y35_sectors := f_y35_sectors.step p95
  replace f_y35_pending := f_y35_pending.step p95
  replace f_y65_sectors := f_y65_sectors.step p95
  replace f_y65_pending := f_y65_pending.step p95
  replace f_y86 := f_y86.step p95
  clear p95 hs80
  obtain ⟨v96, v97, rfl, h98, h99⟩ := h93
  obtain ⟨a_y100, c_y100, rfl, f_y100⟩ := un_sl h98
  obtain ⟨rfl, r_y101⟩ := h99
  refine Rg_op rfl (op_move (v := (Value.tuple [(Value.slice a_y100 read_2.1.length c_y100), (Value.int .i64 read_2.2)].toArray)) rfl ?_)
  refine Rg_op rfl (op_extract (v := (Value.slice a_y100 read_2.1.length c_y100)) rfl rfl ?_)
  refine Rg_op rfl (op_extract (v := (Value.int .i64 read_2.2)) rfl rfl ?_)
  refine Rg_op rfl (op_assign (v := (Value.slice a_y100 read_2.1.length c_y100)) rfl ?_)
  refine Rg_op rfl (op_assign (v := (Value.int .i64 read_2.2)) rfl ?_)
  refine Rg_nil ?_
  refine Wp_seq ?_
  clear f_y100
  refine Wp_drawR (g0 := []) (m := 7) (fl := [5]) (TS_inv hs94) (.inl rfl) rfl (by decide +kernel) ?_  -- 6
  refine Dw_eq (Value.agg [(Value.slice a_y35_sectors new_2.1.sectors.length c_y35_sectors), (Value.slice a_y35_pending new_2.1.pending.length c_y35_pending), (Value.int .i64 new_2.1.left), (Value.bool new_2.1.stopped)].toArray) (fun ρ102 w103 g hle hi ht => ?_) ?_
  ·
    obtain ⟨-, hst, -⟩ := hle
    have hsn := (Step.nx hi).1
    refine StepOp_plain (op_loadA (cs := [(Value.slice a_y35_sectors new_2.1.sectors.length c_y35_sectors), (Value.slice a_y35_pending new_2.1.pending.length c_y35_pending), (Value.int .i64 new_2.1.left), (Value.bool new_2.1.stopped)]) (vs := [(Value.slice a_y35_sectors new_2.1.sectors.length c_y35_sectors), (Value.slice a_y35_pending new_2.1.pending.length c_y35_pending), (Value.int .i64 new_2.1.left), (Value.bool new_2.1.stopped)]) (i := 1) ty25 hsn (ht 3 rfl) rfl rfl rfl ?_)
    exact Goes.same hi rfl
  replace hm := ck_some hm; obtain ⟨hc108, hm⟩ := hm
  refine Dw_op (VD O [(some b67, Obj.cells [(Value.slice a_y65_sectors write_1.1.sectors.length c_y65_sectors), (Value.slice a_y65_pending write_1.1.pending.length c_y65_pending), (Value.int .i64 write_1.1.left), (Value.bool write_1.1.stopped)].toArray 25), (some b37, Obj.cells [(Value.slice a_y35_sectors new_2.1.sectors.length c_y35_sectors), (Value.slice a_y35_pending new_2.1.pending.length c_y35_pending), (Value.int .i64 new_2.1.left), (Value.bool new_2.1.stopped)].toArray 25)] (vC (rSl rU8)) (List.replicate 129 (0 : UInt8))) (VD.stab _ _) (fun ρ105 w106 g hle hi ht => ?_) ?_
  ·
    obtain ⟨-, hst, -⟩ := hle
    replace f_y35_sectors := f_y35_sectors.step hst
    replace f_y35_pending := f_y35_pending.step hst
    replace f_y65_sectors := f_y65_sectors.step hst
    replace f_y65_pending := f_y65_pending.step hst
    replace f_y86 := f_y86.step hst
    refine StepOp_plain (op_makeSliceI (q := rU8) (v := (Value.int .u8 0)) (x0 := (0 : UInt8)) ty41 ty5 hi rfl rfl hc108 rfl (fun _ _ => (mk_u8 (show InK .u8 0 from by decide))) ?_)
    intro b109 w110 hx114 p111 hs112 f113
    replace f_y35_sectors := f_y35_sectors.step p111
    replace f_y35_pending := f_y35_pending.step p111
    replace f_y65_sectors := f_y65_sectors.step p111
    replace f_y65_pending := f_y65_pending.step p111
    replace f_y86 := f_y86.step p111
    obtain ⟨hs116, p117, f118⟩ := Gs.publish (i := 0) hs112 rfl f113
    exact Goes.pub hi hs116 (Step.trans p111 p117) hx114 (show Vr.vd (vC (rSl rU8)) _ _ _ _ from mkC (mk_sl f118))
  replace hm := bd hm; obtain ⟨write_2, hv125, hm⟩ := hm
  refine Dw_op (VD O [(some b67, Obj.cells [(Value.slice a_y65_sectors write_1.1.sectors.length c_y65_sectors), (Value.slice a_y65_pending write_1.1.pending.length c_y65_pending), (Value.int .i64 write_1.1.left), (Value.bool write_1.1.stopped)].toArray 25), (some b37, Obj.cells [(Value.slice a_y35_sectors new_2.1.sectors.length c_y35_sectors), (Value.slice a_y35_pending new_2.1.pending.length c_y35_pending), (Value.int .i64 new_2.1.left), (Value.bool new_2.1.stopped)].toArray 25)] (vT2 (vA rXDisk) (vI .i64)) write_2) (VD.stab _ _) (fun ρ119 w120 g hle hi ht => ?_) ?_
  ·
    obtain ⟨-, hst, -⟩ := hle
    replace f_y35_sectors := f_y35_sectors.step hst
    replace f_y35_pending := f_y35_pending.step hst
    have h122 : Vr.vd (vC (rSl rU8)) _ _ _ _ := ht 50 rfl
    obtain ⟨a_y124, c_y124, q123, f_y124⟩ := un_sl h122
    refine StepOp_plain (op_call Try.call23 (c23_disk_Write (O := ks (ents g ++ [(some b67, Obj.cells [(Value.slice a_y65_sectors write_1.1.sectors.length c_y65_sectors), (Value.slice a_y65_pending write_1.1.pending.length c_y65_pending), (Value.int .i64 write_1.1.left), (Value.bool write_1.1.stopped)].toArray 25), (some b37, Obj.cells [(Value.slice a_y35_sectors new_2.1.sectors.length c_y35_sectors), (Value.slice a_y35_pending new_2.1.pending.length c_y35_pending), (Value.int .i64 new_2.1.left), (Value.bool new_2.1.stopped)].toArray 25)]) O) (d := new_2.1) (at_ := 0) (b := (List.replicate 129 (0 : UInt8))) hi.ltw f_y35_sectors f_y35_pending r_y35_left (show InK .i64 0 from by decide) f_y124 hv125) (by simp only [List.map, Array.toList, (show ev _ (.tmp 49) = _ from (ht 49 rfl)), (show ev _ (.const (.int .i64 0)) = .int .i64 0 from rfl), (show ev _ (.tmp 50) = _ from q123)] <;> rfl) ?_)
    rintro v126 w127 ⟨hx128, h129⟩
    exact Goes.call hi hx128 h129
  refine Dw_op (VD O [(some b67, Obj.cells [(Value.slice a_y65_sectors write_1.1.sectors.length c_y65_sectors), (Value.slice a_y65_pending write_1.1.pending.length c_y65_pending), (Value.int .i64 write_1.1.left), (Value.bool write_1.1.stopped)].toArray 25), (some b37, Obj.cells [(Value.slice a_y35_sectors new_2.1.sectors.length c_y35_sectors), (Value.slice a_y35_pending new_2.1.pending.length c_y35_pending), (Value.int .i64 new_2.1.left), (Value.bool new_2.1.stopped)].toArray 25)] (vT2 (vA rXDisk) (vI .i64)) write_2) (VD.stab _ _) (fun ρ131 w132 g hle hi ht => ?_) ?_
  ·
    obtain ⟨-, hst, -⟩ := hle
    have h : Vr.vd (vT2 (vA rXDisk) (vI .i64)) _ _ _ _ := ht 51 rfl
    refine StepOp_plain (op_move rfl (Goes.same hi h))
  refine Dw_op (VD O [(some b67, Obj.cells [(Value.slice a_y65_sectors write_1.1.sectors.length c_y65_sectors), (Value.slice a_y65_pending write_1.1.pending.length c_y65_pending), (Value.int .i64 write_1.1.left), (Value.bool write_1.1.stopped)].toArray 25), (some b37, Obj.cells [(Value.slice a_y35_sectors new_2.1.sectors.length c_y35_sectors), (Value.slice a_y35_pending new_2.1.pending.length c_y35_pending), (Value.int .i64 new_2.1.left), (Value.bool new_2.1.stopped)].toArray 25)] (vA rXDisk) write_2.1) (VD.stab _ _) (fun ρ142 w143 g hle hi ht => ?_) ?_
  ·
    obtain ⟨-, hst, -⟩ := hle
    have h145 : Vr.vd (vT2 (vA rXDisk) (vI .i64)) _ _ _ _ := ht 48 rfl
    obtain ⟨v147, v148, q146, h149, h150⟩ := h145
    obtain ⟨_, rfl, ⟨_, _, rfl, ⟨a_y151_sectors, c_y151_sectors, rfl, f_y151_sectors⟩, ⟨_, _, rfl, ⟨a_y151_pending, c_y151_pending, rfl, f_y151_pending⟩, ⟨_, _, rfl, ⟨rfl, r_y151_left⟩, rfl⟩⟩⟩⟩ := h149
    obtain ⟨rfl, r_y152⟩ := h150
    refine StepOp_plain (op_extract (v := (Value.agg [(Value.slice a_y151_sectors write_2.1.sectors.length c_y151_sectors), (Value.slice a_y151_pending write_2.1.pending.length c_y151_pending), (Value.int .i64 write_2.1.left), (Value.bool write_2.1.stopped)].toArray)) q146 rfl ?_)
    exact Goes.same hi (show Vr.vd (vA rXDisk) _ _ _ _ from (mkA (mkVia (mk_pair (mk_sl f_y151_sectors) (mk_pair (mk_sl f_y151_pending) (mk_pair (mk_int r_y151_left) mkBool))))))
  refine Dw_op (VD O [(some b67, Obj.cells [(Value.slice a_y65_sectors write_1.1.sectors.length c_y65_sectors), (Value.slice a_y65_pending write_1.1.pending.length c_y65_pending), (Value.int .i64 write_1.1.left), (Value.bool write_1.1.stopped)].toArray 25), (some b37, Obj.cells [(Value.slice a_y35_sectors new_2.1.sectors.length c_y35_sectors), (Value.slice a_y35_pending new_2.1.pending.length c_y35_pending), (Value.int .i64 new_2.1.left), (Value.bool new_2.1.stopped)].toArray 25)] (vI .i64) write_2.2) (VD.stab _ _) (fun ρ153 w154 g hle hi ht => ?_) ?_
  ·
    obtain ⟨-, hst, -⟩ := hle
    have h156 : Vr.vd (vT2 (vA rXDisk) (vI .i64)) _ _ _ _ := ht 48 rfl
    obtain ⟨v158, v159, q157, h160, h161⟩ := h156
    obtain ⟨_, rfl, ⟨_, _, rfl, ⟨a_y162_sectors, c_y162_sectors, rfl, f_y162_sectors⟩, ⟨_, _, rfl, ⟨a_y162_pending, c_y162_pending, rfl, f_y162_pending⟩, ⟨_, _, rfl, ⟨rfl, r_y162_left⟩, rfl⟩⟩⟩⟩ := h160
    obtain ⟨rfl, r_y163⟩ := h161
    refine StepOp_plain (op_extract (v := (Value.int .i64 write_2.2)) q157 rfl ?_)
    exact Goes.same hi (show Vr.vd (vI .i64) _ _ _ _ from ⟨rfl, r_y163⟩)
  refine Dw_op (VN 11 (Obj.cells [(Value.slice none 0 0), (Value.slice none 0 0), (Value.int .i64 0), (Value.bool false)].toArray 25)) (VN.stab _ _) (fun ρ164 w165 g hle hi ht => ?_) ?_
  ·
    obtain ⟨-, hst, -⟩ := hle
    refine StepOp_plain (op_alloc ty25 hi ?_)
    intro b167 w168 hx171 p169 hs170; exact Goes.new hi p169 hs170 hx171
  refine Dw_nil fun w176 g177 hl178 hi179 => ?_
  obtain ⟨-, hst180, -⟩ := hl178
  rintro _ ⟨b183, rfl, h184⟩
  rintro v186 h187
  replace h187 : Vr.vd (vI .i64) _ _ _ _ := h187
  obtain ⟨rfl, r_y188⟩ := h187
  rintro v189 h190
  replace h190 : Vr.vd (vA rXDisk) _ _ _ _ := h190
  obtain ⟨_, rfl, ⟨_, _, rfl, ⟨a_y191_sectors, c_y191_sectors, rfl, f_y191_sectors⟩, ⟨_, _, rfl, ⟨a_y191_pending, c_y191_pending, rfl, f_y191_pending⟩, ⟨_, _, rfl, ⟨rfl, r_y191_left⟩, rfl⟩⟩⟩⟩ := h190
  rintro v192 h193
  replace h193 : Vr.vd (vT2 (vA rXDisk) (vI .i64)) _ _ _ _ := h193
  obtain ⟨v194, v195, rfl, h196, h197⟩ := h193
  obtain ⟨_, rfl, ⟨_, _, rfl, ⟨a_y198_sectors, c_y198_sectors, rfl, f_y198_sectors⟩, ⟨_, _, rfl, ⟨a_y198_pending, c_y198_pending, rfl, f_y198_pending⟩, ⟨_, _, rfl, ⟨rfl, r_y198_left⟩, rfl⟩⟩⟩⟩ := h196
  obtain ⟨rfl, r_y199⟩ := h197
  rintro v200 h201
  replace h201 : Vr.vd (vT2 (vA rXDisk) (vI .i64)) _ _ _ _ := h201
  obtain ⟨v202, v203, rfl, h204, h205⟩ := h201
  obtain ⟨_, rfl, ⟨_, _, rfl, ⟨a_y206_sectors, c_y206_sectors, rfl, f_y206_sectors⟩, ⟨_, _, rfl, ⟨a_y206_pending, c_y206_pending, rfl, f_y206_pending⟩, ⟨_, _, rfl, ⟨rfl, r_y206_left⟩, rfl⟩⟩⟩⟩ := h204
  obtain ⟨rfl, r_y207⟩ := h205
  rintro v208 h209
  replace h209 : Vr.vd (vC (rSl rU8)) _ _ _ _ := h209
  obtain ⟨a_y210, c_y210, rfl, f_y210⟩ := un_sl h209
  rintro _ rfl
  obtain ⟨hs182, p181⟩ := Step.nx1 hi179 h184
  have p211 : Step (ks [(some b67, Obj.cells [(Value.slice a_y65_sectors write_1.1.sectors.length c_y65_sectors), (Value.slice a_y65_pending write_1.1.pending.length c_y65_pending), (Value.int .i64 write_1.1.left), (Value.bool write_1.1.stopped)].toArray 25), (some b37, Obj.cells [(Value.slice a_y35_sectors new_2.1.sectors.length c_y35_sectors), (Value.slice a_y35_pending new_2.1.pending.length c_y35_pending), (Value.int .i64 new_2.1.left), (Value.bool new_2.1.stopped)].toArray 25)] O) w91 (ks [(some b183, Obj.cells [(Value.slice none 0 0), (Value.slice none 0 0), (Value.int .i64 0), (Value.bool false)].toArray 25), (some b67, Obj.cells [(Value.slice a_y65_sectors write_1.1.sectors.length c_y65_sectors), (Value.slice a_y65_pending write_1.1.pending.length c_y65_pending), (Value.int .i64 write_1.1.left), (Value.bool write_1.1.stopped)].toArray 25), (some b37, Obj.cells [(Value.slice a_y35_sectors new_2.1.sectors.length c_y35_sectors), (Value.slice a_y35_pending new_2.1.pending.length c_y35_pending), (Value.int .i64 new_2.1.left), (Value.bool new_2.1.stopped)].toArray 25)] O) w176 := hst180.trans p181
  replace f_y191_sectors := f_y191_sectors.step p181
  replace f_y191_pending := f_y191_pending.step p181
  replace f_y198_sectors := f_y198_sectors.step p181
  replace f_y198_pending := f_y198_pending.step p181
  replace f_y206_sectors := f_y206_sectors.step p181
  replace f_y206_pending := f_y206_pending.step p181
  replace f_y210 := f_y210.step p181
  replace f_y35_sectors := f_y35_sectors.step p211
  replace f_y35_pending := f_y35_pending.step p211
  replace f_y65_sectors := f_y65_sectors.step p211
  replace f_y65_pending := f_y65_pending.step p211
  replace f_y86 := f_y86.step p211
  clear p211 hs94
  refine Rg_op_ (op_store (cs := [(Value.slice none 0 0), (Value.slice none 0 0), (Value.int .i64 0), (Value.bool false)]) (vs := [(Value.slice a_y191_sectors write_2.1.sectors.length c_y191_sectors), (Value.slice a_y191_pending write_2.1.pending.length c_y191_pending), (Value.int .i64 write_2.1.left), (Value.bool write_2.1.stopped)]) (cs' := [(Value.slice a_y191_sectors write_2.1.sectors.length c_y191_sectors), (Value.slice a_y191_pending write_2.1.pending.length c_y191_pending), (Value.int .i64 write_2.1.left), (Value.bool write_2.1.stopped)]) (bs' := [(some b183, Obj.cells [(Value.slice a_y191_sectors write_2.1.sectors.length c_y191_sectors), (Value.slice a_y191_pending write_2.1.pending.length c_y191_pending), (Value.int .i64 write_2.1.left), (Value.bool write_2.1.stopped)].toArray 25), (some b67, Obj.cells [(Value.slice a_y65_sectors write_1.1.sectors.length c_y65_sectors), (Value.slice a_y65_pending write_1.1.pending.length c_y65_pending), (Value.int .i64 write_1.1.left), (Value.bool write_1.1.stopped)].toArray 25), (some b37, Obj.cells [(Value.slice a_y35_sectors new_2.1.sectors.length c_y35_sectors), (Value.slice a_y35_pending new_2.1.pending.length c_y35_pending), (Value.int .i64 new_2.1.left), (Value.bool new_2.1.stopped)].toArray 25)]) (i := 0) ty25 hs182 rfl rfl rfl rfl rfl (le_lit rfl) rfl rfl rfl ?_)
  intro w212 p213 hs214
  replace f_y35_sectors := f_y35_sectors.step p213
  replace f_y35_pending := f_y35_pending.step p213
  replace f_y65_sectors := f_y65_sectors.step p213
  replace f_y65_pending := f_y65_pending.step p213
  replace f_y86 := f_y86.step p213
  replace f_y191_sectors := f_y191_sectors.step p213
  replace f_y191_pending := f_y191_pending.step p213
  replace f_y198_sectors := f_y198_sectors.step p213
  replace f_y198_pending := f_y198_pending.step p213
  replace f_y206_sectors := f_y206_sectors.step p213
  replace f_y206_pending := f_y206_pending.step p213
  replace f_y210 := f_y210.step p213
  clear p213 hs182
  refine Rg_op rfl (op_assign (v := (Value.int .i64 write_2.2)) rfl ?_)
  refine Rg_nil ?_
  refine Wp_seq ?_
  obtain ⟨hs215, p216⟩ := hs214.sub (bs' := [(some b67, Obj.cells [(Value.slice a_y65_sectors write_1.1.sectors.length c_y65_sectors), (Value.slice a_y65_pending write_1.1.pending.length c_y65_pending), (Value.int .i64 write_1.1.left), (Value.bool write_1.1.stopped)].toArray 25)]) (.cons _ (.cons_cons _ (.cons _ List.Sublist.slnil)))
  clear f_y35_sectors f_y35_pending f_y191_sectors f_y191_pending f_y198_sectors f_y198_pending f_y206_sectors f_y206_pending f_y210
  replace f_y65_sectors := f_y65_sectors.step p216
  replace f_y65_pending := f_y65_pending.step p216
  replace f_y86 := f_y86.step p216
  clear p216 hs214
  refine Wp_region ?_  -- 7 law.go:18
  refine Rg_op rfl (op_loadA (cs := [(Value.slice a_y65_sectors write_1.1.sectors.length c_y65_sectors), (Value.slice a_y65_pending write_1.1.pending.length c_y65_pending), (Value.int .i64 write_1.1.left), (Value.bool write_1.1.stopped)]) (vs := [(Value.slice a_y65_sectors write_1.1.sectors.length c_y65_sectors), (Value.slice a_y65_pending write_1.1.pending.length c_y65_pending), (Value.int .i64 write_1.1.left), (Value.bool write_1.1.stopped)]) (i := 0) ty25 hs215 rfl rfl rfl rfl ?_)
  replace hm := bd hm; obtain ⟨stop_1, hv217, hm⟩ := hm
  refine Rg_op rfl (op_call Try.call22 (c22_disk_Stop (d := write_1.1) (left := 1) hs215.ltw f_y65_sectors f_y65_pending r_y65_left (show InK .i64 1 from by decide) hv217) rfl ?_)
  rintro v218 w219 ⟨hx220, h221⟩
  have hs222 := hs215.call hx220
  have p223 := Step.ext (O := ks [(some b67, Obj.cells [(Value.slice a_y65_sectors write_1.1.sectors.length c_y65_sectors), (Value.slice a_y65_pending write_1.1.pending.length c_y65_pending), (Value.int .i64 write_1.1.left), (Value.bool write_1.1.stopped)].toArray 25)] O) hx220
  clear hx220
  replace f_y65_sectors := f_y65_sectors.step p223
  replace f_y65_pending := f_y65_pending.step p223
  replace f_y86 := f_y86.step p223
  clear p223 hs215
  obtain ⟨v224, v225, rfl, h226, h227⟩ := h221
  obtain ⟨_, rfl, ⟨_, _, rfl, ⟨a_y228_sectors, c_y228_sectors, rfl, f_y228_sectors⟩, ⟨_, _, rfl, ⟨a_y228_pending, c_y228_pending, rfl, f_y228_pending⟩, ⟨_, _, rfl, ⟨rfl, r_y228_left⟩, rfl⟩⟩⟩⟩ := h226
  obtain ⟨rfl, r_y229⟩ := h227
  refine Rg_op rfl (op_move (v := (Value.tuple [(Value.agg [(Value.slice a_y228_sectors stop_1.1.sectors.length c_y228_sectors), (Value.slice a_y228_pending stop_1.1.pending.length c_y228_pending), (Value.int .i64 stop_1.1.left), (Value.bool stop_1.1.stopped)].toArray), (Value.int .i64 stop_1.2)].toArray)) rfl ?_)
  refine Rg_op rfl (op_extract (v := (Value.agg [(Value.slice a_y228_sectors stop_1.1.sectors.length c_y228_sectors), (Value.slice a_y228_pending stop_1.1.pending.length c_y228_pending), (Value.int .i64 stop_1.1.left), (Value.bool stop_1.1.stopped)].toArray)) rfl rfl ?_)
  refine Rg_op rfl (op_extract (v := (Value.int .i64 stop_1.2)) rfl rfl ?_)
  refine Rg_op rfl (op_alloc ty25 hs222 ?_)
  intro b230 w231 _ p232 hs233
  replace f_y65_sectors := f_y65_sectors.step p232
  replace f_y65_pending := f_y65_pending.step p232
  replace f_y86 := f_y86.step p232
  replace f_y228_sectors := f_y228_sectors.step p232
  replace f_y228_pending := f_y228_pending.step p232
  clear p232 hs222
  refine Rg_op_ (op_store (cs := [(Value.slice none 0 0), (Value.slice none 0 0), (Value.int .i64 0), (Value.bool false)]) (vs := [(Value.slice a_y228_sectors stop_1.1.sectors.length c_y228_sectors), (Value.slice a_y228_pending stop_1.1.pending.length c_y228_pending), (Value.int .i64 stop_1.1.left), (Value.bool stop_1.1.stopped)]) (cs' := [(Value.slice a_y228_sectors stop_1.1.sectors.length c_y228_sectors), (Value.slice a_y228_pending stop_1.1.pending.length c_y228_pending), (Value.int .i64 stop_1.1.left), (Value.bool stop_1.1.stopped)]) (bs' := [(some b230, Obj.cells [(Value.slice a_y228_sectors stop_1.1.sectors.length c_y228_sectors), (Value.slice a_y228_pending stop_1.1.pending.length c_y228_pending), (Value.int .i64 stop_1.1.left), (Value.bool stop_1.1.stopped)].toArray 25), (some b67, Obj.cells [(Value.slice a_y65_sectors write_1.1.sectors.length c_y65_sectors), (Value.slice a_y65_pending write_1.1.pending.length c_y65_pending), (Value.int .i64 write_1.1.left), (Value.bool write_1.1.stopped)].toArray 25)]) (i := 0) ty25 hs233 rfl rfl rfl rfl rfl (le_lit rfl) rfl rfl rfl ?_)
  intro w235 p236 hs237
  replace f_y65_sectors := f_y65_sectors.step p236
  replace f_y65_pending := f_y65_pending.step p236
  replace f_y86 := f_y86.step p236
  replace f_y228_sectors := f_y228_sectors.step p236
  replace f_y228_pending := f_y228_pending.step p236
  clear p236 hs233
  refine Rg_op rfl (op_assign (v := (Value.int .i64 stop_1.2)) rfl ?_)
  refine Rg_nil ?_
  refine Wp_seq ?_
  refine Wp_drawR (g0 := []) (m := 6) (fl := [5]) (TS_inv hs237) (.inl rfl) rfl (by decide +kernel) ?_  -- 8
  refine Dw_eq (Value.agg [(Value.slice a_y228_sectors stop_1.1.sectors.length c_y228_sectors), (Value.slice a_y228_pending stop_1.1.pending.length c_y228_pending), (Value.int .i64 stop_1.1.left), (Value.bool stop_1.1.stopped)].toArray) (fun ρ238 w239 g hle hi ht => ?_) ?_
  ·
    obtain ⟨-, hst, -⟩ := hle
    have hsn := (Step.nx hi).1
    refine StepOp_plain (op_loadA (cs := [(Value.slice a_y228_sectors stop_1.1.sectors.length c_y228_sectors), (Value.slice a_y228_pending stop_1.1.pending.length c_y228_pending), (Value.int .i64 stop_1.1.left), (Value.bool stop_1.1.stopped)]) (vs := [(Value.slice a_y228_sectors stop_1.1.sectors.length c_y228_sectors), (Value.slice a_y228_pending stop_1.1.pending.length c_y228_pending), (Value.int .i64 stop_1.1.left), (Value.bool stop_1.1.stopped)]) (i := 0) ty25 hsn (ht 13 rfl) rfl rfl rfl ?_)
    exact Goes.same hi rfl
  replace hm := bd hm; obtain ⟨double_1, hv244, hm⟩ := hm
  refine Dw_op (VD O [(some b230, Obj.cells [(Value.slice a_y228_sectors stop_1.1.sectors.length c_y228_sectors), (Value.slice a_y228_pending stop_1.1.pending.length c_y228_pending), (Value.int .i64 stop_1.1.left), (Value.bool stop_1.1.stopped)].toArray 25), (some b67, Obj.cells [(Value.slice a_y65_sectors write_1.1.sectors.length c_y65_sectors), (Value.slice a_y65_pending write_1.1.pending.length c_y65_pending), (Value.int .i64 write_1.1.left), (Value.bool write_1.1.stopped)].toArray 25)] (vC (rSl rU8)) double_1) (VD.stab _ _) (fun ρ241 w242 g hle hi ht => ?_) ?_
  ·
    obtain ⟨-, hst, -⟩ := hle
    refine StepOp_plain (op_call Try.call24 (c24_overflightlaw44_double (O := ks (ents g ++ [(some b230, Obj.cells [(Value.slice a_y228_sectors stop_1.1.sectors.length c_y228_sectors), (Value.slice a_y228_pending stop_1.1.pending.length c_y228_pending), (Value.int .i64 stop_1.1.left), (Value.bool stop_1.1.stopped)].toArray 25), (some b67, Obj.cells [(Value.slice a_y65_sectors write_1.1.sectors.length c_y65_sectors), (Value.slice a_y65_pending write_1.1.pending.length c_y65_pending), (Value.int .i64 write_1.1.left), (Value.bool write_1.1.stopped)].toArray 25)]) O) (c := 8) hi.ltw  hv244) rfl ?_)
    rintro v245 w246 ⟨hx247, h248⟩
    exact Goes.call hi hx247 h248
  replace hm := bd hm; obtain ⟨write_3, hv256, hm⟩ := hm
  refine Dw_op (VD O [(some b230, Obj.cells [(Value.slice a_y228_sectors stop_1.1.sectors.length c_y228_sectors), (Value.slice a_y228_pending stop_1.1.pending.length c_y228_pending), (Value.int .i64 stop_1.1.left), (Value.bool stop_1.1.stopped)].toArray 25), (some b67, Obj.cells [(Value.slice a_y65_sectors write_1.1.sectors.length c_y65_sectors), (Value.slice a_y65_pending write_1.1.pending.length c_y65_pending), (Value.int .i64 write_1.1.left), (Value.bool write_1.1.stopped)].toArray 25)] (vT2 (vA rXDisk) (vI .i64)) write_3) (VD.stab _ _) (fun ρ250 w251 g hle hi ht => ?_) ?_
  ·
    obtain ⟨-, hst, -⟩ := hle
    replace f_y228_sectors := f_y228_sectors.step hst
    replace f_y228_pending := f_y228_pending.step hst
    have h253 : Vr.vd (vC (rSl rU8)) _ _ _ _ := ht 61 rfl
    obtain ⟨a_y255, c_y255, q254, f_y255⟩ := un_sl h253
    refine StepOp_plain (op_call Try.call23 (c23_disk_Write (O := ks (ents g ++ [(some b230, Obj.cells [(Value.slice a_y228_sectors stop_1.1.sectors.length c_y228_sectors), (Value.slice a_y228_pending stop_1.1.pending.length c_y228_pending), (Value.int .i64 stop_1.1.left), (Value.bool stop_1.1.stopped)].toArray 25), (some b67, Obj.cells [(Value.slice a_y65_sectors write_1.1.sectors.length c_y65_sectors), (Value.slice a_y65_pending write_1.1.pending.length c_y65_pending), (Value.int .i64 write_1.1.left), (Value.bool write_1.1.stopped)].toArray 25)]) O) (d := stop_1.1) (at_ := 0) (b := double_1) hi.ltw f_y228_sectors f_y228_pending r_y228_left (show InK .i64 0 from by decide) f_y255 hv256) (by simp only [List.map, Array.toList, (show ev _ (.tmp 60) = _ from (ht 60 rfl)), (show ev _ (.const (.int .i64 0)) = .int .i64 0 from rfl), (show ev _ (.tmp 61) = _ from q254)] <;> rfl) ?_)
    rintro v257 w258 ⟨hx259, h260⟩
    exact Goes.call hi hx259 h260
  refine Dw_op (VD O [(some b230, Obj.cells [(Value.slice a_y228_sectors stop_1.1.sectors.length c_y228_sectors), (Value.slice a_y228_pending stop_1.1.pending.length c_y228_pending), (Value.int .i64 stop_1.1.left), (Value.bool stop_1.1.stopped)].toArray 25), (some b67, Obj.cells [(Value.slice a_y65_sectors write_1.1.sectors.length c_y65_sectors), (Value.slice a_y65_pending write_1.1.pending.length c_y65_pending), (Value.int .i64 write_1.1.left), (Value.bool write_1.1.stopped)].toArray 25)] (vT2 (vA rXDisk) (vI .i64)) write_3) (VD.stab _ _) (fun ρ262 w263 g hle hi ht => ?_) ?_
  ·
    obtain ⟨-, hst, -⟩ := hle
    have h : Vr.vd (vT2 (vA rXDisk) (vI .i64)) _ _ _ _ := ht 62 rfl
    refine StepOp_plain (op_move rfl (Goes.same hi h))
  refine Dw_op (VD O [(some b230, Obj.cells [(Value.slice a_y228_sectors stop_1.1.sectors.length c_y228_sectors), (Value.slice a_y228_pending stop_1.1.pending.length c_y228_pending), (Value.int .i64 stop_1.1.left), (Value.bool stop_1.1.stopped)].toArray 25), (some b67, Obj.cells [(Value.slice a_y65_sectors write_1.1.sectors.length c_y65_sectors), (Value.slice a_y65_pending write_1.1.pending.length c_y65_pending), (Value.int .i64 write_1.1.left), (Value.bool write_1.1.stopped)].toArray 25)] (vA rXDisk) write_3.1) (VD.stab _ _) (fun ρ273 w274 g hle hi ht => ?_) ?_
  ·
    obtain ⟨-, hst, -⟩ := hle
    have h276 : Vr.vd (vT2 (vA rXDisk) (vI .i64)) _ _ _ _ := ht 59 rfl
    obtain ⟨v278, v279, q277, h280, h281⟩ := h276
    obtain ⟨_, rfl, ⟨_, _, rfl, ⟨a_y282_sectors, c_y282_sectors, rfl, f_y282_sectors⟩, ⟨_, _, rfl, ⟨a_y282_pending, c_y282_pending, rfl, f_y282_pending⟩, ⟨_, _, rfl, ⟨rfl, r_y282_left⟩, rfl⟩⟩⟩⟩ := h280
    obtain ⟨rfl, r_y283⟩ := h281
    refine StepOp_plain (op_extract (v := (Value.agg [(Value.slice a_y282_sectors write_3.1.sectors.length c_y282_sectors), (Value.slice a_y282_pending write_3.1.pending.length c_y282_pending), (Value.int .i64 write_3.1.left), (Value.bool write_3.1.stopped)].toArray)) q277 rfl ?_)
    exact Goes.same hi (show Vr.vd (vA rXDisk) _ _ _ _ from (mkA (mkVia (mk_pair (mk_sl f_y282_sectors) (mk_pair (mk_sl f_y282_pending) (mk_pair (mk_int r_y282_left) mkBool))))))
  refine Dw_op (VD O [(some b230, Obj.cells [(Value.slice a_y228_sectors stop_1.1.sectors.length c_y228_sectors), (Value.slice a_y228_pending stop_1.1.pending.length c_y228_pending), (Value.int .i64 stop_1.1.left), (Value.bool stop_1.1.stopped)].toArray 25), (some b67, Obj.cells [(Value.slice a_y65_sectors write_1.1.sectors.length c_y65_sectors), (Value.slice a_y65_pending write_1.1.pending.length c_y65_pending), (Value.int .i64 write_1.1.left), (Value.bool write_1.1.stopped)].toArray 25)] (vI .i64) write_3.2) (VD.stab _ _) (fun ρ284 w285 g hle hi ht => ?_) ?_
  ·
    obtain ⟨-, hst, -⟩ := hle
    have h287 : Vr.vd (vT2 (vA rXDisk) (vI .i64)) _ _ _ _ := ht 59 rfl
    obtain ⟨v289, v290, q288, h291, h292⟩ := h287
    obtain ⟨_, rfl, ⟨_, _, rfl, ⟨a_y293_sectors, c_y293_sectors, rfl, f_y293_sectors⟩, ⟨_, _, rfl, ⟨a_y293_pending, c_y293_pending, rfl, f_y293_pending⟩, ⟨_, _, rfl, ⟨rfl, r_y293_left⟩, rfl⟩⟩⟩⟩ := h291
    obtain ⟨rfl, r_y294⟩ := h292
    refine StepOp_plain (op_extract (v := (Value.int .i64 write_3.2)) q288 rfl ?_)
    exact Goes.same hi (show Vr.vd (vI .i64) _ _ _ _ from ⟨rfl, r_y294⟩)
  refine Dw_nil fun w299 g300 hl301 hi302 => ?_
  obtain ⟨-, hst303, -⟩ := hl301
  obtain ⟨hs305, p304⟩ := Step.nx hi302
  rintro v306 h307
  replace h307 : Vr.vd (vI .i64) _ _ _ _ := h307
  obtain ⟨rfl, r_y308⟩ := h307
  rintro v309 h310
  replace h310 : Vr.vd (vA rXDisk) _ _ _ _ := h310
  obtain ⟨_, rfl, ⟨_, _, rfl, ⟨a_y311_sectors, c_y311_sectors, rfl, f_y311_sectors⟩, ⟨_, _, rfl, ⟨a_y311_pending, c_y311_pending, rfl, f_y311_pending⟩, ⟨_, _, rfl, ⟨rfl, r_y311_left⟩, rfl⟩⟩⟩⟩ := h310
  rintro v312 h313
  replace h313 : Vr.vd (vT2 (vA rXDisk) (vI .i64)) _ _ _ _ := h313
  obtain ⟨v314, v315, rfl, h316, h317⟩ := h313
  obtain ⟨_, rfl, ⟨_, _, rfl, ⟨a_y318_sectors, c_y318_sectors, rfl, f_y318_sectors⟩, ⟨_, _, rfl, ⟨a_y318_pending, c_y318_pending, rfl, f_y318_pending⟩, ⟨_, _, rfl, ⟨rfl, r_y318_left⟩, rfl⟩⟩⟩⟩ := h316
  obtain ⟨rfl, r_y319⟩ := h317
  rintro v320 h321
  replace h321 : Vr.vd (vT2 (vA rXDisk) (vI .i64)) _ _ _ _ := h321
  obtain ⟨v322, v323, rfl, h324, h325⟩ := h321
  obtain ⟨_, rfl, ⟨_, _, rfl, ⟨a_y326_sectors, c_y326_sectors, rfl, f_y326_sectors⟩, ⟨_, _, rfl, ⟨a_y326_pending, c_y326_pending, rfl, f_y326_pending⟩, ⟨_, _, rfl, ⟨rfl, r_y326_left⟩, rfl⟩⟩⟩⟩ := h324
  obtain ⟨rfl, r_y327⟩ := h325
  rintro v328 h329
  replace h329 : Vr.vd (vC (rSl rU8)) _ _ _ _ := h329
  obtain ⟨a_y330, c_y330, rfl, f_y330⟩ := un_sl h329
  rintro _ rfl
  have p331 : Step (ks [(some b230, Obj.cells [(Value.slice a_y228_sectors stop_1.1.sectors.length c_y228_sectors), (Value.slice a_y228_pending stop_1.1.pending.length c_y228_pending), (Value.int .i64 stop_1.1.left), (Value.bool stop_1.1.stopped)].toArray 25), (some b67, Obj.cells [(Value.slice a_y65_sectors write_1.1.sectors.length c_y65_sectors), (Value.slice a_y65_pending write_1.1.pending.length c_y65_pending), (Value.int .i64 write_1.1.left), (Value.bool write_1.1.stopped)].toArray 25)] O) w235 (ks [(some b230, Obj.cells [(Value.slice a_y228_sectors stop_1.1.sectors.length c_y228_sectors), (Value.slice a_y228_pending stop_1.1.pending.length c_y228_pending), (Value.int .i64 stop_1.1.left), (Value.bool stop_1.1.stopped)].toArray 25), (some b67, Obj.cells [(Value.slice a_y65_sectors write_1.1.sectors.length c_y65_sectors), (Value.slice a_y65_pending write_1.1.pending.length c_y65_pending), (Value.int .i64 write_1.1.left), (Value.bool write_1.1.stopped)].toArray 25)] O) w299 := hst303.trans p304
  replace f_y311_sectors := f_y311_sectors.step p304
  replace f_y311_pending := f_y311_pending.step p304
  replace f_y318_sectors := f_y318_sectors.step p304
  replace f_y318_pending := f_y318_pending.step p304
  replace f_y326_sectors := f_y326_sectors.step p304
  replace f_y326_pending := f_y326_pending.step p304
  replace f_y330 := f_y330.step p304
  replace f_y65_sectors := f_y65_sectors.step p331
  replace f_y65_pending := f_y65_pending.step p331
  replace f_y86 := f_y86.step p331
  replace f_y228_sectors := f_y228_sectors.step p331
  replace f_y228_pending := f_y228_pending.step p331
  clear p331 hs237
  refine Rg_op_ (op_store (cs := [(Value.slice a_y228_sectors stop_1.1.sectors.length c_y228_sectors), (Value.slice a_y228_pending stop_1.1.pending.length c_y228_pending), (Value.int .i64 stop_1.1.left), (Value.bool stop_1.1.stopped)]) (vs := [(Value.slice a_y311_sectors write_3.1.sectors.length c_y311_sectors), (Value.slice a_y311_pending write_3.1.pending.length c_y311_pending), (Value.int .i64 write_3.1.left), (Value.bool write_3.1.stopped)]) (cs' := [(Value.slice a_y311_sectors write_3.1.sectors.length c_y311_sectors), (Value.slice a_y311_pending write_3.1.pending.length c_y311_pending), (Value.int .i64 write_3.1.left), (Value.bool write_3.1.stopped)]) (bs' := [(some b230, Obj.cells [(Value.slice a_y311_sectors write_3.1.sectors.length c_y311_sectors), (Value.slice a_y311_pending write_3.1.pending.length c_y311_pending), (Value.int .i64 write_3.1.left), (Value.bool write_3.1.stopped)].toArray 25), (some b67, Obj.cells [(Value.slice a_y65_sectors write_1.1.sectors.length c_y65_sectors), (Value.slice a_y65_pending write_1.1.pending.length c_y65_pending), (Value.int .i64 write_1.1.left), (Value.bool write_1.1.stopped)].toArray 25)]) (i := 0) ty25 hs305 rfl rfl rfl rfl rfl (le_lit rfl) rfl rfl rfl ?_)
  intro w332 p333 hs334
  replace f_y65_sectors := f_y65_sectors.step p333
  replace f_y65_pending := f_y65_pending.step p333
  replace f_y86 := f_y86.step p333
  replace f_y228_sectors := f_y228_sectors.step p333
  replace f_y228_pending := f_y228_pending.step p333
  replace f_y311_sectors := f_y311_sectors.step p333
  replace f_y311_pending := f_y311_pending.step p333
  replace f_y318_sectors := f_y318_sectors.step p333
  replace f_y318_pending := f_y318_pending.step p333
  replace f_y326_sectors := f_y326_sectors.step p333
  replace f_y326_pending := f_y326_pending.step p333
  replace f_y330 := f_y330.step p333
  clear p333 hs305
  refine Rg_op rfl (op_assign (v := (Value.int .i64 write_3.2)) rfl ?_)
  refine Rg_nil ?_
  refine Wp_seq ?_
  clear f_y228_sectors f_y228_pending f_y318_sectors f_y318_pending f_y326_sectors f_y326_pending f_y330
  refine Wp_reset [] [(2, (Value.int .i64 new_1.2)), (4, (Value.int .i64 new_2.2)), (5, (Value.pointer (some ⟨b67, 0, none⟩))), (6, (Value.int .i64 write_1.2)), (7, (Value.slice a_y86 read_1.1.length c_y86)), (8, (Value.int .i64 read_1.2)), (10, (Value.int .i64 read_2.2)), (12, (Value.int .i64 write_2.2)), (13, (Value.pointer (some ⟨b230, 0, none⟩))), (14, (Value.int .i64 stop_1.2)), (15, (Value.int .i64 write_3.2))] rfl ⟨rfl, rfl, rfl, rfl, rfl, rfl, rfl, rfl, rfl, rfl, rfl, trivial⟩ fun ξ335 => ?_
  refine Wp_region ?_  -- 9 law.go:20
  refine Rg_op rfl (op_loadA (cs := [(Value.slice a_y311_sectors write_3.1.sectors.length c_y311_sectors), (Value.slice a_y311_pending write_3.1.pending.length c_y311_pending), (Value.int .i64 write_3.1.left), (Value.bool write_3.1.stopped)]) (vs := [(Value.slice a_y311_sectors write_3.1.sectors.length c_y311_sectors), (Value.slice a_y311_pending write_3.1.pending.length c_y311_pending), (Value.int .i64 write_3.1.left), (Value.bool write_3.1.stopped)]) (i := 0) ty25 hs334 rfl rfl rfl rfl ?_)
  replace hm := bd hm; obtain ⟨sync_1, hv336, hm⟩ := hm
  refine Rg_op rfl (op_call Try.call25 (c25_disk_Sync (d := write_3.1) hs334.ltw f_y311_sectors f_y311_pending r_y311_left hv336) rfl ?_)
  rintro v337 w338 ⟨hx339, h340⟩
  have hs341 := hs334.call hx339
  have p342 := Step.ext (O := ks [(some b230, Obj.cells [(Value.slice a_y311_sectors write_3.1.sectors.length c_y311_sectors), (Value.slice a_y311_pending write_3.1.pending.length c_y311_pending), (Value.int .i64 write_3.1.left), (Value.bool write_3.1.stopped)].toArray 25), (some b67, Obj.cells [(Value.slice a_y65_sectors write_1.1.sectors.length c_y65_sectors), (Value.slice a_y65_pending write_1.1.pending.length c_y65_pending), (Value.int .i64 write_1.1.left), (Value.bool write_1.1.stopped)].toArray 25)] O) hx339
  clear hx339
  replace f_y65_sectors := f_y65_sectors.step p342
  replace f_y65_pending := f_y65_pending.step p342
  replace f_y86 := f_y86.step p342
  replace f_y311_sectors := f_y311_sectors.step p342
  replace f_y311_pending := f_y311_pending.step p342
  clear p342 hs334
  obtain ⟨v343, v344, rfl, h345, h346⟩ := h340
  obtain ⟨_, rfl, ⟨_, _, rfl, ⟨a_y347_sectors, c_y347_sectors, rfl, f_y347_sectors⟩, ⟨_, _, rfl, ⟨a_y347_pending, c_y347_pending, rfl, f_y347_pending⟩, ⟨_, _, rfl, ⟨rfl, r_y347_left⟩, rfl⟩⟩⟩⟩ := h345
  obtain ⟨rfl, r_y348⟩ := h346
  refine Rg_op rfl (op_move (v := (Value.tuple [(Value.agg [(Value.slice a_y347_sectors sync_1.1.sectors.length c_y347_sectors), (Value.slice a_y347_pending sync_1.1.pending.length c_y347_pending), (Value.int .i64 sync_1.1.left), (Value.bool sync_1.1.stopped)].toArray), (Value.int .i64 sync_1.2)].toArray)) rfl ?_)
  refine Rg_op rfl (op_extract (v := (Value.agg [(Value.slice a_y347_sectors sync_1.1.sectors.length c_y347_sectors), (Value.slice a_y347_pending sync_1.1.pending.length c_y347_pending), (Value.int .i64 sync_1.1.left), (Value.bool sync_1.1.stopped)].toArray)) rfl rfl ?_)
  refine Rg_op rfl (op_extract (v := (Value.int .i64 sync_1.2)) rfl rfl ?_)
  refine Rg_op rfl (op_alloc ty25 hs341 ?_)
  intro b349 w350 _ p351 hs352
  replace f_y65_sectors := f_y65_sectors.step p351
  replace f_y65_pending := f_y65_pending.step p351
  replace f_y86 := f_y86.step p351
  replace f_y311_sectors := f_y311_sectors.step p351
  replace f_y311_pending := f_y311_pending.step p351
  replace f_y347_sectors := f_y347_sectors.step p351
  replace f_y347_pending := f_y347_pending.step p351
  clear p351 hs341
  refine Rg_op_ (op_store (cs := [(Value.slice none 0 0), (Value.slice none 0 0), (Value.int .i64 0), (Value.bool false)]) (vs := [(Value.slice a_y347_sectors sync_1.1.sectors.length c_y347_sectors), (Value.slice a_y347_pending sync_1.1.pending.length c_y347_pending), (Value.int .i64 sync_1.1.left), (Value.bool sync_1.1.stopped)]) (cs' := [(Value.slice a_y347_sectors sync_1.1.sectors.length c_y347_sectors), (Value.slice a_y347_pending sync_1.1.pending.length c_y347_pending), (Value.int .i64 sync_1.1.left), (Value.bool sync_1.1.stopped)]) (bs' := [(some b349, Obj.cells [(Value.slice a_y347_sectors sync_1.1.sectors.length c_y347_sectors), (Value.slice a_y347_pending sync_1.1.pending.length c_y347_pending), (Value.int .i64 sync_1.1.left), (Value.bool sync_1.1.stopped)].toArray 25), (some b230, Obj.cells [(Value.slice a_y311_sectors write_3.1.sectors.length c_y311_sectors), (Value.slice a_y311_pending write_3.1.pending.length c_y311_pending), (Value.int .i64 write_3.1.left), (Value.bool write_3.1.stopped)].toArray 25), (some b67, Obj.cells [(Value.slice a_y65_sectors write_1.1.sectors.length c_y65_sectors), (Value.slice a_y65_pending write_1.1.pending.length c_y65_pending), (Value.int .i64 write_1.1.left), (Value.bool write_1.1.stopped)].toArray 25)]) (i := 0) ty25 hs352 rfl rfl rfl rfl rfl (le_lit rfl) rfl rfl rfl ?_)
  intro w354 p355 hs356
  replace f_y65_sectors := f_y65_sectors.step p355
  replace f_y65_pending := f_y65_pending.step p355
  replace f_y86 := f_y86.step p355
  replace f_y311_sectors := f_y311_sectors.step p355
  replace f_y311_pending := f_y311_pending.step p355
  replace f_y347_sectors := f_y347_sectors.step p355
  replace f_y347_pending := f_y347_pending.step p355
  clear p355 hs352
  refine Rg_op rfl (op_assign (v := (Value.int .i64 sync_1.2)) rfl ?_)
  refine Rg_nil ?_
  refine Wp_seq ?_
  refine Wp_reset [] [(2, (Value.int .i64 new_1.2)), (4, (Value.int .i64 new_2.2)), (5, (Value.pointer (some ⟨b67, 0, none⟩))), (6, (Value.int .i64 write_1.2)), (7, (Value.slice a_y86 read_1.1.length c_y86)), (8, (Value.int .i64 read_1.2)), (10, (Value.int .i64 read_2.2)), (12, (Value.int .i64 write_2.2)), (14, (Value.int .i64 stop_1.2)), (15, (Value.int .i64 write_3.2)), (16, (Value.pointer (some ⟨b349, 0, none⟩))), (17, (Value.int .i64 sync_1.2))] rfl ⟨rfl, rfl, rfl, rfl, rfl, rfl, rfl, rfl, rfl, rfl, rfl, rfl, trivial⟩ fun ξ357 => ?_
  replace hm := jn_elim hm; obtain ⟨k359, hk360, hm⟩ := hm
  refine Wp_seqJ [70, 71, 72, 73, 74, 75, 76, 77, 78, 79, 80, 81, 82, 83, 84, 85, 86, 87, 88, 89, 90, 91, 92, 93, 94, 95, 96, 97, 98, 99, 100, 101, 102, 103, 104, 105, 106, 107, 108] (fun fr w' => ∃ (v_1 : Bool) (Ebs : Ents), Ebs = [(some b349, Obj.cells [(Value.slice a_y347_sectors sync_1.1.sectors.length c_y347_sectors), (Value.slice a_y347_pending sync_1.1.pending.length c_y347_pending), (Value.int .i64 sync_1.1.left), (Value.bool sync_1.1.stopped)].toArray 25), (some b230, Obj.cells [(Value.slice a_y311_sectors write_3.1.sectors.length c_y311_sectors), (Value.slice a_y311_pending write_3.1.pending.length c_y311_pending), (Value.int .i64 write_3.1.left), (Value.bool write_3.1.stopped)].toArray 25), (some b67, Obj.cells [(Value.slice a_y65_sectors write_1.1.sectors.length c_y65_sectors), (Value.slice a_y65_pending write_1.1.pending.length c_y65_pending), (Value.int .i64 write_1.1.left), (Value.bool write_1.1.stopped)].toArray 25)] ∧ fr [] [(108, (Value.bool v_1))] ∧ Step (ks [(some b349, Obj.cells [(Value.slice a_y347_sectors sync_1.1.sectors.length c_y347_sectors), (Value.slice a_y347_pending sync_1.1.pending.length c_y347_pending), (Value.int .i64 sync_1.1.left), (Value.bool sync_1.1.stopped)].toArray 25), (some b230, Obj.cells [(Value.slice a_y311_sectors write_3.1.sectors.length c_y311_sectors), (Value.slice a_y311_pending write_3.1.pending.length c_y311_pending), (Value.int .i64 write_3.1.left), (Value.bool write_3.1.stopped)].toArray 25), (some b67, Obj.cells [(Value.slice a_y65_sectors write_1.1.sectors.length c_y65_sectors), (Value.slice a_y65_pending write_1.1.pending.length c_y65_pending), (Value.int .i64 write_1.1.left), (Value.bool write_1.1.stopped)].toArray 25)] O) w354 (ks Ebs O) w' ∧ St ⟨w, [], []⟩ O w' Ebs ∧ k359 v_1 = some x) ?_ ?_
  ·
    rintro ρ366 w362 ⟨v_1, Ebs, hEbs, hfr365, hst364, hs363, hm⟩
    replace hm := jnE1 hk360 hm
    subst hEbs; rw [hfr365.eq]; clear hfr365
    replace f_y65_sectors := f_y65_sectors.step hst364
    replace f_y65_pending := f_y65_pending.step hst364
    replace f_y86 := f_y86.step hst364
    replace f_y311_sectors := f_y311_sectors.step hst364
    replace f_y311_pending := f_y311_pending.step hst364
    replace f_y347_sectors := f_y347_sectors.step hst364
    replace f_y347_pending := f_y347_pending.step hst364
    clear hst364 hs356
    refine Wp_cond rfl (fun hc367 => ?_) (fun hc367 => ?_)
    ·
      replace hm := bif_t hm hc367
      refine Wp_seq ?_
      obtain ⟨hs368, p369⟩ := hs363.sub (bs' := []) (.cons _ (.cons _ (.cons _ List.Sublist.slnil)))
      clear f_y65_sectors f_y65_pending f_y86 f_y311_sectors f_y311_pending f_y347_sectors f_y347_pending
      clear p369 hs363
      refine Wp_region ?_  -- 11 law.go:22
      refine Rg_op rfl (op_assign (v := (Value.bool false)) rfl ?_)
      refine Rg_nil ?_
      refine Wp_ret ?_
      have hz := step_all hs368
      refine ⟨_, (show Closes [] _ _ from rfl), [(Value.bool false)], ⟨rfl, trivial⟩, hs368.ext, ?_⟩
      exact Vr.eq (a := vB) (x := false) rfl (Option.some.inj hm)
    ·
      replace hm := bif_f hm hc367
      refine Wp_skip ?_
      refine Wp_seq ?_
      obtain ⟨hs370, p371⟩ := hs363.sub (bs' := [(some b349, Obj.cells [(Value.slice a_y347_sectors sync_1.1.sectors.length c_y347_sectors), (Value.slice a_y347_pending sync_1.1.pending.length c_y347_pending), (Value.int .i64 sync_1.1.left), (Value.bool sync_1.1.stopped)].toArray 25), (some b67, Obj.cells [(Value.slice a_y65_sectors write_1.1.sectors.length c_y65_sectors), (Value.slice a_y65_pending write_1.1.pending.length c_y65_pending), (Value.int .i64 write_1.1.left), (Value.bool write_1.1.stopped)].toArray 25)]) (.cons_cons _ (.cons _ (.cons_cons _ List.Sublist.slnil)))
      clear f_y311_sectors f_y311_pending
      replace f_y65_sectors := f_y65_sectors.step p371
      replace f_y65_pending := f_y65_pending.step p371
      replace f_y86 := f_y86.step p371
      replace f_y347_sectors := f_y347_sectors.step p371
      replace f_y347_pending := f_y347_pending.step p371
      clear p371 hs363
      refine Wp_region ?_  -- 12 law.go:24
      refine Rg_op rfl (op_loadA (cs := [(Value.slice a_y347_sectors sync_1.1.sectors.length c_y347_sectors), (Value.slice a_y347_pending sync_1.1.pending.length c_y347_pending), (Value.int .i64 sync_1.1.left), (Value.bool sync_1.1.stopped)]) (vs := [(Value.slice a_y347_sectors sync_1.1.sectors.length c_y347_sectors), (Value.slice a_y347_pending sync_1.1.pending.length c_y347_pending), (Value.int .i64 sync_1.1.left), (Value.bool sync_1.1.stopped)]) (i := 0) ty25 hs370 rfl rfl rfl rfl ?_)
      replace hm := bd hm; obtain ⟨restart_1, hv372, hm⟩ := hm
      refine Rg_op rfl (op_call Try.call20 (c20_disk_Restart (d := sync_1.1) hs370.ltw f_y347_sectors f_y347_pending r_y347_left hv372) rfl ?_)
      rintro v373 w374 ⟨hx375, h376⟩
      have hs377 := hs370.call hx375
      have p378 := Step.ext (O := ks [(some b349, Obj.cells [(Value.slice a_y347_sectors sync_1.1.sectors.length c_y347_sectors), (Value.slice a_y347_pending sync_1.1.pending.length c_y347_pending), (Value.int .i64 sync_1.1.left), (Value.bool sync_1.1.stopped)].toArray 25), (some b67, Obj.cells [(Value.slice a_y65_sectors write_1.1.sectors.length c_y65_sectors), (Value.slice a_y65_pending write_1.1.pending.length c_y65_pending), (Value.int .i64 write_1.1.left), (Value.bool write_1.1.stopped)].toArray 25)] O) hx375
      clear hx375
      replace f_y65_sectors := f_y65_sectors.step p378
      replace f_y65_pending := f_y65_pending.step p378
      replace f_y86 := f_y86.step p378
      replace f_y347_sectors := f_y347_sectors.step p378
      replace f_y347_pending := f_y347_pending.step p378
      clear p378 hs370
      obtain ⟨_, rfl, ⟨_, _, rfl, ⟨a_y379_sectors, c_y379_sectors, rfl, f_y379_sectors⟩, ⟨_, _, rfl, ⟨a_y379_pending, c_y379_pending, rfl, f_y379_pending⟩, ⟨_, _, rfl, ⟨rfl, r_y379_left⟩, rfl⟩⟩⟩⟩ := h376
      refine Rg_op_ (op_store (cs := [(Value.slice a_y347_sectors sync_1.1.sectors.length c_y347_sectors), (Value.slice a_y347_pending sync_1.1.pending.length c_y347_pending), (Value.int .i64 sync_1.1.left), (Value.bool sync_1.1.stopped)]) (vs := [(Value.slice a_y379_sectors restart_1.sectors.length c_y379_sectors), (Value.slice a_y379_pending restart_1.pending.length c_y379_pending), (Value.int .i64 restart_1.left), (Value.bool restart_1.stopped)]) (cs' := [(Value.slice a_y379_sectors restart_1.sectors.length c_y379_sectors), (Value.slice a_y379_pending restart_1.pending.length c_y379_pending), (Value.int .i64 restart_1.left), (Value.bool restart_1.stopped)]) (bs' := [(some b349, Obj.cells [(Value.slice a_y379_sectors restart_1.sectors.length c_y379_sectors), (Value.slice a_y379_pending restart_1.pending.length c_y379_pending), (Value.int .i64 restart_1.left), (Value.bool restart_1.stopped)].toArray 25), (some b67, Obj.cells [(Value.slice a_y65_sectors write_1.1.sectors.length c_y65_sectors), (Value.slice a_y65_pending write_1.1.pending.length c_y65_pending), (Value.int .i64 write_1.1.left), (Value.bool write_1.1.stopped)].toArray 25)]) (i := 0) ty25 hs377 rfl rfl rfl rfl rfl (le_lit rfl) rfl rfl rfl ?_)
      intro w380 p381 hs382
      replace f_y65_sectors := f_y65_sectors.step p381
      replace f_y65_pending := f_y65_pending.step p381
      replace f_y86 := f_y86.step p381
      replace f_y347_sectors := f_y347_sectors.step p381
      replace f_y347_pending := f_y347_pending.step p381
      replace f_y379_sectors := f_y379_sectors.step p381
      replace f_y379_pending := f_y379_pending.step p381
      clear p381 hs377
      refine Rg_nil ?_
      refine Wp_seq ?_
      clear f_y347_sectors f_y347_pending
      refine Wp_region ?_  -- 13 law.go:25
      refine Rg_op rfl (op_loadA (cs := [(Value.slice a_y379_sectors restart_1.sectors.length c_y379_sectors), (Value.slice a_y379_pending restart_1.pending.length c_y379_pending), (Value.int .i64 restart_1.left), (Value.bool restart_1.stopped)]) (vs := [(Value.slice a_y379_sectors restart_1.sectors.length c_y379_sectors), (Value.slice a_y379_pending restart_1.pending.length c_y379_pending), (Value.int .i64 restart_1.left), (Value.bool restart_1.stopped)]) (i := 0) ty25 hs382 rfl rfl rfl rfl ?_)
      replace hm := bd hm; obtain ⟨read_3, hv383, hm⟩ := hm
      refine Rg_op rfl (op_call Try.call27 (c27_disk_Read (d := restart_1) (at_ := 1) hs382.ltw f_y379_sectors f_y379_pending r_y379_left (show InK .i64 1 from by decide) hv383) rfl ?_)
      rintro v384 w385 ⟨hx386, h387⟩
      have hs388 := hs382.call hx386
      have p389 := Step.ext (O := ks [(some b349, Obj.cells [(Value.slice a_y379_sectors restart_1.sectors.length c_y379_sectors), (Value.slice a_y379_pending restart_1.pending.length c_y379_pending), (Value.int .i64 restart_1.left), (Value.bool restart_1.stopped)].toArray 25), (some b67, Obj.cells [(Value.slice a_y65_sectors write_1.1.sectors.length c_y65_sectors), (Value.slice a_y65_pending write_1.1.pending.length c_y65_pending), (Value.int .i64 write_1.1.left), (Value.bool write_1.1.stopped)].toArray 25)] O) hx386
      clear hx386
      replace f_y65_sectors := f_y65_sectors.step p389
      replace f_y65_pending := f_y65_pending.step p389
      replace f_y86 := f_y86.step p389
      replace f_y379_sectors := f_y379_sectors.step p389
      replace f_y379_pending := f_y379_pending.step p389
      clear p389 hs382
      obtain ⟨v390, v391, rfl, h392, h393⟩ := h387
      obtain ⟨a_y394, c_y394, rfl, f_y394⟩ := un_sl h392
      obtain ⟨rfl, r_y395⟩ := h393
      refine Rg_op rfl (op_move (v := (Value.tuple [(Value.slice a_y394 read_3.1.length c_y394), (Value.int .i64 read_3.2)].toArray)) rfl ?_)
      refine Rg_op rfl (op_extract (v := (Value.slice a_y394 read_3.1.length c_y394)) rfl rfl ?_)
      refine Rg_op rfl (op_extract (v := (Value.int .i64 read_3.2)) rfl rfl ?_)
      refine Rg_op rfl (op_assign (v := (Value.slice a_y394 read_3.1.length c_y394)) rfl ?_)
      refine Rg_op rfl (op_assign (v := (Value.int .i64 read_3.2)) rfl ?_)
      refine Rg_nil ?_
      refine Wp_seq ?_
      refine Wp_region ?_  -- 14 law.go:26
      refine Rg_op rfl (op_loadA (cs := [(Value.slice a_y379_sectors restart_1.sectors.length c_y379_sectors), (Value.slice a_y379_pending restart_1.pending.length c_y379_pending), (Value.int .i64 restart_1.left), (Value.bool restart_1.stopped)]) (vs := [(Value.slice a_y379_sectors restart_1.sectors.length c_y379_sectors), (Value.slice a_y379_pending restart_1.pending.length c_y379_pending), (Value.int .i64 restart_1.left), (Value.bool restart_1.stopped)]) (i := 0) ty25 hs388 rfl rfl rfl rfl ?_)
      replace hm := bd hm; obtain ⟨read_4, hv396, hm⟩ := hm
      refine Rg_op rfl (op_call Try.call27 (c27_disk_Read (d := restart_1) (at_ := 0) hs388.ltw f_y379_sectors f_y379_pending r_y379_left (show InK .i64 0 from by decide) hv396) rfl ?_)
      rintro v397 w398 ⟨hx399, h400⟩
      have hs401 := hs388.call hx399
      have p402 := Step.ext (O := ks [(some b349, Obj.cells [(Value.slice a_y379_sectors restart_1.sectors.length c_y379_sectors), (Value.slice a_y379_pending restart_1.pending.length c_y379_pending), (Value.int .i64 restart_1.left), (Value.bool restart_1.stopped)].toArray 25), (some b67, Obj.cells [(Value.slice a_y65_sectors write_1.1.sectors.length c_y65_sectors), (Value.slice a_y65_pending write_1.1.pending.length c_y65_pending), (Value.int .i64 write_1.1.left), (Value.bool write_1.1.stopped)].toArray 25)] O) hx399
      clear hx399
      replace f_y65_sectors := f_y65_sectors.step p402
      replace f_y65_pending := f_y65_pending.step p402
      replace f_y86 := f_y86.step p402
      replace f_y379_sectors := f_y379_sectors.step p402
      replace f_y379_pending := f_y379_pending.step p402
      replace f_y394 := f_y394.step p402
      clear p402 hs388
      obtain ⟨v403, v404, rfl, h405, h406⟩ := h400
      obtain ⟨a_y407, c_y407, rfl, f_y407⟩ := un_sl h405
      obtain ⟨rfl, r_y408⟩ := h406
      refine Rg_op rfl (op_move (v := (Value.tuple [(Value.slice a_y407 read_4.1.length c_y407), (Value.int .i64 read_4.2)].toArray)) rfl ?_)
      refine Rg_op rfl (op_extract (v := (Value.slice a_y407 read_4.1.length c_y407)) rfl rfl ?_)
      refine Rg_op rfl (op_extract (v := (Value.int .i64 read_4.2)) rfl rfl ?_)
      refine Rg_op rfl (op_assign (v := (Value.slice a_y407 read_4.1.length c_y407)) rfl ?_)
      refine Rg_op rfl (op_assign (v := (Value.int .i64 read_4.2)) rfl ?_)
      refine Rg_nil ?_
      refine Wp_seq ?_
      obtain ⟨hs409, p410⟩ := hs401.sub (bs' := [(some b67, Obj.cells [(Value.slice a_y65_sectors write_1.1.sectors.length c_y65_sectors), (Value.slice a_y65_pending write_1.1.pending.length c_y65_pending), (Value.int .i64 write_1.1.left), (Value.bool write_1.1.stopped)].toArray 25)]) (.cons _ (.cons_cons _ List.Sublist.slnil))
      clear f_y379_sectors f_y379_pending
      replace f_y65_sectors := f_y65_sectors.step p410
      replace f_y65_pending := f_y65_pending.step p410
      replace f_y86 := f_y86.step p410
      replace f_y394 := f_y394.step p410
      replace f_y407 := f_y407.step p410
      clear p410 hs401
      refine Wp_reset [] [(5, (Value.pointer (some ⟨b67, 0, none⟩))), (7, (Value.slice a_y86 read_1.1.length c_y86)), (18, (Value.slice a_y394 read_3.1.length c_y394)), (19, (Value.int .i64 read_3.2)), (20, (Value.slice a_y407 read_4.1.length c_y407)), (21, (Value.int .i64 read_4.2))] rfl ⟨rfl, rfl, rfl, rfl, rfl, rfl, trivial⟩ fun ξ411 => ?_
      refine Wp_region ?_  -- 15 law.go:27
      refine Rg_op rfl (op_loadA (cs := [(Value.slice a_y65_sectors write_1.1.sectors.length c_y65_sectors), (Value.slice a_y65_pending write_1.1.pending.length c_y65_pending), (Value.int .i64 write_1.1.left), (Value.bool write_1.1.stopped)]) (vs := [(Value.slice a_y65_sectors write_1.1.sectors.length c_y65_sectors), (Value.slice a_y65_pending write_1.1.pending.length c_y65_pending), (Value.int .i64 write_1.1.left), (Value.bool write_1.1.stopped)]) (i := 0) ty25 hs409 rfl rfl rfl rfl ?_)
      replace hm := bd hm; obtain ⟨restart_2, hv412, hm⟩ := hm
      refine Rg_op rfl (op_call Try.call20 (c20_disk_Restart (d := write_1.1) hs409.ltw f_y65_sectors f_y65_pending r_y65_left hv412) rfl ?_)
      rintro v413 w414 ⟨hx415, h416⟩
      have hs417 := hs409.call hx415
      have p418 := Step.ext (O := ks [(some b67, Obj.cells [(Value.slice a_y65_sectors write_1.1.sectors.length c_y65_sectors), (Value.slice a_y65_pending write_1.1.pending.length c_y65_pending), (Value.int .i64 write_1.1.left), (Value.bool write_1.1.stopped)].toArray 25)] O) hx415
      clear hx415
      replace f_y65_sectors := f_y65_sectors.step p418
      replace f_y65_pending := f_y65_pending.step p418
      replace f_y86 := f_y86.step p418
      replace f_y394 := f_y394.step p418
      replace f_y407 := f_y407.step p418
      clear p418 hs409
      obtain ⟨_, rfl, ⟨_, _, rfl, ⟨a_y419_sectors, c_y419_sectors, rfl, f_y419_sectors⟩, ⟨_, _, rfl, ⟨a_y419_pending, c_y419_pending, rfl, f_y419_pending⟩, ⟨_, _, rfl, ⟨rfl, r_y419_left⟩, rfl⟩⟩⟩⟩ := h416
      replace hm := bd hm; obtain ⟨read_5, hv420, hm⟩ := hm
      refine Rg_op rfl (op_call Try.call27 (c27_disk_Read (d := restart_2) (at_ := 1) hs417.ltw f_y419_sectors f_y419_pending r_y419_left (show InK .i64 1 from by decide) hv420) rfl ?_)
      rintro v421 w422 ⟨hx423, h424⟩
      have hs425 := hs417.call hx423
      have p426 := Step.ext (O := ks [(some b67, Obj.cells [(Value.slice a_y65_sectors write_1.1.sectors.length c_y65_sectors), (Value.slice a_y65_pending write_1.1.pending.length c_y65_pending), (Value.int .i64 write_1.1.left), (Value.bool write_1.1.stopped)].toArray 25)] O) hx423
      clear hx423
      replace f_y65_sectors := f_y65_sectors.step p426
      replace f_y65_pending := f_y65_pending.step p426
      replace f_y86 := f_y86.step p426
      replace f_y394 := f_y394.step p426
      replace f_y407 := f_y407.step p426
      replace f_y419_sectors := f_y419_sectors.step p426
      replace f_y419_pending := f_y419_pending.step p426
      clear p426 hs417
      obtain ⟨v427, v428, rfl, h429, h430⟩ := h424
      obtain ⟨a_y431, c_y431, rfl, f_y431⟩ := un_sl h429
      obtain ⟨rfl, r_y432⟩ := h430
      refine Rg_op rfl (op_move (v := (Value.tuple [(Value.slice a_y431 read_5.1.length c_y431), (Value.int .i64 read_5.2)].toArray)) rfl ?_)
      refine Rg_op rfl (op_extract (v := (Value.slice a_y431 read_5.1.length c_y431)) rfl rfl ?_)
      refine Rg_op rfl (op_extract (v := (Value.int .i64 read_5.2)) rfl rfl ?_)
      refine Rg_op rfl (op_assign (v := (Value.slice a_y431 read_5.1.length c_y431)) rfl ?_)
      refine Rg_op rfl (op_assign (v := (Value.int .i64 read_5.2)) rfl ?_)
      refine Rg_nil ?_
      refine Wp_reset [] [(7, (Value.slice a_y86 read_1.1.length c_y86)), (18, (Value.slice a_y394 read_3.1.length c_y394)), (19, (Value.int .i64 read_3.2)), (20, (Value.slice a_y407 read_4.1.length c_y407)), (21, (Value.int .i64 read_4.2)), (22, (Value.slice a_y431 read_5.1.length c_y431)), (23, (Value.int .i64 read_5.2))] rfl ⟨rfl, rfl, rfl, rfl, rfl, rfl, rfl, trivial⟩ fun ξ433 => ?_
      replace hm := jn_elim hm; obtain ⟨k435, hk436, hm⟩ := hm
      refine Wp_seqJ [0, 127, 128, 129, 130, 131, 132, 133, 134, 135, 136, 137, 138, 139, 140, 141, 142, 143, 144, 145, 146, 147, 148, 149, 150, 151, 152, 153, 154, 155, 156, 157, 158, 159, 160, 161, 162, 163, 164, 165, 166, 167, 168, 169, 170, 171, 172, 173, 174, 175, 176, 177, 178, 179, 180, 181, 182, 183, 184, 185, 186, 187, 188, 189, 190, 191, 192, 193, 194, 195, 196, 197] (fun fr w' => ∃ (v_2 : Bool) (Ebs : Ents), Ebs = [(some b67, Obj.cells [(Value.slice a_y65_sectors write_1.1.sectors.length c_y65_sectors), (Value.slice a_y65_pending write_1.1.pending.length c_y65_pending), (Value.int .i64 write_1.1.left), (Value.bool write_1.1.stopped)].toArray 25)] ∧ fr [] [(0, (Value.bool v_2))] ∧ Step (ks [(some b67, Obj.cells [(Value.slice a_y65_sectors write_1.1.sectors.length c_y65_sectors), (Value.slice a_y65_pending write_1.1.pending.length c_y65_pending), (Value.int .i64 write_1.1.left), (Value.bool write_1.1.stopped)].toArray 25)] O) w422 (ks Ebs O) w' ∧ St ⟨w, [], []⟩ O w' Ebs ∧ k435 v_2 = some x) ?_ ?_
      ·
        rintro ρ442 w438 ⟨v_2, Ebs, hEbs, hfr441, hst440, hs439, hm⟩
        replace hm := jnE1 hk436 hm
        subst hEbs; rw [hfr441.eq]; clear hfr441
        replace f_y65_sectors := f_y65_sectors.step hst440
        replace f_y65_pending := f_y65_pending.step hst440
        replace f_y86 := f_y86.step hst440
        replace f_y394 := f_y394.step hst440
        replace f_y407 := f_y407.step hst440
        replace f_y419_sectors := f_y419_sectors.step hst440
        replace f_y419_pending := f_y419_pending.step hst440
        replace f_y431 := f_y431.step hst440
        clear hst440 hs425
        refine Wp_ret ?_
        have hz := step_all hs439
        replace f_y65_sectors := f_y65_sectors.step hz
        replace f_y65_pending := f_y65_pending.step hz
        replace f_y86 := f_y86.step hz
        replace f_y394 := f_y394.step hz
        replace f_y407 := f_y407.step hz
        replace f_y419_sectors := f_y419_sectors.step hz
        replace f_y419_pending := f_y419_pending.step hz
        replace f_y431 := f_y431.step hz
        refine ⟨_, (show Closes [] _ _ from rfl), [(Value.bool v_2)], ⟨rfl, trivial⟩, hs439.ext, ?_⟩
        exact Vr.eq (a := vB) (x := v_2) rfl (Option.some.inj hm)
      ·
        intro K437 hK437
        have ch443 := Step.refl (ks [(some b67, Obj.cells [(Value.slice a_y65_sectors write_1.1.sectors.length c_y65_sectors), (Value.slice a_y65_pending write_1.1.pending.length c_y65_pending), (Value.int .i64 write_1.1.left), (Value.bool write_1.1.stopped)].toArray 25)] O) w422
        clear f_y419_sectors f_y419_pending
        refine Wp_region ?_  -- 16 law.go:28
        refine Rg_op rfl (op_move (v := (Value.int .i64 read_3.2)) rfl ?_)
        refine Rg_op rfl (op_eql rfl rfl ?_)
        refine Rg_op rfl (op_move (v := (Value.bool (decide (read_3.2 = 0)))) rfl ?_)
        refine Rg_case (fun hg444 => ?_) (fun hg444 => ?_)
        ·
          replace hm := bif_t hm hg444
          refine Rg_opg rfl rfl rfl (op_move (v := (Value.int .i64 read_4.2)) rfl ?_)
          refine Rg_opg rfl rfl rfl (op_eql rfl rfl ?_)
          refine Rg_op rfl (op_pick_t (v := (Value.bool (decide (read_4.2 = 0)))) rfl rfl ?_)
          refine Rg_op rfl (op_move (v := (Value.bool (decide (read_4.2 = 0)))) rfl ?_)
          refine Rg_case (fun hg445 => ?_) (fun hg445 => ?_)
          ·
            replace hm := bif_t hm hg445
            refine Rg_opg rfl rfl rfl (op_move (v := (Value.int .i64 read_5.2)) rfl ?_)
            refine Rg_opg rfl rfl rfl (op_eql rfl rfl ?_)
            refine Rg_op rfl (op_pick_t (v := (Value.bool (decide (read_5.2 = 0)))) rfl rfl ?_)
            refine Rg_op rfl (op_move (v := (Value.bool (decide (read_5.2 = 0)))) rfl ?_)
            refine Rg_case (fun hg446 => ?_) (fun hg446 => ?_)
            ·
              replace hm := bif_t hm hg446
              refine Rg_opg rfl rfl rfl (op_move (v := (Value.slice a_y86 read_1.1.length c_y86)) rfl ?_)
              refine Rg_opg rfl rfl rfl (op_len Try.underlying41 rfl ?_)
              refine Rg_opg rfl rfl rfl (op_eql rfl rfl ?_)
              refine Rg_op rfl (op_pick_t (v := (Value.bool (decide ((read_1.1.length : Int) = 128)))) rfl rfl ?_)
              refine Rg_op rfl (op_move (v := (Value.bool (decide ((read_1.1.length : Int) = 128)))) rfl ?_)
              refine Rg_case (fun hg447 => ?_) (fun hg447 => ?_)
              ·
                replace hm := bif_t hm hg447
                refine Rg_opg rfl rfl rfl (op_move (v := (Value.slice a_y86 read_1.1.length c_y86)) rfl ?_)
                replace hm := ck_some hm; obtain ⟨hc448, hm⟩ := hm
                refine Rg_opg rfl rfl rfl (op_indexAddr (q := rU8) ty41 ty5 rfl rfl f_y86 rfl hc448.1 hc448.2 ?_)
                intro p449 f450
                refine Rg_opg rfl rfl rfl (op_loadP ty5 rfl f450 rfl ?_)
                intro v451 h452
                obtain rfl := un_u8 h452
                refine Rg_opg rfl rfl rfl (op_eql rfl rfl ?_)
                refine Rg_op rfl (op_pick_t (v := (Value.bool (decide (((read_1.1.getD 0 default).toNat : Int) = 7)))) rfl rfl ?_)
                refine Rg_op rfl (op_move (v := (Value.bool (decide (((read_1.1.getD 0 default).toNat : Int) = 7)))) rfl ?_)
                refine Rg_case (fun hg454 => ?_) (fun hg454 => ?_)
                ·
                  replace hm := bif_t hm hg454
                  refine Rg_opg rfl rfl rfl (op_move (v := (Value.slice a_y394 read_3.1.length c_y394)) rfl ?_)
                  refine Rg_opg rfl rfl rfl (op_len Try.underlying41 rfl ?_)
                  refine Rg_opg rfl rfl rfl (op_eql rfl rfl ?_)
                  refine Rg_op rfl (op_pick_t (v := (Value.bool (decide ((read_3.1.length : Int) = 128)))) rfl rfl ?_)
                  refine Rg_op rfl (op_move (v := (Value.bool (decide ((read_3.1.length : Int) = 128)))) rfl ?_)
                  refine Rg_case (fun hg455 => ?_) (fun hg455 => ?_)
                  ·
                    replace hm := bif_t hm hg455
                    refine Rg_opg rfl rfl rfl (op_move (v := (Value.slice a_y394 read_3.1.length c_y394)) rfl ?_)
                    replace hm := ck_some hm; obtain ⟨hc456, hm⟩ := hm
                    refine Rg_opg rfl rfl rfl (op_indexAddr (q := rU8) ty41 ty5 rfl rfl f_y394 rfl hc456.1 hc456.2 ?_)
                    intro p457 f458
                    refine Rg_opg rfl rfl rfl (op_loadP ty5 rfl f458 rfl ?_)
                    intro v459 h460
                    obtain rfl := un_u8 h460
                    refine Rg_opg rfl rfl rfl (op_eql rfl rfl ?_)
                    refine Rg_op rfl (op_pick_t (v := (Value.bool (decide (((read_3.1.getD 0 default).toNat : Int) = 7)))) rfl rfl ?_)
                    refine Rg_op rfl (op_move (v := (Value.bool (decide (((read_3.1.getD 0 default).toNat : Int) = 7)))) rfl ?_)
                    refine Rg_case (fun hg462 => ?_) (fun hg462 => ?_)
                    ·
                      replace hm := bif_t hm hg462
                      refine Rg_opg rfl rfl rfl (op_move (v := (Value.slice a_y407 read_4.1.length c_y407)) rfl ?_)
                      refine Rg_opg rfl rfl rfl (op_len Try.underlying41 rfl ?_)
                      refine Rg_opg rfl rfl rfl (op_eql rfl rfl ?_)
                      refine Rg_op rfl (op_pick_t (v := (Value.bool (decide ((read_4.1.length : Int) = 128)))) rfl rfl ?_)
                      refine Rg_op rfl (op_move (v := (Value.bool (decide ((read_4.1.length : Int) = 128)))) rfl ?_)
                      refine Rg_case (fun hg463 => ?_) (fun hg463 => ?_)
                      ·
                        replace hm := bif_t hm hg463
                        refine Rg_opg rfl rfl rfl (op_move (v := (Value.slice a_y407 read_4.1.length c_y407)) rfl ?_)
                        replace hm := ck_some hm; obtain ⟨hc464, hm⟩ := hm
                        refine Rg_opg rfl rfl rfl (op_indexAddr (q := rU8) ty41 ty5 rfl rfl f_y407 rfl hc464.1 hc464.2 ?_)
                        intro p465 f466
                        refine Rg_opg rfl rfl rfl (op_loadP ty5 rfl f466 rfl ?_)
                        intro v467 h468
                        obtain rfl := un_u8 h468
                        refine Rg_opg rfl rfl rfl (op_eql rfl rfl ?_)
                        refine Rg_op rfl (op_pick_t (v := (Value.bool (decide (((read_4.1.getD 0 default).toNat : Int) = 8)))) rfl rfl ?_)
                        refine Rg_op rfl (op_move (v := (Value.bool (decide (((read_4.1.getD 0 default).toNat : Int) = 8)))) rfl ?_)
                        refine Rg_case (fun hg470 => ?_) (fun hg470 => ?_)
                        ·
                          replace hm := bif_t hm hg470
                          refine Rg_opg rfl rfl rfl (op_move (v := (Value.slice a_y407 read_4.1.length c_y407)) rfl ?_)
                          replace hm := ck_some hm; obtain ⟨hc471, hm⟩ := hm
                          refine Rg_opg rfl rfl rfl (op_indexAddr (q := rU8) ty41 ty5 rfl rfl f_y407 rfl hc471.1 hc471.2 ?_)
                          intro p472 f473
                          refine Rg_opg rfl rfl rfl (op_loadP ty5 rfl f473 rfl ?_)
                          intro v474 h475
                          obtain rfl := un_u8 h475
                          refine Rg_opg rfl rfl rfl (op_eql rfl rfl ?_)
                          refine Rg_op rfl (op_pick_t (v := (Value.bool (decide (((read_4.1.getD 64 default).toNat : Int) = 0)))) rfl rfl ?_)
                          refine Rg_op rfl (op_move (v := (Value.bool (decide (((read_4.1.getD 64 default).toNat : Int) = 0)))) rfl ?_)
                          refine Rg_case (fun hg477 => ?_) (fun hg477 => ?_)
                          ·
                            replace hm := bif_t hm hg477
                            refine Rg_opg rfl rfl rfl (op_move (v := (Value.slice a_y431 read_5.1.length c_y431)) rfl ?_)
                            refine Rg_opg rfl rfl rfl (op_len Try.underlying41 rfl ?_)
                            refine Rg_opg rfl rfl rfl (op_eql rfl rfl ?_)
                            refine Rg_op rfl (op_pick_t (v := (Value.bool (decide ((read_5.1.length : Int) = 128)))) rfl rfl ?_)
                            refine Rg_op rfl (op_move (v := (Value.bool (decide ((read_5.1.length : Int) = 128)))) rfl ?_)
                            refine Rg_case (fun hg478 => ?_) (fun hg478 => ?_)
                            ·
                              replace hm := bif_t hm hg478
                              refine Rg_opg rfl rfl rfl (op_move (v := (Value.slice a_y431 read_5.1.length c_y431)) rfl ?_)
                              replace hm := ck_some hm; obtain ⟨hc479, hm⟩ := hm
                              refine Rg_opg rfl rfl rfl (op_indexAddr (q := rU8) ty41 ty5 rfl rfl f_y431 rfl hc479.1 hc479.2 ?_)
                              intro p480 f481
                              refine Rg_opg rfl rfl rfl (op_loadP ty5 rfl f481 rfl ?_)
                              intro v482 h483
                              obtain rfl := un_u8 h483
                              refine Rg_opg rfl rfl rfl (op_eql rfl rfl ?_)
                              refine Rg_op rfl (op_pick_t (v := (Value.bool (decide (((read_5.1.getD 0 default).toNat : Int) = 0)))) rfl rfl ?_)
                              refine Rg_op rfl (op_move (v := (Value.bool (decide (((read_5.1.getD 0 default).toNat : Int) = 0)))) rfl ?_)
                              refine Rg_case (fun hg485 => ?_) (fun hg485 => ?_)
                              ·
                                replace hm := bif_t hm hg485
                                refine Rg_opg rfl rfl rfl (op_build (vs := [(Value.slice none 0 0), (Value.slice none 0 0), (Value.int .i64 0), (Value.bool false)]) (parts := []) ty25 pl25 rfl ?_)
                                replace hm := bd hm; obtain ⟨check_1, hv486, hm⟩ := hm
                                refine Rg_opg rfl rfl rfl (op_call Try.call18 (c18_disk_Check (d := (⟨([] : List (List UInt8)), ([] : List XWrite), 0, false⟩ : XDisk)) hs425.ltw SlR.nil_ SlR.nil_ (show InK .i64 0 from by decide) hv486) rfl ?_)
                                rintro v487 w488 ⟨hx489, h490⟩
                                have hs491 := hs425.call hx489
                                have p492 := Step.ext (O := ks [(some b67, Obj.cells [(Value.slice a_y65_sectors write_1.1.sectors.length c_y65_sectors), (Value.slice a_y65_pending write_1.1.pending.length c_y65_pending), (Value.int .i64 write_1.1.left), (Value.bool write_1.1.stopped)].toArray 25)] O) hx489
                                clear hx489
                                replace f_y65_sectors := f_y65_sectors.step p492
                                replace f_y65_pending := f_y65_pending.step p492
                                replace f_y86 := f_y86.step p492
                                replace f_y394 := f_y394.step p492
                                replace f_y407 := f_y407.step p492
                                replace f_y431 := f_y431.step p492
                                replace f450 := f450.step p492
                                replace f458 := f458.step p492
                                replace f466 := f466.step p492
                                replace f473 := f473.step p492
                                replace f481 := f481.step p492
                                replace ch443 := ch443.trans p492
                                clear p492 hs425
                                obtain ⟨rfl, r_y493⟩ := h490
                                refine Rg_opg rfl rfl rfl (op_eql rfl rfl ?_)
                                refine Rg_op rfl (op_pick_t (v := (Value.bool (decide (check_1 = 440)))) rfl rfl ?_)
                                refine Rg_op rfl (op_move (v := (Value.bool (decide (check_1 = 440)))) rfl ?_)
                                refine Rg_case (fun hg494 => ?_) (fun hg494 => ?_)
                                ·
                                  replace hm := bif_t hm hg494
                                  refine Rg_opg rfl rfl rfl (op_build (vs := [(Value.slice none 0 0), (Value.slice none 0 0), (Value.int .i64 0), (Value.bool false)]) (parts := []) ty25 pl25 rfl ?_)
                                  replace hm := bd hm; obtain ⟨restart_3, hv495, hm⟩ := hm
                                  refine Rg_opg rfl rfl rfl (op_call Try.call20 (c20_disk_Restart (d := (⟨([] : List (List UInt8)), ([] : List XWrite), 0, false⟩ : XDisk)) hs491.ltw SlR.nil_ SlR.nil_ (show InK .i64 0 from by decide) hv495) rfl ?_)
                                  rintro v496 w497 ⟨hx498, h499⟩
                                  have hs500 := hs491.call hx498
                                  have p501 := Step.ext (O := ks [(some b67, Obj.cells [(Value.slice a_y65_sectors write_1.1.sectors.length c_y65_sectors), (Value.slice a_y65_pending write_1.1.pending.length c_y65_pending), (Value.int .i64 write_1.1.left), (Value.bool write_1.1.stopped)].toArray 25)] O) hx498
                                  clear hx498
                                  replace f_y65_sectors := f_y65_sectors.step p501
                                  replace f_y65_pending := f_y65_pending.step p501
                                  replace f_y86 := f_y86.step p501
                                  replace f_y394 := f_y394.step p501
                                  replace f_y407 := f_y407.step p501
                                  replace f_y431 := f_y431.step p501
                                  replace f450 := f450.step p501
                                  replace f458 := f458.step p501
                                  replace f466 := f466.step p501
                                  replace f473 := f473.step p501
                                  replace f481 := f481.step p501
                                  replace ch443 := ch443.trans p501
                                  clear p501 hs491
                                  obtain ⟨_, rfl, ⟨_, _, rfl, ⟨a_y502_sectors, c_y502_sectors, rfl, f_y502_sectors⟩, ⟨_, _, rfl, ⟨a_y502_pending, c_y502_pending, rfl, f_y502_pending⟩, ⟨_, _, rfl, ⟨rfl, r_y502_left⟩, rfl⟩⟩⟩⟩ := h499
                                  refine Rg_opg rfl rfl rfl (op_field1 (cs := [(Value.slice a_y502_sectors restart_3.sectors.length c_y502_sectors), (Value.slice a_y502_pending restart_3.pending.length c_y502_pending), (Value.int .i64 restart_3.left), (Value.bool restart_3.stopped)]) ty25 rfl ty3 rfl rfl ?_)
                                  refine Rg_opg rfl rfl rfl (op_eql rfl rfl ?_)
                                  refine Rg_op rfl (op_pick_t (v := (Value.bool (decide (restart_3.left = (-1))))) rfl rfl ?_)
                                  refine Rg_op rfl (op_assign (v := (Value.bool (decide (restart_3.left = (-1))))) rfl ?_)
                                  refine Rg_nil ?_
                                  exact hK437 _ _ ⟨(decide (restart_3.left = (-1))), _, rfl, ⟨(by repeat (first | with_reducible exact Out.refl _ _ | refine Out.upd ?_ rfl | refine Out.updL ?_ rfl | refine Out.mix' ?_ rfl | exact Out.refl _ _)), rfl, rfl, trivial⟩, ch443, hs500, hm⟩
                                ·
                                  replace hm := bif_f hm hg494
                                  refine Rg_opx rfl (asB_ne rfl rfl) rfl ?_
                                  refine Rg_opx rfl (asB_ne rfl rfl) rfl ?_
                                  refine Rg_opx rfl (asB_ne rfl rfl) rfl ?_
                                  refine Rg_opx rfl (asB_ne rfl rfl) rfl ?_
                                  refine Rg_op rfl (op_pick_f (v := (Value.bool false)) rfl rfl ?_)
                                  refine Rg_op rfl (op_assign (v := (Value.bool false)) rfl ?_)
                                  refine Rg_nil ?_
                                  exact hK437 _ _ ⟨false, _, rfl, ⟨(by repeat (first | with_reducible exact Out.refl _ _ | refine Out.upd ?_ rfl | refine Out.updL ?_ rfl | refine Out.mix' ?_ rfl | exact Out.refl _ _)), rfl, rfl, trivial⟩, ch443, hs491, hm⟩
                              ·
                                replace hm := bif_f hm hg485
                                refine Rg_opx rfl (asB_ne rfl rfl) rfl ?_
                                refine Rg_opx rfl (asB_ne rfl rfl) rfl ?_
                                refine Rg_opx rfl (asB_ne rfl rfl) rfl ?_
                                refine Rg_op rfl (op_pick_f (v := (Value.bool false)) rfl rfl ?_)
                                refine Rg_op rfl (op_move (v := (Value.bool false)) rfl ?_)
                                refine Rg_opx rfl (asB_ne rfl rfl) rfl ?_
                                refine Rg_opx rfl (asB_ne rfl rfl) rfl ?_
                                refine Rg_opx rfl (asB_ne rfl rfl) rfl ?_
                                refine Rg_opx rfl (asB_ne rfl rfl) rfl ?_
                                refine Rg_op rfl (op_pick_f (v := (Value.bool false)) rfl rfl ?_)
                                refine Rg_op rfl (op_assign (v := (Value.bool false)) rfl ?_)
                                refine Rg_nil ?_
                                exact hK437 _ _ ⟨false, _, rfl, ⟨(by repeat (first | with_reducible exact Out.refl _ _ | refine Out.upd ?_ rfl | refine Out.updL ?_ rfl | refine Out.mix' ?_ rfl | exact Out.refl _ _)), rfl, rfl, trivial⟩, ch443, hs425, hm⟩
                            ·
                              replace hm := bif_f hm hg478
                              refine Rg_opx rfl (asB_ne rfl rfl) rfl ?_
                              refine Rg_opx rfl (asB_ne rfl rfl) rfl ?_
                              refine Rg_opx rfl (asB_ne rfl rfl) rfl ?_
                              refine Rg_opx rfl (asB_ne rfl rfl) rfl ?_
                              refine Rg_op rfl (op_pick_f (v := (Value.bool false)) rfl rfl ?_)
                              refine Rg_op rfl (op_move (v := (Value.bool false)) rfl ?_)
                              refine Rg_opx rfl (asB_ne rfl rfl) rfl ?_
                              refine Rg_opx rfl (asB_ne rfl rfl) rfl ?_
                              refine Rg_opx rfl (asB_ne rfl rfl) rfl ?_
                              refine Rg_op rfl (op_pick_f (v := (Value.bool false)) rfl rfl ?_)
                              refine Rg_op rfl (op_move (v := (Value.bool false)) rfl ?_)
                              refine Rg_opx rfl (asB_ne rfl rfl) rfl ?_
                              refine Rg_opx rfl (asB_ne rfl rfl) rfl ?_
                              refine Rg_opx rfl (asB_ne rfl rfl) rfl ?_
                              refine Rg_opx rfl (asB_ne rfl rfl) rfl ?_
                              refine Rg_op rfl (op_pick_f (v := (Value.bool false)) rfl rfl ?_)
                              refine Rg_op rfl (op_assign (v := (Value.bool false)) rfl ?_)
                              refine Rg_nil ?_
                              exact hK437 _ _ ⟨false, _, rfl, ⟨(by repeat (first | with_reducible exact Out.refl _ _ | refine Out.upd ?_ rfl | refine Out.updL ?_ rfl | refine Out.mix' ?_ rfl | exact Out.refl _ _)), rfl, rfl, trivial⟩, ch443, hs425, hm⟩
                          ·
                            replace hm := bif_f hm hg477
                            refine Rg_opx rfl (asB_ne rfl rfl) rfl ?_
                            refine Rg_opx rfl (asB_ne rfl rfl) rfl ?_
                            refine Rg_opx rfl (asB_ne rfl rfl) rfl ?_
                            refine Rg_op rfl (op_pick_f (v := (Value.bool false)) rfl rfl ?_)
                            refine Rg_op rfl (op_move (v := (Value.bool false)) rfl ?_)
                            refine Rg_opx rfl (asB_ne rfl rfl) rfl ?_
                            refine Rg_opx rfl (asB_ne rfl rfl) rfl ?_
                            refine Rg_opx rfl (asB_ne rfl rfl) rfl ?_
                            refine Rg_opx rfl (asB_ne rfl rfl) rfl ?_
                            refine Rg_op rfl (op_pick_f (v := (Value.bool false)) rfl rfl ?_)
                            refine Rg_op rfl (op_move (v := (Value.bool false)) rfl ?_)
                            refine Rg_opx rfl (asB_ne rfl rfl) rfl ?_
                            refine Rg_opx rfl (asB_ne rfl rfl) rfl ?_
                            refine Rg_opx rfl (asB_ne rfl rfl) rfl ?_
                            refine Rg_op rfl (op_pick_f (v := (Value.bool false)) rfl rfl ?_)
                            refine Rg_op rfl (op_move (v := (Value.bool false)) rfl ?_)
                            refine Rg_opx rfl (asB_ne rfl rfl) rfl ?_
                            refine Rg_opx rfl (asB_ne rfl rfl) rfl ?_
                            refine Rg_opx rfl (asB_ne rfl rfl) rfl ?_
                            refine Rg_opx rfl (asB_ne rfl rfl) rfl ?_
                            refine Rg_op rfl (op_pick_f (v := (Value.bool false)) rfl rfl ?_)
                            refine Rg_op rfl (op_assign (v := (Value.bool false)) rfl ?_)
                            refine Rg_nil ?_
                            exact hK437 _ _ ⟨false, _, rfl, ⟨(by repeat (first | with_reducible exact Out.refl _ _ | refine Out.upd ?_ rfl | refine Out.updL ?_ rfl | refine Out.mix' ?_ rfl | exact Out.refl _ _)), rfl, rfl, trivial⟩, ch443, hs425, hm⟩
                        ·
                          replace hm := bif_f hm hg470
                          refine Rg_opx rfl (asB_ne rfl rfl) rfl ?_
                          refine Rg_opx rfl (asB_ne rfl rfl) rfl ?_
                          refine Rg_opx rfl (asB_ne rfl rfl) rfl ?_
                          refine Rg_opx rfl (asB_ne rfl rfl) rfl ?_
                          refine Rg_op rfl (op_pick_f (v := (Value.bool false)) rfl rfl ?_)
                          refine Rg_op rfl (op_move (v := (Value.bool false)) rfl ?_)
                          refine Rg_opx rfl (asB_ne rfl rfl) rfl ?_
                          refine Rg_opx rfl (asB_ne rfl rfl) rfl ?_
                          refine Rg_opx rfl (asB_ne rfl rfl) rfl ?_
                          refine Rg_op rfl (op_pick_f (v := (Value.bool false)) rfl rfl ?_)
                          refine Rg_op rfl (op_move (v := (Value.bool false)) rfl ?_)
                          refine Rg_opx rfl (asB_ne rfl rfl) rfl ?_
                          refine Rg_opx rfl (asB_ne rfl rfl) rfl ?_
                          refine Rg_opx rfl (asB_ne rfl rfl) rfl ?_
                          refine Rg_opx rfl (asB_ne rfl rfl) rfl ?_
                          refine Rg_op rfl (op_pick_f (v := (Value.bool false)) rfl rfl ?_)
                          refine Rg_op rfl (op_move (v := (Value.bool false)) rfl ?_)
                          refine Rg_opx rfl (asB_ne rfl rfl) rfl ?_
                          refine Rg_opx rfl (asB_ne rfl rfl) rfl ?_
                          refine Rg_opx rfl (asB_ne rfl rfl) rfl ?_
                          refine Rg_op rfl (op_pick_f (v := (Value.bool false)) rfl rfl ?_)
                          refine Rg_op rfl (op_move (v := (Value.bool false)) rfl ?_)
                          refine Rg_opx rfl (asB_ne rfl rfl) rfl ?_
                          refine Rg_opx rfl (asB_ne rfl rfl) rfl ?_
                          refine Rg_opx rfl (asB_ne rfl rfl) rfl ?_
                          refine Rg_opx rfl (asB_ne rfl rfl) rfl ?_
                          refine Rg_op rfl (op_pick_f (v := (Value.bool false)) rfl rfl ?_)
                          refine Rg_op rfl (op_assign (v := (Value.bool false)) rfl ?_)
                          refine Rg_nil ?_
                          exact hK437 _ _ ⟨false, _, rfl, ⟨(by repeat (first | with_reducible exact Out.refl _ _ | refine Out.upd ?_ rfl | refine Out.updL ?_ rfl | refine Out.mix' ?_ rfl | exact Out.refl _ _)), rfl, rfl, trivial⟩, ch443, hs425, hm⟩
                      ·
                        replace hm := bif_f hm hg463
                        refine Rg_opx rfl (asB_ne rfl rfl) rfl ?_
                        refine Rg_opx rfl (asB_ne rfl rfl) rfl ?_
                        refine Rg_opx rfl (asB_ne rfl rfl) rfl ?_
                        refine Rg_opx rfl (asB_ne rfl rfl) rfl ?_
                        refine Rg_op rfl (op_pick_f (v := (Value.bool false)) rfl rfl ?_)
                        refine Rg_op rfl (op_move (v := (Value.bool false)) rfl ?_)
                        refine Rg_opx rfl (asB_ne rfl rfl) rfl ?_
                        refine Rg_opx rfl (asB_ne rfl rfl) rfl ?_
                        refine Rg_opx rfl (asB_ne rfl rfl) rfl ?_
                        refine Rg_opx rfl (asB_ne rfl rfl) rfl ?_
                        refine Rg_op rfl (op_pick_f (v := (Value.bool false)) rfl rfl ?_)
                        refine Rg_op rfl (op_move (v := (Value.bool false)) rfl ?_)
                        refine Rg_opx rfl (asB_ne rfl rfl) rfl ?_
                        refine Rg_opx rfl (asB_ne rfl rfl) rfl ?_
                        refine Rg_opx rfl (asB_ne rfl rfl) rfl ?_
                        refine Rg_op rfl (op_pick_f (v := (Value.bool false)) rfl rfl ?_)
                        refine Rg_op rfl (op_move (v := (Value.bool false)) rfl ?_)
                        refine Rg_opx rfl (asB_ne rfl rfl) rfl ?_
                        refine Rg_opx rfl (asB_ne rfl rfl) rfl ?_
                        refine Rg_opx rfl (asB_ne rfl rfl) rfl ?_
                        refine Rg_opx rfl (asB_ne rfl rfl) rfl ?_
                        refine Rg_op rfl (op_pick_f (v := (Value.bool false)) rfl rfl ?_)
                        refine Rg_op rfl (op_move (v := (Value.bool false)) rfl ?_)
                        refine Rg_opx rfl (asB_ne rfl rfl) rfl ?_
                        refine Rg_opx rfl (asB_ne rfl rfl) rfl ?_
                        refine Rg_opx rfl (asB_ne rfl rfl) rfl ?_
                        refine Rg_op rfl (op_pick_f (v := (Value.bool false)) rfl rfl ?_)
                        refine Rg_op rfl (op_move (v := (Value.bool false)) rfl ?_)
                        refine Rg_opx rfl (asB_ne rfl rfl) rfl ?_
                        refine Rg_opx rfl (asB_ne rfl rfl) rfl ?_
                        refine Rg_opx rfl (asB_ne rfl rfl) rfl ?_
                        refine Rg_opx rfl (asB_ne rfl rfl) rfl ?_
                        refine Rg_op rfl (op_pick_f (v := (Value.bool false)) rfl rfl ?_)
                        refine Rg_op rfl (op_assign (v := (Value.bool false)) rfl ?_)
                        refine Rg_nil ?_
                        exact hK437 _ _ ⟨false, _, rfl, ⟨(by repeat (first | with_reducible exact Out.refl _ _ | refine Out.upd ?_ rfl | refine Out.updL ?_ rfl | refine Out.mix' ?_ rfl | exact Out.refl _ _)), rfl, rfl, trivial⟩, ch443, hs425, hm⟩
                    ·
                      replace hm := bif_f hm hg462
                      refine Rg_opx rfl (asB_ne rfl rfl) rfl ?_
                      refine Rg_opx rfl (asB_ne rfl rfl) rfl ?_
                      refine Rg_opx rfl (asB_ne rfl rfl) rfl ?_
                      refine Rg_op rfl (op_pick_f (v := (Value.bool false)) rfl rfl ?_)
                      refine Rg_op rfl (op_move (v := (Value.bool false)) rfl ?_)
                      refine Rg_opx rfl (asB_ne rfl rfl) rfl ?_
                      refine Rg_opx rfl (asB_ne rfl rfl) rfl ?_
                      refine Rg_opx rfl (asB_ne rfl rfl) rfl ?_
                      refine Rg_opx rfl (asB_ne rfl rfl) rfl ?_
                      refine Rg_op rfl (op_pick_f (v := (Value.bool false)) rfl rfl ?_)
                      refine Rg_op rfl (op_move (v := (Value.bool false)) rfl ?_)
                      refine Rg_opx rfl (asB_ne rfl rfl) rfl ?_
                      refine Rg_opx rfl (asB_ne rfl rfl) rfl ?_
                      refine Rg_opx rfl (asB_ne rfl rfl) rfl ?_
                      refine Rg_opx rfl (asB_ne rfl rfl) rfl ?_
                      refine Rg_op rfl (op_pick_f (v := (Value.bool false)) rfl rfl ?_)
                      refine Rg_op rfl (op_move (v := (Value.bool false)) rfl ?_)
                      refine Rg_opx rfl (asB_ne rfl rfl) rfl ?_
                      refine Rg_opx rfl (asB_ne rfl rfl) rfl ?_
                      refine Rg_opx rfl (asB_ne rfl rfl) rfl ?_
                      refine Rg_op rfl (op_pick_f (v := (Value.bool false)) rfl rfl ?_)
                      refine Rg_op rfl (op_move (v := (Value.bool false)) rfl ?_)
                      refine Rg_opx rfl (asB_ne rfl rfl) rfl ?_
                      refine Rg_opx rfl (asB_ne rfl rfl) rfl ?_
                      refine Rg_opx rfl (asB_ne rfl rfl) rfl ?_
                      refine Rg_opx rfl (asB_ne rfl rfl) rfl ?_
                      refine Rg_op rfl (op_pick_f (v := (Value.bool false)) rfl rfl ?_)
                      refine Rg_op rfl (op_move (v := (Value.bool false)) rfl ?_)
                      refine Rg_opx rfl (asB_ne rfl rfl) rfl ?_
                      refine Rg_opx rfl (asB_ne rfl rfl) rfl ?_
                      refine Rg_opx rfl (asB_ne rfl rfl) rfl ?_
                      refine Rg_op rfl (op_pick_f (v := (Value.bool false)) rfl rfl ?_)
                      refine Rg_op rfl (op_move (v := (Value.bool false)) rfl ?_)
                      refine Rg_opx rfl (asB_ne rfl rfl) rfl ?_
                      refine Rg_opx rfl (asB_ne rfl rfl) rfl ?_
                      refine Rg_opx rfl (asB_ne rfl rfl) rfl ?_
                      refine Rg_opx rfl (asB_ne rfl rfl) rfl ?_
                      refine Rg_op rfl (op_pick_f (v := (Value.bool false)) rfl rfl ?_)
                      refine Rg_op rfl (op_assign (v := (Value.bool false)) rfl ?_)
                      refine Rg_nil ?_
                      exact hK437 _ _ ⟨false, _, rfl, ⟨(by repeat (first | with_reducible exact Out.refl _ _ | refine Out.upd ?_ rfl | refine Out.updL ?_ rfl | refine Out.mix' ?_ rfl | exact Out.refl _ _)), rfl, rfl, trivial⟩, ch443, hs425, hm⟩
                  ·
                    replace hm := bif_f hm hg455
                    refine Rg_opx rfl (asB_ne rfl rfl) rfl ?_
                    refine Rg_opx rfl (asB_ne rfl rfl) rfl ?_
                    refine Rg_opx rfl (asB_ne rfl rfl) rfl ?_
                    refine Rg_opx rfl (asB_ne rfl rfl) rfl ?_
                    refine Rg_op rfl (op_pick_f (v := (Value.bool false)) rfl rfl ?_)
                    refine Rg_op rfl (op_move (v := (Value.bool false)) rfl ?_)
                    refine Rg_opx rfl (asB_ne rfl rfl) rfl ?_
                    refine Rg_opx rfl (asB_ne rfl rfl) rfl ?_
                    refine Rg_opx rfl (asB_ne rfl rfl) rfl ?_
                    refine Rg_op rfl (op_pick_f (v := (Value.bool false)) rfl rfl ?_)
                    refine Rg_op rfl (op_move (v := (Value.bool false)) rfl ?_)
                    refine Rg_opx rfl (asB_ne rfl rfl) rfl ?_
                    refine Rg_opx rfl (asB_ne rfl rfl) rfl ?_
                    refine Rg_opx rfl (asB_ne rfl rfl) rfl ?_
                    refine Rg_opx rfl (asB_ne rfl rfl) rfl ?_
                    refine Rg_op rfl (op_pick_f (v := (Value.bool false)) rfl rfl ?_)
                    refine Rg_op rfl (op_move (v := (Value.bool false)) rfl ?_)
                    refine Rg_opx rfl (asB_ne rfl rfl) rfl ?_
                    refine Rg_opx rfl (asB_ne rfl rfl) rfl ?_
                    refine Rg_opx rfl (asB_ne rfl rfl) rfl ?_
                    refine Rg_opx rfl (asB_ne rfl rfl) rfl ?_
                    refine Rg_op rfl (op_pick_f (v := (Value.bool false)) rfl rfl ?_)
                    refine Rg_op rfl (op_move (v := (Value.bool false)) rfl ?_)
                    refine Rg_opx rfl (asB_ne rfl rfl) rfl ?_
                    refine Rg_opx rfl (asB_ne rfl rfl) rfl ?_
                    refine Rg_opx rfl (asB_ne rfl rfl) rfl ?_
                    refine Rg_op rfl (op_pick_f (v := (Value.bool false)) rfl rfl ?_)
                    refine Rg_op rfl (op_move (v := (Value.bool false)) rfl ?_)
                    refine Rg_opx rfl (asB_ne rfl rfl) rfl ?_
                    refine Rg_opx rfl (asB_ne rfl rfl) rfl ?_
                    refine Rg_opx rfl (asB_ne rfl rfl) rfl ?_
                    refine Rg_opx rfl (asB_ne rfl rfl) rfl ?_
                    refine Rg_op rfl (op_pick_f (v := (Value.bool false)) rfl rfl ?_)
                    refine Rg_op rfl (op_move (v := (Value.bool false)) rfl ?_)
                    refine Rg_opx rfl (asB_ne rfl rfl) rfl ?_
                    refine Rg_opx rfl (asB_ne rfl rfl) rfl ?_
                    refine Rg_opx rfl (asB_ne rfl rfl) rfl ?_
                    refine Rg_op rfl (op_pick_f (v := (Value.bool false)) rfl rfl ?_)
                    refine Rg_op rfl (op_move (v := (Value.bool false)) rfl ?_)
                    refine Rg_opx rfl (asB_ne rfl rfl) rfl ?_
                    refine Rg_opx rfl (asB_ne rfl rfl) rfl ?_
                    refine Rg_opx rfl (asB_ne rfl rfl) rfl ?_
                    refine Rg_opx rfl (asB_ne rfl rfl) rfl ?_
                    refine Rg_op rfl (op_pick_f (v := (Value.bool false)) rfl rfl ?_)
                    refine Rg_op rfl (op_assign (v := (Value.bool false)) rfl ?_)
                    refine Rg_nil ?_
                    exact hK437 _ _ ⟨false, _, rfl, ⟨(by repeat (first | with_reducible exact Out.refl _ _ | refine Out.upd ?_ rfl | refine Out.updL ?_ rfl | refine Out.mix' ?_ rfl | exact Out.refl _ _)), rfl, rfl, trivial⟩, ch443, hs425, hm⟩
                ·
                  replace hm := bif_f hm hg454
                  refine Rg_opx rfl (asB_ne rfl rfl) rfl ?_
                  refine Rg_opx rfl (asB_ne rfl rfl) rfl ?_
                  refine Rg_opx rfl (asB_ne rfl rfl) rfl ?_
                  refine Rg_op rfl (op_pick_f (v := (Value.bool false)) rfl rfl ?_)
                  refine Rg_op rfl (op_move (v := (Value.bool false)) rfl ?_)
                  refine Rg_opx rfl (asB_ne rfl rfl) rfl ?_
                  refine Rg_opx rfl (asB_ne rfl rfl) rfl ?_
                  refine Rg_opx rfl (asB_ne rfl rfl) rfl ?_
                  refine Rg_opx rfl (asB_ne rfl rfl) rfl ?_
                  refine Rg_op rfl (op_pick_f (v := (Value.bool false)) rfl rfl ?_)
                  refine Rg_op rfl (op_move (v := (Value.bool false)) rfl ?_)
                  refine Rg_opx rfl (asB_ne rfl rfl) rfl ?_
                  refine Rg_opx rfl (asB_ne rfl rfl) rfl ?_
                  refine Rg_opx rfl (asB_ne rfl rfl) rfl ?_
                  refine Rg_op rfl (op_pick_f (v := (Value.bool false)) rfl rfl ?_)
                  refine Rg_op rfl (op_move (v := (Value.bool false)) rfl ?_)
                  refine Rg_opx rfl (asB_ne rfl rfl) rfl ?_
                  refine Rg_opx rfl (asB_ne rfl rfl) rfl ?_
                  refine Rg_opx rfl (asB_ne rfl rfl) rfl ?_
                  refine Rg_opx rfl (asB_ne rfl rfl) rfl ?_
                  refine Rg_op rfl (op_pick_f (v := (Value.bool false)) rfl rfl ?_)
                  refine Rg_op rfl (op_move (v := (Value.bool false)) rfl ?_)
                  refine Rg_opx rfl (asB_ne rfl rfl) rfl ?_
                  refine Rg_opx rfl (asB_ne rfl rfl) rfl ?_
                  refine Rg_opx rfl (asB_ne rfl rfl) rfl ?_
                  refine Rg_opx rfl (asB_ne rfl rfl) rfl ?_
                  refine Rg_op rfl (op_pick_f (v := (Value.bool false)) rfl rfl ?_)
                  refine Rg_op rfl (op_move (v := (Value.bool false)) rfl ?_)
                  refine Rg_opx rfl (asB_ne rfl rfl) rfl ?_
                  refine Rg_opx rfl (asB_ne rfl rfl) rfl ?_
                  refine Rg_opx rfl (asB_ne rfl rfl) rfl ?_
                  refine Rg_op rfl (op_pick_f (v := (Value.bool false)) rfl rfl ?_)
                  refine Rg_op rfl (op_move (v := (Value.bool false)) rfl ?_)
                  refine Rg_opx rfl (asB_ne rfl rfl) rfl ?_
                  refine Rg_opx rfl (asB_ne rfl rfl) rfl ?_
                  refine Rg_opx rfl (asB_ne rfl rfl) rfl ?_
                  refine Rg_opx rfl (asB_ne rfl rfl) rfl ?_
                  refine Rg_op rfl (op_pick_f (v := (Value.bool false)) rfl rfl ?_)
                  refine Rg_op rfl (op_move (v := (Value.bool false)) rfl ?_)
                  refine Rg_opx rfl (asB_ne rfl rfl) rfl ?_
                  refine Rg_opx rfl (asB_ne rfl rfl) rfl ?_
                  refine Rg_opx rfl (asB_ne rfl rfl) rfl ?_
                  refine Rg_op rfl (op_pick_f (v := (Value.bool false)) rfl rfl ?_)
                  refine Rg_op rfl (op_move (v := (Value.bool false)) rfl ?_)
                  refine Rg_opx rfl (asB_ne rfl rfl) rfl ?_
                  refine Rg_opx rfl (asB_ne rfl rfl) rfl ?_
                  refine Rg_opx rfl (asB_ne rfl rfl) rfl ?_
                  refine Rg_opx rfl (asB_ne rfl rfl) rfl ?_
                  refine Rg_op rfl (op_pick_f (v := (Value.bool false)) rfl rfl ?_)
                  refine Rg_op rfl (op_assign (v := (Value.bool false)) rfl ?_)
                  refine Rg_nil ?_
                  exact hK437 _ _ ⟨false, _, rfl, ⟨(by repeat (first | with_reducible exact Out.refl _ _ | refine Out.upd ?_ rfl | refine Out.updL ?_ rfl | refine Out.mix' ?_ rfl | exact Out.refl _ _)), rfl, rfl, trivial⟩, ch443, hs425, hm⟩
              ·
                replace hm := bif_f hm hg447
                refine Rg_opx rfl (asB_ne rfl rfl) rfl ?_
                refine Rg_opx rfl (asB_ne rfl rfl) rfl ?_
                refine Rg_opx rfl (asB_ne rfl rfl) rfl ?_
                refine Rg_opx rfl (asB_ne rfl rfl) rfl ?_
                refine Rg_op rfl (op_pick_f (v := (Value.bool false)) rfl rfl ?_)
                refine Rg_op rfl (op_move (v := (Value.bool false)) rfl ?_)
                refine Rg_opx rfl (asB_ne rfl rfl) rfl ?_
                refine Rg_opx rfl (asB_ne rfl rfl) rfl ?_
                refine Rg_opx rfl (asB_ne rfl rfl) rfl ?_
                refine Rg_op rfl (op_pick_f (v := (Value.bool false)) rfl rfl ?_)
                refine Rg_op rfl (op_move (v := (Value.bool false)) rfl ?_)
                refine Rg_opx rfl (asB_ne rfl rfl) rfl ?_
                refine Rg_opx rfl (asB_ne rfl rfl) rfl ?_
                refine Rg_opx rfl (asB_ne rfl rfl) rfl ?_
                refine Rg_opx rfl (asB_ne rfl rfl) rfl ?_
                refine Rg_op rfl (op_pick_f (v := (Value.bool false)) rfl rfl ?_)
                refine Rg_op rfl (op_move (v := (Value.bool false)) rfl ?_)
                refine Rg_opx rfl (asB_ne rfl rfl) rfl ?_
                refine Rg_opx rfl (asB_ne rfl rfl) rfl ?_
                refine Rg_opx rfl (asB_ne rfl rfl) rfl ?_
                refine Rg_op rfl (op_pick_f (v := (Value.bool false)) rfl rfl ?_)
                refine Rg_op rfl (op_move (v := (Value.bool false)) rfl ?_)
                refine Rg_opx rfl (asB_ne rfl rfl) rfl ?_
                refine Rg_opx rfl (asB_ne rfl rfl) rfl ?_
                refine Rg_opx rfl (asB_ne rfl rfl) rfl ?_
                refine Rg_opx rfl (asB_ne rfl rfl) rfl ?_
                refine Rg_op rfl (op_pick_f (v := (Value.bool false)) rfl rfl ?_)
                refine Rg_op rfl (op_move (v := (Value.bool false)) rfl ?_)
                refine Rg_opx rfl (asB_ne rfl rfl) rfl ?_
                refine Rg_opx rfl (asB_ne rfl rfl) rfl ?_
                refine Rg_opx rfl (asB_ne rfl rfl) rfl ?_
                refine Rg_opx rfl (asB_ne rfl rfl) rfl ?_
                refine Rg_op rfl (op_pick_f (v := (Value.bool false)) rfl rfl ?_)
                refine Rg_op rfl (op_move (v := (Value.bool false)) rfl ?_)
                refine Rg_opx rfl (asB_ne rfl rfl) rfl ?_
                refine Rg_opx rfl (asB_ne rfl rfl) rfl ?_
                refine Rg_opx rfl (asB_ne rfl rfl) rfl ?_
                refine Rg_op rfl (op_pick_f (v := (Value.bool false)) rfl rfl ?_)
                refine Rg_op rfl (op_move (v := (Value.bool false)) rfl ?_)
                refine Rg_opx rfl (asB_ne rfl rfl) rfl ?_
                refine Rg_opx rfl (asB_ne rfl rfl) rfl ?_
                refine Rg_opx rfl (asB_ne rfl rfl) rfl ?_
                refine Rg_opx rfl (asB_ne rfl rfl) rfl ?_
                refine Rg_op rfl (op_pick_f (v := (Value.bool false)) rfl rfl ?_)
                refine Rg_op rfl (op_move (v := (Value.bool false)) rfl ?_)
                refine Rg_opx rfl (asB_ne rfl rfl) rfl ?_
                refine Rg_opx rfl (asB_ne rfl rfl) rfl ?_
                refine Rg_opx rfl (asB_ne rfl rfl) rfl ?_
                refine Rg_op rfl (op_pick_f (v := (Value.bool false)) rfl rfl ?_)
                refine Rg_op rfl (op_move (v := (Value.bool false)) rfl ?_)
                refine Rg_opx rfl (asB_ne rfl rfl) rfl ?_
                refine Rg_opx rfl (asB_ne rfl rfl) rfl ?_
                refine Rg_opx rfl (asB_ne rfl rfl) rfl ?_
                refine Rg_opx rfl (asB_ne rfl rfl) rfl ?_
                refine Rg_op rfl (op_pick_f (v := (Value.bool false)) rfl rfl ?_)
                refine Rg_op rfl (op_assign (v := (Value.bool false)) rfl ?_)
                refine Rg_nil ?_
                exact hK437 _ _ ⟨false, _, rfl, ⟨(by repeat (first | with_reducible exact Out.refl _ _ | refine Out.upd ?_ rfl | refine Out.updL ?_ rfl | refine Out.mix' ?_ rfl | exact Out.refl _ _)), rfl, rfl, trivial⟩, ch443, hs425, hm⟩
            ·
              replace hm := bif_f hm hg446
              refine Rg_opx rfl (asB_ne rfl rfl) rfl ?_
              refine Rg_opx rfl (asB_ne rfl rfl) rfl ?_
              refine Rg_opx rfl (asB_ne rfl rfl) rfl ?_
              refine Rg_op rfl (op_pick_f (v := (Value.bool false)) rfl rfl ?_)
              refine Rg_op rfl (op_move (v := (Value.bool false)) rfl ?_)
              refine Rg_opx rfl (asB_ne rfl rfl) rfl ?_
              refine Rg_opx rfl (asB_ne rfl rfl) rfl ?_
              refine Rg_opx rfl (asB_ne rfl rfl) rfl ?_
              refine Rg_opx rfl (asB_ne rfl rfl) rfl ?_
              refine Rg_op rfl (op_pick_f (v := (Value.bool false)) rfl rfl ?_)
              refine Rg_op rfl (op_move (v := (Value.bool false)) rfl ?_)
              refine Rg_opx rfl (asB_ne rfl rfl) rfl ?_
              refine Rg_opx rfl (asB_ne rfl rfl) rfl ?_
              refine Rg_opx rfl (asB_ne rfl rfl) rfl ?_
              refine Rg_op rfl (op_pick_f (v := (Value.bool false)) rfl rfl ?_)
              refine Rg_op rfl (op_move (v := (Value.bool false)) rfl ?_)
              refine Rg_opx rfl (asB_ne rfl rfl) rfl ?_
              refine Rg_opx rfl (asB_ne rfl rfl) rfl ?_
              refine Rg_opx rfl (asB_ne rfl rfl) rfl ?_
              refine Rg_opx rfl (asB_ne rfl rfl) rfl ?_
              refine Rg_op rfl (op_pick_f (v := (Value.bool false)) rfl rfl ?_)
              refine Rg_op rfl (op_move (v := (Value.bool false)) rfl ?_)
              refine Rg_opx rfl (asB_ne rfl rfl) rfl ?_
              refine Rg_opx rfl (asB_ne rfl rfl) rfl ?_
              refine Rg_opx rfl (asB_ne rfl rfl) rfl ?_
              refine Rg_op rfl (op_pick_f (v := (Value.bool false)) rfl rfl ?_)
              refine Rg_op rfl (op_move (v := (Value.bool false)) rfl ?_)
              refine Rg_opx rfl (asB_ne rfl rfl) rfl ?_
              refine Rg_opx rfl (asB_ne rfl rfl) rfl ?_
              refine Rg_opx rfl (asB_ne rfl rfl) rfl ?_
              refine Rg_opx rfl (asB_ne rfl rfl) rfl ?_
              refine Rg_op rfl (op_pick_f (v := (Value.bool false)) rfl rfl ?_)
              refine Rg_op rfl (op_move (v := (Value.bool false)) rfl ?_)
              refine Rg_opx rfl (asB_ne rfl rfl) rfl ?_
              refine Rg_opx rfl (asB_ne rfl rfl) rfl ?_
              refine Rg_opx rfl (asB_ne rfl rfl) rfl ?_
              refine Rg_opx rfl (asB_ne rfl rfl) rfl ?_
              refine Rg_op rfl (op_pick_f (v := (Value.bool false)) rfl rfl ?_)
              refine Rg_op rfl (op_move (v := (Value.bool false)) rfl ?_)
              refine Rg_opx rfl (asB_ne rfl rfl) rfl ?_
              refine Rg_opx rfl (asB_ne rfl rfl) rfl ?_
              refine Rg_opx rfl (asB_ne rfl rfl) rfl ?_
              refine Rg_op rfl (op_pick_f (v := (Value.bool false)) rfl rfl ?_)
              refine Rg_op rfl (op_move (v := (Value.bool false)) rfl ?_)
              refine Rg_opx rfl (asB_ne rfl rfl) rfl ?_
              refine Rg_opx rfl (asB_ne rfl rfl) rfl ?_
              refine Rg_opx rfl (asB_ne rfl rfl) rfl ?_
              refine Rg_opx rfl (asB_ne rfl rfl) rfl ?_
              refine Rg_op rfl (op_pick_f (v := (Value.bool false)) rfl rfl ?_)
              refine Rg_op rfl (op_move (v := (Value.bool false)) rfl ?_)
              refine Rg_opx rfl (asB_ne rfl rfl) rfl ?_
              refine Rg_opx rfl (asB_ne rfl rfl) rfl ?_
              refine Rg_opx rfl (asB_ne rfl rfl) rfl ?_
              refine Rg_op rfl (op_pick_f (v := (Value.bool false)) rfl rfl ?_)
              refine Rg_op rfl (op_move (v := (Value.bool false)) rfl ?_)
              refine Rg_opx rfl (asB_ne rfl rfl) rfl ?_
              refine Rg_opx rfl (asB_ne rfl rfl) rfl ?_
              refine Rg_opx rfl (asB_ne rfl rfl) rfl ?_
              refine Rg_opx rfl (asB_ne rfl rfl) rfl ?_
              refine Rg_op rfl (op_pick_f (v := (Value.bool false)) rfl rfl ?_)
              refine Rg_op rfl (op_assign (v := (Value.bool false)) rfl ?_)
              refine Rg_nil ?_
              exact hK437 _ _ ⟨false, _, rfl, ⟨(by repeat (first | with_reducible exact Out.refl _ _ | refine Out.upd ?_ rfl | refine Out.updL ?_ rfl | refine Out.mix' ?_ rfl | exact Out.refl _ _)), rfl, rfl, trivial⟩, ch443, hs425, hm⟩
          ·
            replace hm := bif_f hm hg445
            refine Rg_opx rfl (asB_ne rfl rfl) rfl ?_
            refine Rg_opx rfl (asB_ne rfl rfl) rfl ?_
            refine Rg_op rfl (op_pick_f (v := (Value.bool false)) rfl rfl ?_)
            refine Rg_op rfl (op_move (v := (Value.bool false)) rfl ?_)
            refine Rg_opx rfl (asB_ne rfl rfl) rfl ?_
            refine Rg_opx rfl (asB_ne rfl rfl) rfl ?_
            refine Rg_opx rfl (asB_ne rfl rfl) rfl ?_
            refine Rg_op rfl (op_pick_f (v := (Value.bool false)) rfl rfl ?_)
            refine Rg_op rfl (op_move (v := (Value.bool false)) rfl ?_)
            refine Rg_opx rfl (asB_ne rfl rfl) rfl ?_
            refine Rg_opx rfl (asB_ne rfl rfl) rfl ?_
            refine Rg_opx rfl (asB_ne rfl rfl) rfl ?_
            refine Rg_opx rfl (asB_ne rfl rfl) rfl ?_
            refine Rg_op rfl (op_pick_f (v := (Value.bool false)) rfl rfl ?_)
            refine Rg_op rfl (op_move (v := (Value.bool false)) rfl ?_)
            refine Rg_opx rfl (asB_ne rfl rfl) rfl ?_
            refine Rg_opx rfl (asB_ne rfl rfl) rfl ?_
            refine Rg_opx rfl (asB_ne rfl rfl) rfl ?_
            refine Rg_op rfl (op_pick_f (v := (Value.bool false)) rfl rfl ?_)
            refine Rg_op rfl (op_move (v := (Value.bool false)) rfl ?_)
            refine Rg_opx rfl (asB_ne rfl rfl) rfl ?_
            refine Rg_opx rfl (asB_ne rfl rfl) rfl ?_
            refine Rg_opx rfl (asB_ne rfl rfl) rfl ?_
            refine Rg_opx rfl (asB_ne rfl rfl) rfl ?_
            refine Rg_op rfl (op_pick_f (v := (Value.bool false)) rfl rfl ?_)
            refine Rg_op rfl (op_move (v := (Value.bool false)) rfl ?_)
            refine Rg_opx rfl (asB_ne rfl rfl) rfl ?_
            refine Rg_opx rfl (asB_ne rfl rfl) rfl ?_
            refine Rg_opx rfl (asB_ne rfl rfl) rfl ?_
            refine Rg_op rfl (op_pick_f (v := (Value.bool false)) rfl rfl ?_)
            refine Rg_op rfl (op_move (v := (Value.bool false)) rfl ?_)
            refine Rg_opx rfl (asB_ne rfl rfl) rfl ?_
            refine Rg_opx rfl (asB_ne rfl rfl) rfl ?_
            refine Rg_opx rfl (asB_ne rfl rfl) rfl ?_
            refine Rg_opx rfl (asB_ne rfl rfl) rfl ?_
            refine Rg_op rfl (op_pick_f (v := (Value.bool false)) rfl rfl ?_)
            refine Rg_op rfl (op_move (v := (Value.bool false)) rfl ?_)
            refine Rg_opx rfl (asB_ne rfl rfl) rfl ?_
            refine Rg_opx rfl (asB_ne rfl rfl) rfl ?_
            refine Rg_opx rfl (asB_ne rfl rfl) rfl ?_
            refine Rg_opx rfl (asB_ne rfl rfl) rfl ?_
            refine Rg_op rfl (op_pick_f (v := (Value.bool false)) rfl rfl ?_)
            refine Rg_op rfl (op_move (v := (Value.bool false)) rfl ?_)
            refine Rg_opx rfl (asB_ne rfl rfl) rfl ?_
            refine Rg_opx rfl (asB_ne rfl rfl) rfl ?_
            refine Rg_opx rfl (asB_ne rfl rfl) rfl ?_
            refine Rg_op rfl (op_pick_f (v := (Value.bool false)) rfl rfl ?_)
            refine Rg_op rfl (op_move (v := (Value.bool false)) rfl ?_)
            refine Rg_opx rfl (asB_ne rfl rfl) rfl ?_
            refine Rg_opx rfl (asB_ne rfl rfl) rfl ?_
            refine Rg_opx rfl (asB_ne rfl rfl) rfl ?_
            refine Rg_opx rfl (asB_ne rfl rfl) rfl ?_
            refine Rg_op rfl (op_pick_f (v := (Value.bool false)) rfl rfl ?_)
            refine Rg_op rfl (op_move (v := (Value.bool false)) rfl ?_)
            refine Rg_opx rfl (asB_ne rfl rfl) rfl ?_
            refine Rg_opx rfl (asB_ne rfl rfl) rfl ?_
            refine Rg_opx rfl (asB_ne rfl rfl) rfl ?_
            refine Rg_op rfl (op_pick_f (v := (Value.bool false)) rfl rfl ?_)
            refine Rg_op rfl (op_move (v := (Value.bool false)) rfl ?_)
            refine Rg_opx rfl (asB_ne rfl rfl) rfl ?_
            refine Rg_opx rfl (asB_ne rfl rfl) rfl ?_
            refine Rg_opx rfl (asB_ne rfl rfl) rfl ?_
            refine Rg_opx rfl (asB_ne rfl rfl) rfl ?_
            refine Rg_op rfl (op_pick_f (v := (Value.bool false)) rfl rfl ?_)
            refine Rg_op rfl (op_assign (v := (Value.bool false)) rfl ?_)
            refine Rg_nil ?_
            exact hK437 _ _ ⟨false, _, rfl, ⟨(by repeat (first | with_reducible exact Out.refl _ _ | refine Out.upd ?_ rfl | refine Out.updL ?_ rfl | refine Out.mix' ?_ rfl | exact Out.refl _ _)), rfl, rfl, trivial⟩, ch443, hs425, hm⟩
        ·
          replace hm := bif_f hm hg444
          refine Rg_opx rfl (asB_ne rfl rfl) rfl ?_
          refine Rg_opx rfl (asB_ne rfl rfl) rfl ?_
          refine Rg_op rfl (op_pick_f (v := (Value.bool false)) rfl rfl ?_)
          refine Rg_op rfl (op_move (v := (Value.bool false)) rfl ?_)
          refine Rg_opx rfl (asB_ne rfl rfl) rfl ?_
          refine Rg_opx rfl (asB_ne rfl rfl) rfl ?_
          refine Rg_op rfl (op_pick_f (v := (Value.bool false)) rfl rfl ?_)
          refine Rg_op rfl (op_move (v := (Value.bool false)) rfl ?_)
          refine Rg_opx rfl (asB_ne rfl rfl) rfl ?_
          refine Rg_opx rfl (asB_ne rfl rfl) rfl ?_
          refine Rg_opx rfl (asB_ne rfl rfl) rfl ?_
          refine Rg_op rfl (op_pick_f (v := (Value.bool false)) rfl rfl ?_)
          refine Rg_op rfl (op_move (v := (Value.bool false)) rfl ?_)
          refine Rg_opx rfl (asB_ne rfl rfl) rfl ?_
          refine Rg_opx rfl (asB_ne rfl rfl) rfl ?_
          refine Rg_opx rfl (asB_ne rfl rfl) rfl ?_
          refine Rg_opx rfl (asB_ne rfl rfl) rfl ?_
          refine Rg_op rfl (op_pick_f (v := (Value.bool false)) rfl rfl ?_)
          refine Rg_op rfl (op_move (v := (Value.bool false)) rfl ?_)
          refine Rg_opx rfl (asB_ne rfl rfl) rfl ?_
          refine Rg_opx rfl (asB_ne rfl rfl) rfl ?_
          refine Rg_opx rfl (asB_ne rfl rfl) rfl ?_
          refine Rg_op rfl (op_pick_f (v := (Value.bool false)) rfl rfl ?_)
          refine Rg_op rfl (op_move (v := (Value.bool false)) rfl ?_)
          refine Rg_opx rfl (asB_ne rfl rfl) rfl ?_
          refine Rg_opx rfl (asB_ne rfl rfl) rfl ?_
          refine Rg_opx rfl (asB_ne rfl rfl) rfl ?_
          refine Rg_opx rfl (asB_ne rfl rfl) rfl ?_
          refine Rg_op rfl (op_pick_f (v := (Value.bool false)) rfl rfl ?_)
          refine Rg_op rfl (op_move (v := (Value.bool false)) rfl ?_)
          refine Rg_opx rfl (asB_ne rfl rfl) rfl ?_
          refine Rg_opx rfl (asB_ne rfl rfl) rfl ?_
          refine Rg_opx rfl (asB_ne rfl rfl) rfl ?_
          refine Rg_op rfl (op_pick_f (v := (Value.bool false)) rfl rfl ?_)
          refine Rg_op rfl (op_move (v := (Value.bool false)) rfl ?_)
          refine Rg_opx rfl (asB_ne rfl rfl) rfl ?_
          refine Rg_opx rfl (asB_ne rfl rfl) rfl ?_
          refine Rg_opx rfl (asB_ne rfl rfl) rfl ?_
          refine Rg_opx rfl (asB_ne rfl rfl) rfl ?_
          refine Rg_op rfl (op_pick_f (v := (Value.bool false)) rfl rfl ?_)
          refine Rg_op rfl (op_move (v := (Value.bool false)) rfl ?_)
          refine Rg_opx rfl (asB_ne rfl rfl) rfl ?_
          refine Rg_opx rfl (asB_ne rfl rfl) rfl ?_
          refine Rg_opx rfl (asB_ne rfl rfl) rfl ?_
          refine Rg_opx rfl (asB_ne rfl rfl) rfl ?_
          refine Rg_op rfl (op_pick_f (v := (Value.bool false)) rfl rfl ?_)
          refine Rg_op rfl (op_move (v := (Value.bool false)) rfl ?_)
          refine Rg_opx rfl (asB_ne rfl rfl) rfl ?_
          refine Rg_opx rfl (asB_ne rfl rfl) rfl ?_
          refine Rg_opx rfl (asB_ne rfl rfl) rfl ?_
          refine Rg_op rfl (op_pick_f (v := (Value.bool false)) rfl rfl ?_)
          refine Rg_op rfl (op_move (v := (Value.bool false)) rfl ?_)
          refine Rg_opx rfl (asB_ne rfl rfl) rfl ?_
          refine Rg_opx rfl (asB_ne rfl rfl) rfl ?_
          refine Rg_opx rfl (asB_ne rfl rfl) rfl ?_
          refine Rg_opx rfl (asB_ne rfl rfl) rfl ?_
          refine Rg_op rfl (op_pick_f (v := (Value.bool false)) rfl rfl ?_)
          refine Rg_op rfl (op_move (v := (Value.bool false)) rfl ?_)
          refine Rg_opx rfl (asB_ne rfl rfl) rfl ?_
          refine Rg_opx rfl (asB_ne rfl rfl) rfl ?_
          refine Rg_opx rfl (asB_ne rfl rfl) rfl ?_
          refine Rg_op rfl (op_pick_f (v := (Value.bool false)) rfl rfl ?_)
          refine Rg_op rfl (op_move (v := (Value.bool false)) rfl ?_)
          refine Rg_opx rfl (asB_ne rfl rfl) rfl ?_
          refine Rg_opx rfl (asB_ne rfl rfl) rfl ?_
          refine Rg_opx rfl (asB_ne rfl rfl) rfl ?_
          refine Rg_opx rfl (asB_ne rfl rfl) rfl ?_
          refine Rg_op rfl (op_pick_f (v := (Value.bool false)) rfl rfl ?_)
          refine Rg_op rfl (op_assign (v := (Value.bool false)) rfl ?_)
          refine Rg_nil ?_
          exact hK437 _ _ ⟨false, _, rfl, ⟨(by repeat (first | with_reducible exact Out.refl _ _ | refine Out.upd ?_ rfl | refine Out.updL ?_ rfl | refine Out.mix' ?_ rfl | exact Out.refl _ _)), rfl, rfl, trivial⟩, ch443, hs425, hm⟩
  ·
    intro K361 hK361
    have ch503 := Step.refl (ks [(some b349, Obj.cells [(Value.slice a_y347_sectors sync_1.1.sectors.length c_y347_sectors), (Value.slice a_y347_pending sync_1.1.pending.length c_y347_pending), (Value.int .i64 sync_1.1.left), (Value.bool sync_1.1.stopped)].toArray 25), (some b230, Obj.cells [(Value.slice a_y311_sectors write_3.1.sectors.length c_y311_sectors), (Value.slice a_y311_pending write_3.1.pending.length c_y311_pending), (Value.int .i64 write_3.1.left), (Value.bool write_3.1.stopped)].toArray 25), (some b67, Obj.cells [(Value.slice a_y65_sectors write_1.1.sectors.length c_y65_sectors), (Value.slice a_y65_pending write_1.1.pending.length c_y65_pending), (Value.int .i64 write_1.1.left), (Value.bool write_1.1.stopped)].toArray 25)] O) w354
    refine Wp_region ?_  -- 10 law.go:21
    refine Rg_op rfl (op_move (v := (Value.int .i64 new_1.2)) rfl ?_)
    refine Rg_op rfl (op_neq rfl rfl ?_)
    refine Rg_op rfl (op_move (v := (Value.bool (decide (new_1.2 ≠ 1)))) rfl ?_)
    refine Rg_case (fun hg504 => ?_) (fun hg504 => ?_)
    ·
      replace hm := bif_t hm hg504
      refine Rg_opx rfl (asB_ne rfl rfl) rfl ?_
      refine Rg_opx rfl (asB_ne rfl rfl) rfl ?_
      refine Rg_op rfl (op_pick_t (v := (Value.bool true)) rfl rfl ?_)
      refine Rg_op rfl (op_move (v := (Value.bool true)) rfl ?_)
      refine Rg_opx rfl (asB_ne rfl rfl) rfl ?_
      refine Rg_opx rfl (asB_ne rfl rfl) rfl ?_
      refine Rg_op rfl (op_pick_t (v := (Value.bool true)) rfl rfl ?_)
      refine Rg_op rfl (op_move (v := (Value.bool true)) rfl ?_)
      refine Rg_opx rfl (asB_ne rfl rfl) rfl ?_
      refine Rg_opx rfl (asB_ne rfl rfl) rfl ?_
      refine Rg_op rfl (op_pick_t (v := (Value.bool true)) rfl rfl ?_)
      refine Rg_op rfl (op_move (v := (Value.bool true)) rfl ?_)
      refine Rg_opx rfl (asB_ne rfl rfl) rfl ?_
      refine Rg_opx rfl (asB_ne rfl rfl) rfl ?_
      refine Rg_op rfl (op_pick_t (v := (Value.bool true)) rfl rfl ?_)
      refine Rg_op rfl (op_move (v := (Value.bool true)) rfl ?_)
      refine Rg_opx rfl (asB_ne rfl rfl) rfl ?_
      refine Rg_opx rfl (asB_ne rfl rfl) rfl ?_
      refine Rg_op rfl (op_pick_t (v := (Value.bool true)) rfl rfl ?_)
      refine Rg_op rfl (op_move (v := (Value.bool true)) rfl ?_)
      refine Rg_opx rfl (asB_ne rfl rfl) rfl ?_
      refine Rg_opx rfl (asB_ne rfl rfl) rfl ?_
      refine Rg_op rfl (op_pick_t (v := (Value.bool true)) rfl rfl ?_)
      refine Rg_op rfl (op_move (v := (Value.bool true)) rfl ?_)
      refine Rg_opx rfl (asB_ne rfl rfl) rfl ?_
      refine Rg_opx rfl (asB_ne rfl rfl) rfl ?_
      refine Rg_op rfl (op_pick_t (v := (Value.bool true)) rfl rfl ?_)
      refine Rg_op rfl (op_move (v := (Value.bool true)) rfl ?_)
      refine Rg_opx rfl (asB_ne rfl rfl) rfl ?_
      refine Rg_opx rfl (asB_ne rfl rfl) rfl ?_
      refine Rg_op rfl (op_pick_t (v := (Value.bool true)) rfl rfl ?_)
      refine Rg_op rfl (op_move (v := (Value.bool true)) rfl ?_)
      refine Rg_opx rfl (asB_ne rfl rfl) rfl ?_
      refine Rg_opx rfl (asB_ne rfl rfl) rfl ?_
      refine Rg_opx rfl (asB_ne rfl rfl) rfl ?_
      refine Rg_op rfl (op_pick_t (v := (Value.bool true)) rfl rfl ?_)
      refine Rg_nil ?_
      exact hK361 _ _ ⟨true, _, rfl, ⟨(by repeat (first | with_reducible exact Out.refl _ _ | refine Out.upd ?_ rfl | refine Out.updL ?_ rfl | refine Out.mix' ?_ rfl | exact Out.refl _ _)), rfl, rfl, trivial⟩, ch503, hs356, hm⟩
    ·
      replace hm := bif_f hm hg504
      refine Rg_opg rfl rfl rfl (op_move (v := (Value.int .i64 new_2.2)) rfl ?_)
      refine Rg_opg rfl rfl rfl (op_neq rfl rfl ?_)
      refine Rg_op rfl (op_pick_f (v := (Value.bool (decide (new_2.2 ≠ 0)))) rfl rfl ?_)
      refine Rg_op rfl (op_move (v := (Value.bool (decide (new_2.2 ≠ 0)))) rfl ?_)
      refine Rg_case (fun hg505 => ?_) (fun hg505 => ?_)
      ·
        replace hm := bif_t hm hg505
        refine Rg_opx rfl (asB_ne rfl rfl) rfl ?_
        refine Rg_opx rfl (asB_ne rfl rfl) rfl ?_
        refine Rg_op rfl (op_pick_t (v := (Value.bool true)) rfl rfl ?_)
        refine Rg_op rfl (op_move (v := (Value.bool true)) rfl ?_)
        refine Rg_opx rfl (asB_ne rfl rfl) rfl ?_
        refine Rg_opx rfl (asB_ne rfl rfl) rfl ?_
        refine Rg_op rfl (op_pick_t (v := (Value.bool true)) rfl rfl ?_)
        refine Rg_op rfl (op_move (v := (Value.bool true)) rfl ?_)
        refine Rg_opx rfl (asB_ne rfl rfl) rfl ?_
        refine Rg_opx rfl (asB_ne rfl rfl) rfl ?_
        refine Rg_op rfl (op_pick_t (v := (Value.bool true)) rfl rfl ?_)
        refine Rg_op rfl (op_move (v := (Value.bool true)) rfl ?_)
        refine Rg_opx rfl (asB_ne rfl rfl) rfl ?_
        refine Rg_opx rfl (asB_ne rfl rfl) rfl ?_
        refine Rg_op rfl (op_pick_t (v := (Value.bool true)) rfl rfl ?_)
        refine Rg_op rfl (op_move (v := (Value.bool true)) rfl ?_)
        refine Rg_opx rfl (asB_ne rfl rfl) rfl ?_
        refine Rg_opx rfl (asB_ne rfl rfl) rfl ?_
        refine Rg_op rfl (op_pick_t (v := (Value.bool true)) rfl rfl ?_)
        refine Rg_op rfl (op_move (v := (Value.bool true)) rfl ?_)
        refine Rg_opx rfl (asB_ne rfl rfl) rfl ?_
        refine Rg_opx rfl (asB_ne rfl rfl) rfl ?_
        refine Rg_op rfl (op_pick_t (v := (Value.bool true)) rfl rfl ?_)
        refine Rg_op rfl (op_move (v := (Value.bool true)) rfl ?_)
        refine Rg_opx rfl (asB_ne rfl rfl) rfl ?_
        refine Rg_opx rfl (asB_ne rfl rfl) rfl ?_
        refine Rg_op rfl (op_pick_t (v := (Value.bool true)) rfl rfl ?_)
        refine Rg_op rfl (op_move (v := (Value.bool true)) rfl ?_)
        refine Rg_opx rfl (asB_ne rfl rfl) rfl ?_
        refine Rg_opx rfl (asB_ne rfl rfl) rfl ?_
        refine Rg_opx rfl (asB_ne rfl rfl) rfl ?_
        refine Rg_op rfl (op_pick_t (v := (Value.bool true)) rfl rfl ?_)
        refine Rg_nil ?_
        exact hK361 _ _ ⟨true, _, rfl, ⟨(by repeat (first | with_reducible exact Out.refl _ _ | refine Out.upd ?_ rfl | refine Out.updL ?_ rfl | refine Out.mix' ?_ rfl | exact Out.refl _ _)), rfl, rfl, trivial⟩, ch503, hs356, hm⟩
      ·
        replace hm := bif_f hm hg505
        refine Rg_opg rfl rfl rfl (op_move (v := (Value.int .i64 write_1.2)) rfl ?_)
        refine Rg_opg rfl rfl rfl (op_neq rfl rfl ?_)
        refine Rg_op rfl (op_pick_f (v := (Value.bool (decide (write_1.2 ≠ 0)))) rfl rfl ?_)
        refine Rg_op rfl (op_move (v := (Value.bool (decide (write_1.2 ≠ 0)))) rfl ?_)
        refine Rg_case (fun hg506 => ?_) (fun hg506 => ?_)
        ·
          replace hm := bif_t hm hg506
          refine Rg_opx rfl (asB_ne rfl rfl) rfl ?_
          refine Rg_opx rfl (asB_ne rfl rfl) rfl ?_
          refine Rg_op rfl (op_pick_t (v := (Value.bool true)) rfl rfl ?_)
          refine Rg_op rfl (op_move (v := (Value.bool true)) rfl ?_)
          refine Rg_opx rfl (asB_ne rfl rfl) rfl ?_
          refine Rg_opx rfl (asB_ne rfl rfl) rfl ?_
          refine Rg_op rfl (op_pick_t (v := (Value.bool true)) rfl rfl ?_)
          refine Rg_op rfl (op_move (v := (Value.bool true)) rfl ?_)
          refine Rg_opx rfl (asB_ne rfl rfl) rfl ?_
          refine Rg_opx rfl (asB_ne rfl rfl) rfl ?_
          refine Rg_op rfl (op_pick_t (v := (Value.bool true)) rfl rfl ?_)
          refine Rg_op rfl (op_move (v := (Value.bool true)) rfl ?_)
          refine Rg_opx rfl (asB_ne rfl rfl) rfl ?_
          refine Rg_opx rfl (asB_ne rfl rfl) rfl ?_
          refine Rg_op rfl (op_pick_t (v := (Value.bool true)) rfl rfl ?_)
          refine Rg_op rfl (op_move (v := (Value.bool true)) rfl ?_)
          refine Rg_opx rfl (asB_ne rfl rfl) rfl ?_
          refine Rg_opx rfl (asB_ne rfl rfl) rfl ?_
          refine Rg_op rfl (op_pick_t (v := (Value.bool true)) rfl rfl ?_)
          refine Rg_op rfl (op_move (v := (Value.bool true)) rfl ?_)
          refine Rg_opx rfl (asB_ne rfl rfl) rfl ?_
          refine Rg_opx rfl (asB_ne rfl rfl) rfl ?_
          refine Rg_op rfl (op_pick_t (v := (Value.bool true)) rfl rfl ?_)
          refine Rg_op rfl (op_move (v := (Value.bool true)) rfl ?_)
          refine Rg_opx rfl (asB_ne rfl rfl) rfl ?_
          refine Rg_opx rfl (asB_ne rfl rfl) rfl ?_
          refine Rg_opx rfl (asB_ne rfl rfl) rfl ?_
          refine Rg_op rfl (op_pick_t (v := (Value.bool true)) rfl rfl ?_)
          refine Rg_nil ?_
          exact hK361 _ _ ⟨true, _, rfl, ⟨(by repeat (first | with_reducible exact Out.refl _ _ | refine Out.upd ?_ rfl | refine Out.updL ?_ rfl | refine Out.mix' ?_ rfl | exact Out.refl _ _)), rfl, rfl, trivial⟩, ch503, hs356, hm⟩
        ·
          replace hm := bif_f hm hg506
          refine Rg_opg rfl rfl rfl (op_move (v := (Value.int .i64 read_1.2)) rfl ?_)
          refine Rg_opg rfl rfl rfl (op_neq rfl rfl ?_)
          refine Rg_op rfl (op_pick_f (v := (Value.bool (decide (read_1.2 ≠ 0)))) rfl rfl ?_)
          refine Rg_op rfl (op_move (v := (Value.bool (decide (read_1.2 ≠ 0)))) rfl ?_)
          refine Rg_case (fun hg507 => ?_) (fun hg507 => ?_)
          ·
            replace hm := bif_t hm hg507
            refine Rg_opx rfl (asB_ne rfl rfl) rfl ?_
            refine Rg_opx rfl (asB_ne rfl rfl) rfl ?_
            refine Rg_op rfl (op_pick_t (v := (Value.bool true)) rfl rfl ?_)
            refine Rg_op rfl (op_move (v := (Value.bool true)) rfl ?_)
            refine Rg_opx rfl (asB_ne rfl rfl) rfl ?_
            refine Rg_opx rfl (asB_ne rfl rfl) rfl ?_
            refine Rg_op rfl (op_pick_t (v := (Value.bool true)) rfl rfl ?_)
            refine Rg_op rfl (op_move (v := (Value.bool true)) rfl ?_)
            refine Rg_opx rfl (asB_ne rfl rfl) rfl ?_
            refine Rg_opx rfl (asB_ne rfl rfl) rfl ?_
            refine Rg_op rfl (op_pick_t (v := (Value.bool true)) rfl rfl ?_)
            refine Rg_op rfl (op_move (v := (Value.bool true)) rfl ?_)
            refine Rg_opx rfl (asB_ne rfl rfl) rfl ?_
            refine Rg_opx rfl (asB_ne rfl rfl) rfl ?_
            refine Rg_op rfl (op_pick_t (v := (Value.bool true)) rfl rfl ?_)
            refine Rg_op rfl (op_move (v := (Value.bool true)) rfl ?_)
            refine Rg_opx rfl (asB_ne rfl rfl) rfl ?_
            refine Rg_opx rfl (asB_ne rfl rfl) rfl ?_
            refine Rg_op rfl (op_pick_t (v := (Value.bool true)) rfl rfl ?_)
            refine Rg_op rfl (op_move (v := (Value.bool true)) rfl ?_)
            refine Rg_opx rfl (asB_ne rfl rfl) rfl ?_
            refine Rg_opx rfl (asB_ne rfl rfl) rfl ?_
            refine Rg_opx rfl (asB_ne rfl rfl) rfl ?_
            refine Rg_op rfl (op_pick_t (v := (Value.bool true)) rfl rfl ?_)
            refine Rg_nil ?_
            exact hK361 _ _ ⟨true, _, rfl, ⟨(by repeat (first | with_reducible exact Out.refl _ _ | refine Out.upd ?_ rfl | refine Out.updL ?_ rfl | refine Out.mix' ?_ rfl | exact Out.refl _ _)), rfl, rfl, trivial⟩, ch503, hs356, hm⟩
          ·
            replace hm := bif_f hm hg507
            refine Rg_opg rfl rfl rfl (op_move (v := (Value.int .i64 read_2.2)) rfl ?_)
            refine Rg_opg rfl rfl rfl (op_neq rfl rfl ?_)
            refine Rg_op rfl (op_pick_f (v := (Value.bool (decide (read_2.2 ≠ 440)))) rfl rfl ?_)
            refine Rg_op rfl (op_move (v := (Value.bool (decide (read_2.2 ≠ 440)))) rfl ?_)
            refine Rg_case (fun hg508 => ?_) (fun hg508 => ?_)
            ·
              replace hm := bif_t hm hg508
              refine Rg_opx rfl (asB_ne rfl rfl) rfl ?_
              refine Rg_opx rfl (asB_ne rfl rfl) rfl ?_
              refine Rg_op rfl (op_pick_t (v := (Value.bool true)) rfl rfl ?_)
              refine Rg_op rfl (op_move (v := (Value.bool true)) rfl ?_)
              refine Rg_opx rfl (asB_ne rfl rfl) rfl ?_
              refine Rg_opx rfl (asB_ne rfl rfl) rfl ?_
              refine Rg_op rfl (op_pick_t (v := (Value.bool true)) rfl rfl ?_)
              refine Rg_op rfl (op_move (v := (Value.bool true)) rfl ?_)
              refine Rg_opx rfl (asB_ne rfl rfl) rfl ?_
              refine Rg_opx rfl (asB_ne rfl rfl) rfl ?_
              refine Rg_op rfl (op_pick_t (v := (Value.bool true)) rfl rfl ?_)
              refine Rg_op rfl (op_move (v := (Value.bool true)) rfl ?_)
              refine Rg_opx rfl (asB_ne rfl rfl) rfl ?_
              refine Rg_opx rfl (asB_ne rfl rfl) rfl ?_
              refine Rg_op rfl (op_pick_t (v := (Value.bool true)) rfl rfl ?_)
              refine Rg_op rfl (op_move (v := (Value.bool true)) rfl ?_)
              refine Rg_opx rfl (asB_ne rfl rfl) rfl ?_
              refine Rg_opx rfl (asB_ne rfl rfl) rfl ?_
              refine Rg_opx rfl (asB_ne rfl rfl) rfl ?_
              refine Rg_op rfl (op_pick_t (v := (Value.bool true)) rfl rfl ?_)
              refine Rg_nil ?_
              exact hK361 _ _ ⟨true, _, rfl, ⟨(by repeat (first | with_reducible exact Out.refl _ _ | refine Out.upd ?_ rfl | refine Out.updL ?_ rfl | refine Out.mix' ?_ rfl | exact Out.refl _ _)), rfl, rfl, trivial⟩, ch503, hs356, hm⟩
            ·
              replace hm := bif_f hm hg508
              refine Rg_opg rfl rfl rfl (op_move (v := (Value.int .i64 write_2.2)) rfl ?_)
              refine Rg_opg rfl rfl rfl (op_neq rfl rfl ?_)
              refine Rg_op rfl (op_pick_f (v := (Value.bool (decide (write_2.2 ≠ 1)))) rfl rfl ?_)
              refine Rg_op rfl (op_move (v := (Value.bool (decide (write_2.2 ≠ 1)))) rfl ?_)
              refine Rg_case (fun hg509 => ?_) (fun hg509 => ?_)
              ·
                replace hm := bif_t hm hg509
                refine Rg_opx rfl (asB_ne rfl rfl) rfl ?_
                refine Rg_opx rfl (asB_ne rfl rfl) rfl ?_
                refine Rg_op rfl (op_pick_t (v := (Value.bool true)) rfl rfl ?_)
                refine Rg_op rfl (op_move (v := (Value.bool true)) rfl ?_)
                refine Rg_opx rfl (asB_ne rfl rfl) rfl ?_
                refine Rg_opx rfl (asB_ne rfl rfl) rfl ?_
                refine Rg_op rfl (op_pick_t (v := (Value.bool true)) rfl rfl ?_)
                refine Rg_op rfl (op_move (v := (Value.bool true)) rfl ?_)
                refine Rg_opx rfl (asB_ne rfl rfl) rfl ?_
                refine Rg_opx rfl (asB_ne rfl rfl) rfl ?_
                refine Rg_op rfl (op_pick_t (v := (Value.bool true)) rfl rfl ?_)
                refine Rg_op rfl (op_move (v := (Value.bool true)) rfl ?_)
                refine Rg_opx rfl (asB_ne rfl rfl) rfl ?_
                refine Rg_opx rfl (asB_ne rfl rfl) rfl ?_
                refine Rg_opx rfl (asB_ne rfl rfl) rfl ?_
                refine Rg_op rfl (op_pick_t (v := (Value.bool true)) rfl rfl ?_)
                refine Rg_nil ?_
                exact hK361 _ _ ⟨true, _, rfl, ⟨(by repeat (first | with_reducible exact Out.refl _ _ | refine Out.upd ?_ rfl | refine Out.updL ?_ rfl | refine Out.mix' ?_ rfl | exact Out.refl _ _)), rfl, rfl, trivial⟩, ch503, hs356, hm⟩
              ·
                replace hm := bif_f hm hg509
                refine Rg_opg rfl rfl rfl (op_move (v := (Value.int .i64 stop_1.2)) rfl ?_)
                refine Rg_opg rfl rfl rfl (op_neq rfl rfl ?_)
                refine Rg_op rfl (op_pick_f (v := (Value.bool (decide (stop_1.2 ≠ 0)))) rfl rfl ?_)
                refine Rg_op rfl (op_move (v := (Value.bool (decide (stop_1.2 ≠ 0)))) rfl ?_)
                refine Rg_case (fun hg510 => ?_) (fun hg510 => ?_)
                ·
                  replace hm := bif_t hm hg510
                  refine Rg_opx rfl (asB_ne rfl rfl) rfl ?_
                  refine Rg_opx rfl (asB_ne rfl rfl) rfl ?_
                  refine Rg_op rfl (op_pick_t (v := (Value.bool true)) rfl rfl ?_)
                  refine Rg_op rfl (op_move (v := (Value.bool true)) rfl ?_)
                  refine Rg_opx rfl (asB_ne rfl rfl) rfl ?_
                  refine Rg_opx rfl (asB_ne rfl rfl) rfl ?_
                  refine Rg_op rfl (op_pick_t (v := (Value.bool true)) rfl rfl ?_)
                  refine Rg_op rfl (op_move (v := (Value.bool true)) rfl ?_)
                  refine Rg_opx rfl (asB_ne rfl rfl) rfl ?_
                  refine Rg_opx rfl (asB_ne rfl rfl) rfl ?_
                  refine Rg_opx rfl (asB_ne rfl rfl) rfl ?_
                  refine Rg_op rfl (op_pick_t (v := (Value.bool true)) rfl rfl ?_)
                  refine Rg_nil ?_
                  exact hK361 _ _ ⟨true, _, rfl, ⟨(by repeat (first | with_reducible exact Out.refl _ _ | refine Out.upd ?_ rfl | refine Out.updL ?_ rfl | refine Out.mix' ?_ rfl | exact Out.refl _ _)), rfl, rfl, trivial⟩, ch503, hs356, hm⟩
                ·
                  replace hm := bif_f hm hg510
                  refine Rg_opg rfl rfl rfl (op_move (v := (Value.int .i64 write_3.2)) rfl ?_)
                  refine Rg_opg rfl rfl rfl (op_neq rfl rfl ?_)
                  refine Rg_op rfl (op_pick_f (v := (Value.bool (decide (write_3.2 ≠ 0)))) rfl rfl ?_)
                  refine Rg_op rfl (op_move (v := (Value.bool (decide (write_3.2 ≠ 0)))) rfl ?_)
                  refine Rg_case (fun hg511 => ?_) (fun hg511 => ?_)
                  ·
                    replace hm := bif_t hm hg511
                    refine Rg_opx rfl (asB_ne rfl rfl) rfl ?_
                    refine Rg_opx rfl (asB_ne rfl rfl) rfl ?_
                    refine Rg_op rfl (op_pick_t (v := (Value.bool true)) rfl rfl ?_)
                    refine Rg_op rfl (op_move (v := (Value.bool true)) rfl ?_)
                    refine Rg_opx rfl (asB_ne rfl rfl) rfl ?_
                    refine Rg_opx rfl (asB_ne rfl rfl) rfl ?_
                    refine Rg_opx rfl (asB_ne rfl rfl) rfl ?_
                    refine Rg_op rfl (op_pick_t (v := (Value.bool true)) rfl rfl ?_)
                    refine Rg_nil ?_
                    exact hK361 _ _ ⟨true, _, rfl, ⟨(by repeat (first | with_reducible exact Out.refl _ _ | refine Out.upd ?_ rfl | refine Out.updL ?_ rfl | refine Out.mix' ?_ rfl | exact Out.refl _ _)), rfl, rfl, trivial⟩, ch503, hs356, hm⟩
                  ·
                    replace hm := bif_f hm hg511
                    refine Rg_opg rfl rfl rfl (op_move (v := (Value.int .i64 sync_1.2)) rfl ?_)
                    refine Rg_opg rfl rfl rfl (op_neq rfl rfl ?_)
                    refine Rg_op rfl (op_pick_f (v := (Value.bool (decide (sync_1.2 ≠ 440)))) rfl rfl ?_)
                    refine Rg_op rfl (op_move (v := (Value.bool (decide (sync_1.2 ≠ 440)))) rfl ?_)
                    refine Rg_case (fun hg512 => ?_) (fun hg512 => ?_)
                    ·
                      replace hm := bif_t hm hg512
                      refine Rg_opx rfl (asB_ne rfl rfl) rfl ?_
                      refine Rg_opx rfl (asB_ne rfl rfl) rfl ?_
                      refine Rg_opx rfl (asB_ne rfl rfl) rfl ?_
                      refine Rg_op rfl (op_pick_t (v := (Value.bool true)) rfl rfl ?_)
                      refine Rg_nil ?_
                      exact hK361 _ _ ⟨true, _, rfl, ⟨(by repeat (first | with_reducible exact Out.refl _ _ | refine Out.upd ?_ rfl | refine Out.updL ?_ rfl | refine Out.mix' ?_ rfl | exact Out.refl _ _)), rfl, rfl, trivial⟩, ch503, hs356, hm⟩
                    ·
                      replace hm := bif_f hm hg512
                      refine Rg_opg rfl rfl rfl (op_fieldAddr ty25 rfl ty4 (by decide) rfl (rfl : _ = (⟨_, 3, none⟩ : Addr)) ?_)
                      refine Rg_opg rfl rfl rfl (op_load (cs := [(Value.slice a_y347_sectors sync_1.1.sectors.length c_y347_sectors), (Value.slice a_y347_pending sync_1.1.pending.length c_y347_pending), (Value.int .i64 sync_1.1.left), (Value.bool sync_1.1.stopped)]) (i := 0) ty4 hs356 rfl rfl rfl ?_)
                      refine Rg_opg rfl rfl rfl (op_not rfl ?_)
                      refine Rg_op rfl (op_pick_f (v := (Value.bool (!sync_1.1.stopped))) rfl rfl ?_)
                      refine Rg_nil ?_
                      exact hK361 _ _ ⟨(!sync_1.1.stopped), _, rfl, ⟨(by repeat (first | with_reducible exact Out.refl _ _ | refine Out.upd ?_ rfl | refine Out.updL ?_ rfl | refine Out.mix' ?_ rfl | exact Out.refl _ _)), rfl, rfl, trivial⟩, ch503, hs356, hm⟩

end Go.Fx


set_option linter.unusedVariables false
set_option linter.unusedSimpArgs false
set_option maxRecDepth 100000
set_option maxHeartbeats 0
namespace Go.Fx
open Go Go.RowKit Go.Proofs
def m14_overflightref44_Few_B1 (d : XDisk) (sf39 : Int → Int → Option Bool) (n_2 : Int) (i_2 : Int) : Option Bool :=
  jn (fun (v_2 : Bool) =>
    bif v_2 then
      ck ((0 : Int) ≤ i_2 ∧ i_2 < (d.pending.length : Int)) <|
      sf39 (IntKind.wrap .i64 ((IntKind.wrap .i64 (n_2 + 1)) + (((d.pending.getD i_2.toNat default).data).length : Int))) (IntKind.wrap .i64 (i_2 + 1))
    else
      some (decide (n_2 ≤ 9000)))
  (fun k51 =>
    bif (decide (i_2 < (d.pending.length : Int))) then
      k51 (decide (n_2 ≤ 9000))
    else
      k51 false)

def m14_overflightref44_Few_B0 (d : XDisk) (sf9 : Int → Int → Option Bool) (n_1 : Int) (i_1 : Int) : Option Bool :=
  jn (fun (v_1 : Bool) =>
    bif v_1 then
      ck ((0 : Int) ≤ i_1 ∧ i_1 < (d.sectors.length : Int)) <|
      sf9 (IntKind.wrap .i64 ((IntKind.wrap .i64 (n_1 + 1)) + ((d.sectors.getD i_1.toNat default).length : Int))) (IntKind.wrap .i64 (i_1 + 1))
    else
      loop2 (m14_overflightref44_Few_B1 d) (1000000) n_1 0)
  (fun k21 =>
    bif (decide (i_1 < (d.sectors.length : Int))) then
      k21 (decide (n_1 ≤ 9000))
    else
      k21 false)

def m14_overflightref44_Few (d : XDisk) : Option Bool :=
  loop2 (m14_overflightref44_Few_B0 d) (1000000) 0 0

theorem c14_overflightref44_Few {w : World} {O : List Nat} {d : XDisk} {a_d_sectors : Option Addr} {c_d_sectors : Nat} {a_d_pending : Option Addr} {c_d_pending : Nat} (hO : ∀ k ∈ O, k < w.heap.size) (f_d_sectors : SlR (rSl rU8) w O a_d_sectors c_d_sectors d.sectors) (f_d_pending : SlR rXWrite w O a_d_pending c_d_pending d.pending) (r_d_left : InK .i64 d.left) {x : Bool} (hm : m14_overflightref44_Few d = some x) :
    Ok Try.prog 14 [(Value.agg [(Value.slice a_d_sectors d.sectors.length c_d_sectors), (Value.slice a_d_pending d.pending.length c_d_pending), (Value.int .i64 d.left), (Value.bool d.stopped)].toArray)] w O vB x := by
  unfold m14_overflightref44_Few at hm
  refine Fn_of_Wp (n := 49) (xs := [.tmp 2]) Try.func14 rfl Try.ntmps14 Try.results14 rfl ?_
  have hs := St.start hO
  refine Wp_seq ?_
  refine Wp_region ?_  -- 0 ref.go:132
  refine Rg_op rfl (op_box (cs := [(Value.slice a_d_sectors d.sectors.length c_d_sectors), (Value.slice a_d_pending d.pending.length c_d_pending), (Value.int .i64 d.left), (Value.bool d.stopped)]) hs rfl rfl ?_)
  intro b1 w2 _ p3 hs4
  replace f_d_sectors := f_d_sectors.step p3
  replace f_d_pending := f_d_pending.step p3
  clear p3
  refine Rg_op rfl (op_assign (v := (Value.bool false)) rfl ?_)
  refine Rg_nil ?_
  refine Wp_seq ?_
  refine Wp_region ?_  -- 1 ref.go:133
  refine Rg_op rfl (op_assign (v := (Value.int .i64 0)) rfl ?_)
  refine Rg_nil ?_
  refine Wp_seq ?_
  refine Wp_seq ?_
  refine Wp_region ?_  -- 2 ref.go:134
  refine Rg_op rfl (op_assign (v := (Value.int .i64 0)) rfl ?_)
  refine Rg_nil ?_
  refine Wp_block ?_
  refine Wp_reset [] [(1, (Value.pointer (some ⟨b1, 0, none⟩))), (3, (Value.int .i64 0)), (4, (Value.int .i64 0))] rfl ⟨rfl, rfl, rfl, trivial⟩ fun ξ8 => ?_
  refine Wp_loopM [3, 4, 6, 7, 8, 9, 10, 11, 12, 13, 14, 15, 16, 17, 18, 19, 20, 21, 22, 23, 24, 25] (fun m fr w' => ∃ (n_1 : Int) (i_1 : Int) (Ebs : Ents), Ebs = [(some b1, Obj.cells [(Value.slice a_d_sectors d.sectors.length c_d_sectors), (Value.slice a_d_pending d.pending.length c_d_pending), (Value.int .i64 d.left), (Value.bool d.stopped)].toArray 25)] ∧ fr [] [(3, (Value.int .i64 n_1)), (4, (Value.int .i64 i_1))] ∧ Step (ks [(some b1, Obj.cells [(Value.slice a_d_sectors d.sectors.length c_d_sectors), (Value.slice a_d_pending d.pending.length c_d_pending), (Value.int .i64 d.left), (Value.bool d.stopped)].toArray 25)] O) w2 (ks Ebs O) w' ∧ St ⟨w, [], []⟩ O w' Ebs ∧ InK .i64 n_1 ∧ InK .i64 i_1 ∧ loop2 (m14_overflightref44_Few_B0 d) m n_1 i_1 = some x) (1000000) ⟨0, 0, _, rfl, ⟨Out.refl _ _, rfl, rfl, rfl, trivial⟩, Step.refl _ _, hs4, (show InK .i64 0 from by decide), (show InK .i64 0 from by decide), hm⟩ ?_ ?_
  · rintro _ _ ⟨_, _, _, _, _, _, _, _, _, hm⟩; exact loop2_z hm
  · rintro m12 K11 hK11 ρ17 w13 ⟨n_1, i_1, Ebs, hEbs, hfr16, hst15, hs14, r_y6, r_y7, hm⟩
    obtain ⟨sf9, hsf10, hm⟩ := loop2_s hm; unfold m14_overflightref44_Few_B0 at hm
    subst hEbs; rw [hfr16.eq]; clear hfr16
    replace f_d_sectors := f_d_sectors.step hst15
    replace f_d_pending := f_d_pending.step hst15
    have ch18 := hst15
    refine Wp_seq ?_
    refine Wp_reset2 [3, 4, 6, 7, 8, 9, 10, 11, 12, 13, 14, 15, 16, 17, 18, 19, 20, 21, 22, 23, 24, 25] [] (updL ⟨ξ8, []⟩ [(1, (Value.pointer (some ⟨b1, 0, none⟩))), (3, (Value.int .i64 0)), (4, (Value.int .i64 0))]) [(3, (Value.int .i64 n_1)), (4, (Value.int .i64 i_1))] (by repeat (first | with_reducible exact Out.refl _ _ | refine Out.upd ?_ rfl | refine Out.updL ?_ rfl | refine Out.mix' ?_ rfl | exact Out.refl _ _)) rfl ⟨rfl, rfl, trivial⟩ fun ξ19 => ?_
    replace hm := jn_elim hm; obtain ⟨k21, hk22, hm⟩ := hm
    refine Wp_seqJ [6, 7, 8, 9, 10, 11, 12, 13, 14] (fun fr w' => ∃ (v_1 : Bool) (Ebs : Ents), Ebs = [(some b1, Obj.cells [(Value.slice a_d_sectors d.sectors.length c_d_sectors), (Value.slice a_d_pending d.pending.length c_d_pending), (Value.int .i64 d.left), (Value.bool d.stopped)].toArray 25)] ∧ fr [] [(14, (Value.bool v_1))] ∧ Step (ks [(some b1, Obj.cells [(Value.slice a_d_sectors d.sectors.length c_d_sectors), (Value.slice a_d_pending d.pending.length c_d_pending), (Value.int .i64 d.left), (Value.bool d.stopped)].toArray 25)] O) w13 (ks Ebs O) w' ∧ St ⟨w, [], []⟩ O w' Ebs ∧ k21 v_1 = some x) ?_ ?_
    ·
      rintro ρ28 w24 ⟨v_1, Ebs, hEbs, hfr27, hst26, hs25, hm⟩
      replace hm := jnE1 hk22 hm
      subst hEbs; rw [hfr27.eq]; clear hfr27
      replace f_d_sectors := f_d_sectors.step hst26
      replace f_d_pending := f_d_pending.step hst26
      replace ch18 := ch18.trans hst26
      clear hst26 hs14
      refine Wp_cond rfl (fun hc29 => ?_) (fun hc29 => ?_)
      ·
        replace hm := bif_t hm hc29
        refine Wp_skip ?_
        refine Wp_seq ?_
        refine Wp_block ?_
        refine Wp_region ?_  -- 5 ref.go:135
        refine Rg_op rfl (op_move (v := (Value.int .i64 n_1)) rfl ?_)
        refine Rg_op rfl (op_addw rfl rfl ?_)
        refine Rg_op rfl (op_fieldAddr ty25 rfl ty22 (by decide) rfl (rfl : _ = (⟨_, 0, none⟩ : Addr)) ?_)
        refine Rg_op rfl (op_load (cs := [(Value.slice a_d_sectors d.sectors.length c_d_sectors), (Value.slice a_d_pending d.pending.length c_d_pending), (Value.int .i64 d.left), (Value.bool d.stopped)]) (i := 0) ty22 hs25 rfl rfl rfl ?_)
        refine Rg_op rfl (op_move (v := (Value.int .i64 i_1)) rfl ?_)
        replace hm := ck_some hm; obtain ⟨hc30, hm⟩ := hm
        refine Rg_op rfl (op_indexAddr (q := (rSl rU8)) ty22 ty41 rfl rfl f_d_sectors rfl hc30.1 hc30.2 ?_)
        intro p31 f32
        refine Rg_op rfl (op_loadP ty41 rfl f32 rfl ?_)
        intro v33 h34
        obtain ⟨a_y35, c_y35, rfl, f_y35⟩ := un_sl h34
        refine Rg_op rfl (op_len Try.underlying41 rfl ?_)
        refine Rg_op rfl (op_addw rfl rfl ?_)
        refine Rg_op rfl (op_assign (v := (Value.int .i64 (IntKind.wrap .i64 ((IntKind.wrap .i64 (n_1 + 1)) + ((d.sectors.getD i_1.toNat default).length : Int))))) rfl ?_)
        refine Rg_nil ?_
        clear f32 f_y35
        refine Wp_region ?_  -- 4 ref.go:134
        refine Rg_op rfl (op_move (v := (Value.int .i64 i_1)) rfl ?_)
        refine Rg_op rfl (op_addw rfl rfl ?_)
        refine Rg_op rfl (op_assign (v := (Value.int .i64 (IntKind.wrap .i64 (i_1 + 1)))) rfl ?_)
        refine Rg_nil ?_
        exact hK11 _ _ ⟨(IntKind.wrap .i64 ((IntKind.wrap .i64 (n_1 + 1)) + ((d.sectors.getD i_1.toNat default).length : Int))), (IntKind.wrap .i64 (i_1 + 1)), _, rfl, ⟨(by repeat (first | with_reducible exact Out.refl _ _ | refine Out.upd ?_ rfl | refine Out.updL ?_ rfl | refine Out.mix' ?_ rfl | exact Out.refl _ _)), rfl, rfl, rfl, trivial⟩, ch18, hs25, (inK_wrap .i64 _), (inK_wrap .i64 _), jnE2 hsf10 hm⟩
      ·
        replace hm := bif_f hm hc29
        refine Wp_exit ?_
        refine Wp_seq ?_
        refine Wp_seq ?_
        refine Wp_region ?_  -- 6 ref.go:137
        refine Rg_op rfl (op_assign (v := (Value.int .i64 0)) rfl ?_)
        refine Rg_nil ?_
        refine Wp_block ?_
        refine Wp_reset [] [(1, (Value.pointer (some ⟨b1, 0, none⟩))), (3, (Value.int .i64 n_1)), (5, (Value.int .i64 0))] rfl ⟨rfl, rfl, rfl, trivial⟩ fun ξ38 => ?_
        refine Wp_loopM [3, 5, 26, 27, 28, 29, 30, 31, 32, 33, 34, 35, 36, 37, 38, 39, 40, 41, 42, 43, 44, 45, 46] (fun m fr w' => ∃ (n_2 : Int) (i_2 : Int) (Ebs : Ents), Ebs = [(some b1, Obj.cells [(Value.slice a_d_sectors d.sectors.length c_d_sectors), (Value.slice a_d_pending d.pending.length c_d_pending), (Value.int .i64 d.left), (Value.bool d.stopped)].toArray 25)] ∧ fr [] [(3, (Value.int .i64 n_2)), (5, (Value.int .i64 i_2))] ∧ Step (ks [(some b1, Obj.cells [(Value.slice a_d_sectors d.sectors.length c_d_sectors), (Value.slice a_d_pending d.pending.length c_d_pending), (Value.int .i64 d.left), (Value.bool d.stopped)].toArray 25)] O) w24 (ks Ebs O) w' ∧ St ⟨w, [], []⟩ O w' Ebs ∧ InK .i64 n_2 ∧ InK .i64 i_2 ∧ loop2 (m14_overflightref44_Few_B1 d) m n_2 i_2 = some x) (1000000) ⟨n_1, 0, _, rfl, ⟨Out.refl _ _, rfl, rfl, rfl, trivial⟩, Step.refl _ _, hs25, r_y6, (show InK .i64 0 from by decide), hm⟩ ?_ ?_
        · rintro _ _ ⟨_, _, _, _, _, _, _, _, _, hm⟩; exact loop2_z hm
        · rintro m42 K41 hK41 ρ47 w43 ⟨n_2, i_2, Ebs, hEbs, hfr46, hst45, hs44, r_y36, r_y37, hm⟩
          obtain ⟨sf39, hsf40, hm⟩ := loop2_s hm; unfold m14_overflightref44_Few_B1 at hm
          subst hEbs; rw [hfr46.eq]; clear hfr46
          replace f_d_sectors := f_d_sectors.step hst45
          replace f_d_pending := f_d_pending.step hst45
          replace ch18 := ch18.trans hst45
          have ch48 := hst45
          refine Wp_seq ?_
          refine Wp_reset2 [3, 5, 26, 27, 28, 29, 30, 31, 32, 33, 34, 35, 36, 37, 38, 39, 40, 41, 42, 43, 44, 45, 46] [] (updL ⟨ξ38, []⟩ [(1, (Value.pointer (some ⟨b1, 0, none⟩))), (3, (Value.int .i64 n_1)), (5, (Value.int .i64 0))]) [(3, (Value.int .i64 n_2)), (5, (Value.int .i64 i_2))] (by repeat (first | with_reducible exact Out.refl _ _ | refine Out.upd ?_ rfl | refine Out.updL ?_ rfl | refine Out.mix' ?_ rfl | exact Out.refl _ _)) rfl ⟨rfl, rfl, trivial⟩ fun ξ49 => ?_
          replace hm := jn_elim hm; obtain ⟨k51, hk52, hm⟩ := hm
          refine Wp_seqJ [26, 27, 28, 29, 30, 31, 32, 33, 34] (fun fr w' => ∃ (v_2 : Bool) (Ebs : Ents), Ebs = [(some b1, Obj.cells [(Value.slice a_d_sectors d.sectors.length c_d_sectors), (Value.slice a_d_pending d.pending.length c_d_pending), (Value.int .i64 d.left), (Value.bool d.stopped)].toArray 25)] ∧ fr [] [(34, (Value.bool v_2))] ∧ Step (ks [(some b1, Obj.cells [(Value.slice a_d_sectors d.sectors.length c_d_sectors), (Value.slice a_d_pending d.pending.length c_d_pending), (Value.int .i64 d.left), (Value.bool d.stopped)].toArray 25)] O) w43 (ks Ebs O) w' ∧ St ⟨w, [], []⟩ O w' Ebs ∧ k51 v_2 = some x) ?_ ?_
          ·
            rintro ρ58 w54 ⟨v_2, Ebs, hEbs, hfr57, hst56, hs55, hm⟩
            replace hm := jnE1 hk52 hm
            subst hEbs; rw [hfr57.eq]; clear hfr57
            replace f_d_sectors := f_d_sectors.step hst56
            replace f_d_pending := f_d_pending.step hst56
            replace ch18 := ch18.trans hst56
            replace ch48 := ch48.trans hst56
            clear hst56 hs44
            refine Wp_cond rfl (fun hc59 => ?_) (fun hc59 => ?_)
            ·
              replace hm := bif_t hm hc59
              refine Wp_skip ?_
              refine Wp_seq ?_
              refine Wp_block ?_
              refine Wp_region ?_  -- 9 ref.go:138
              refine Rg_op rfl (op_move (v := (Value.int .i64 n_2)) rfl ?_)
              refine Rg_op rfl (op_addw rfl rfl ?_)
              refine Rg_op rfl (op_fieldAddr ty25 rfl ty23 (by decide) rfl (rfl : _ = (⟨_, 1, none⟩ : Addr)) ?_)
              refine Rg_op rfl (op_load (cs := [(Value.slice a_d_sectors d.sectors.length c_d_sectors), (Value.slice a_d_pending d.pending.length c_d_pending), (Value.int .i64 d.left), (Value.bool d.stopped)]) (i := 0) ty23 hs55 rfl rfl rfl ?_)
              refine Rg_op rfl (op_move (v := (Value.int .i64 i_2)) rfl ?_)
              replace hm := ck_some hm; obtain ⟨hc60, hm⟩ := hm
              refine Rg_op rfl (op_indexAddr (q := rXWrite) ty23 ty73 rfl rfl f_d_pending rfl hc60.1 hc60.2 ?_)
              intro p61 f62
              refine Rg_op rfl (op_fieldAddr ty73 rfl ty41 (by decide) rfl rfl ?_)
              have f63 := f62.via.snd
              refine Rg_op rfl (op_loadP ty41 rfl f63 rfl ?_)
              intro v64 h65
              obtain ⟨a_y66, c_y66, rfl, f_y66⟩ := un_sl h65
              refine Rg_op rfl (op_len Try.underlying41 rfl ?_)
              refine Rg_op rfl (op_addw rfl rfl ?_)
              refine Rg_op rfl (op_assign (v := (Value.int .i64 (IntKind.wrap .i64 ((IntKind.wrap .i64 (n_2 + 1)) + (((d.pending.getD i_2.toNat default).data).length : Int))))) rfl ?_)
              refine Rg_nil ?_
              clear f62 f63 f_y66
              refine Wp_region ?_  -- 8 ref.go:137
              refine Rg_op rfl (op_move (v := (Value.int .i64 i_2)) rfl ?_)
              refine Rg_op rfl (op_addw rfl rfl ?_)
              refine Rg_op rfl (op_assign (v := (Value.int .i64 (IntKind.wrap .i64 (i_2 + 1)))) rfl ?_)
              refine Rg_nil ?_
              exact hK41 _ _ ⟨(IntKind.wrap .i64 ((IntKind.wrap .i64 (n_2 + 1)) + (((d.pending.getD i_2.toNat default).data).length : Int))), (IntKind.wrap .i64 (i_2 + 1)), _, rfl, ⟨(by repeat (first | with_reducible exact Out.refl _ _ | refine Out.upd ?_ rfl | refine Out.updL ?_ rfl | refine Out.mix' ?_ rfl | exact Out.refl _ _)), rfl, rfl, rfl, trivial⟩, ch48, hs55, (inK_wrap .i64 _), (inK_wrap .i64 _), jnE2 hsf40 hm⟩
            ·
              replace hm := bif_f hm hc59
              refine Wp_exit ?_
              refine Wp_seq ?_
              obtain ⟨hs67, p68⟩ := hs55.sub (bs' := []) (.cons _ List.Sublist.slnil)
              clear f_d_sectors f_d_pending
              replace ch18 := ch18.trans p68
              replace ch48 := ch48.trans p68
              clear p68 hs55
              refine Wp_region ?_  -- 10 ref.go:140
              refine Rg_op rfl (op_move (v := (Value.int .i64 n_2)) rfl ?_)
              refine Rg_op rfl (op_leq rfl rfl ?_)
              refine Rg_op rfl (op_assign (v := (Value.bool (decide (n_2 ≤ 9000)))) rfl ?_)
              refine Rg_nil ?_
              refine Wp_ret ?_
              have hz := step_all hs67
              refine ⟨_, (show Closes [] _ _ from rfl), [(Value.bool (decide (n_2 ≤ 9000)))], ⟨rfl, trivial⟩, hs67.ext, ?_⟩
              exact Vr.eq (a := vB) (x := (decide (n_2 ≤ 9000))) rfl (Option.some.inj hm)
          ·
            intro K53 hK53
            have ch69 := Step.refl (ks [(some b1, Obj.cells [(Value.slice a_d_sectors d.sectors.length c_d_sectors), (Value.slice a_d_pending d.pending.length c_d_pending), (Value.int .i64 d.left), (Value.bool d.stopped)].toArray 25)] O) w43
            refine Wp_region ?_  -- 7 ref.go:137
            refine Rg_op rfl (op_move (v := (Value.int .i64 i_2)) rfl ?_)
            refine Rg_op rfl (op_fieldAddr ty25 rfl ty23 (by decide) rfl (rfl : _ = (⟨_, 1, none⟩ : Addr)) ?_)
            refine Rg_op rfl (op_load (cs := [(Value.slice a_d_sectors d.sectors.length c_d_sectors), (Value.slice a_d_pending d.pending.length c_d_pending), (Value.int .i64 d.left), (Value.bool d.stopped)]) (i := 0) ty23 hs44 rfl rfl rfl ?_)
            refine Rg_op rfl (op_len Try.underlying23 rfl ?_)
            refine Rg_op rfl (op_lss rfl rfl ?_)
            refine Rg_op rfl (op_move (v := (Value.bool (decide (i_2 < (d.pending.length : Int))))) rfl ?_)
            refine Rg_case (fun hg70 => ?_) (fun hg70 => ?_)
            ·
              replace hm := bif_t hm hg70
              refine Rg_opg rfl rfl rfl (op_move (v := (Value.int .i64 n_2)) rfl ?_)
              refine Rg_opg rfl rfl rfl (op_leq rfl rfl ?_)
              refine Rg_op rfl (op_pick_t (v := (Value.bool (decide (n_2 ≤ 9000)))) rfl rfl ?_)
              refine Rg_nil ?_
              exact hK53 _ _ ⟨(decide (n_2 ≤ 9000)), _, rfl, ⟨(by repeat (first | with_reducible exact Out.refl _ _ | refine Out.upd ?_ rfl | refine Out.updL ?_ rfl | refine Out.mix' ?_ rfl | exact Out.refl _ _)), rfl, rfl, trivial⟩, ch69, hs44, hm⟩
            ·
              replace hm := bif_f hm hg70
              refine Rg_opx rfl (asB_ne rfl rfl) rfl ?_
              refine Rg_opx rfl (asB_ne rfl rfl) rfl ?_
              refine Rg_op rfl (op_pick_f (v := (Value.bool false)) rfl rfl ?_)
              refine Rg_nil ?_
              exact hK53 _ _ ⟨false, _, rfl, ⟨(by repeat (first | with_reducible exact Out.refl _ _ | refine Out.upd ?_ rfl | refine Out.updL ?_ rfl | refine Out.mix' ?_ rfl | exact Out.refl _ _)), rfl, rfl, trivial⟩, ch69, hs44, hm⟩
    ·
      intro K23 hK23
      have ch71 := Step.refl (ks [(some b1, Obj.cells [(Value.slice a_d_sectors d.sectors.length c_d_sectors), (Value.slice a_d_pending d.pending.length c_d_pending), (Value.int .i64 d.left), (Value.bool d.stopped)].toArray 25)] O) w13
      refine Wp_region ?_  -- 3 ref.go:134
      refine Rg_op rfl (op_move (v := (Value.int .i64 i_1)) rfl ?_)
      refine Rg_op rfl (op_fieldAddr ty25 rfl ty22 (by decide) rfl (rfl : _ = (⟨_, 0, none⟩ : Addr)) ?_)
      refine Rg_op rfl (op_load (cs := [(Value.slice a_d_sectors d.sectors.length c_d_sectors), (Value.slice a_d_pending d.pending.length c_d_pending), (Value.int .i64 d.left), (Value.bool d.stopped)]) (i := 0) ty22 hs14 rfl rfl rfl ?_)
      refine Rg_op rfl (op_len Try.underlying22 rfl ?_)
      refine Rg_op rfl (op_lss rfl rfl ?_)
      refine Rg_op rfl (op_move (v := (Value.bool (decide (i_1 < (d.sectors.length : Int))))) rfl ?_)
      refine Rg_case (fun hg72 => ?_) (fun hg72 => ?_)
      ·
        replace hm := bif_t hm hg72
        refine Rg_opg rfl rfl rfl (op_move (v := (Value.int .i64 n_1)) rfl ?_)
        refine Rg_opg rfl rfl rfl (op_leq rfl rfl ?_)
        refine Rg_op rfl (op_pick_t (v := (Value.bool (decide (n_1 ≤ 9000)))) rfl rfl ?_)
        refine Rg_nil ?_
        exact hK23 _ _ ⟨(decide (n_1 ≤ 9000)), _, rfl, ⟨(by repeat (first | with_reducible exact Out.refl _ _ | refine Out.upd ?_ rfl | refine Out.updL ?_ rfl | refine Out.mix' ?_ rfl | exact Out.refl _ _)), rfl, rfl, trivial⟩, ch71, hs14, hm⟩
      ·
        replace hm := bif_f hm hg72
        refine Rg_opx rfl (asB_ne rfl rfl) rfl ?_
        refine Rg_opx rfl (asB_ne rfl rfl) rfl ?_
        refine Rg_op rfl (op_pick_f (v := (Value.bool false)) rfl rfl ?_)
        refine Rg_nil ?_
        exact hK23 _ _ ⟨false, _, rfl, ⟨(by repeat (first | with_reducible exact Out.refl _ _ | refine Out.upd ?_ rfl | refine Out.updL ?_ rfl | refine Out.mix' ?_ rfl | exact Out.refl _ _)), rfl, rfl, trivial⟩, ch71, hs14, hm⟩

end Go.Fx


set_option linter.unusedVariables false
set_option linter.unusedSimpArgs false
set_option maxRecDepth 100000
set_option maxHeartbeats 0
namespace Go.Fx
open Go Go.RowKit Go.Proofs
def m17_overflightref44_Same_B1 (a : XDisk) (b : XDisk) (sf125 : Int → Option Bool) (i_2 : Int) : Option Bool :=
  bif (decide (i_2 < (a.pending.length : Int))) then
    jn (fun (v_2 : Bool) =>
      bif v_2 then
        some false
      else
        sf125 (IntKind.wrap .i64 (i_2 + 1)))
    (fun k138 =>
      ck ((0 : Int) ≤ i_2 ∧ i_2 < (a.pending.length : Int)) <|
      ck ((0 : Int) ≤ i_2 ∧ i_2 < (b.pending.length : Int)) <|
      bif (decide (((a.pending.getD i_2.toNat default).at_) ≠ ((b.pending.getD i_2.toNat default).at_))) then
        k138 true
      else
        ck ((0 : Int) ≤ i_2 ∧ i_2 < (a.pending.length : Int)) <|
        ck ((0 : Int) ≤ i_2 ∧ i_2 < (b.pending.length : Int)) <|
        k138 (decide (((a.pending.getD i_2.toNat default).data) ≠ ((b.pending.getD i_2.toNat default).data))))
  else
    some true

def m17_overflightref44_Same_B0 (a : XDisk) (b : XDisk) (sf26 : Int → Option Bool) (i_1 : Int) : Option Bool :=
  bif (decide (i_1 < (a.sectors.length : Int))) then
    ck ((0 : Int) ≤ i_1 ∧ i_1 < (a.sectors.length : Int)) <|
    ck ((0 : Int) ≤ i_1 ∧ i_1 < (b.sectors.length : Int)) <|
    bif (decide ((a.sectors.getD i_1.toNat default) ≠ (b.sectors.getD i_1.toNat default))) then
      some false
    else
      sf26 (IntKind.wrap .i64 (i_1 + 1))
  else
    loop1 (m17_overflightref44_Same_B1 a b) (((a.pending.length : Int) - 0).toNat + 1) 0

def m17_overflightref44_Same (a : XDisk) (b : XDisk) : Option Bool :=
  jn (fun (v_1 : Bool) =>
    bif v_1 then
      some false
    else
      loop1 (m17_overflightref44_Same_B0 a b) (((a.sectors.length : Int) - 0).toNat + 1) 0)
  (fun k13 =>
    bif (decide ((a.sectors.length : Int) ≠ (b.sectors.length : Int))) then
      k13 true
    else
      bif (decide ((a.pending.length : Int) ≠ (b.pending.length : Int))) then
        k13 true
      else
        bif (decide (a.left ≠ b.left)) then
          k13 true
        else
          k13 (!(a.stopped == b.stopped)))

theorem c17_overflightref44_Same {w : World} {O : List Nat} {a : XDisk} {b : XDisk} {a_a_sectors : Option Addr} {c_a_sectors : Nat} {a_a_pending : Option Addr} {c_a_pending : Nat} {a_b_sectors : Option Addr} {c_b_sectors : Nat} {a_b_pending : Option Addr} {c_b_pending : Nat} (hO : ∀ k ∈ O, k < w.heap.size) (f_a_sectors : SlR (rSl rU8) w O a_a_sectors c_a_sectors a.sectors) (f_a_pending : SlR rXWrite w O a_a_pending c_a_pending a.pending) (r_a_left : InK .i64 a.left) (f_b_sectors : SlR (rSl rU8) w O a_b_sectors c_b_sectors b.sectors) (f_b_pending : SlR rXWrite w O a_b_pending c_b_pending b.pending) (r_b_left : InK .i64 b.left) {x : Bool} (hm : m17_overflightref44_Same a b = some x) :
    Ok Try.prog 17 [(Value.agg [(Value.slice a_a_sectors a.sectors.length c_a_sectors), (Value.slice a_a_pending a.pending.length c_a_pending), (Value.int .i64 a.left), (Value.bool a.stopped)].toArray), (Value.agg [(Value.slice a_b_sectors b.sectors.length c_b_sectors), (Value.slice a_b_pending b.pending.length c_b_pending), (Value.int .i64 b.left), (Value.bool b.stopped)].toArray)] w O vB x := by
  unfold m17_overflightref44_Same at hm
  refine Fn_of_Wp (n := 94) (xs := [.tmp 4]) Try.func17 rfl Try.ntmps17 Try.results17 rfl ?_
  have hs := St.start hO
  refine Wp_seq ?_
  refine Wp_region ?_  -- 0 ref.go:114
  refine Rg_op rfl (op_box (cs := [(Value.slice a_a_sectors a.sectors.length c_a_sectors), (Value.slice a_a_pending a.pending.length c_a_pending), (Value.int .i64 a.left), (Value.bool a.stopped)]) hs rfl rfl ?_)
  intro b1 w2 _ p3 hs4
  replace f_a_sectors := f_a_sectors.step p3
  replace f_a_pending := f_a_pending.step p3
  replace f_b_sectors := f_b_sectors.step p3
  replace f_b_pending := f_b_pending.step p3
  clear p3
  refine Rg_op rfl (op_box (cs := [(Value.slice a_b_sectors b.sectors.length c_b_sectors), (Value.slice a_b_pending b.pending.length c_b_pending), (Value.int .i64 b.left), (Value.bool b.stopped)]) hs4 rfl rfl ?_)
  intro b6 w7 _ p8 hs9
  replace f_a_sectors := f_a_sectors.step p8
  replace f_a_pending := f_a_pending.step p8
  replace f_b_sectors := f_b_sectors.step p8
  replace f_b_pending := f_b_pending.step p8
  clear p8 hs4
  refine Rg_op rfl (op_assign (v := (Value.bool false)) rfl ?_)
  refine Rg_nil ?_
  refine Wp_seq ?_
  refine Wp_reset [] [(2, (Value.pointer (some ⟨b1, 0, none⟩))), (3, (Value.pointer (some ⟨b6, 0, none⟩)))] rfl ⟨rfl, rfl, trivial⟩ fun ξ11 => ?_
  replace hm := jn_elim hm; obtain ⟨k13, hk14, hm⟩ := hm
  refine Wp_seqJ [7, 8, 9, 10, 11, 12, 13, 14, 15, 16, 17, 18, 19, 20, 21, 22, 23, 24, 25, 26, 27, 28, 29, 30, 31, 32, 33, 34, 35, 36] (fun fr w' => ∃ (v_1 : Bool) (Ebs : Ents), Ebs = [(some b6, Obj.cells [(Value.slice a_b_sectors b.sectors.length c_b_sectors), (Value.slice a_b_pending b.pending.length c_b_pending), (Value.int .i64 b.left), (Value.bool b.stopped)].toArray 25), (some b1, Obj.cells [(Value.slice a_a_sectors a.sectors.length c_a_sectors), (Value.slice a_a_pending a.pending.length c_a_pending), (Value.int .i64 a.left), (Value.bool a.stopped)].toArray 25)] ∧ fr [] [(36, (Value.bool v_1))] ∧ Step (ks [(some b6, Obj.cells [(Value.slice a_b_sectors b.sectors.length c_b_sectors), (Value.slice a_b_pending b.pending.length c_b_pending), (Value.int .i64 b.left), (Value.bool b.stopped)].toArray 25), (some b1, Obj.cells [(Value.slice a_a_sectors a.sectors.length c_a_sectors), (Value.slice a_a_pending a.pending.length c_a_pending), (Value.int .i64 a.left), (Value.bool a.stopped)].toArray 25)] O) w7 (ks Ebs O) w' ∧ St ⟨w, [], []⟩ O w' Ebs ∧ k13 v_1 = some x) ?_ ?_
  ·
    rintro ρ20 w16 ⟨v_1, Ebs, hEbs, hfr19, hst18, hs17, hm⟩
    replace hm := jnE1 hk14 hm
    subst hEbs; rw [hfr19.eq]; clear hfr19
    replace f_a_sectors := f_a_sectors.step hst18
    replace f_a_pending := f_a_pending.step hst18
    replace f_b_sectors := f_b_sectors.step hst18
    replace f_b_pending := f_b_pending.step hst18
    clear hst18 hs9
    refine Wp_cond rfl (fun hc21 => ?_) (fun hc21 => ?_)
    ·
      replace hm := bif_t hm hc21
      refine Wp_seq ?_
      obtain ⟨hs22, p23⟩ := hs17.sub (bs' := []) (.cons _ (.cons _ List.Sublist.slnil))
      clear f_a_sectors f_a_pending f_b_sectors f_b_pending
      clear p23 hs17
      refine Wp_region ?_  -- 2 ref.go:116
      refine Rg_op rfl (op_assign (v := (Value.bool false)) rfl ?_)
      refine Rg_nil ?_
      refine Wp_ret ?_
      have hz := step_all hs22
      refine ⟨_, (show Closes [] _ _ from rfl), [(Value.bool false)], ⟨rfl, trivial⟩, hs22.ext, ?_⟩
      exact Vr.eq (a := vB) (x := false) rfl (Option.some.inj hm)
    ·
      replace hm := bif_f hm hc21
      refine Wp_skip ?_
      refine Wp_seq ?_
      refine Wp_seq ?_
      refine Wp_region ?_  -- 3 ref.go:118
      refine Rg_op rfl (op_assign (v := (Value.int .i64 0)) rfl ?_)
      refine Rg_nil ?_
      refine Wp_block ?_
      refine Wp_reset [] [(2, (Value.pointer (some ⟨b1, 0, none⟩))), (3, (Value.pointer (some ⟨b6, 0, none⟩))), (5, (Value.int .i64 0))] rfl ⟨rfl, rfl, rfl, trivial⟩ fun ξ25 => ?_
      refine Wp_loopM [4, 5, 37, 38, 39, 40, 41, 42, 43, 44, 45, 46, 47, 48, 49, 50, 51, 52, 53, 54, 55, 56] (fun m fr w' => ∃ (i_1 : Int) (Ebs : Ents), Ebs = [(some b6, Obj.cells [(Value.slice a_b_sectors b.sectors.length c_b_sectors), (Value.slice a_b_pending b.pending.length c_b_pending), (Value.int .i64 b.left), (Value.bool b.stopped)].toArray 25), (some b1, Obj.cells [(Value.slice a_a_sectors a.sectors.length c_a_sectors), (Value.slice a_a_pending a.pending.length c_a_pending), (Value.int .i64 a.left), (Value.bool a.stopped)].toArray 25)] ∧ fr [] [(5, (Value.int .i64 i_1))] ∧ Step (ks [(some b6, Obj.cells [(Value.slice a_b_sectors b.sectors.length c_b_sectors), (Value.slice a_b_pending b.pending.length c_b_pending), (Value.int .i64 b.left), (Value.bool b.stopped)].toArray 25), (some b1, Obj.cells [(Value.slice a_a_sectors a.sectors.length c_a_sectors), (Value.slice a_a_pending a.pending.length c_a_pending), (Value.int .i64 a.left), (Value.bool a.stopped)].toArray 25)] O) w16 (ks Ebs O) w' ∧ St ⟨w, [], []⟩ O w' Ebs ∧ InK .i64 i_1 ∧ loop1 (m17_overflightref44_Same_B0 a b) m i_1 = some x) (((a.sectors.length : Int) - 0).toNat + 1) ⟨0, _, rfl, ⟨Out.refl _ _, rfl, rfl, trivial⟩, Step.refl _ _, hs17, (show InK .i64 0 from by decide), hm⟩ ?_ ?_
      · rintro _ _ ⟨_, _, _, _, _, _, _, hm⟩; exact loop1_z hm
      · rintro m29 K28 hK28 ρ34 w30 ⟨i_1, Ebs, hEbs, hfr33, hst32, hs31, r_y24, hm⟩
        obtain ⟨sf26, hsf27, hm⟩ := loop1_s hm; unfold m17_overflightref44_Same_B0 at hm
        subst hEbs; rw [hfr33.eq]; clear hfr33
        replace f_a_sectors := f_a_sectors.step hst32
        replace f_a_pending := f_a_pending.step hst32
        replace f_b_sectors := f_b_sectors.step hst32
        replace f_b_pending := f_b_pending.step hst32
        have ch35 := hst32
        refine Wp_seq ?_
        refine Wp_seq ?_
        refine Wp_region ?_  -- 4 ref.go:118
        refine Rg_op rfl (op_move (v := (Value.int .i64 i_1)) rfl ?_)
        refine Rg_op rfl (op_fieldAddr ty25 rfl ty22 (by decide) rfl (rfl : _ = (⟨_, 0, none⟩ : Addr)) ?_)
        refine Rg_op rfl (op_load (cs := [(Value.slice a_a_sectors a.sectors.length c_a_sectors), (Value.slice a_a_pending a.pending.length c_a_pending), (Value.int .i64 a.left), (Value.bool a.stopped)]) (i := 1) ty22 hs31 rfl rfl rfl ?_)
        refine Rg_op rfl (op_len Try.underlying22 rfl ?_)
        refine Rg_op rfl (op_lss rfl rfl ?_)
        refine Rg_nil ?_
        refine Wp_cond rfl (fun hc36 => ?_) (fun hc36 => ?_)
        ·
          replace hm := bif_t hm hc36
          refine Wp_skip ?_
          refine Wp_seq ?_
          refine Wp_block ?_
          refine Wp_seq ?_
          refine Wp_drawR (g0 := []) (m := 13) (fl := []) (TS_inv hs31) (.inl rfl) rfl (by decide +kernel) ?_  -- 6
          refine Dw_eq (Value.pointer (some ⟨b1, 0, none⟩)) (fun ρ37 w38 g hle hi ht => ?_) ?_
          ·
            obtain ⟨-, hst, -⟩ := hle
            refine StepOp_plain (op_fieldAddr ty25 rfl ty22 (by decide) (ht 2 rfl) (rfl : _ = (⟨_, 0, none⟩ : Addr)) ?_)
            exact Goes.same hi rfl
          refine Dw_eq (Value.slice a_a_sectors a.sectors.length c_a_sectors) (fun ρ40 w41 g hle hi ht => ?_) ?_
          ·
            obtain ⟨-, hst, -⟩ := hle
            have hsn := (Step.nx hi).1
            refine StepOp_plain (op_load (cs := [(Value.slice a_a_sectors a.sectors.length c_a_sectors), (Value.slice a_a_pending a.pending.length c_a_pending), (Value.int .i64 a.left), (Value.bool a.stopped)]) (i := 1) ty22 hsn (ht 44 rfl) rfl rfl ?_)
            exact Goes.same hi rfl
          refine Dw_eq (Value.int .i64 i_1) (fun ρ43 w44 g hle hi ht => ?_) ?_
          ·
            obtain ⟨-, hst, -⟩ := hle
            refine StepOp_plain (op_move (v := (Value.int .i64 i_1)) (ht 5 rfl) ?_)
            exact Goes.same hi rfl
          replace hm := ck_some hm; obtain ⟨hc49, hm⟩ := hm
          refine Dw_op (VP O [(some b6, Obj.cells [(Value.slice a_b_sectors b.sectors.length c_b_sectors), (Value.slice a_b_pending b.pending.length c_b_pending), (Value.int .i64 b.left), (Value.bool b.stopped)].toArray 25), (some b1, Obj.cells [(Value.slice a_a_sectors a.sectors.length c_a_sectors), (Value.slice a_a_pending a.pending.length c_a_pending), (Value.int .i64 a.left), (Value.bool a.stopped)].toArray 25)] (rSl rU8) (a.sectors.getD i_1.toNat default)) (VP.stab _ _) (fun ρ46 w47 g hle hi ht => ?_) ?_
          ·
            obtain ⟨-, hst, -⟩ := hle
            replace f_a_sectors := f_a_sectors.step hst
            refine StepOp_plain (op_indexAddr (q := (rSl rU8)) ty22 ty41 (ht 45 rfl) (ht 46 rfl) f_a_sectors rfl hc49.1 hc49.2 ?_)
            intro p50 f51
            exact Goes.same hi ⟨_, rfl, f51⟩
          refine Dw_op (VD O [(some b6, Obj.cells [(Value.slice a_b_sectors b.sectors.length c_b_sectors), (Value.slice a_b_pending b.pending.length c_b_pending), (Value.int .i64 b.left), (Value.bool b.stopped)].toArray 25), (some b1, Obj.cells [(Value.slice a_a_sectors a.sectors.length c_a_sectors), (Value.slice a_a_pending a.pending.length c_a_pending), (Value.int .i64 a.left), (Value.bool a.stopped)].toArray 25)] (vC (rSl rU8)) (a.sectors.getD i_1.toNat default)) (VD.stab _ _) (fun ρ52 w53 g hle hi ht => ?_) ?_
          ·
            obtain ⟨-, hst, -⟩ := hle
            obtain ⟨p55, q56, f57⟩ := ht 47 rfl
            refine StepOp_plain (op_loadP ty41 q56 f57 rfl ?_)
            intro v58 h59
            obtain ⟨a_y60, c_y60, rfl, f_y60⟩ := un_sl h59
            exact Goes.same hi (show Vr.vd (vC (rSl rU8)) _ _ _ _ from (mkC (mk_sl f_y60)))
          refine Dw_eq (Value.string (bs (a.sectors.getD i_1.toNat default))) (fun ρ61 w62 g hle hi ht => ?_) ?_
          ·
            obtain ⟨-, hst, -⟩ := hle
            have h64 : Vr.vd (vC (rSl rU8)) _ _ _ _ := ht 48 rfl
            obtain ⟨a_y66, c_y66, q65, f_y66⟩ := un_sl h64
            refine StepOp_plain (op_bytesToString ty41 Try.underlying5 Try.underlying9 q65 f_y66 ?_)
            exact Goes.same hi rfl
          refine Dw_eq (Value.pointer (some ⟨b6, 0, none⟩)) (fun ρ67 w68 g hle hi ht => ?_) ?_
          ·
            obtain ⟨-, hst, -⟩ := hle
            refine StepOp_plain (op_fieldAddr ty25 rfl ty22 (by decide) (ht 3 rfl) (rfl : _ = (⟨_, 0, none⟩ : Addr)) ?_)
            exact Goes.same hi rfl
          refine Dw_eq (Value.slice a_b_sectors b.sectors.length c_b_sectors) (fun ρ70 w71 g hle hi ht => ?_) ?_
          ·
            obtain ⟨-, hst, -⟩ := hle
            have hsn := (Step.nx hi).1
            refine StepOp_plain (op_load (cs := [(Value.slice a_b_sectors b.sectors.length c_b_sectors), (Value.slice a_b_pending b.pending.length c_b_pending), (Value.int .i64 b.left), (Value.bool b.stopped)]) (i := 0) ty22 hsn (ht 50 rfl) rfl rfl ?_)
            exact Goes.same hi rfl
          refine Dw_eq (Value.int .i64 i_1) (fun ρ73 w74 g hle hi ht => ?_) ?_
          ·
            obtain ⟨-, hst, -⟩ := hle
            refine StepOp_plain (op_move (v := (Value.int .i64 i_1)) (ht 5 rfl) ?_)
            exact Goes.same hi rfl
          replace hm := ck_some hm; obtain ⟨hc79, hm⟩ := hm
          refine Dw_op (VP O [(some b6, Obj.cells [(Value.slice a_b_sectors b.sectors.length c_b_sectors), (Value.slice a_b_pending b.pending.length c_b_pending), (Value.int .i64 b.left), (Value.bool b.stopped)].toArray 25), (some b1, Obj.cells [(Value.slice a_a_sectors a.sectors.length c_a_sectors), (Value.slice a_a_pending a.pending.length c_a_pending), (Value.int .i64 a.left), (Value.bool a.stopped)].toArray 25)] (rSl rU8) (b.sectors.getD i_1.toNat default)) (VP.stab _ _) (fun ρ76 w77 g hle hi ht => ?_) ?_
          ·
            obtain ⟨-, hst, -⟩ := hle
            replace f_b_sectors := f_b_sectors.step hst
            refine StepOp_plain (op_indexAddr (q := (rSl rU8)) ty22 ty41 (ht 51 rfl) (ht 52 rfl) f_b_sectors rfl hc79.1 hc79.2 ?_)
            intro p80 f81
            exact Goes.same hi ⟨_, rfl, f81⟩
          refine Dw_op (VD O [(some b6, Obj.cells [(Value.slice a_b_sectors b.sectors.length c_b_sectors), (Value.slice a_b_pending b.pending.length c_b_pending), (Value.int .i64 b.left), (Value.bool b.stopped)].toArray 25), (some b1, Obj.cells [(Value.slice a_a_sectors a.sectors.length c_a_sectors), (Value.slice a_a_pending a.pending.length c_a_pending), (Value.int .i64 a.left), (Value.bool a.stopped)].toArray 25)] (vC (rSl rU8)) (b.sectors.getD i_1.toNat default)) (VD.stab _ _) (fun ρ82 w83 g hle hi ht => ?_) ?_
          ·
            obtain ⟨-, hst, -⟩ := hle
            obtain ⟨p85, q86, f87⟩ := ht 53 rfl
            refine StepOp_plain (op_loadP ty41 q86 f87 rfl ?_)
            intro v88 h89
            obtain ⟨a_y90, c_y90, rfl, f_y90⟩ := un_sl h89
            exact Goes.same hi (show Vr.vd (vC (rSl rU8)) _ _ _ _ from (mkC (mk_sl f_y90)))
          refine Dw_eq (Value.string (bs (b.sectors.getD i_1.toNat default))) (fun ρ91 w92 g hle hi ht => ?_) ?_
          ·
            obtain ⟨-, hst, -⟩ := hle
            have h94 : Vr.vd (vC (rSl rU8)) _ _ _ _ := ht 54 rfl
            obtain ⟨a_y96, c_y96, q95, f_y96⟩ := un_sl h94
            refine StepOp_plain (op_bytesToString ty41 Try.underlying5 Try.underlying9 q95 f_y96 ?_)
            exact Goes.same hi rfl
          refine Dw_eq (Value.bool (decide ((a.sectors.getD i_1.toNat default) ≠ (b.sectors.getD i_1.toNat default)))) (fun ρ97 w98 g hle hi ht => ?_) ?_
          ·
            obtain ⟨-, hst, -⟩ := hle
            refine StepOp_plain (op_neqs (a := (a.sectors.getD i_1.toNat default)) (b := (b.sectors.getD i_1.toNat default)) (ht 49 rfl) (ht 55 rfl) ?_)
            exact Goes.same hi rfl
          refine Dw_nil fun w104 g105 hl106 hi107 => ?_
          obtain ⟨-, hst108, -⟩ := hl106
          obtain ⟨hs110, p109⟩ := Step.nx hi107
          rintro _ rfl
          rintro _ rfl
          rintro v111 h112
          replace h112 : Vr.vd (vC (rSl rU8)) _ _ _ _ := h112
          obtain ⟨a_y113, c_y113, rfl, f_y113⟩ := un_sl h112
          rintro _ ⟨p114, rfl, f115⟩
          rintro _ rfl
          rintro _ rfl
          rintro _ rfl
          rintro _ rfl
          rintro v116 h117
          replace h117 : Vr.vd (vC (rSl rU8)) _ _ _ _ := h117
          obtain ⟨a_y118, c_y118, rfl, f_y118⟩ := un_sl h117
          rintro _ ⟨p119, rfl, f120⟩
          rintro _ rfl
          rintro _ rfl
          rintro _ rfl
          have p121 : Step (ks [(some b6, Obj.cells [(Value.slice a_b_sectors b.sectors.length c_b_sectors), (Value.slice a_b_pending b.pending.length c_b_pending), (Value.int .i64 b.left), (Value.bool b.stopped)].toArray 25), (some b1, Obj.cells [(Value.slice a_a_sectors a.sectors.length c_a_sectors), (Value.slice a_a_pending a.pending.length c_a_pending), (Value.int .i64 a.left), (Value.bool a.stopped)].toArray 25)] O) w30 (ks [(some b6, Obj.cells [(Value.slice a_b_sectors b.sectors.length c_b_sectors), (Value.slice a_b_pending b.pending.length c_b_pending), (Value.int .i64 b.left), (Value.bool b.stopped)].toArray 25), (some b1, Obj.cells [(Value.slice a_a_sectors a.sectors.length c_a_sectors), (Value.slice a_a_pending a.pending.length c_a_pending), (Value.int .i64 a.left), (Value.bool a.stopped)].toArray 25)] O) w104 := hst108.trans p109
          replace f_y113 := f_y113.step p109
          replace f115 := f115.step p109
          replace f_y118 := f_y118.step p109
          replace f120 := f120.step p109
          replace f_a_sectors := f_a_sectors.step p121
          replace f_a_pending := f_a_pending.step p121
          replace f_b_sectors := f_b_sectors.step p121
          replace f_b_pending := f_b_pending.step p121
          replace ch35 := ch35.trans p121
          clear p121 hs31
          refine Rg_nil ?_
          refine Wp_cond rfl (fun hc122 => ?_) (fun hc122 => ?_)
          ·
            replace hm := bif_t hm hc122
            refine Wp_seq ?_
            clear f_y113 f115 f_y118 f120
            refine Wp_region ?_  -- 7 ref.go:120
            refine Rg_op rfl (op_assign (v := (Value.bool false)) rfl ?_)
            refine Rg_nil ?_
            refine Wp_ret ?_
            have hz := step_all hs110
            replace f_a_sectors := f_a_sectors.step hz
            replace f_a_pending := f_a_pending.step hz
            replace f_b_sectors := f_b_sectors.step hz
            replace f_b_pending := f_b_pending.step hz
            refine ⟨_, (show Closes [] _ _ from rfl), [(Value.bool false)], ⟨rfl, trivial⟩, hs110.ext, ?_⟩
            exact Vr.eq (a := vB) (x := false) rfl (Option.some.inj hm)
          ·
            replace hm := bif_f hm hc122
            refine Wp_skip ?_
            clear f_y113 f115 f_y118 f120
            refine Wp_region ?_  -- 5 ref.go:118
            refine Rg_op rfl (op_move (v := (Value.int .i64 i_1)) rfl ?_)
            refine Rg_op rfl (op_addw rfl rfl ?_)
            refine Rg_op rfl (op_assign (v := (Value.int .i64 (IntKind.wrap .i64 (i_1 + 1)))) rfl ?_)
            refine Rg_nil ?_
            exact hK28 _ _ ⟨(IntKind.wrap .i64 (i_1 + 1)), _, rfl, ⟨(by repeat (first | with_reducible exact Out.refl _ _ | refine Out.upd ?_ rfl | refine Out.updL ?_ rfl | refine Out.mix' ?_ rfl | exact Out.refl _ _)), rfl, rfl, trivial⟩, ch35, hs110, (inK_wrap .i64 _), jnE1 hsf27 hm⟩
        ·
          replace hm := bif_f hm hc36
          refine Wp_exit ?_
          refine Wp_seq ?_
          refine Wp_seq ?_
          refine Wp_region ?_  -- 8 ref.go:123
          refine Rg_op rfl (op_assign (v := (Value.int .i64 0)) rfl ?_)
          refine Rg_nil ?_
          refine Wp_block ?_
          refine Wp_reset [] [(2, (Value.pointer (some ⟨b1, 0, none⟩))), (3, (Value.pointer (some ⟨b6, 0, none⟩))), (6, (Value.int .i64 0))] rfl ⟨rfl, rfl, rfl, trivial⟩ fun ξ124 => ?_
          refine Wp_loopM [4, 6, 57, 58, 59, 60, 61, 62, 63, 64, 65, 66, 67, 68, 69, 70, 71, 72, 73, 74, 75, 76, 77, 78, 79, 80, 81, 82, 83, 84, 85, 86, 87, 88, 89, 90, 91, 92, 93] (fun m fr w' => ∃ (i_2 : Int) (Ebs : Ents), Ebs = [(some b6, Obj.cells [(Value.slice a_b_sectors b.sectors.length c_b_sectors), (Value.slice a_b_pending b.pending.length c_b_pending), (Value.int .i64 b.left), (Value.bool b.stopped)].toArray 25), (some b1, Obj.cells [(Value.slice a_a_sectors a.sectors.length c_a_sectors), (Value.slice a_a_pending a.pending.length c_a_pending), (Value.int .i64 a.left), (Value.bool a.stopped)].toArray 25)] ∧ fr [] [(6, (Value.int .i64 i_2))] ∧ Step (ks [(some b6, Obj.cells [(Value.slice a_b_sectors b.sectors.length c_b_sectors), (Value.slice a_b_pending b.pending.length c_b_pending), (Value.int .i64 b.left), (Value.bool b.stopped)].toArray 25), (some b1, Obj.cells [(Value.slice a_a_sectors a.sectors.length c_a_sectors), (Value.slice a_a_pending a.pending.length c_a_pending), (Value.int .i64 a.left), (Value.bool a.stopped)].toArray 25)] O) w30 (ks Ebs O) w' ∧ St ⟨w, [], []⟩ O w' Ebs ∧ InK .i64 i_2 ∧ loop1 (m17_overflightref44_Same_B1 a b) m i_2 = some x) (((a.pending.length : Int) - 0).toNat + 1) ⟨0, _, rfl, ⟨Out.refl _ _, rfl, rfl, trivial⟩, Step.refl _ _, hs31, (show InK .i64 0 from by decide), hm⟩ ?_ ?_
          · rintro _ _ ⟨_, _, _, _, _, _, _, hm⟩; exact loop1_z hm
          · rintro m128 K127 hK127 ρ133 w129 ⟨i_2, Ebs, hEbs, hfr132, hst131, hs130, r_y123, hm⟩
            obtain ⟨sf125, hsf126, hm⟩ := loop1_s hm; unfold m17_overflightref44_Same_B1 at hm
            subst hEbs; rw [hfr132.eq]; clear hfr132
            replace f_a_sectors := f_a_sectors.step hst131
            replace f_a_pending := f_a_pending.step hst131
            replace f_b_sectors := f_b_sectors.step hst131
            replace f_b_pending := f_b_pending.step hst131
            replace ch35 := ch35.trans hst131
            have ch134 := hst131
            refine Wp_seq ?_
            refine Wp_seq ?_
            refine Wp_region ?_  -- 9 ref.go:123
            refine Rg_op rfl (op_move (v := (Value.int .i64 i_2)) rfl ?_)
            refine Rg_op rfl (op_fieldAddr ty25 rfl ty23 (by decide) rfl (rfl : _ = (⟨_, 1, none⟩ : Addr)) ?_)
            refine Rg_op rfl (op_load (cs := [(Value.slice a_a_sectors a.sectors.length c_a_sectors), (Value.slice a_a_pending a.pending.length c_a_pending), (Value.int .i64 a.left), (Value.bool a.stopped)]) (i := 1) ty23 hs130 rfl rfl rfl ?_)
            refine Rg_op rfl (op_len Try.underlying23 rfl ?_)
            refine Rg_op rfl (op_lss rfl rfl ?_)
            refine Rg_nil ?_
            refine Wp_cond rfl (fun hc135 => ?_) (fun hc135 => ?_)
            ·
              replace hm := bif_t hm hc135
              refine Wp_skip ?_
              refine Wp_seq ?_
              refine Wp_block ?_
              refine Wp_reset2 [4, 6, 57, 58, 59, 60, 61, 62, 63, 64, 65, 66, 67, 68, 69, 70, 71, 72, 73, 74, 75, 76, 77, 78, 79, 80, 81, 82, 83, 84, 85, 86, 87, 88, 89, 90, 91, 92, 93] [] (updL ⟨ξ124, []⟩ [(2, (Value.pointer (some ⟨b1, 0, none⟩))), (3, (Value.pointer (some ⟨b6, 0, none⟩))), (6, (Value.int .i64 0))]) [(6, (Value.int .i64 i_2))] (by repeat (first | with_reducible exact Out.refl _ _ | refine Out.upd ?_ rfl | refine Out.updL ?_ rfl | refine Out.mix' ?_ rfl | exact Out.refl _ _)) rfl ⟨rfl, trivial⟩ fun ξ136 => ?_
              replace hm := jn_elim hm; obtain ⟨k138, hk139, hm⟩ := hm
              refine Wp_seqJ [64, 65, 66, 67, 68, 69, 70, 71, 72, 73, 74, 75, 76, 77, 78, 79, 80, 81, 82, 83, 84, 85, 86, 87, 88, 89, 90, 91, 92, 93] (fun fr w' => ∃ (v_2 : Bool) (Ebs : Ents), Ebs = [(some b6, Obj.cells [(Value.slice a_b_sectors b.sectors.length c_b_sectors), (Value.slice a_b_pending b.pending.length c_b_pending), (Value.int .i64 b.left), (Value.bool b.stopped)].toArray 25), (some b1, Obj.cells [(Value.slice a_a_sectors a.sectors.length c_a_sectors), (Value.slice a_a_pending a.pending.length c_a_pending), (Value.int .i64 a.left), (Value.bool a.stopped)].toArray 25)] ∧ fr [] [(93, (Value.bool v_2))] ∧ Step (ks [(some b6, Obj.cells [(Value.slice a_b_sectors b.sectors.length c_b_sectors), (Value.slice a_b_pending b.pending.length c_b_pending), (Value.int .i64 b.left), (Value.bool b.stopped)].toArray 25), (some b1, Obj.cells [(Value.slice a_a_sectors a.sectors.length c_a_sectors), (Value.slice a_a_pending a.pending.length c_a_pending), (Value.int .i64 a.left), (Value.bool a.stopped)].toArray 25)] O) w129 (ks Ebs O) w' ∧ St ⟨w, [], []⟩ O w' Ebs ∧ k138 v_2 = some x) ?_ ?_
              ·
                rintro ρ145 w141 ⟨v_2, Ebs, hEbs, hfr144, hst143, hs142, hm⟩
                replace hm := jnE1 hk139 hm
                subst hEbs; rw [hfr144.eq]; clear hfr144
                replace f_a_sectors := f_a_sectors.step hst143
                replace f_a_pending := f_a_pending.step hst143
                replace f_b_sectors := f_b_sectors.step hst143
                replace f_b_pending := f_b_pending.step hst143
                replace ch35 := ch35.trans hst143
                replace ch134 := ch134.trans hst143
                clear hst143 hs130
                refine Wp_cond rfl (fun hc146 => ?_) (fun hc146 => ?_)
                ·
                  replace hm := bif_t hm hc146
                  refine Wp_seq ?_
                  refine Wp_region ?_  -- 12 ref.go:125
                  refine Rg_op rfl (op_assign (v := (Value.bool false)) rfl ?_)
                  refine Rg_nil ?_
                  refine Wp_ret ?_
                  have hz := step_all hs142
                  replace f_a_sectors := f_a_sectors.step hz
                  replace f_a_pending := f_a_pending.step hz
                  replace f_b_sectors := f_b_sectors.step hz
                  replace f_b_pending := f_b_pending.step hz
                  refine ⟨_, (show Closes [] _ _ from rfl), [(Value.bool false)], ⟨rfl, trivial⟩, hs142.ext, ?_⟩
                  exact Vr.eq (a := vB) (x := false) rfl (Option.some.inj hm)
                ·
                  replace hm := bif_f hm hc146
                  refine Wp_skip ?_
                  refine Wp_region ?_  -- 10 ref.go:123
                  refine Rg_op rfl (op_move (v := (Value.int .i64 i_2)) rfl ?_)
                  refine Rg_op rfl (op_addw rfl rfl ?_)
                  refine Rg_op rfl (op_assign (v := (Value.int .i64 (IntKind.wrap .i64 (i_2 + 1)))) rfl ?_)
                  refine Rg_nil ?_
                  exact hK127 _ _ ⟨(IntKind.wrap .i64 (i_2 + 1)), _, rfl, ⟨(by repeat (first | with_reducible exact Out.refl _ _ | refine Out.upd ?_ rfl | refine Out.updL ?_ rfl | refine Out.mix' ?_ rfl | exact Out.refl _ _)), rfl, rfl, trivial⟩, ch134, hs142, (inK_wrap .i64 _), jnE1 hsf126 hm⟩
              ·
                intro K140 hK140
                have ch147 := Step.refl (ks [(some b6, Obj.cells [(Value.slice a_b_sectors b.sectors.length c_b_sectors), (Value.slice a_b_pending b.pending.length c_b_pending), (Value.int .i64 b.left), (Value.bool b.stopped)].toArray 25), (some b1, Obj.cells [(Value.slice a_a_sectors a.sectors.length c_a_sectors), (Value.slice a_a_pending a.pending.length c_a_pending), (Value.int .i64 a.left), (Value.bool a.stopped)].toArray 25)] O) w129
                refine Wp_drawR (g0 := []) (m := 30) (fl := []) (TS_inv hs130) (.inl rfl) rfl (by decide +kernel) ?_  -- 11
                refine Dw_eq (Value.pointer (some ⟨b1, 1, none⟩)) (fun ρ148 w149 g hle hi ht => ?_) ?_
                ·
                  obtain ⟨-, hst, -⟩ := hle
                  refine StepOp_plain (op_fieldAddr ty25 rfl ty23 (by decide) (ht 2 rfl) (rfl : _ = (⟨_, 1, none⟩ : Addr)) ?_)
                  exact Goes.same hi rfl
                refine Dw_eq (Value.slice a_a_pending a.pending.length c_a_pending) (fun ρ151 w152 g hle hi ht => ?_) ?_
                ·
                  obtain ⟨-, hst, -⟩ := hle
                  have hsn := (Step.nx hi).1
                  refine StepOp_plain (op_load (cs := [(Value.slice a_a_sectors a.sectors.length c_a_sectors), (Value.slice a_a_pending a.pending.length c_a_pending), (Value.int .i64 a.left), (Value.bool a.stopped)]) (i := 1) ty23 hsn (ht 64 rfl) rfl rfl ?_)
                  exact Goes.same hi rfl
                refine Dw_eq (Value.int .i64 i_2) (fun ρ154 w155 g hle hi ht => ?_) ?_
                ·
                  obtain ⟨-, hst, -⟩ := hle
                  refine StepOp_plain (op_move (v := (Value.int .i64 i_2)) (ht 6 rfl) ?_)
                  exact Goes.same hi rfl
                replace hm := ck_some hm; obtain ⟨hc160, hm⟩ := hm
                refine Dw_op (VP O [(some b6, Obj.cells [(Value.slice a_b_sectors b.sectors.length c_b_sectors), (Value.slice a_b_pending b.pending.length c_b_pending), (Value.int .i64 b.left), (Value.bool b.stopped)].toArray 25), (some b1, Obj.cells [(Value.slice a_a_sectors a.sectors.length c_a_sectors), (Value.slice a_a_pending a.pending.length c_a_pending), (Value.int .i64 a.left), (Value.bool a.stopped)].toArray 25)] rXWrite (a.pending.getD i_2.toNat default)) (VP.stab _ _) (fun ρ157 w158 g hle hi ht => ?_) ?_
                ·
                  obtain ⟨-, hst, -⟩ := hle
                  replace f_a_pending := f_a_pending.step hst
                  refine StepOp_plain (op_indexAddr (q := rXWrite) ty23 ty73 (ht 65 rfl) (ht 66 rfl) f_a_pending rfl hc160.1 hc160.2 ?_)
                  intro p161 f162
                  exact Goes.same hi ⟨_, rfl, f162⟩
                refine Dw_op (VP O [(some b6, Obj.cells [(Value.slice a_b_sectors b.sectors.length c_b_sectors), (Value.slice a_b_pending b.pending.length c_b_pending), (Value.int .i64 b.left), (Value.bool b.stopped)].toArray 25), (some b1, Obj.cells [(Value.slice a_a_sectors a.sectors.length c_a_sectors), (Value.slice a_a_pending a.pending.length c_a_pending), (Value.int .i64 a.left), (Value.bool a.stopped)].toArray 25)] (rInt .i64) ((a.pending.getD i_2.toNat default).at_)) (VP.stab _ _) (fun ρ163 w164 g hle hi ht => ?_) ?_
                ·
                  obtain ⟨-, hst, -⟩ := hle
                  obtain ⟨p166, q167, f168⟩ := ht 67 rfl
                  refine StepOp_plain (op_fieldAddr ty73 rfl ty3 (by decide) q167 rfl ?_)
                  have f169 := f168.via.fst
                  exact Goes.same hi ⟨_, rfl, f169⟩
                refine Dw_op (VD O [(some b6, Obj.cells [(Value.slice a_b_sectors b.sectors.length c_b_sectors), (Value.slice a_b_pending b.pending.length c_b_pending), (Value.int .i64 b.left), (Value.bool b.stopped)].toArray 25), (some b1, Obj.cells [(Value.slice a_a_sectors a.sectors.length c_a_sectors), (Value.slice a_a_pending a.pending.length c_a_pending), (Value.int .i64 a.left), (Value.bool a.stopped)].toArray 25)] (vI .i64) ((a.pending.getD i_2.toNat default).at_)) (VD.stab _ _) (fun ρ170 w171 g hle hi ht => ?_) ?_
                ·
                  obtain ⟨-, hst, -⟩ := hle
                  obtain ⟨p173, q174, f175⟩ := ht 68 rfl
                  refine StepOp_plain (op_loadP ty3 q174 f175 rfl ?_)
                  intro v176 h177
                  obtain ⟨rfl, r_y178⟩ := un_int h177
                  exact Goes.same hi (show Vr.vd (vI .i64) _ _ _ _ from ⟨rfl, r_y178⟩)
                refine Dw_eq (Value.pointer (some ⟨b6, 1, none⟩)) (fun ρ179 w180 g hle hi ht => ?_) ?_
                ·
                  obtain ⟨-, hst, -⟩ := hle
                  refine StepOp_plain (op_fieldAddr ty25 rfl ty23 (by decide) (ht 3 rfl) (rfl : _ = (⟨_, 1, none⟩ : Addr)) ?_)
                  exact Goes.same hi rfl
                refine Dw_eq (Value.slice a_b_pending b.pending.length c_b_pending) (fun ρ182 w183 g hle hi ht => ?_) ?_
                ·
                  obtain ⟨-, hst, -⟩ := hle
                  have hsn := (Step.nx hi).1
                  refine StepOp_plain (op_load (cs := [(Value.slice a_b_sectors b.sectors.length c_b_sectors), (Value.slice a_b_pending b.pending.length c_b_pending), (Value.int .i64 b.left), (Value.bool b.stopped)]) (i := 0) ty23 hsn (ht 70 rfl) rfl rfl ?_)
                  exact Goes.same hi rfl
                refine Dw_eq (Value.int .i64 i_2) (fun ρ185 w186 g hle hi ht => ?_) ?_
                ·
                  obtain ⟨-, hst, -⟩ := hle
                  refine StepOp_plain (op_move (v := (Value.int .i64 i_2)) (ht 6 rfl) ?_)
                  exact Goes.same hi rfl
                replace hm := ck_some hm; obtain ⟨hc191, hm⟩ := hm
                refine Dw_op (VP O [(some b6, Obj.cells [(Value.slice a_b_sectors b.sectors.length c_b_sectors), (Value.slice a_b_pending b.pending.length c_b_pending), (Value.int .i64 b.left), (Value.bool b.stopped)].toArray 25), (some b1, Obj.cells [(Value.slice a_a_sectors a.sectors.length c_a_sectors), (Value.slice a_a_pending a.pending.length c_a_pending), (Value.int .i64 a.left), (Value.bool a.stopped)].toArray 25)] rXWrite (b.pending.getD i_2.toNat default)) (VP.stab _ _) (fun ρ188 w189 g hle hi ht => ?_) ?_
                ·
                  obtain ⟨-, hst, -⟩ := hle
                  replace f_b_pending := f_b_pending.step hst
                  refine StepOp_plain (op_indexAddr (q := rXWrite) ty23 ty73 (ht 71 rfl) (ht 72 rfl) f_b_pending rfl hc191.1 hc191.2 ?_)
                  intro p192 f193
                  exact Goes.same hi ⟨_, rfl, f193⟩
                refine Dw_op (VP O [(some b6, Obj.cells [(Value.slice a_b_sectors b.sectors.length c_b_sectors), (Value.slice a_b_pending b.pending.length c_b_pending), (Value.int .i64 b.left), (Value.bool b.stopped)].toArray 25), (some b1, Obj.cells [(Value.slice a_a_sectors a.sectors.length c_a_sectors), (Value.slice a_a_pending a.pending.length c_a_pending), (Value.int .i64 a.left), (Value.bool a.stopped)].toArray 25)] (rInt .i64) ((b.pending.getD i_2.toNat default).at_)) (VP.stab _ _) (fun ρ194 w195 g hle hi ht => ?_) ?_
                ·
                  obtain ⟨-, hst, -⟩ := hle
                  obtain ⟨p197, q198, f199⟩ := ht 73 rfl
                  refine StepOp_plain (op_fieldAddr ty73 rfl ty3 (by decide) q198 rfl ?_)
                  have f200 := f199.via.fst
                  exact Goes.same hi ⟨_, rfl, f200⟩
                refine Dw_op (VD O [(some b6, Obj.cells [(Value.slice a_b_sectors b.sectors.length c_b_sectors), (Value.slice a_b_pending b.pending.length c_b_pending), (Value.int .i64 b.left), (Value.bool b.stopped)].toArray 25), (some b1, Obj.cells [(Value.slice a_a_sectors a.sectors.length c_a_sectors), (Value.slice a_a_pending a.pending.length c_a_pending), (Value.int .i64 a.left), (Value.bool a.stopped)].toArray 25)] (vI .i64) ((b.pending.getD i_2.toNat default).at_)) (VD.stab _ _) (fun ρ201 w202 g hle hi ht => ?_) ?_
                ·
                  obtain ⟨-, hst, -⟩ := hle
                  obtain ⟨p204, q205, f206⟩ := ht 74 rfl
                  refine StepOp_plain (op_loadP ty3 q205 f206 rfl ?_)
                  intro v207 h208
                  obtain ⟨rfl, r_y209⟩ := un_int h208
                  exact Goes.same hi (show Vr.vd (vI .i64) _ _ _ _ from ⟨rfl, r_y209⟩)
                refine Dw_eq (Value.bool (decide (((a.pending.getD i_2.toNat default).at_) ≠ ((b.pending.getD i_2.toNat default).at_)))) (fun ρ210 w211 g hle hi ht => ?_) ?_
                ·
                  obtain ⟨-, hst, -⟩ := hle
                  have h213 : Vr.vd (vI .i64) _ _ _ _ := ht 69 rfl
                  obtain ⟨q214, r_y215⟩ := h213
                  have h216 : Vr.vd (vI .i64) _ _ _ _ := ht 75 rfl
                  obtain ⟨q217, r_y218⟩ := h216
                  refine StepOp_plain (op_neq q214 q217 ?_)
                  exact Goes.same hi rfl
                refine Dw_opB (decide (((a.pending.getD i_2.toNat default).at_) ≠ ((b.pending.getD i_2.toNat default).at_))) (fun ρ219 w220 g hle hi ht => ?_) (fun hg222 => ?_) (fun hg222 => ?_)
                ·
                  obtain ⟨-, hst, -⟩ := hle
                  refine StepOp_plain (op_move (v := (Value.bool (decide (((a.pending.getD i_2.toNat default).at_) ≠ ((b.pending.getD i_2.toNat default).at_))))) (ht 76 rfl) ?_)
                  exact Goes.same hi rfl
                ·
                  replace hm := bif_t hm hg222
                  refine Dw_skip (fun _ _ _ ht => wanted_x rfl (ht 77 rfl) rfl) ?_
                  refine Dw_skip (fun _ _ _ ht => wanted_x rfl (ht 77 rfl) rfl) ?_
                  refine Dw_skip (fun _ _ _ ht => wanted_x rfl (ht 77 rfl) rfl) ?_
                  refine Dw_skip (fun _ _ _ ht => wanted_x rfl (ht 77 rfl) rfl) ?_
                  refine Dw_skip (fun _ _ _ ht => wanted_x rfl (ht 77 rfl) rfl) ?_
                  refine Dw_skip (fun _ _ _ ht => wanted_x rfl (ht 77 rfl) rfl) ?_
                  refine Dw_skip (fun _ _ _ ht => wanted_x rfl (ht 77 rfl) rfl) ?_
                  refine Dw_skip (fun _ _ _ ht => wanted_x rfl (ht 77 rfl) rfl) ?_
                  refine Dw_skip (fun _ _ _ ht => wanted_x rfl (ht 77 rfl) rfl) ?_
                  refine Dw_skip (fun _ _ _ ht => wanted_x rfl (ht 77 rfl) rfl) ?_
                  refine Dw_skip (fun _ _ _ ht => wanted_x rfl (ht 77 rfl) rfl) ?_
                  refine Dw_skip (fun _ _ _ ht => wanted_x rfl (ht 77 rfl) rfl) ?_
                  refine Dw_skip (fun _ _ _ ht => wanted_x rfl (ht 77 rfl) rfl) ?_
                  refine Dw_skip (fun _ _ _ ht => wanted_x rfl (ht 77 rfl) rfl) ?_
                  refine Dw_skip (fun _ _ _ ht => wanted_x rfl (ht 77 rfl) rfl) ?_
                  refine Dw_eq (Value.bool true) (fun ρ223 w224 g hle hi ht => ?_) ?_
                  ·
                    obtain ⟨-, hst, -⟩ := hle
                    refine StepOp_plain (op_pick_t (v := (Value.bool true)) (ht 77 rfl) rfl ?_)
                    exact Goes.same hi rfl
                  refine Dw_nil fun w230 g231 hl232 hi233 => ?_
                  obtain ⟨-, hst234, -⟩ := hl232
                  obtain ⟨hs236, p235⟩ := Step.nx hi233
                  rintro _ rfl
                  rintro _ rfl
                  rintro _ rfl
                  rintro _ rfl
                  rintro _ rfl
                  rintro _ rfl
                  rintro _ rfl
                  rintro _ rfl
                  rintro _ rfl
                  rintro _ rfl
                  rintro _ rfl
                  rintro _ rfl
                  rintro _ rfl
                  rintro _ rfl
                  rintro _ rfl
                  rintro _ rfl
                  rintro _ rfl
                  rintro _ rfl
                  rintro v237 h238
                  replace h238 : Vr.vd (vI .i64) _ _ _ _ := h238
                  obtain ⟨rfl, r_y239⟩ := h238
                  rintro _ ⟨p240, rfl, f241⟩
                  rintro _ ⟨p242, rfl, f243⟩
                  rintro _ rfl
                  rintro _ rfl
                  rintro _ rfl
                  rintro v244 h245
                  replace h245 : Vr.vd (vI .i64) _ _ _ _ := h245
                  obtain ⟨rfl, r_y246⟩ := h245
                  rintro _ ⟨p247, rfl, f248⟩
                  rintro _ ⟨p249, rfl, f250⟩
                  rintro _ rfl
                  rintro _ rfl
                  rintro _ rfl
                  have p251 : Step (ks [(some b6, Obj.cells [(Value.slice a_b_sectors b.sectors.length c_b_sectors), (Value.slice a_b_pending b.pending.length c_b_pending), (Value.int .i64 b.left), (Value.bool b.stopped)].toArray 25), (some b1, Obj.cells [(Value.slice a_a_sectors a.sectors.length c_a_sectors), (Value.slice a_a_pending a.pending.length c_a_pending), (Value.int .i64 a.left), (Value.bool a.stopped)].toArray 25)] O) w129 (ks [(some b6, Obj.cells [(Value.slice a_b_sectors b.sectors.length c_b_sectors), (Value.slice a_b_pending b.pending.length c_b_pending), (Value.int .i64 b.left), (Value.bool b.stopped)].toArray 25), (some b1, Obj.cells [(Value.slice a_a_sectors a.sectors.length c_a_sectors), (Value.slice a_a_pending a.pending.length c_a_pending), (Value.int .i64 a.left), (Value.bool a.stopped)].toArray 25)] O) w230 := hst234.trans p235
                  replace f241 := f241.step p235
                  replace f243 := f243.step p235
                  replace f248 := f248.step p235
                  replace f250 := f250.step p235
                  replace f_a_sectors := f_a_sectors.step p251
                  replace f_a_pending := f_a_pending.step p251
                  replace f_b_sectors := f_b_sectors.step p251
                  replace f_b_pending := f_b_pending.step p251
                  replace ch35 := ch35.trans p251
                  replace ch134 := ch134.trans p251
                  replace ch147 := ch147.trans p251
                  clear p251 hs130
                  refine Rg_nil ?_
                  exact hK140 _ _ ⟨true, _, rfl, ⟨(by repeat (first | with_reducible exact Out.refl _ _ | refine Out.upd ?_ rfl | refine Out.updL ?_ rfl | refine Out.mix' ?_ rfl | exact Out.refl _ _)), rfl, rfl, trivial⟩, ch147, hs236, hm⟩
                ·
                  replace hm := bif_f hm hg222
                  refine Dw_eq (Value.pointer (some ⟨b1, 1, none⟩)) (fun ρ252 w253 g hle hi ht => ?_) ?_
                  ·
                    obtain ⟨-, hst, -⟩ := hle
                    refine StepOp_g rfl (ht 77 rfl) (op_fieldAddr ty25 rfl ty23 (by decide) (ht 2 rfl) (rfl : _ = (⟨_, 1, none⟩ : Addr)) ?_)
                    exact Goes.same hi rfl
                  refine Dw_eq (Value.slice a_a_pending a.pending.length c_a_pending) (fun ρ255 w256 g hle hi ht => ?_) ?_
                  ·
                    obtain ⟨-, hst, -⟩ := hle
                    have hsn := (Step.nx hi).1
                    refine StepOp_g rfl (ht 77 rfl) (op_load (cs := [(Value.slice a_a_sectors a.sectors.length c_a_sectors), (Value.slice a_a_pending a.pending.length c_a_pending), (Value.int .i64 a.left), (Value.bool a.stopped)]) (i := 1) ty23 hsn (ht 78 rfl) rfl rfl ?_)
                    exact Goes.same hi rfl
                  refine Dw_eq (Value.int .i64 i_2) (fun ρ258 w259 g hle hi ht => ?_) ?_
                  ·
                    obtain ⟨-, hst, -⟩ := hle
                    refine StepOp_g rfl (ht 77 rfl) (op_move (v := (Value.int .i64 i_2)) (ht 6 rfl) ?_)
                    exact Goes.same hi rfl
                  replace hm := ck_some hm; obtain ⟨hc264, hm⟩ := hm
                  refine Dw_op (VP O [(some b6, Obj.cells [(Value.slice a_b_sectors b.sectors.length c_b_sectors), (Value.slice a_b_pending b.pending.length c_b_pending), (Value.int .i64 b.left), (Value.bool b.stopped)].toArray 25), (some b1, Obj.cells [(Value.slice a_a_sectors a.sectors.length c_a_sectors), (Value.slice a_a_pending a.pending.length c_a_pending), (Value.int .i64 a.left), (Value.bool a.stopped)].toArray 25)] rXWrite (a.pending.getD i_2.toNat default)) (VP.stab _ _) (fun ρ261 w262 g hle hi ht => ?_) ?_
                  ·
                    obtain ⟨-, hst, -⟩ := hle
                    replace f_a_pending := f_a_pending.step hst
                    refine StepOp_g rfl (ht 77 rfl) (op_indexAddr (q := rXWrite) ty23 ty73 (ht 79 rfl) (ht 80 rfl) f_a_pending rfl hc264.1 hc264.2 ?_)
                    intro p265 f266
                    exact Goes.same hi ⟨_, rfl, f266⟩
                  refine Dw_op (VP O [(some b6, Obj.cells [(Value.slice a_b_sectors b.sectors.length c_b_sectors), (Value.slice a_b_pending b.pending.length c_b_pending), (Value.int .i64 b.left), (Value.bool b.stopped)].toArray 25), (some b1, Obj.cells [(Value.slice a_a_sectors a.sectors.length c_a_sectors), (Value.slice a_a_pending a.pending.length c_a_pending), (Value.int .i64 a.left), (Value.bool a.stopped)].toArray 25)] (rSl rU8) ((a.pending.getD i_2.toNat default).data)) (VP.stab _ _) (fun ρ267 w268 g hle hi ht => ?_) ?_
                  ·
                    obtain ⟨-, hst, -⟩ := hle
                    obtain ⟨p270, q271, f272⟩ := ht 81 rfl
                    refine StepOp_g rfl (ht 77 rfl) (op_fieldAddr ty73 rfl ty41 (by decide) q271 rfl ?_)
                    have f273 := f272.via.snd
                    exact Goes.same hi ⟨_, rfl, f273⟩
                  refine Dw_op (VD O [(some b6, Obj.cells [(Value.slice a_b_sectors b.sectors.length c_b_sectors), (Value.slice a_b_pending b.pending.length c_b_pending), (Value.int .i64 b.left), (Value.bool b.stopped)].toArray 25), (some b1, Obj.cells [(Value.slice a_a_sectors a.sectors.length c_a_sectors), (Value.slice a_a_pending a.pending.length c_a_pending), (Value.int .i64 a.left), (Value.bool a.stopped)].toArray 25)] (vC (rSl rU8)) ((a.pending.getD i_2.toNat default).data)) (VD.stab _ _) (fun ρ274 w275 g hle hi ht => ?_) ?_
                  ·
                    obtain ⟨-, hst, -⟩ := hle
                    obtain ⟨p277, q278, f279⟩ := ht 82 rfl
                    refine StepOp_g rfl (ht 77 rfl) (op_loadP ty41 q278 f279 rfl ?_)
                    intro v280 h281
                    obtain ⟨a_y282, c_y282, rfl, f_y282⟩ := un_sl h281
                    exact Goes.same hi (show Vr.vd (vC (rSl rU8)) _ _ _ _ from (mkC (mk_sl f_y282)))
                  refine Dw_eq (Value.string (bs ((a.pending.getD i_2.toNat default).data))) (fun ρ283 w284 g hle hi ht => ?_) ?_
                  ·
                    obtain ⟨-, hst, -⟩ := hle
                    have h286 : Vr.vd (vC (rSl rU8)) _ _ _ _ := ht 83 rfl
                    obtain ⟨a_y288, c_y288, q287, f_y288⟩ := un_sl h286
                    refine StepOp_g rfl (ht 77 rfl) (op_bytesToString ty41 Try.underlying5 Try.underlying9 q287 f_y288 ?_)
                    exact Goes.same hi rfl
                  refine Dw_eq (Value.pointer (some ⟨b6, 1, none⟩)) (fun ρ289 w290 g hle hi ht => ?_) ?_
                  ·
                    obtain ⟨-, hst, -⟩ := hle
                    refine StepOp_g rfl (ht 77 rfl) (op_fieldAddr ty25 rfl ty23 (by decide) (ht 3 rfl) (rfl : _ = (⟨_, 1, none⟩ : Addr)) ?_)
                    exact Goes.same hi rfl
                  refine Dw_eq (Value.slice a_b_pending b.pending.length c_b_pending) (fun ρ292 w293 g hle hi ht => ?_) ?_
                  ·
                    obtain ⟨-, hst, -⟩ := hle
                    have hsn := (Step.nx hi).1
                    refine StepOp_g rfl (ht 77 rfl) (op_load (cs := [(Value.slice a_b_sectors b.sectors.length c_b_sectors), (Value.slice a_b_pending b.pending.length c_b_pending), (Value.int .i64 b.left), (Value.bool b.stopped)]) (i := 0) ty23 hsn (ht 85 rfl) rfl rfl ?_)
                    exact Goes.same hi rfl
                  refine Dw_eq (Value.int .i64 i_2) (fun ρ295 w296 g hle hi ht => ?_) ?_
                  ·
                    obtain ⟨-, hst, -⟩ := hle
                    refine StepOp_g rfl (ht 77 rfl) (op_move (v := (Value.int .i64 i_2)) (ht 6 rfl) ?_)
                    exact Goes.same hi rfl
                  replace hm := ck_some hm; obtain ⟨hc301, hm⟩ := hm
                  refine Dw_op (VP O [(some b6, Obj.cells [(Value.slice a_b_sectors b.sectors.length c_b_sectors), (Value.slice a_b_pending b.pending.length c_b_pending), (Value.int .i64 b.left), (Value.bool b.stopped)].toArray 25), (some b1, Obj.cells [(Value.slice a_a_sectors a.sectors.length c_a_sectors), (Value.slice a_a_pending a.pending.length c_a_pending), (Value.int .i64 a.left), (Value.bool a.stopped)].toArray 25)] rXWrite (b.pending.getD i_2.toNat default)) (VP.stab _ _) (fun ρ298 w299 g hle hi ht => ?_) ?_
                  ·
                    obtain ⟨-, hst, -⟩ := hle
                    replace f_b_pending := f_b_pending.step hst
                    refine StepOp_g rfl (ht 77 rfl) (op_indexAddr (q := rXWrite) ty23 ty73 (ht 86 rfl) (ht 87 rfl) f_b_pending rfl hc301.1 hc301.2 ?_)
                    intro p302 f303
                    exact Goes.same hi ⟨_, rfl, f303⟩
                  refine Dw_op (VP O [(some b6, Obj.cells [(Value.slice a_b_sectors b.sectors.length c_b_sectors), (Value.slice a_b_pending b.pending.length c_b_pending), (Value.int .i64 b.left), (Value.bool b.stopped)].toArray 25), (some b1, Obj.cells [(Value.slice a_a_sectors a.sectors.length c_a_sectors), (Value.slice a_a_pending a.pending.length c_a_pending), (Value.int .i64 a.left), (Value.bool a.stopped)].toArray 25)] (rSl rU8) ((b.pending.getD i_2.toNat default).data)) (VP.stab _ _) (fun ρ304 w305 g hle hi ht => ?_) ?_
                  ·
                    obtain ⟨-, hst, -⟩ := hle
                    obtain ⟨p307, q308, f309⟩ := ht 88 rfl
                    refine StepOp_g rfl (ht 77 rfl) (op_fieldAddr ty73 rfl ty41 (by decide) q308 rfl ?_)
                    have f310 := f309.via.snd
                    exact Goes.same hi ⟨_, rfl, f310⟩
                  refine Dw_op (VD O [(some b6, Obj.cells [(Value.slice a_b_sectors b.sectors.length c_b_sectors), (Value.slice a_b_pending b.pending.length c_b_pending), (Value.int .i64 b.left), (Value.bool b.stopped)].toArray 25), (some b1, Obj.cells [(Value.slice a_a_sectors a.sectors.length c_a_sectors), (Value.slice a_a_pending a.pending.length c_a_pending), (Value.int .i64 a.left), (Value.bool a.stopped)].toArray 25)] (vC (rSl rU8)) ((b.pending.getD i_2.toNat default).data)) (VD.stab _ _) (fun ρ311 w312 g hle hi ht => ?_) ?_
                  ·
                    obtain ⟨-, hst, -⟩ := hle
                    obtain ⟨p314, q315, f316⟩ := ht 89 rfl
                    refine StepOp_g rfl (ht 77 rfl) (op_loadP ty41 q315 f316 rfl ?_)
                    intro v317 h318
                    obtain ⟨a_y319, c_y319, rfl, f_y319⟩ := un_sl h318
                    exact Goes.same hi (show Vr.vd (vC (rSl rU8)) _ _ _ _ from (mkC (mk_sl f_y319)))
                  refine Dw_eq (Value.string (bs ((b.pending.getD i_2.toNat default).data))) (fun ρ320 w321 g hle hi ht => ?_) ?_
                  ·
                    obtain ⟨-, hst, -⟩ := hle
                    have h323 : Vr.vd (vC (rSl rU8)) _ _ _ _ := ht 90 rfl
                    obtain ⟨a_y325, c_y325, q324, f_y325⟩ := un_sl h323
                    refine StepOp_g rfl (ht 77 rfl) (op_bytesToString ty41 Try.underlying5 Try.underlying9 q324 f_y325 ?_)
                    exact Goes.same hi rfl
                  refine Dw_eq (Value.bool (decide (((a.pending.getD i_2.toNat default).data) ≠ ((b.pending.getD i_2.toNat default).data)))) (fun ρ326 w327 g hle hi ht => ?_) ?_
                  ·
                    obtain ⟨-, hst, -⟩ := hle
                    refine StepOp_g rfl (ht 77 rfl) (op_neqs (a := (a.pending.getD i_2.toNat default).data) (b := (b.pending.getD i_2.toNat default).data) (ht 84 rfl) (ht 91 rfl) ?_)
                    exact Goes.same hi rfl
                  refine Dw_eq (Value.bool (decide (((a.pending.getD i_2.toNat default).data) ≠ ((b.pending.getD i_2.toNat default).data)))) (fun ρ329 w330 g hle hi ht => ?_) ?_
                  ·
                    obtain ⟨-, hst, -⟩ := hle
                    refine StepOp_plain (op_pick_f (v := (Value.bool (decide (((a.pending.getD i_2.toNat default).data) ≠ ((b.pending.getD i_2.toNat default).data))))) (ht 77 rfl) (ht 92 rfl) ?_)
                    exact Goes.same hi rfl
                  refine Dw_nil fun w336 g337 hl338 hi339 => ?_
                  obtain ⟨-, hst340, -⟩ := hl338
                  obtain ⟨hs342, p341⟩ := Step.nx hi339
                  rintro _ rfl
                  rintro _ rfl
                  rintro _ rfl
                  rintro v343 h344
                  replace h344 : Vr.vd (vC (rSl rU8)) _ _ _ _ := h344
                  obtain ⟨a_y345, c_y345, rfl, f_y345⟩ := un_sl h344
                  rintro _ ⟨p346, rfl, f347⟩
                  rintro _ ⟨p348, rfl, f349⟩
                  rintro _ rfl
                  rintro _ rfl
                  rintro _ rfl
                  rintro _ rfl
                  rintro v350 h351
                  replace h351 : Vr.vd (vC (rSl rU8)) _ _ _ _ := h351
                  obtain ⟨a_y352, c_y352, rfl, f_y352⟩ := un_sl h351
                  rintro _ ⟨p353, rfl, f354⟩
                  rintro _ ⟨p355, rfl, f356⟩
                  rintro _ rfl
                  rintro _ rfl
                  rintro _ rfl
                  rintro _ rfl
                  rintro _ rfl
                  rintro v357 h358
                  replace h358 : Vr.vd (vI .i64) _ _ _ _ := h358
                  obtain ⟨rfl, r_y359⟩ := h358
                  rintro _ ⟨p360, rfl, f361⟩
                  rintro _ ⟨p362, rfl, f363⟩
                  rintro _ rfl
                  rintro _ rfl
                  rintro _ rfl
                  rintro v364 h365
                  replace h365 : Vr.vd (vI .i64) _ _ _ _ := h365
                  obtain ⟨rfl, r_y366⟩ := h365
                  rintro _ ⟨p367, rfl, f368⟩
                  rintro _ ⟨p369, rfl, f370⟩
                  rintro _ rfl
                  rintro _ rfl
                  rintro _ rfl
                  have p371 : Step (ks [(some b6, Obj.cells [(Value.slice a_b_sectors b.sectors.length c_b_sectors), (Value.slice a_b_pending b.pending.length c_b_pending), (Value.int .i64 b.left), (Value.bool b.stopped)].toArray 25), (some b1, Obj.cells [(Value.slice a_a_sectors a.sectors.length c_a_sectors), (Value.slice a_a_pending a.pending.length c_a_pending), (Value.int .i64 a.left), (Value.bool a.stopped)].toArray 25)] O) w129 (ks [(some b6, Obj.cells [(Value.slice a_b_sectors b.sectors.length c_b_sectors), (Value.slice a_b_pending b.pending.length c_b_pending), (Value.int .i64 b.left), (Value.bool b.stopped)].toArray 25), (some b1, Obj.cells [(Value.slice a_a_sectors a.sectors.length c_a_sectors), (Value.slice a_a_pending a.pending.length c_a_pending), (Value.int .i64 a.left), (Value.bool a.stopped)].toArray 25)] O) w336 := hst340.trans p341
                  replace f_y345 := f_y345.step p341
                  replace f347 := f347.step p341
                  replace f349 := f349.step p341
                  replace f_y352 := f_y352.step p341
                  replace f354 := f354.step p341
                  replace f356 := f356.step p341
                  replace f361 := f361.step p341
                  replace f363 := f363.step p341
                  replace f368 := f368.step p341
                  replace f370 := f370.step p341
                  replace f_a_sectors := f_a_sectors.step p371
                  replace f_a_pending := f_a_pending.step p371
                  replace f_b_sectors := f_b_sectors.step p371
                  replace f_b_pending := f_b_pending.step p371
                  replace ch35 := ch35.trans p371
                  replace ch134 := ch134.trans p371
                  replace ch147 := ch147.trans p371
                  clear p371 hs130
                  refine Rg_nil ?_
                  exact hK140 _ _ ⟨(decide (((a.pending.getD i_2.toNat default).data) ≠ ((b.pending.getD i_2.toNat default).data))), _, rfl, ⟨(by repeat (first | with_reducible exact Out.refl _ _ | refine Out.upd ?_ rfl | refine Out.updL ?_ rfl | refine Out.mix' ?_ rfl | exact Out.refl _ _)), rfl, rfl, trivial⟩, ch147, hs342, hm⟩
            ·
              replace hm := bif_f hm hc135
              refine Wp_exit ?_
              refine Wp_seq ?_
              obtain ⟨hs372, p373⟩ := hs130.sub (bs' := []) (.cons _ (.cons _ List.Sublist.slnil))
              clear f_a_sectors f_a_pending f_b_sectors f_b_pending
              replace ch35 := ch35.trans p373
              replace ch134 := ch134.trans p373
              clear p373 hs130
              refine Wp_region ?_  -- 13 ref.go:128
              refine Rg_op rfl (op_assign (v := (Value.bool true)) rfl ?_)
              refine Rg_nil ?_
              refine Wp_ret ?_
              have hz := step_all hs372
              refine ⟨_, (show Closes [] _ _ from rfl), [(Value.bool true)], ⟨rfl, trivial⟩, hs372.ext, ?_⟩
              exact Vr.eq (a := vB) (x := true) rfl (Option.some.inj hm)
  ·
    intro K15 hK15
    have ch374 := Step.refl (ks [(some b6, Obj.cells [(Value.slice a_b_sectors b.sectors.length c_b_sectors), (Value.slice a_b_pending b.pending.length c_b_pending), (Value.int .i64 b.left), (Value.bool b.stopped)].toArray 25), (some b1, Obj.cells [(Value.slice a_a_sectors a.sectors.length c_a_sectors), (Value.slice a_a_pending a.pending.length c_a_pending), (Value.int .i64 a.left), (Value.bool a.stopped)].toArray 25)] O) w7
    refine Wp_region ?_  -- 1 ref.go:115
    refine Rg_op rfl (op_fieldAddr ty25 rfl ty22 (by decide) rfl (rfl : _ = (⟨_, 0, none⟩ : Addr)) ?_)
    refine Rg_op rfl (op_load (cs := [(Value.slice a_a_sectors a.sectors.length c_a_sectors), (Value.slice a_a_pending a.pending.length c_a_pending), (Value.int .i64 a.left), (Value.bool a.stopped)]) (i := 1) ty22 hs9 rfl rfl rfl ?_)
    refine Rg_op rfl (op_len Try.underlying22 rfl ?_)
    refine Rg_op rfl (op_fieldAddr ty25 rfl ty22 (by decide) rfl (rfl : _ = (⟨_, 0, none⟩ : Addr)) ?_)
    refine Rg_op rfl (op_load (cs := [(Value.slice a_b_sectors b.sectors.length c_b_sectors), (Value.slice a_b_pending b.pending.length c_b_pending), (Value.int .i64 b.left), (Value.bool b.stopped)]) (i := 0) ty22 hs9 rfl rfl rfl ?_)
    refine Rg_op rfl (op_len Try.underlying22 rfl ?_)
    refine Rg_op rfl (op_neq rfl rfl ?_)
    refine Rg_op rfl (op_move (v := (Value.bool (decide ((a.sectors.length : Int) ≠ (b.sectors.length : Int))))) rfl ?_)
    refine Rg_case (fun hg375 => ?_) (fun hg375 => ?_)
    ·
      replace hm := bif_t hm hg375
      refine Rg_opx rfl (asB_ne rfl rfl) rfl ?_
      refine Rg_opx rfl (asB_ne rfl rfl) rfl ?_
      refine Rg_opx rfl (asB_ne rfl rfl) rfl ?_
      refine Rg_opx rfl (asB_ne rfl rfl) rfl ?_
      refine Rg_opx rfl (asB_ne rfl rfl) rfl ?_
      refine Rg_opx rfl (asB_ne rfl rfl) rfl ?_
      refine Rg_opx rfl (asB_ne rfl rfl) rfl ?_
      refine Rg_op rfl (op_pick_t (v := (Value.bool true)) rfl rfl ?_)
      refine Rg_op rfl (op_move (v := (Value.bool true)) rfl ?_)
      refine Rg_opx rfl (asB_ne rfl rfl) rfl ?_
      refine Rg_opx rfl (asB_ne rfl rfl) rfl ?_
      refine Rg_opx rfl (asB_ne rfl rfl) rfl ?_
      refine Rg_opx rfl (asB_ne rfl rfl) rfl ?_
      refine Rg_opx rfl (asB_ne rfl rfl) rfl ?_
      refine Rg_op rfl (op_pick_t (v := (Value.bool true)) rfl rfl ?_)
      refine Rg_op rfl (op_move (v := (Value.bool true)) rfl ?_)
      refine Rg_opx rfl (asB_ne rfl rfl) rfl ?_
      refine Rg_opx rfl (asB_ne rfl rfl) rfl ?_
      refine Rg_opx rfl (asB_ne rfl rfl) rfl ?_
      refine Rg_opx rfl (asB_ne rfl rfl) rfl ?_
      refine Rg_opx rfl (asB_ne rfl rfl) rfl ?_
      refine Rg_op rfl (op_pick_t (v := (Value.bool true)) rfl rfl ?_)
      refine Rg_nil ?_
      exact hK15 _ _ ⟨true, _, rfl, ⟨(by repeat (first | with_reducible exact Out.refl _ _ | refine Out.upd ?_ rfl | refine Out.updL ?_ rfl | refine Out.mix' ?_ rfl | exact Out.refl _ _)), rfl, rfl, trivial⟩, ch374, hs9, hm⟩
    ·
      replace hm := bif_f hm hg375
      refine Rg_opg rfl rfl rfl (op_fieldAddr ty25 rfl ty23 (by decide) rfl (rfl : _ = (⟨_, 1, none⟩ : Addr)) ?_)
      refine Rg_opg rfl rfl rfl (op_load (cs := [(Value.slice a_a_sectors a.sectors.length c_a_sectors), (Value.slice a_a_pending a.pending.length c_a_pending), (Value.int .i64 a.left), (Value.bool a.stopped)]) (i := 1) ty23 hs9 rfl rfl rfl ?_)
      refine Rg_opg rfl rfl rfl (op_len Try.underlying23 rfl ?_)
      refine Rg_opg rfl rfl rfl (op_fieldAddr ty25 rfl ty23 (by decide) rfl (rfl : _ = (⟨_, 1, none⟩ : Addr)) ?_)
      refine Rg_opg rfl rfl rfl (op_load (cs := [(Value.slice a_b_sectors b.sectors.length c_b_sectors), (Value.slice a_b_pending b.pending.length c_b_pending), (Value.int .i64 b.left), (Value.bool b.stopped)]) (i := 0) ty23 hs9 rfl rfl rfl ?_)
      refine Rg_opg rfl rfl rfl (op_len Try.underlying23 rfl ?_)
      refine Rg_opg rfl rfl rfl (op_neq rfl rfl ?_)
      refine Rg_op rfl (op_pick_f (v := (Value.bool (decide ((a.pending.length : Int) ≠ (b.pending.length : Int))))) rfl rfl ?_)
      refine Rg_op rfl (op_move (v := (Value.bool (decide ((a.pending.length : Int) ≠ (b.pending.length : Int))))) rfl ?_)
      refine Rg_case (fun hg376 => ?_) (fun hg376 => ?_)
      ·
        replace hm := bif_t hm hg376
        refine Rg_opx rfl (asB_ne rfl rfl) rfl ?_
        refine Rg_opx rfl (asB_ne rfl rfl) rfl ?_
        refine Rg_opx rfl (asB_ne rfl rfl) rfl ?_
        refine Rg_opx rfl (asB_ne rfl rfl) rfl ?_
        refine Rg_opx rfl (asB_ne rfl rfl) rfl ?_
        refine Rg_op rfl (op_pick_t (v := (Value.bool true)) rfl rfl ?_)
        refine Rg_op rfl (op_move (v := (Value.bool true)) rfl ?_)
        refine Rg_opx rfl (asB_ne rfl rfl) rfl ?_
        refine Rg_opx rfl (asB_ne rfl rfl) rfl ?_
        refine Rg_opx rfl (asB_ne rfl rfl) rfl ?_
        refine Rg_opx rfl (asB_ne rfl rfl) rfl ?_
        refine Rg_opx rfl (asB_ne rfl rfl) rfl ?_
        refine Rg_op rfl (op_pick_t (v := (Value.bool true)) rfl rfl ?_)
        refine Rg_nil ?_
        exact hK15 _ _ ⟨true, _, rfl, ⟨(by repeat (first | with_reducible exact Out.refl _ _ | refine Out.upd ?_ rfl | refine Out.updL ?_ rfl | refine Out.mix' ?_ rfl | exact Out.refl _ _)), rfl, rfl, trivial⟩, ch374, hs9, hm⟩
      ·
        replace hm := bif_f hm hg376
        refine Rg_opg rfl rfl rfl (op_fieldAddr ty25 rfl ty3 (by decide) rfl (rfl : _ = (⟨_, 2, none⟩ : Addr)) ?_)
        refine Rg_opg rfl rfl rfl (op_load (cs := [(Value.slice a_a_sectors a.sectors.length c_a_sectors), (Value.slice a_a_pending a.pending.length c_a_pending), (Value.int .i64 a.left), (Value.bool a.stopped)]) (i := 1) ty3 hs9 rfl rfl rfl ?_)
        refine Rg_opg rfl rfl rfl (op_fieldAddr ty25 rfl ty3 (by decide) rfl (rfl : _ = (⟨_, 2, none⟩ : Addr)) ?_)
        refine Rg_opg rfl rfl rfl (op_load (cs := [(Value.slice a_b_sectors b.sectors.length c_b_sectors), (Value.slice a_b_pending b.pending.length c_b_pending), (Value.int .i64 b.left), (Value.bool b.stopped)]) (i := 0) ty3 hs9 rfl rfl rfl ?_)
        refine Rg_opg rfl rfl rfl (op_neq rfl rfl ?_)
        refine Rg_op rfl (op_pick_f (v := (Value.bool (decide (a.left ≠ b.left)))) rfl rfl ?_)
        refine Rg_op rfl (op_move (v := (Value.bool (decide (a.left ≠ b.left)))) rfl ?_)
        refine Rg_case (fun hg377 => ?_) (fun hg377 => ?_)
        ·
          replace hm := bif_t hm hg377
          refine Rg_opx rfl (asB_ne rfl rfl) rfl ?_
          refine Rg_opx rfl (asB_ne rfl rfl) rfl ?_
          refine Rg_opx rfl (asB_ne rfl rfl) rfl ?_
          refine Rg_opx rfl (asB_ne rfl rfl) rfl ?_
          refine Rg_opx rfl (asB_ne rfl rfl) rfl ?_
          refine Rg_op rfl (op_pick_t (v := (Value.bool true)) rfl rfl ?_)
          refine Rg_nil ?_
          exact hK15 _ _ ⟨true, _, rfl, ⟨(by repeat (first | with_reducible exact Out.refl _ _ | refine Out.upd ?_ rfl | refine Out.updL ?_ rfl | refine Out.mix' ?_ rfl | exact Out.refl _ _)), rfl, rfl, trivial⟩, ch374, hs9, hm⟩
        ·
          replace hm := bif_f hm hg377
          refine Rg_opg rfl rfl rfl (op_fieldAddr ty25 rfl ty4 (by decide) rfl (rfl : _ = (⟨_, 3, none⟩ : Addr)) ?_)
          refine Rg_opg rfl rfl rfl (op_load (cs := [(Value.slice a_a_sectors a.sectors.length c_a_sectors), (Value.slice a_a_pending a.pending.length c_a_pending), (Value.int .i64 a.left), (Value.bool a.stopped)]) (i := 1) ty4 hs9 rfl rfl rfl ?_)
          refine Rg_opg rfl rfl rfl (op_fieldAddr ty25 rfl ty4 (by decide) rfl (rfl : _ = (⟨_, 3, none⟩ : Addr)) ?_)
          refine Rg_opg rfl rfl rfl (op_load (cs := [(Value.slice a_b_sectors b.sectors.length c_b_sectors), (Value.slice a_b_pending b.pending.length c_b_pending), (Value.int .i64 b.left), (Value.bool b.stopped)]) (i := 0) ty4 hs9 rfl rfl rfl ?_)
          refine Rg_opg rfl rfl rfl (op_neqb Try.underlying4 rfl rfl ?_)
          refine Rg_op rfl (op_pick_f (v := (Value.bool (!(a.stopped == b.stopped)))) rfl rfl ?_)
          refine Rg_nil ?_
          exact hK15 _ _ ⟨(!(a.stopped == b.stopped)), _, rfl, ⟨(by repeat (first | with_reducible exact Out.refl _ _ | refine Out.upd ?_ rfl | refine Out.updL ?_ rfl | refine Out.mix' ?_ rfl | exact Out.refl _ _)), rfl, rfl, trivial⟩, ch374, hs9, hm⟩

end Go.Fx

