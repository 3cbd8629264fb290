/- Part 4 of the proof: for every list of writes and syncs and every number, the law DiskHistory of chapter 44 returns true. -/
import Derived.Test.YtegomkljijgjjaaHist3
set_option linter.unusedVariables false
set_option linter.unusedSimpArgs false
set_option maxRecDepth 100000
set_option maxHeartbeats 0
namespace Go.Fx
open Go Go.RowKit Go.Proofs
def m13_overflightlaw44_sane : Option Bool :=
  (m15_disk_New 0).bind fun new_1 =>
  (m15_disk_New 2).bind fun new_2 =>
  (m23_disk_Write new_2.1 1 [7]).bind fun write_1 =>
  (m27_disk_Read write_1.1 1).bind fun read_1 =>
  (m27_disk_Read new_2.1 2).bind fun read_2 =>
  ck ((0 : Int) ≤ (129 : Int) ∧ (129 : Int) ≤ (129 : Int) ∧ (1 : Int) * 129 ≤ 281474976710656 ∧ (129 : Int) ≤ 281474976710656) <|
  (m23_disk_Write new_2.1 0 (List.replicate 129 (0 : UInt8))).bind fun write_2 =>
  (m22_disk_Stop write_1.1 1).bind fun stop_1 =>
  (m24_overflightlaw44_double 8).bind fun double_1 =>
  (m23_disk_Write stop_1.1 0 double_1).bind fun write_3 =>
  (m25_disk_Sync write_3.1).bind fun sync_1 =>
  jn (fun (v_1 : Bool) =>
    bif v_1 then
      some false
    else
      (m20_disk_Restart sync_1.1).bind fun restart_1 =>
      (m27_disk_Read restart_1 1).bind fun read_3 =>
      (m27_disk_Read restart_1 0).bind fun read_4 =>
      (m20_disk_Restart write_1.1).bind fun restart_2 =>
      (m27_disk_Read restart_2 1).bind fun read_5 =>
      jn (fun (v_2 : Bool) =>
        some v_2)
      (fun k435 =>
        bif (decide (read_3.2 = 0)) then
          bif (decide (read_4.2 = 0)) then
            bif (decide (read_5.2 = 0)) then
              bif (decide ((read_1.1.length : Int) = 128)) then
                ck ((0 : Int) ≤ 0 ∧ 0 < (read_1.1.length : Int)) <|
                bif (decide (((read_1.1.getD 0 default).toNat : Int) = 7)) then
                  bif (decide ((read_3.1.length : Int) = 128)) then
                    ck ((0 : Int) ≤ 0 ∧ 0 < (read_3.1.length : Int)) <|
                    bif (decide (((read_3.1.getD 0 default).toNat : Int) = 7)) then
                      bif (decide ((read_4.1.length : Int) = 128)) then
                        ck ((0 : Int) ≤ 0 ∧ 0 < (read_4.1.length : Int)) <|
                        bif (decide (((read_4.1.getD 0 default).toNat : Int) = 8)) then
                          ck ((0 : Int) ≤ 64 ∧ 64 < (read_4.1.length : Int)) <|
                          bif (decide (((read_4.1.getD 64 default).toNat : Int) = 0)) then
                            bif (decide ((read_5.1.length : Int) = 128)) then
                              ck ((0 : Int) ≤ 0 ∧ 0 < (read_5.1.length : Int)) <|
                              bif (decide (((read_5.1.getD 0 default).toNat : Int) = 0)) then
                                (m18_disk_Check (⟨([] : List (List UInt8)), ([] : List XWrite), 0, false⟩ : XDisk)).bind fun check_1 =>
                                bif (decide (check_1 = 440)) then
                                  (m20_disk_Restart (⟨([] : List (List UInt8)), ([] : List XWrite), 0, false⟩ : XDisk)).bind fun restart_3 =>
                                  k435 (decide (restart_3.left = (-1)))
                                else
                                  k435 false
                              else
                                k435 false
                            else
                              k435 false
                          else
                            k435 false
                        else
                          k435 false
                      else
                        k435 false
                    else
                      k435 false
                  else
                    k435 false
                else
                  k435 false
              else
                k435 false
            else
              k435 false
          else
            k435 false
        else
          k435 false))
  (fun k359 =>
    bif (decide (new_1.2 ≠ 1)) then
      k359 true
    else
      bif (decide (new_2.2 ≠ 0)) then
        k359 true
      else
        bif (decide (write_1.2 ≠ 0)) then
          k359 true
        else
          bif (decide (read_1.2 ≠ 0)) then
            k359 true
          else
            bif (decide (read_2.2 ≠ 440)) then
              k359 true
            else
              bif (decide (write_2.2 ≠ 1)) then
                k359 true
              else
                bif (decide (stop_1.2 ≠ 0)) then
                  k359 true
                else
                  bif (decide (write_3.2 ≠ 0)) then
                    k359 true
                  else
                    bif (decide (sync_1.2 ≠ 440)) then
                      k359 true
                    else
                      k359 (!sync_1.1.stopped))

theorem c13_overflightlaw44_sane {w : World} {O : List Nat} (hO : ∀ k ∈ O, k < w.heap.size) {x : Bool} (hm : m13_overflightlaw44_sane = some x) :
    Ok Try.prog 13 [] w O vB x := by
  unfold m13_overflightlaw44_sane at hm
  refine Fn_of_Wp (n := 198) (xs := [.tmp 0]) Try.func13 rfl Try.ntmps13 Try.results13 rfl ?_
  have hs := St.start hO
  refine Wp_seq ?_
  refine Wp_region ?_  -- 0 law.go:11
  refine Rg_op rfl (op_assign (v := (Value.bool false)) rfl ?_)
  refine Rg_nil ?_
  refine Wp_seq ?_
  refine Wp_region ?_  -- 1 law.go:12
  replace hm := bd hm; obtain ⟨new_1, hv1, hm⟩ := hm
  refine Rg_op rfl (op_call Try.call15 (c15_disk_New (sectors := 0) hs.ltw (show InK .i64 0 from by decide) hv1) rfl ?_)
  rintro v2 w3 ⟨hx4, h5⟩
  have hs6 := hs.call hx4
  have p7 := Step.ext (O := ks [] O) hx4
  clear hx4
  clear p7
  obtain ⟨v8, v9, rfl, h10, h11⟩ := h5
  obtain ⟨_, rfl, ⟨_, _, rfl, ⟨a_y12_sectors, c_y12_sectors, rfl, f_y12_sectors⟩, ⟨_, _, rfl, ⟨a_y12_pending, c_y12_pending, rfl, f_y12_pending⟩, ⟨_, _, rfl, ⟨rfl, r_y12_left⟩, rfl⟩⟩⟩⟩ := h10
  obtain ⟨rfl, r_y13⟩ := h11
  refine Rg_op rfl (op_move (v := (Value.tuple [(Value.agg [(Value.slice a_y12_sectors new_1.1.sectors.length c_y12_sectors), (Value.slice a_y12_pending new_1.1.pending.length c_y12_pending), (Value.int .i64 new_1.1.left), (Value.bool new_1.1.stopped)].toArray), (Value.int .i64 new_1.2)].toArray)) rfl ?_)
  refine Rg_op rfl (op_extract (v := (Value.agg [(Value.slice a_y12_sectors new_1.1.sectors.length c_y12_sectors), (Value.slice a_y12_pending new_1.1.pending.length c_y12_pending), (Value.int .i64 new_1.1.left), (Value.bool new_1.1.stopped)].toArray)) rfl rfl ?_)
  refine Rg_op rfl (op_extract (v := (Value.int .i64 new_1.2)) rfl rfl ?_)
  refine Rg_op rfl (op_alloc ty25 hs6 ?_)
  intro b14 w15 _ p16 hs17
  replace f_y12_sectors := f_y12_sectors.step p16
  replace f_y12_pending := f_y12_pending.step p16
  clear p16 hs6
  refine Rg_op_ (op_store (cs := [(Value.slice none 0 0), (Value.slice none 0 0), (Value.int .i64 0), (Value.bool false)]) (vs := [(Value.slice a_y12_sectors new_1.1.sectors.length c_y12_sectors), (Value.slice a_y12_pending new_1.1.pending.length c_y12_pending), (Value.int .i64 new_1.1.left), (Value.bool new_1.1.stopped)]) (cs' := [(Value.slice a_y12_sectors new_1.1.sectors.length c_y12_sectors), (Value.slice a_y12_pending new_1.1.pending.length c_y12_pending), (Value.int .i64 new_1.1.left), (Value.bool new_1.1.stopped)]) (bs' := [(some b14, Obj.cells [(Value.slice a_y12_sectors new_1.1.sectors.length c_y12_sectors), (Value.slice a_y12_pending new_1.1.pending.length c_y12_pending), (Value.int .i64 new_1.1.left), (Value.bool new_1.1.stopped)].toArray 25)]) (i := 0) ty25 hs17 rfl rfl rfl rfl rfl (le_lit rfl) rfl rfl rfl ?_)
  intro w19 p20 hs21
  replace f_y12_sectors := f_y12_sectors.step p20
  replace f_y12_pending := f_y12_pending.step p20
  clear p20 hs17
  refine Rg_op rfl (op_assign (v := (Value.int .i64 new_1.2)) rfl ?_)
  refine Rg_nil ?_
  refine Wp_seq ?_
  obtain ⟨hs22, p23⟩ := hs21.sub (bs' := []) (.cons _ List.Sublist.slnil)
  clear f_y12_sectors f_y12_pending
  clear p23 hs21
  refine Wp_region ?_  -- 2 law.go:13
  replace hm := bd hm; obtain ⟨new_2, hv24, hm⟩ := hm
  refine Rg_op rfl (op_call Try.call15 (c15_disk_New (sectors := 2) hs22.ltw (show InK .i64 2 from by decide) hv24) rfl ?_)
  rintro v25 w26 ⟨hx27, h28⟩
  have hs29 := hs22.call hx27
  have p30 := Step.ext (O := ks [] O) hx27
  clear hx27
  clear p30 hs22
  obtain ⟨v31, v32, rfl, h33, h34⟩ := h28
  obtain ⟨_, rfl, ⟨_, _, rfl, ⟨a_y35_sectors, c_y35_sectors, rfl, f_y35_sectors⟩, ⟨_, _, rfl, ⟨a_y35_pending, c_y35_pending, rfl, f_y35_pending⟩, ⟨_, _, rfl, ⟨rfl, r_y35_left⟩, rfl⟩⟩⟩⟩ := h33
  obtain ⟨rfl, r_y36⟩ := h34
  refine Rg_op rfl (op_move (v := (Value.tuple [(Value.agg [(Value.slice a_y35_sectors new_2.1.sectors.length c_y35_sectors), (Value.slice a_y35_pending new_2.1.pending.length c_y35_pending), (Value.int .i64 new_2.1.left), (Value.bool new_2.1.stopped)].toArray), (Value.int .i64 new_2.2)].toArray)) rfl ?_)
  refine Rg_op rfl (op_extract (v := (Value.agg [(Value.slice a_y35_sectors new_2.1.sectors.length c_y35_sectors), (Value.slice a_y35_pending new_2.1.pending.length c_y35_pending), (Value.int .i64 new_2.1.left), (Value.bool new_2.1.stopped)].toArray)) rfl rfl ?_)
  refine Rg_op rfl (op_extract (v := (Value.int .i64 new_2.2)) rfl rfl ?_)
  refine Rg_op rfl (op_alloc ty25 hs29 ?_)
  intro b37 w38 _ p39 hs40
  replace f_y35_sectors := f_y35_sectors.step p39
  replace f_y35_pending := f_y35_pending.step p39
  clear p39 hs29
  refine Rg_op_ (op_store (cs := [(Value.slice none 0 0), (Value.slice none 0 0), (Value.int .i64 0), (Value.bool false)]) (vs := [(Value.slice a_y35_sectors new_2.1.sectors.length c_y35_sectors), (Value.slice a_y35_pending new_2.1.pending.length c_y35_pending), (Value.int .i64 new_2.1.left), (Value.bool new_2.1.stopped)]) (cs' := [(Value.slice a_y35_sectors new_2.1.sectors.length c_y35_sectors), (Value.slice a_y35_pending new_2.1.pending.length c_y35_pending), (Value.int .i64 new_2.1.left), (Value.bool new_2.1.stopped)]) (bs' := [(some b37, Obj.cells [(Value.slice a_y35_sectors new_2.1.sectors.length c_y35_sectors), (Value.slice a_y35_pending new_2.1.pending.length c_y35_pending), (Value.int .i64 new_2.1.left), (Value.bool new_2.1.stopped)].toArray 25)]) (i := 0) ty25 hs40 rfl rfl rfl rfl rfl (le_lit rfl) rfl rfl rfl ?_)
  intro w42 p43 hs44
  replace f_y35_sectors := f_y35_sectors.step p43
  replace f_y35_pending := f_y35_pending.step p43
  clear p43 hs40
  refine Rg_op rfl (op_assign (v := (Value.int .i64 new_2.2)) rfl ?_)
  refine Rg_nil ?_
  refine Wp_seq ?_
  refine Wp_region ?_  -- 3 law.go:14
  refine Rg_op rfl (op_loadA (cs := [(Value.slice a_y35_sectors new_2.1.sectors.length c_y35_sectors), (Value.slice a_y35_pending new_2.1.pending.length c_y35_pending), (Value.int .i64 new_2.1.left), (Value.bool new_2.1.stopped)]) (vs := [(Value.slice a_y35_sectors new_2.1.sectors.length c_y35_sectors), (Value.slice a_y35_pending new_2.1.pending.length c_y35_pending), (Value.int .i64 new_2.1.left), (Value.bool new_2.1.stopped)]) (i := 0) ty25 hs44 rfl rfl rfl rfl ?_)
  refine Rg_op rfl (op_buildSlice (cs := [(Value.int .u8 7)]) (parts := [(0, .const (.int .u8 7))]) ty41 ty5 hs44 (by decide) rfl ?_)
  intro b45 w46 hx49 p47 hs48
  replace f_y35_sectors := f_y35_sectors.step p47
  replace f_y35_pending := f_y35_pending.step p47
  clear p47 hs44
  obtain ⟨hs52, p53, f51⟩ := St.publish (i := 0) (o := 0) (c := 1) (xs := [7]) hs48 rfl (show Els rU8 _ _ [(Value.int .u8 7)] [7] from ⟨_, _, rfl, (mk_u8 (show InK .u8 7 from by decide)), Els.nil⟩) (le_lit rfl) (le_lit rfl) (le_lit rfl)
  replace f_y35_sectors := f_y35_sectors.step p53
  replace f_y35_pending := f_y35_pending.step p53
  clear p53 hs48
  replace hm := bd hm; obtain ⟨write_1, hv54, hm⟩ := hm
  refine Rg_op rfl (op_call Try.call23 (c23_disk_Write (d := new_2.1) (at_ := 1) (b := [7]) hs52.ltw f_y35_sectors f_y35_pending r_y35_left (show InK .i64 1 from by decide) f51 hv54) rfl ?_)
  rintro v55 w56 ⟨hx57, h58⟩
  have hs59 := hs52.call hx57
  have p60 := Step.ext (O := ks [(some b37, Obj.cells [(Value.slice a_y35_sectors new_2.1.sectors.length c_y35_sectors), (Value.slice a_y35_pending new_2.1.pending.length c_y35_pending), (Value.int .i64 new_2.1.left), (Value.bool new_2.1.stopped)].toArray 25)] O) hx57
  clear hx57
  replace f_y35_sectors := f_y35_sectors.step p60
  replace f_y35_pending := f_y35_pending.step p60
  replace f51 := f51.step p60
  clear p60 hs52
  obtain ⟨v61, v62, rfl, h63, h64⟩ := h58
  obtain ⟨_, rfl, ⟨_, _, rfl, ⟨a_y65_sectors, c_y65_sectors, rfl, f_y65_sectors⟩, ⟨_, _, rfl, ⟨a_y65_pending, c_y65_pending, rfl, f_y65_pending⟩, ⟨_, _, rfl, ⟨rfl, r_y65_left⟩, rfl⟩⟩⟩⟩ := h63
  obtain ⟨rfl, r_y66⟩ := h64
  refine Rg_op rfl (op_move (v := (Value.tuple [(Value.agg [(Value.slice a_y65_sectors write_1.1.sectors.length c_y65_sectors), (Value.slice a_y65_pending write_1.1.pending.length c_y65_pending), (Value.int .i64 write_1.1.left), (Value.bool write_1.1.stopped)].toArray), (Value.int .i64 write_1.2)].toArray)) rfl ?_)
  refine Rg_op rfl (op_extract (v := (Value.agg [(Value.slice a_y65_sectors write_1.1.sectors.length c_y65_sectors), (Value.slice a_y65_pending write_1.1.pending.length c_y65_pending), (Value.int .i64 write_1.1.left), (Value.bool write_1.1.stopped)].toArray)) rfl rfl ?_)
  refine Rg_op rfl (op_extract (v := (Value.int .i64 write_1.2)) rfl rfl ?_)
  refine Rg_op rfl (op_alloc ty25 hs59 ?_)
  intro b67 w68 _ p69 hs70
  replace f_y35_sectors := f_y35_sectors.step p69
  replace f_y35_pending := f_y35_pending.step p69
  replace f51 := f51.step p69
  replace f_y65_sectors := f_y65_sectors.step p69
  replace f_y65_pending := f_y65_pending.step p69
  clear p69 hs59
  refine Rg_op_ (op_store (cs := [(Value.slice none 0 0), (Value.slice none 0 0), (Value.int .i64 0), (Value.bool false)]) (vs := [(Value.slice a_y65_sectors write_1.1.sectors.length c_y65_sectors), (Value.slice a_y65_pending write_1.1.pending.length c_y65_pending), (Value.int .i64 write_1.1.left), (Value.bool write_1.1.stopped)]) (cs' := [(Value.slice a_y65_sectors write_1.1.sectors.length c_y65_sectors), (Value.slice a_y65_pending write_1.1.pending.length c_y65_pending), (Value.int .i64 write_1.1.left), (Value.bool write_1.1.stopped)]) (bs' := [(some b67, Obj.cells [(Value.slice a_y65_sectors write_1.1.sectors.length c_y65_sectors), (Value.slice a_y65_pending write_1.1.pending.length c_y65_pending), (Value.int .i64 write_1.1.left), (Value.bool write_1.1.stopped)].toArray 25), (some b37, Obj.cells [(Value.slice a_y35_sectors new_2.1.sectors.length c_y35_sectors), (Value.slice a_y35_pending new_2.1.pending.length c_y35_pending), (Value.int .i64 new_2.1.left), (Value.bool new_2.1.stopped)].toArray 25)]) (i := 0) ty25 hs70 rfl rfl rfl rfl rfl (le_lit rfl) rfl rfl rfl ?_)
  intro w72 p73 hs74
  replace f_y35_sectors := f_y35_sectors.step p73
  replace f_y35_pending := f_y35_pending.step p73
  replace f51 := f51.step p73
  replace f_y65_sectors := f_y65_sectors.step p73
  replace f_y65_pending := f_y65_pending.step p73
  clear p73 hs70
  refine Rg_op rfl (op_assign (v := (Value.int .i64 write_1.2)) rfl ?_)
  refine Rg_nil ?_
  refine Wp_seq ?_
  clear f51
  refine Wp_region ?_  -- 4 law.go:15
  refine Rg_op rfl (op_loadA (cs := [(Value.slice a_y65_sectors write_1.1.sectors.length c_y65_sectors), (Value.slice a_y65_pending write_1.1.pending.length c_y65_pending), (Value.int .i64 write_1.1.left), (Value.bool write_1.1.stopped)]) (vs := [(Value.slice a_y65_sectors write_1.1.sectors.length c_y65_sectors), (Value.slice a_y65_pending write_1.1.pending.length c_y65_pending), (Value.int .i64 write_1.1.left), (Value.bool write_1.1.stopped)]) (i := 0) ty25 hs74 rfl rfl rfl rfl ?_)
  replace hm := bd hm; obtain ⟨read_1, hv75, hm⟩ := hm
  refine Rg_op rfl (op_call Try.call27 (c27_disk_Read (d := write_1.1) (at_ := 1) hs74.ltw f_y65_sectors f_y65_pending r_y65_left (show InK .i64 1 from by decide) hv75) rfl ?_)
  rintro v76 w77 ⟨hx78, h79⟩
  have hs80 := hs74.call hx78
  have p81 := Step.ext (O := ks [(some b67, Obj.cells [(Value.slice a_y65_sectors write_1.1.sectors.length c_y65_sectors), (Value.slice a_y65_pending write_1.1.pending.length c_y65_pending), (Value.int .i64 write_1.1.left), (Value.bool write_1.1.stopped)].toArray 25), (some b37, Obj.cells [(Value.slice a_y35_sectors new_2.1.sectors.length c_y35_sectors), (Value.slice a_y35_pending new_2.1.pending.length c_y35_pending), (Value.int .i64 new_2.1.left), (Value.bool new_2.1.stopped)].toArray 25)] O) hx78
  clear hx78
  replace f_y35_sectors := f_y35_sectors.step p81
  replace f_y35_pending := f_y35_pending.step p81
  replace f_y65_sectors := f_y65_sectors.step p81
  replace f_y65_pending := f_y65_pending.step p81
  clear p81 hs74
  obtain ⟨v82, v83, rfl, h84, h85⟩ := h79
  obtain ⟨a_y86, c_y86, rfl, f_y86⟩ := un_sl h84
  obtain ⟨rfl, r_y87⟩ := h85
  refine Rg_op rfl (op_move (v := (Value.tuple [(Value.slice a_y86 read_1.1.length c_y86), (Value.int .i64 read_1.2)].toArray)) rfl ?_)
  refine Rg_op rfl (op_extract (v := (Value.slice a_y86 read_1.1.length c_y86)) rfl rfl ?_)
  refine Rg_op rfl (op_extract (v := (Value.int .i64 read_1.2)) rfl rfl ?_)
  refine Rg_op rfl (op_assign (v := (Value.slice a_y86 read_1.1.length c_y86)) rfl ?_)
  refine Rg_op rfl (op_assign (v := (Value.int .i64 read_1.2)) rfl ?_)
  refine Rg_nil ?_
  refine Wp_seq ?_
  refine Wp_reset [] [(2, (Value.int .i64 new_1.2)), (3, (Value.pointer (some ⟨b37, 0, none⟩))), (4, (Value.int .i64 new_2.2)), (5, (Value.pointer (some ⟨b67, 0, none⟩))), (6, (Value.int .i64 write_1.2)), (7, (Value.slice a_y86 read_1.1.length c_y86)), (8, (Value.int .i64 read_1.2))] rfl ⟨rfl, rfl, rfl, rfl, rfl, rfl, rfl, trivial⟩ fun ξ88 => ?_
  refine Wp_region ?_  -- 5 law.go:16
  refine Rg_op rfl (op_loadA (cs := [(Value.slice a_y35_sectors new_2.1.sectors.length c_y35_sectors), (Value.slice a_y35_pending new_2.1.pending.length c_y35_pending), (Value.int .i64 new_2.1.left), (Value.bool new_2.1.stopped)]) (vs := [(Value.slice a_y35_sectors new_2.1.sectors.length c_y35_sectors), (Value.slice a_y35_pending new_2.1.pending.length c_y35_pending), (Value.int .i64 new_2.1.left), (Value.bool new_2.1.stopped)]) (i := 1) ty25 hs80 rfl rfl rfl rfl ?_)
  replace hm := bd hm; obtain ⟨read_2, hv89, hm⟩ := hm
  refine Rg_op rfl (op_call Try.call27 (c27_disk_Read (d := new_2.1) (at_ := 2) hs80.ltw f_y35_sectors f_y35_pending r_y35_left (show InK .i64 2 from by decide) hv89) rfl ?_)
  rintro v90 w91 ⟨hx92, h93⟩
  have hs94 := hs80.call hx92
  have p95 := Step.ext (O := ks [(some b67, Obj.cells [(Value.slice a_y65_sectors write_1.1.sectors.length c_y65_sectors), (Value.slice a_y65_pending write_1.1.pending.length c_y65_pending), (Value.int .i64 write_1.1.left), (Value.bool write_1.1.stopped)].toArray 25), (some b37, Obj.cells [(Value.slice a_y35_sectors new_2.1.sectors.length c_y35_sectors), (Value.slice a_y35_pending new_2.1.pending.length c_y35_pending), (Value.int .i64 new_2.1.left), (Value.bool new_2.1.stopped)].toArray 25)] O) hx92
  clear hx92
  replace f_y35_sectors := f_y35_sectors.step p95
  replace f_y35_pending := f_y35_pending.step p95
  replace f_y65_sectors := f_y65_sectors.step p95
  replace f_y65_pending := f_y65_pending.step p95
  replace f_y86 := f_y86.step p95
  clear p95 hs80
  obtain ⟨v96, v97, rfl, h98, h99⟩ := h93
  obtain ⟨a_y100, c_y100, rfl, f_y100⟩ := un_sl h98
  obtain ⟨rfl, r_y101⟩ := h99
  refine Rg_op rfl (op_move (v := (Value.tuple [(Value.slice a_y100 read_2.1.length c_y100), (Value.int .i64 read_2.2)].toArray)) rfl ?_)
  refine Rg_op rfl (op_extract (v := (Value.slice a_y100 read_2.1.length c_y100)) rfl rfl ?_)
  refine Rg_op rfl (op_extract (v := (Value.int .i64 read_2.2)) rfl rfl ?_)
  refine Rg_op rfl (op_assign (v := (Value.slice a_y100 read_2.1.length c_y100)) rfl ?_)
  refine Rg_op rfl (op_assign (v := (Value.int .i64 read_2.2)) rfl ?_)
  refine Rg_nil ?_
  refine Wp_seq ?_
  clear f_y100
  refine Wp_drawR (g0 := []) (m := 7) (fl := [5]) (TS_inv hs94) (.inl rfl) rfl (by decide +kernel) ?_  -- 6
  refine Dw_eq (Value.agg [(Value.slice a_y35_sectors new_2.1.sectors.length c_y35_sectors), (Value.slice a_y35_pending new_2.1.pending.length c_y35_pending), (Value.int .i64 new_2.1.left), (Value.bool new_2.1.stopped)].toArray) (fun ρ102 w103 g hle hi ht => ?_) ?_
  ·
    obtain ⟨-, hst, -⟩ := hle
    have hsn := (Step.nx hi).1
    refine StepOp_plain (op_loadA (cs := [(Value.slice a_y35_sectors new_2.1.sectors.length c_y35_sectors), (Value.slice a_y35_pending new_2.1.pending.length c_y35_pending), (Value.int .i64 new_2.1.left), (Value.bool new_2.1.stopped)]) (vs := [(Value.slice a_y35_sectors new_2.1.sectors.length c_y35_sectors), (Value.slice a_y35_pending new_2.1.pending.length c_y35_pending), (Value.int .i64 new_2.1.left), (Value.bool new_2.1.stopped)]) (i := 1) ty25 hsn (ht 3 rfl) rfl rfl rfl ?_)
    exact Goes.same hi rfl
  replace hm := ck_some hm; obtain ⟨hc108, hm⟩ := hm
  refine Dw_op (VD O [(some b67, Obj.cells [(Value.slice a_y65_sectors write_1.1.sectors.length c_y65_sectors), (Value.slice a_y65_pending write_1.1.pending.length c_y65_pending), (Value.int .i64 write_1.1.left), (Value.bool write_1.1.stopped)].toArray 25), (some b37, Obj.cells [(Value.slice a_y35_sectors new_2.1.sectors.length c_y35_sectors), (Value.slice a_y35_pending new_2.1.pending.length c_y35_pending), (Value.int .i64 new_2.1.left), (Value.bool new_2.1.stopped)].toArray 25)] (vC (rSl rU8)) (List.replicate 129 (0 : UInt8))) (VD.stab _ _) (fun ρ105 w106 g hle hi ht => ?_) ?_
  ·
    obtain ⟨-, hst, -⟩ := hle
    replace f_y35_sectors := f_y35_sectors.step hst
    replace f_y35_pending := f_y35_pending.step hst
    replace f_y65_sectors := f_y65_sectors.step hst
    replace f_y65_pending := f_y65_pending.step hst
    replace f_y86 := f_y86.step hst
    refine StepOp_plain (op_makeSliceI (q := rU8) (v := (Value.int .u8 0)) (x0 := (0 : UInt8)) ty41 ty5 hi rfl rfl hc108 rfl (fun _ _ => (mk_u8 (show InK .u8 0 from by decide))) ?_)
    intro b109 w110 hx114 p111 hs112 f113
    replace f_y35_sectors := f_y35_sectors.step p111
    replace f_y35_pending := f_y35_pending.step p111
    replace f_y65_sectors := f_y65_sectors.step p111
    replace f_y65_pending := f_y65_pending.step p111
    replace f_y86 := f_y86.step p111
    obtain ⟨hs116, p117, f118⟩ := Gs.publish (i := 0) hs112 rfl f113
    exact Goes.pub hi hs116 (Step.trans p111 p117) hx114 (show Vr.vd (vC (rSl rU8)) _ _ _ _ from mkC (mk_sl f118))
  replace hm := bd hm; obtain ⟨write_2, hv125, hm⟩ := hm
  refine Dw_op (VD O [(some b67, Obj.cells [(Value.slice a_y65_sectors write_1.1.sectors.length c_y65_sectors), (Value.slice a_y65_pending write_1.1.pending.length c_y65_pending), (Value.int .i64 write_1.1.left), (Value.bool write_1.1.stopped)].toArray 25), (some b37, Obj.cells [(Value.slice a_y35_sectors new_2.1.sectors.length c_y35_sectors), (Value.slice a_y35_pending new_2.1.pending.length c_y35_pending), (Value.int .i64 new_2.1.left), (Value.bool new_2.1.stopped)].toArray 25)] (vT2 (vA rXDisk) (vI .i64)) write_2) (VD.stab _ _) (fun ρ119 w120 g hle hi ht => ?_) ?_
  ·
    obtain ⟨-, hst, -⟩ := hle
    replace f_y35_sectors := f_y35_sectors.step hst
    replace f_y35_pending := f_y35_pending.step hst
    have h122 : Vr.vd (vC (rSl rU8)) _ _ _ _ := ht 50 rfl
    obtain ⟨a_y124, c_y124, q123, f_y124⟩ := un_sl h122
    refine StepOp_plain (op_call Try.call23 (c23_disk_Write (O := ks (ents g ++ [(some b67, Obj.cells [(Value.slice a_y65_sectors write_1.1.sectors.length c_y65_sectors), (Value.slice a_y65_pending write_1.1.pending.length c_y65_pending), (Value.int .i64 write_1.1.left), (Value.bool write_1.1.stopped)].toArray 25), (some b37, Obj.cells [(Value.slice a_y35_sectors new_2.1.sectors.length c_y35_sectors), (Value.slice a_y35_pending new_2.1.pending.length c_y35_pending), (Value.int .i64 new_2.1.left), (Value.bool new_2.1.stopped)].toArray 25)]) O) (d := new_2.1) (at_ := 0) (b := (List.replicate 129 (0 : UInt8))) hi.ltw f_y35_sectors f_y35_pending r_y35_left (show InK .i64 0 from by decide) f_y124 hv125) (by simp only [List.map, Array.toList, (show ev _ (.tmp 49) = _ from (ht 49 rfl)), (show ev _ (.const (.int .i64 0)) = .int .i64 0 from rfl), (show ev _ (.tmp 50) = _ from q123)] <;> rfl) ?_)
    rintro v126 w127 ⟨hx128, h129⟩
    exact Goes.call hi hx128 h129
  refine Dw_op (VD O [(some b67, Obj.cells [(Value.slice a_y65_sectors write_1.1.sectors.length c_y65_sectors), (Value.slice a_y65_pending write_1.1.pending.length c_y65_pending), (Value.int .i64 write_1.1.left), (Value.bool write_1.1.stopped)].toArray 25), (some b37, Obj.cells [(Value.slice a_y35_sectors new_2.1.sectors.length c_y35_sectors), (Value.slice a_y35_pending new_2.1.pending.length c_y35_pending), (Value.int .i64 new_2.1.left), (Value.bool new_2.1.stopped)].toArray 25)] (vT2 (vA rXDisk) (vI .i64)) write_2) (VD.stab _ _) (fun ρ131 w132 g hle hi ht => ?_) ?_
  ·
    obtain ⟨-, hst, -⟩ := hle
    have h : Vr.vd (vT2 (vA rXDisk) (vI .i64)) _ _ _ _ := ht 51 rfl
    refine StepOp_plain (op_move rfl (Goes.same hi h))
  refine Dw_op (VD O [(some b67, Obj.cells [(Value.slice a_y65_sectors write_1.1.sectors.length c_y65_sectors), (Value.slice a_y65_pending write_1.1.pending.length c_y65_pending), (Value.int .i64 write_1.1.left), (Value.bool write_1.1.stopped)].toArray 25), (some b37, Obj.cells [(Value.slice a_y35_sectors new_2.1.sectors.length c_y35_sectors), (Value.slice a_y35_pending new_2.1.pending.length c_y35_pending), (Value.int .i64 new_2.1.left), (Value.bool new_2.1.stopped)].toArray 25)] (vA rXDisk) write_2.1) (VD.stab _ _) (fun ρ142 w143 g hle hi ht => ?_) ?_
  ·
    obtain ⟨-, hst, -⟩ := hle
    have h145 : Vr.vd (vT2 (vA rXDisk) (vI .i64)) _ _ _ _ := ht 48 rfl
    obtain ⟨v147, v148, q146, h149, h150⟩ := h145
    obtain ⟨_, rfl, ⟨_, _, rfl, ⟨a_y151_sectors, c_y151_sectors, rfl, f_y151_sectors⟩, ⟨_, _, rfl, ⟨a_y151_pending, c_y151_pending, rfl, f_y151_pending⟩, ⟨_, _, rfl, ⟨rfl, r_y151_left⟩, rfl⟩⟩⟩⟩ := h149
    obtain ⟨rfl, r_y152⟩ := h150
    refine StepOp_plain (op_extract (v := (Value.agg [(Value.slice a_y151_sectors write_2.1.sectors.length c_y151_sectors), (Value.slice a_y151_pending write_2.1.pending.length c_y151_pending), (Value.int .i64 write_2.1.left), (Value.bool write_2.1.stopped)].toArray)) q146 rfl ?_)
    exact Goes.same hi (show Vr.vd (vA rXDisk) _ _ _ _ from (mkA (mkVia (mk_pair (mk_sl f_y151_sectors) (mk_pair (mk_sl f_y151_pending) (mk_pair (mk_int r_y151_left) mkBool))))))
  refine Dw_op (VD O [(some b67, Obj.cells [(Value.slice a_y65_sectors write_1.1.sectors.length c_y65_sectors), (Value.slice a_y65_pending write_1.1.pending.length c_y65_pending), (Value.int .i64 write_1.1.left), (Value.bool write_1.1.stopped)].toArray 25), (some b37, Obj.cells [(Value.slice a_y35_sectors new_2.1.sectors.length c_y35_sectors), (Value.slice a_y35_pending new_2.1.pending.length c_y35_pending), (Value.int .i64 new_2.1.left), (Value.bool new_2.1.stopped)].toArray 25)] (vI .i64) write_2.2) (VD.stab _ _) (fun ρ153 w154 g hle hi ht => ?_) ?_
  ·
    obtain ⟨-, hst, -⟩ := hle
    have h156 : Vr.vd (vT2 (vA rXDisk) (vI .i64)) _ _ _ _ := ht 48 rfl
    obtain ⟨v158, v159, q157, h160, h161⟩ := h156
    obtain ⟨_, rfl, ⟨_, _, rfl, ⟨a_y162_sectors, c_y162_sectors, rfl, f_y162_sectors⟩, ⟨_, _, rfl, ⟨a_y162_pending, c_y162_pending, rfl, f_y162_pending⟩, ⟨_, _, rfl, ⟨rfl, r_y162_left⟩, rfl⟩⟩⟩⟩ := h160
    obtain ⟨rfl, r_y163⟩ := h161
    refine StepOp_plain (op_extract (v := (Value.int .i64 write_2.2)) q157 rfl ?_)
    exact Goes.same hi (show Vr.vd (vI .i64) _ _ _ _ from ⟨rfl, r_y163⟩)
  refine Dw_op (VN 11 (Obj.cells [(Value.slice none 0 0), (Value.slice none 0 0), (Value.int .i64 0), (Value.bool false)].toArray 25)) (VN.stab _ _) (fun ρ164 w165 g hle hi ht => ?_) ?_
  ·
    obtain ⟨-, hst, -⟩ := hle
    refine StepOp_plain (op_alloc ty25 hi ?_)
    intro b167 w168 hx171 p169 hs170; exact Goes.new hi p169 hs170 hx171
  refine Dw_nil fun w176 g177 hl178 hi179 => ?_
  obtain ⟨-, hst180, -⟩ := hl178
  rintro _ ⟨b183, rfl, h184⟩
  rintro v186 h187
  replace h187 : Vr.vd (vI .i64) _ _ _ _ := h187
  obtain ⟨rfl, r_y188⟩ := h187
  rintro v189 h190
  replace h190 : Vr.vd (vA rXDisk) _ _ _ _ := h190
  obtain ⟨_, rfl, ⟨_, _, rfl, ⟨a_y191_sectors, c_y191_sectors, rfl, f_y191_sectors⟩, ⟨_, _, rfl, ⟨a_y191_pending, c_y191_pending, rfl, f_y191_pending⟩, ⟨_, _, rfl, ⟨rfl, r_y191_left⟩, rfl⟩⟩⟩⟩ := h190
  rintro v192 h193
  replace h193 : Vr.vd (vT2 (vA rXDisk) (vI .i64)) _ _ _ _ := h193
  obtain ⟨v194, v195, rfl, h196, h197⟩ := h193
  obtain ⟨_, rfl, ⟨_, _, rfl, ⟨a_y198_sectors, c_y198_sectors, rfl, f_y198_sectors⟩, ⟨_, _, rfl, ⟨a_y198_pending, c_y198_pending, rfl, f_y198_pending⟩, ⟨_, _, rfl, ⟨rfl, r_y198_left⟩, rfl⟩⟩⟩⟩ := h196
  obtain ⟨rfl, r_y199⟩ := h197
  rintro v200 h201
  replace h201 : Vr.vd (vT2 (vA rXDisk) (vI .i64)) _ _ _ _ := h201
  obtain ⟨v202, v203, rfl, h204, h205⟩ := h201
  obtain ⟨_, rfl, ⟨_, _, rfl, ⟨a_y206_sectors, c_y206_sectors, rfl, f_y206_sectors⟩, ⟨_, _, rfl, ⟨a_y206_pending, c_y206_pending, rfl, f_y206_pending⟩, ⟨_, _, rfl, ⟨rfl, r_y206_left⟩, rfl⟩⟩⟩⟩ := h204
  obtain ⟨rfl, r_y207⟩ := h205
  rintro v208 h209
  replace h209 : Vr.vd (vC (rSl rU8)) _ _ _ _ := h209
  obtain ⟨a_y210, c_y210, rfl, f_y210⟩ := un_sl h209
  rintro _ rfl
  obtain ⟨hs182, p181⟩ := Step.nx1 hi179 h184
  have p211 : Step (ks [(some b67, Obj.cells [(Value.slice a_y65_sectors write_1.1.sectors.length c_y65_sectors), (Value.slice a_y65_pending write_1.1.pending.length c_y65_pending), (Value.int .i64 write_1.1.left), (Value.bool write_1.1.stopped)].toArray 25), (some b37, Obj.cells [(Value.slice a_y35_sectors new_2.1.sectors.length c_y35_sectors), (Value.slice a_y35_pending new_2.1.pending.length c_y35_pending), (Value.int .i64 new_2.1.left), (Value.bool new_2.1.stopped)].toArray 25)] O) w91 (ks [(some b183, Obj.cells [(Value.slice none 0 0), (Value.slice none 0 0), (Value.int .i64 0), (Value.bool false)].toArray 25), (some b67, Obj.cells [(Value.slice a_y65_sectors write_1.1.sectors.length c_y65_sectors), (Value.slice a_y65_pending write_1.1.pending.length c_y65_pending), (Value.int .i64 write_1.1.left), (Value.bool write_1.1.stopped)].toArray 25), (some b37, Obj.cells [(Value.slice a_y35_sectors new_2.1.sectors.length c_y35_sectors), (Value.slice a_y35_pending new_2.1.pending.length c_y35_pending), (Value.int .i64 new_2.1.left), (Value.bool new_2.1.stopped)].toArray 25)] O) w176 := hst180.trans p181
  replace f_y191_sectors := f_y191_sectors.step p181
  replace f_y191_pending := f_y191_pending.step p181
  replace f_y198_sectors := f_y198_sectors.step p181
  replace f_y198_pending := f_y198_pending.step p181
  replace f_y206_sectors := f_y206_sectors.step p181
  replace f_y206_pending := f_y206_pending.step p181
  replace f_y210 := f_y210.step p181
  replace f_y35_sectors := f_y35_sectors.step p211
  replace f_y35_pending := f_y35_pending.step p211
  replace f_y65_sectors := f_y65_sectors.step p211
  replace f_y65_pending := f_y65_pending.step p211
  replace f_y86 := f_y86.step p211
  clear p211 hs94
  refine Rg_op_ (op_store (cs := [(Value.slice none 0 0), (Value.slice none 0 0), (Value.int .i64 0), (Value.bool false)]) (vs := [(Value.slice a_y191_sectors write_2.1.sectors.length c_y191_sectors), (Value.slice a_y191_pending write_2.1.pending.length c_y191_pending), (Value.int .i64 write_2.1.left), (Value.bool write_2.1.stopped)]) (cs' := [(Value.slice a_y191_sectors write_2.1.sectors.length c_y191_sectors), (Value.slice a_y191_pending write_2.1.pending.length c_y191_pending), (Value.int .i64 write_2.1.left), (Value.bool write_2.1.stopped)]) (bs' := [(some b183, Obj.cells [(Value.slice a_y191_sectors write_2.1.sectors.length c_y191_sectors), (Value.slice a_y191_pending write_2.1.pending.length c_y191_pending), (Value.int .i64 write_2.1.left), (Value.bool write_2.1.stopped)].toArray 25), (some b67, Obj.cells [(Value.slice a_y65_sectors write_1.1.sectors.length c_y65_sectors), (Value.slice a_y65_pending write_1.1.pending.length c_y65_pending), (Value.int .i64 write_1.1.left), (Value.bool write_1.1.stopped)].toArray 25), (some b37, Obj.cells [(Value.slice a_y35_sectors new_2.1.sectors.length c_y35_sectors), (Value.slice a_y35_pending new_2.1.pending.length c_y35_pending), (Value.int .i64 new_2.1.left), (Value.bool new_2.1.stopped)].toArray 25)]) (i := 0) ty25 hs182 rfl rfl rfl rfl rfl (le_lit rfl) rfl rfl rfl ?_)
  intro w212 p213 hs214
  replace f_y35_sectors := f_y35_sectors.step p213
  replace f_y35_pending := f_y35_pending.step p213
  replace f_y65_sectors := f_y65_sectors.step p213
  replace f_y65_pending := f_y65_pending.step p213
  replace f_y86 := f_y86.step p213
  replace f_y191_sectors := f_y191_sectors.step p213
  replace f_y191_pending := f_y191_pending.step p213
  replace f_y198_sectors := f_y198_sectors.step p213
  replace f_y198_pending := f_y198_pending.step p213
  replace f_y206_sectors := f_y206_sectors.step p213
  replace f_y206_pending := f_y206_pending.step p213
  replace f_y210 := f_y210.step p213
  clear p213 hs182
  refine Rg_op rfl (op_assign (v := (Value.int .i64 write_2.2)) rfl ?_)
  refine Rg_nil ?_
  refine Wp_seq ?_
  obtain ⟨hs215, p216⟩ := hs214.sub (bs' := [(some b67, Obj.cells [(Value.slice a_y65_sectors write_1.1.sectors.length c_y65_sectors), (Value.slice a_y65_pending write_1.1.pending.length c_y65_pending), (Value.int .i64 write_1.1.left), (Value.bool write_1.1.stopped)].toArray 25)]) (.cons _ (.cons_cons _ (.cons _ List.Sublist.slnil)))
  clear f_y35_sectors f_y35_pending f_y191_sectors f_y191_pending f_y198_sectors f_y198_pending f_y206_sectors f_y206_pending f_y210
  replace f_y65_sectors := f_y65_sectors.step p216
  replace f_y65_pending := f_y65_pending.step p216
  replace f_y86 := f_y86.step p216
  clear p216 hs214
  refine Wp_region ?_  -- 7 law.go:18
  refine Rg_op rfl (op_loadA (cs := [(Value.slice a_y65_sectors write_1.1.sectors.length c_y65_sectors), (Value.slice a_y65_pending write_1.1.pending.length c_y65_pending), (Value.int .i64 write_1.1.left), (Value.bool write_1.1.stopped)]) (vs := [(Value.slice a_y65_sectors write_1.1.sectors.length c_y65_sectors), (Value.slice a_y65_pending write_1.1.pending.length c_y65_pending), (Value.int .i64 write_1.1.left), (Value.bool write_1.1.stopped)]) (i := 0) ty25 hs215 rfl rfl rfl rfl ?_)
  replace hm := bd hm; obtain ⟨stop_1, hv217, hm⟩ := hm
  refine Rg_op rfl (op_call Try.call22 (c22_disk_Stop (d := write_1.1) (left := 1) hs215.ltw f_y65_sectors f_y65_pending r_y65_left (show InK .i64 1 from by decide) hv217) rfl ?_)
  rintro v218 w219 ⟨hx220, h221⟩
  have hs222 := hs215.call hx220
  have p223 := Step.ext (O := ks [(some b67, Obj.cells [(Value.slice a_y65_sectors write_1.1.sectors.length c_y65_sectors), (Value.slice a_y65_pending write_1.1.pending.length c_y65_pending), (Value.int .i64 write_1.1.left), (Value.bool write_1.1.stopped)].toArray 25)] O) hx220
  clear hx220
  replace f_y65_sectors := f_y65_sectors.step p223
  replace f_y65_pending := f_y65_pending.step p223
  replace f_y86 := f_y86.step p223
  clear p223 hs215
  obtain ⟨v224, v225, rfl, h226, h227⟩ := h221
  obtain ⟨_, rfl, ⟨_, _, rfl, ⟨a_y228_sectors, c_y228_sectors, rfl, f_y228_sectors⟩, ⟨_, _, rfl, ⟨a_y228_pending, c_y228_pending, rfl, f_y228_pending⟩, ⟨_, _, rfl, ⟨rfl, r_y228_left⟩, rfl⟩⟩⟩⟩ := h226
  obtain ⟨rfl, r_y229⟩ := h227
  refine Rg_op rfl (op_move (v := (Value.tuple [(Value.agg [(Value.slice a_y228_sectors stop_1.1.sectors.length c_y228_sectors), (Value.slice a_y228_pending stop_1.1.pending.length c_y228_pending), (Value.int .i64 stop_1.1.left), (Value.bool stop_1.1.stopped)].toArray), (Value.int .i64 stop_1.2)].toArray)) rfl ?_)
  refine Rg_op rfl (op_extract (v := (Value.agg [(Value.slice a_y228_sectors stop_1.1.sectors.length c_y228_sectors), (Value.slice a_y228_pending stop_1.1.pending.length c_y228_pending), (Value.int .i64 stop_1.1.left), (Value.bool stop_1.1.stopped)].toArray)) rfl rfl ?_)
  refine Rg_op rfl (op_extract (v := (Value.int .i64 stop_1.2)) rfl rfl ?_)
  refine Rg_op rfl (op_alloc ty25 hs222 ?_)
  intro b230 w231 _ p232 hs233
  replace f_y65_sectors := f_y65_sectors.step p232
  replace f_y65_pending := f_y65_pending.step p232
  replace f_y86 := f_y86.step p232
  replace f_y228_sectors := f_y228_sectors.step p232
  replace f_y228_pending := f_y228_pending.step p232
  clear p232 hs222
  refine Rg_op_ (op_store (cs := [(Value.slice none 0 0), (Value.slice none 0 0), (Value.int .i64 0), (Value.bool false)]) (vs := [(Value.slice a_y228_sectors stop_1.1.sectors.length c_y228_sectors), (Value.slice a_y228_pending stop_1.1.pending.length c_y228_pending), (Value.int .i64 stop_1.1.left), (Value.bool stop_1.1.stopped)]) (cs' := [(Value.slice a_y228_sectors stop_1.1.sectors.length c_y228_sectors), (Value.slice a_y228_pending stop_1.1.pending.length c_y228_pending), (Value.int .i64 stop_1.1.left), (Value.bool stop_1.1.stopped)]) (bs' := [(some b230, Obj.cells [(Value.slice a_y228_sectors stop_1.1.sectors.length c_y228_sectors), (Value.slice a_y228_pending stop_1.1.pending.length c_y228_pending), (Value.int .i64 stop_1.1.left), (Value.bool stop_1.1.stopped)].toArray 25), (some b67, Obj.cells [(Value.slice a_y65_sectors write_1.1.sectors.length c_y65_sectors), (Value.slice a_y65_pending write_1.1.pending.length c_y65_pending), (Value.int .i64 write_1.1.left), (Value.bool write_1.1.stopped)].toArray 25)]) (i := 0) ty25 hs233 rfl rfl rfl rfl rfl (le_lit rfl) rfl rfl rfl ?_)
  intro w235 p236 hs237
  replace f_y65_sectors := f_y65_sectors.step p236
  replace f_y65_pending := f_y65_pending.step p236
  replace f_y86 := f_y86.step p236
  replace f_y228_sectors := f_y228_sectors.step p236
  replace f_y228_pending := f_y228_pending.step p236
  clear p236 hs233
  refine Rg_op rfl (op_assign (v := (Value.int .i64 stop_1.2)) rfl ?_)
  refine Rg_nil ?_
  refine Wp_seq ?_
  refine Wp_drawR (g0 := []) (m := 6) (fl := [5]) (TS_inv hs237) (.inl rfl) rfl (by decide +kernel) ?_  -- 8
  refine Dw_eq (Value.agg [(Value.slice a_y228_sectors stop_1.1.sectors.length c_y228_sectors), (Value.slice a_y228_pending stop_1.1.pending.length c_y228_pending), (Value.int .i64 stop_1.1.left), (Value.bool stop_1.1.stopped)].toArray) (fun ρ238 w239 g hle hi ht => ?_) ?_
  ·
    obtain ⟨-, hst, -⟩ := hle
    have hsn := (Step.nx hi).1
    refine StepOp_plain (op_loadA (cs := [(Value.slice a_y228_sectors stop_1.1.sectors.length c_y228_sectors), (Value.slice a_y228_pending stop_1.1.pending.length c_y228_pending), (Value.int .i64 stop_1.1.left), (Value.bool stop_1.1.stopped)]) (vs := [(Value.slice a_y228_sectors stop_1.1.sectors.length c_y228_sectors), (Value.slice a_y228_pending stop_1.1.pending.length c_y228_pending), (Value.int .i64 stop_1.1.left), (Value.bool stop_1.1.stopped)]) (i := 0) ty25 hsn (ht 13 rfl) rfl rfl rfl ?_)
    exact Goes.same hi rfl
  replace hm := bd hm; obtain ⟨double_1, hv244, hm⟩ := hm
  refine Dw_op (VD O [(some b230, Obj.cells [(Value.slice a_y228_sectors stop_1.1.sectors.length c_y228_sectors), (Value.slice a_y228_pending stop_1.1.pending.length c_y228_pending), (Value.int .i64 stop_1.1.left), (Value.bool stop_1.1.stopped)].toArray 25), (some b67, Obj.cells [(Value.slice a_y65_sectors write_1.1.sectors.length c_y65_sectors), (Value.slice a_y65_pending write_1.1.pending.length c_y65_pending), (Value.int .i64 write_1.1.left), (Value.bool write_1.1.stopped)].toArray 25)] (vC (rSl rU8)) double_1) (VD.stab _ _) (fun ρ241 w242 g hle hi ht => ?_) ?_
  ·
    obtain ⟨-, hst, -⟩ := hle
    refine StepOp_plain (op_call Try.call24 (c24_overflightlaw44_double (O := ks (ents g ++ [(some b230, Obj.cells [(Value.slice a_y228_sectors stop_1.1.sectors.length c_y228_sectors), (Value.slice a_y228_pending stop_1.1.pending.length c_y228_pending), (Value.int .i64 stop_1.1.left), (Value.bool stop_1.1.stopped)].toArray 25), (some b67, Obj.cells [(Value.slice a_y65_sectors write_1.1.sectors.length c_y65_sectors), (Value.slice a_y65_pending write_1.1.pending.length c_y65_pending), (Value.int .i64 write_1.1.left), (Value.bool write_1.1.stopped)].toArray 25)]) O) (c := 8) hi.ltw  hv244) rfl ?_)
    rintro v245 w246 ⟨hx247, h248⟩
    exact Goes.call hi hx247 h248
  replace hm := bd hm; obtain ⟨write_3, hv256, hm⟩ := hm
  refine Dw_op (VD O [(some b230, Obj.cells [(Value.slice a_y228_sectors stop_1.1.sectors.length c_y228_sectors), (Value.slice a_y228_pending stop_1.1.pending.length c_y228_pending), (Value.int .i64 stop_1.1.left), (Value.bool stop_1.1.stopped)].toArray 25), (some b67, Obj.cells [(Value.slice a_y65_sectors write_1.1.sectors.length c_y65_sectors), (Value.slice a_y65_pending write_1.1.pending.length c_y65_pending), (Value.int .i64 write_1.1.left), (Value.bool write_1.1.stopped)].toArray 25)] (vT2 (vA rXDisk) (vI .i64)) write_3) (VD.stab _ _) (fun ρ250 w251 g hle hi ht => ?_) ?_
  ·
    obtain ⟨-, hst, -⟩ := hle
    replace f_y228_sectors := f_y228_sectors.step hst
    replace f_y228_pending := f_y228_pending.step hst
    have h253 : Vr.vd (vC (rSl rU8)) _ _ _ _ := ht 61 rfl
    obtain ⟨a_y255, c_y255, q254, f_y255⟩ := un_sl h253
    refine StepOp_plain (op_call Try.call23 (c23_disk_Write (O := ks (ents g ++ [(some b230, Obj.cells [(Value.slice a_y228_sectors stop_1.1.sectors.length c_y228_sectors), (Value.slice a_y228_pending stop_1.1.pending.length c_y228_pending), (Value.int .i64 stop_1.1.left), (Value.bool stop_1.1.stopped)].toArray 25), (some b67, Obj.cells [(Value.slice a_y65_sectors write_1.1.sectors.length c_y65_sectors), (Value.slice a_y65_pending write_1.1.pending.length c_y65_pending), (Value.int .i64 write_1.1.left), (Value.bool write_1.1.stopped)].toArray 25)]) O) (d := stop_1.1) (at_ := 0) (b := double_1) hi.ltw f_y228_sectors f_y228_pending r_y228_left (show InK .i64 0 from by decide) f_y255 hv256) (by simp only [List.map, Array.toList, (show ev _ (.tmp 60) = _ from (ht 60 rfl)), (show ev _ (.const (.int .i64 0)) = .int .i64 0 from rfl), (show ev _ (.tmp 61) = _ from q254)] <;> rfl) ?_)
    rintro v257 w258 ⟨hx259, h260⟩
    exact Goes.call hi hx259 h260
  refine Dw_op (VD O [(some b230, Obj.cells [(Value.slice a_y228_sectors stop_1.1.sectors.length c_y228_sectors), (Value.slice a_y228_pending stop_1.1.pending.length c_y228_pending), (Value.int .i64 stop_1.1.left), (Value.bool stop_1.1.stopped)].toArray 25), (some b67, Obj.cells [(Value.slice a_y65_sectors write_1.1.sectors.length c_y65_sectors), (Value.slice a_y65_pending write_1.1.pending.length c_y65_pending), (Value.int .i64 write_1.1.left), (Value.bool write_1.1.stopped)].toArray 25)] (vT2 (vA rXDisk) (vI .i64)) write_3) (VD.stab _ _) (fun ρ262 w263 g hle hi ht => ?_) ?_
  ·
    obtain ⟨-, hst, -⟩ := hle
    have h : Vr.vd (vT2 (vA rXDisk) (vI .i64)) _ _ _ _ := ht 62 rfl
    refine StepOp_plain (op_move rfl (Goes.same hi h))
  refine Dw_op (VD O [(some b230, Obj.cells [(Value.slice a_y228_sectors stop_1.1.sectors.length c_y228_sectors), (Value.slice a_y228_pending stop_1.1.pending.length c_y228_pending), (Value.int .i64 stop_1.1.left), (Value.bool stop_1.1.stopped)].toArray 25), (some b67, Obj.cells [(Value.slice a_y65_sectors write_1.1.sectors.length c_y65_sectors), (Value.slice a_y65_pending write_1.1.pending.length c_y65_pending), (Value.int .i64 write_1.1.left), (Value.bool write_1.1.stopped)].toArray 25)] (vA rXDisk) write_3.1) (VD.stab _ _) (fun ρ273 w274 g hle hi ht => ?_) ?_
  ·
    obtain ⟨-, hst, -⟩ := hle
    have h276 : Vr.vd (vT2 (vA rXDisk) (vI .i64)) _ _ _ _ := ht 59 rfl
    obtain ⟨v278, v279, q277, h280, h281⟩ := h276
    obtain ⟨_, rfl, ⟨_, _, rfl, ⟨a_y282_sectors, c_y282_sectors, rfl, f_y282_sectors⟩, ⟨_, _, rfl, ⟨a_y282_pending, c_y282_pending, rfl, f_y282_pending⟩, ⟨_, _, rfl, ⟨rfl, r_y282_left⟩, rfl⟩⟩⟩⟩ := h280
    obtain ⟨rfl, r_y283⟩ := h281
    refine StepOp_plain (op_extract (v := (Value.agg [(Value.slice a_y282_sectors write_3.1.sectors.length c_y282_sectors), (Value.slice a_y282_pending write_3.1.pending.length c_y282_pending), (Value.int .i64 write_3.1.left), (Value.bool write_3.1.stopped)].toArray)) q277 rfl ?_)
    exact Goes.same hi (show Vr.vd (vA rXDisk) _ _ _ _ from (mkA (mkVia (mk_pair (mk_sl f_y282_sectors) (mk_pair (mk_sl f_y282_pending) (mk_pair (mk_int r_y282_left) mkBool))))))
  refine Dw_op (VD O [(some b230, Obj.cells [(Value.slice a_y228_sectors stop_1.1.sectors.length c_y228_sectors), (Value.slice a_y228_pending stop_1.1.pending.length c_y228_pending), (Value.int .i64 stop_1.1.left), (Value.bool stop_1.1.stopped)].toArray 25), (some b67, Obj.cells [(Value.slice a_y65_sectors write_1.1.sectors.length c_y65_sectors), (Value.slice a_y65_pending write_1.1.pending.length c_y65_pending), (Value.int .i64 write_1.1.left), (Value.bool write_1.1.stopped)].toArray 25)] (vI .i64) write_3.2) (VD.stab _ _) (fun ρ284 w285 g hle hi ht => ?_) ?_
  ·
    obtain ⟨-, hst, -⟩ := hle
    have h287 : Vr.vd (vT2 (vA rXDisk) (vI .i64)) _ _ _ _ := ht 59 rfl
    obtain ⟨v289, v290, q288, h291, h292⟩ := h287
    obtain ⟨_, rfl, ⟨_, _, rfl, ⟨a_y293_sectors, c_y293_sectors, rfl, f_y293_sectors⟩, ⟨_, _, rfl, ⟨a_y293_pending, c_y293_pending, rfl, f_y293_pending⟩, ⟨_, _, rfl, ⟨rfl, r_y293_left⟩, rfl⟩⟩⟩⟩ := h291
    obtain ⟨rfl, r_y294⟩ := h292
    refine StepOp_plain (op_extract (v := (Value.int .i64 write_3.2)) q288 rfl ?_)
    exact Goes.same hi (show Vr.vd (vI .i64) _ _ _ _ from ⟨rfl, r_y294⟩)
  refine Dw_nil fun w299 g300 hl301 hi302 => ?_
  obtain ⟨-, hst303, -⟩ := hl301
  obtain ⟨hs305, p304⟩ := Step.nx hi302
  rintro v306 h307
  replace h307 : Vr.vd (vI .i64) _ _ _ _ := h307
  obtain ⟨rfl, r_y308⟩ := h307
  rintro v309 h310
  replace h310 : Vr.vd (vA rXDisk) _ _ _ _ := h310
  obtain ⟨_, rfl, ⟨_, _, rfl, ⟨a_y311_sectors, c_y311_sectors, rfl, f_y311_sectors⟩, ⟨_, _, rfl, ⟨a_y311_pending, c_y311_pending, rfl, f_y311_pending⟩, ⟨_, _, rfl, ⟨rfl, r_y311_left⟩, rfl⟩⟩⟩⟩ := h310
  rintro v312 h313
  replace h313 : Vr.vd (vT2 (vA rXDisk) (vI .i64)) _ _ _ _ := h313
  obtain ⟨v314, v315, rfl, h316, h317⟩ := h313
  obtain ⟨_, rfl, ⟨_, _, rfl, ⟨a_y318_sectors, c_y318_sectors, rfl, f_y318_sectors⟩, ⟨_, _, rfl, ⟨a_y318_pending, c_y318_pending, rfl, f_y318_pending⟩, ⟨_, _, rfl, ⟨rfl, r_y318_left⟩, rfl⟩⟩⟩⟩ := h316
  obtain ⟨rfl, r_y319⟩ := h317
  rintro v320 h321
  replace h321 : Vr.vd (vT2 (vA rXDisk) (vI .i64)) _ _ _ _ := h321
  obtain ⟨v322, v323, rfl, h324, h325⟩ := h321
  obtain ⟨_, rfl, ⟨_, _, rfl, ⟨a_y326_sectors, c_y326_sectors, rfl, f_y326_sectors⟩, ⟨_, _, rfl, ⟨a_y326_pending, c_y326_pending, rfl, f_y326_pending⟩, ⟨_, _, rfl, ⟨rfl, r_y326_left⟩, rfl⟩⟩⟩⟩ := h324
  obtain ⟨rfl, r_y327⟩ := h325
  rintro v328 h329
  replace h329 : Vr.vd (vC (rSl rU8)) _ _ _ _ := h329
  obtain ⟨a_y330, c_y330, rfl, f_y330⟩ := un_sl h329
  rintro _ rfl
  have p331 : Step (ks [(some b230, Obj.cells [(Value.slice a_y228_sectors stop_1.1.sectors.length c_y228_sectors), (Value.slice a_y228_pending stop_1.1.pending.length c_y228_pending), (Value.int .i64 stop_1.1.left), (Value.bool stop_1.1.stopped)].toArray 25), (some b67, Obj.cells [(Value.slice a_y65_sectors write_1.1.sectors.length c_y65_sectors), (Value.slice a_y65_pending write_1.1.pending.length c_y65_pending), (Value.int .i64 write_1.1.left), (Value.bool write_1.1.stopped)].toArray 25)] O) w235 (ks [(some b230, Obj.cells [(Value.slice a_y228_sectors stop_1.1.sectors.length c_y228_sectors), (Value.slice a_y228_pending stop_1.1.pending.length c_y228_pending), (Value.int .i64 stop_1.1.left), (Value.bool stop_1.1.stopped)].toArray 25), (some b67, Obj.cells [(Value.slice a_y65_sectors write_1.1.sectors.length c_y65_sectors), (Value.slice a_y65_pending write_1.1.pending.length c_y65_pending), (Value.int .i64 write_1.1.left), (Value.bool write_1.1.stopped)].toArray 25)] O) w299 := hst303.trans p304
  replace f_y311_sectors := f_y311_sectors.step p304
  replace f_y311_pending := f_y311_pending.step p304
  replace f_y318_sectors := f_y318_sectors.step p304
  replace f_y318_pending := f_y318_pending.step p304
  replace f_y326_sectors := f_y326_sectors.step p304
  replace f_y326_pending := f_y326_pending.step p304
  replace f_y330 := f_y330.step p304
  replace f_y65_sectors := f_y65_sectors.step p331
  replace f_y65_pending := f_y65_pending.step p331
  replace f_y86 := f_y86.step p331
  replace f_y228_sectors := f_y228_sectors.step p331
  replace f_y228_pending := f_y228_pending.step p331
  clear p331 hs237
  refine Rg_op_ (op_store (cs := [(Value.slice a_y228_sectors stop_1.1.sectors.length c_y228_sectors), (Value.slice a_y228_pending stop_1.1.pending.length c_y228_pending), (Value.int .i64 stop_1.1.left), (Value.bool stop_1.1.stopped)]) (vs := [(Value.slice a_y311_sectors write_3.1.sectors.length c_y311_sectors), (Value.slice a_y311_pending write_3.1.pending.length c_y311_pending), (Value.int .i64 write_3.1.left), (Value.bool write_3.1.stopped)]) (cs' := [(Value.slice a_y311_sectors write_3.1.sectors.length c_y311_sectors), (Value.slice a_y311_pending write_3.1.pending.length c_y311_pending), (Value.int .i64 write_3.1.left), (Value.bool write_3.1.stopped)]) (bs' := [(some b230, Obj.cells [(Value.slice a_y311_sectors write_3.1.sectors.length c_y311_sectors), (Value.slice a_y311_pending write_3.1.pending.length c_y311_pending), (Value.int .i64 write_3.1.left), (Value.bool write_3.1.stopped)].toArray 25), (some b67, Obj.cells [(Value.slice a_y65_sectors write_1.1.sectors.length c_y65_sectors), (Value.slice a_y65_pending write_1.1.pending.length c_y65_pending), (Value.int .i64 write_1.1.left), (Value.bool write_1.1.stopped)].toArray 25)]) (i := 0) ty25 hs305 rfl rfl rfl rfl rfl (le_lit rfl) rfl rfl rfl ?_)
  intro w332 p333 hs334
  replace f_y65_sectors := f_y65_sectors.step p333
  replace f_y65_pending := f_y65_pending.step p333
  replace f_y86 := f_y86.step p333
  replace f_y228_sectors := f_y228_sectors.step p333
  replace f_y228_pending := f_y228_pending.step p333
  replace f_y311_sectors := f_y311_sectors.step p333
  replace f_y311_pending := f_y311_pending.step p333
  replace f_y318_sectors := f_y318_sectors.step p333
  replace f_y318_pending := f_y318_pending.step p333
  replace f_y326_sectors := f_y326_sectors.step p333
  replace f_y326_pending := f_y326_pending.step p333
  replace f_y330 := f_y330.step p333
  clear p333 hs305
  refine Rg_op rfl (op_assign (v := (Value.int .i64 write_3.2)) rfl ?_)
  refine Rg_nil ?_
  refine Wp_seq ?_
  clear f_y228_sectors f_y228_pending f_y318_sectors f_y318_pending f_y326_sectors f_y326_pending f_y330
  refine Wp_reset [] [(2, (Value.int .i64 new_1.2)), (4, (Value.int .i64 new_2.2)), (5, (Value.pointer (some ⟨b67, 0, none⟩))), (6, (Value.int .i64 write_1.2)), (7, (Value.slice a_y86 read_1.1.length c_y86)), (8, (Value.int .i64 read_1.2)), (10, (Value.int .i64 read_2.2)), (12, (Value.int .i64 write_2.2)), (13, (Value.pointer (some ⟨b230, 0, none⟩))), (14, (Value.int .i64 stop_1.2)), (15, (Value.int .i64 write_3.2))] rfl ⟨rfl, rfl, rfl, rfl, rfl, rfl, rfl, rfl, rfl, rfl, rfl, trivial⟩ fun ξ335 => ?_
  refine Wp_region ?_  -- 9 law.go:20
  refine Rg_op rfl (op_loadA (cs := [(Value.slice a_y311_sectors write_3.1.sectors.length c_y311_sectors), (Value.slice a_y311_pending write_3.1.pending.length c_y311_pending), (Value.int .i64 write_3.1.left), (Value.bool write_3.1.stopped)]) (vs := [(Value.slice a_y311_sectors write_3.1.sectors.length c_y311_sectors), (Value.slice a_y311_pending write_3.1.pending.length c_y311_pending), (Value.int .i64 write_3.1.left), (Value.bool write_3.1.stopped)]) (i := 0) ty25 hs334 rfl rfl rfl rfl ?_)
  replace hm := bd hm; obtain ⟨sync_1, hv336, hm⟩ := hm
  refine Rg_op rfl (op_call Try.call25 (c25_disk_Sync (d := write_3.1) hs334.ltw f_y311_sectors f_y311_pending r_y311_left hv336) rfl ?_)
  rintro v337 w338 ⟨hx339, h340⟩
  have hs341 := hs334.call hx339
  have p342 := Step.ext (O := ks [(some b230, Obj.cells [(Value.slice a_y311_sectors write_3.1.sectors.length c_y311_sectors), (Value.slice a_y311_pending write_3.1.pending.length c_y311_pending), (Value.int .i64 write_3.1.left), (Value.bool write_3.1.stopped)].toArray 25), (some b67, Obj.cells [(Value.slice a_y65_sectors write_1.1.sectors.length c_y65_sectors), (Value.slice a_y65_pending write_1.1.pending.length c_y65_pending), (Value.int .i64 write_1.1.left), (Value.bool write_1.1.stopped)].toArray 25)] O) hx339
  clear hx339
  replace f_y65_sectors := f_y65_sectors.step p342
  replace f_y65_pending := f_y65_pending.step p342
  replace f_y86 := f_y86.step p342
  replace f_y311_sectors := f_y311_sectors.step p342
  replace f_y311_pending := f_y311_pending.step p342
  clear p342 hs334
  obtain ⟨v343, v344, rfl, h345, h346⟩ := h340
  obtain ⟨_, rfl, ⟨_, _, rfl, ⟨a_y347_sectors, c_y347_sectors, rfl, f_y347_sectors⟩, ⟨_, _, rfl, ⟨a_y347_pending, c_y347_pending, rfl, f_y347_pending⟩, ⟨_, _, rfl, ⟨rfl, r_y347_left⟩, rfl⟩⟩⟩⟩ := h345
  obtain ⟨rfl, r_y348⟩ := h346
  refine Rg_op rfl (op_move (v := (Value.tuple [(Value.agg [(Value.slice a_y347_sectors sync_1.1.sectors.length c_y347_sectors), (Value.slice a_y347_pending sync_1.1.pending.length c_y347_pending), (Value.int .i64 sync_1.1.left), (Value.bool sync_1.1.stopped)].toArray), (Value.int .i64 sync_1.2)].toArray)) rfl ?_)
  refine Rg_op rfl (op_extract (v := (Value.agg [(Value.slice a_y347_sectors sync_1.1.sectors.length c_y347_sectors), (Value.slice a_y347_pending sync_1.1.pending.length c_y347_pending), (Value.int .i64 sync_1.1.left), (Value.bool sync_1.1.stopped)].toArray)) rfl rfl ?_)
  refine Rg_op rfl (op_extract (v := (Value.int .i64 sync_1.2)) rfl rfl ?_)
  refine Rg_op rfl (op_alloc ty25 hs341 ?_)
  intro b349 w350 _ p351 hs352
  replace f_y65_sectors := f_y65_sectors.step p351
  replace f_y65_pending := f_y65_pending.step p351
  replace f_y86 := f_y86.step p351
  replace f_y311_sectors := f_y311_sectors.step p351
  replace f_y311_pending := f_y311_pending.step p351
  replace f_y347_sectors := f_y347_sectors.step p351
  replace f_y347_pending := f_y347_pending.step p351
  clear p351 hs341
  refine Rg_op_ (op_store (cs := [(Value.slice none 0 0), (Value.slice none 0 0), (Value.int .i64 0), (Value.bool false)]) (vs := [(Value.slice a_y347_sectors sync_1.1.sectors.length c_y347_sectors), (Value.slice a_y347_pending sync_1.1.pending.length c_y347_pending), (Value.int .i64 sync_1.1.left), (Value.bool sync_1.1.stopped)]) (cs' := [(Value.slice a_y347_sectors sync_1.1.sectors.length c_y347_sectors), (Value.slice a_y347_pending sync_1.1.pending.length c_y347_pending), (Value.int .i64 sync_1.1.left), (Value.bool sync_1.1.stopped)]) (bs' := [(some b349, Obj.cells [(Value.slice a_y347_sectors sync_1.1.sectors.length c_y347_sectors), (Value.slice a_y347_pending sync_1.1.pending.length c_y347_pending), (Value.int .i64 sync_1.1.left), (Value.bool sync_1.1.stopped)].toArray 25), (some b230, Obj.cells [(Value.slice a_y311_sectors write_3.1.sectors.length c_y311_sectors), (Value.slice a_y311_pending write_3.1.pending.length c_y311_pending), (Value.int .i64 write_3.1.left), (Value.bool write_3.1.stopped)].toArray 25), (some b67, Obj.cells [(Value.slice a_y65_sectors write_1.1.sectors.length c_y65_sectors), (Value.slice a_y65_pending write_1.1.pending.length c_y65_pending), (Value.int .i64 write_1.1.left), (Value.bool write_1.1.stopped)].toArray 25)]) (i := 0) ty25 hs352 rfl rfl rfl rfl rfl (le_lit rfl) rfl rfl rfl ?_)
  intro w354 p355 hs356
  replace f_y65_sectors := f_y65_sectors.step p355
  replace f_y65_pending := f_y65_pending.step p355
  replace f_y86 := f_y86.step p355
  replace f_y311_sectors := f_y311_sectors.step p355
  replace f_y311_pending := f_y311_pending.step p355
  replace f_y347_sectors := f_y347_sectors.step p355
  replace f_y347_pending := f_y347_pending.step p355
  clear p355 hs352
  refine Rg_op rfl (op_assign (v := (Value.int .i64 sync_1.2)) rfl ?_)
  refine Rg_nil ?_
  refine Wp_seq ?_
  refine Wp_reset [] [(2, (Value.int .i64 new_1.2)), (4, (Value.int .i64 new_2.2)), (5, (Value.pointer (some ⟨b67, 0, none⟩))), (6, (Value.int .i64 write_1.2)), (7, (Value.slice a_y86 read_1.1.length c_y86)), (8, (Value.int .i64 read_1.2)), (10, (Value.int .i64 read_2.2)), (12, (Value.int .i64 write_2.2)), (14, (Value.int .i64 stop_1.2)), (15, (Value.int .i64 write_3.2)), (16, (Value.pointer (some ⟨b349, 0, none⟩))), (17, (Value.int .i64 sync_1.2))] rfl ⟨rfl, rfl, rfl, rfl, rfl, rfl, rfl, rfl, rfl, rfl, rfl, rfl, trivial⟩ fun ξ357 => ?_
  replace hm := jn_elim hm; obtain ⟨k359, hk360, hm⟩ := hm
  refine Wp_seqJ [70, 71, 72, 73, 74, 75, 76, 77, 78, 79, 80, 81, 82, 83, 84, 85, 86, 87, 88, 89, 90, 91, 92, 93, 94, 95, 96, 97, 98, 99, 100, 101, 102, 103, 104, 105, 106, 107, 108] (fun fr w' => ∃ (v_1 : Bool) (Ebs : Ents), Ebs = [(some b349, Obj.cells [(Value.slice a_y347_sectors sync_1.1.sectors.length c_y347_sectors), (Value.slice a_y347_pending sync_1.1.pending.length c_y347_pending), (Value.int .i64 sync_1.1.left), (Value.bool sync_1.1.stopped)].toArray 25), (some b230, Obj.cells [(Value.slice a_y311_sectors write_3.1.sectors.length c_y311_sectors), (Value.slice a_y311_pending write_3.1.pending.length c_y311_pending), (Value.int .i64 write_3.1.left), (Value.bool write_3.1.stopped)].toArray 25), (some b67, Obj.cells [(Value.slice a_y65_sectors write_1.1.sectors.length c_y65_sectors), (Value.slice a_y65_pending write_1.1.pending.length c_y65_pending), (Value.int .i64 write_1.1.left), (Value.bool write_1.1.stopped)].toArray 25)] ∧ fr [] [(108, (Value.bool v_1))] ∧ Step (ks [(some b349, Obj.cells [(Value.slice a_y347_sectors sync_1.1.sectors.length c_y347_sectors), (Value.slice a_y347_pending sync_1.1.pending.length c_y347_pending), (Value.int .i64 sync_1.1.left), (Value.bool sync_1.1.stopped)].toArray 25), (some b230, Obj.cells [(Value.slice a_y311_sectors write_3.1.sectors.length c_y311_sectors), (Value.slice a_y311_pending write_3.1.pending.length c_y311_pending), (Value.int .i64 write_3.1.left), (Value.bool write_3.1.stopped)].toArray 25), (some b67, Obj.cells [(Value.slice a_y65_sectors write_1.1.sectors.length c_y65_sectors), (Value.slice a_y65_pending write_1.1.pending.length c_y65_pending), (Value.int .i64 write_1.1.left), (Value.bool write_1.1.stopped)].toArray 25)] O) w354 (ks Ebs O) w' ∧ St ⟨w, [], []⟩ O w' Ebs ∧ k359 v_1 = some x) ?_ ?_
  ·
    rintro ρ366 w362 ⟨v_1, Ebs, hEbs, hfr365, hst364, hs363, hm⟩
    replace hm := jnE1 hk360 hm
    subst hEbs; rw [hfr365.eq]; clear hfr365
    replace f_y65_sectors := f_y65_sectors.step hst364
    replace f_y65_pending := f_y65_pending.step hst364
    replace f_y86 := f_y86.step hst364
    replace f_y311_sectors := f_y311_sectors.step hst364
    replace f_y311_pending := f_y311_pending.step hst364
    replace f_y347_sectors := f_y347_sectors.step hst364
    replace f_y347_pending := f_y347_pending.step hst364
    clear hst364 hs356
    refine Wp_cond rfl (fun hc367 => ?_) (fun hc367 => ?_)
    ·
      replace hm := bif_t hm hc367
      refine Wp_seq ?_
      obtain ⟨hs368, p369⟩ := hs363.sub (bs' := []) (.cons _ (.cons _ (.cons _ List.Sublist.slnil)))
      clear f_y65_sectors f_y65_pending f_y86 f_y311_sectors f_y311_pending f_y347_sectors f_y347_pending
      clear p369 hs363
      refine Wp_region ?_  -- 11 law.go:22
      refine Rg_op rfl (op_assign (v := (Value.bool false)) rfl ?_)
      refine Rg_nil ?_
      refine Wp_ret ?_
      have hz := step_all hs368
      refine ⟨_, (show Closes [] _ _ from rfl), [(Value.bool false)], ⟨rfl, trivial⟩, hs368.ext, ?_⟩
      exact Vr.eq (a := vB) (x := false) rfl (Option.some.inj hm)
    ·
      replace hm := bif_f hm hc367
      refine Wp_skip ?_
      refine Wp_seq ?_
      obtain ⟨hs370, p371⟩ := hs363.sub (bs' := [(some b349, Obj.cells [(Value.slice a_y347_sectors sync_1.1.sectors.length c_y347_sectors), (Value.slice a_y347_pending sync_1.1.pending.length c_y347_pending), (Value.int .i64 sync_1.1.left), (Value.bool sync_1.1.stopped)].toArray 25), (some b67, Obj.cells [(Value.slice a_y65_sectors write_1.1.sectors.length c_y65_sectors), (Value.slice a_y65_pending write_1.1.pending.length c_y65_pending), (Value.int .i64 write_1.1.left), (Value.bool write_1.1.stopped)].toArray 25)]) (.cons_cons _ (.cons _ (.cons_cons _ List.Sublist.slnil)))
      clear f_y311_sectors f_y311_pending
      replace f_y65_sectors := f_y65_sectors.step p371
      replace f_y65_pending := f_y65_pending.step p371
      replace f_y86 := f_y86.step p371
      replace f_y347_sectors := f_y347_sectors.step p371
      replace f_y347_pending := f_y347_pending.step p371
      clear p371 hs363
      refine Wp_region ?_  -- 12 law.go:24
      refine Rg_op rfl (op_loadA (cs := [(Value.slice a_y347_sectors sync_1.1.sectors.length c_y347_sectors), (Value.slice a_y347_pending sync_1.1.pending.length c_y347_pending), (Value.int .i64 sync_1.1.left), (Value.bool sync_1.1.stopped)]) (vs := [(Value.slice a_y347_sectors sync_1.1.sectors.length c_y347_sectors), (Value.slice a_y347_pending sync_1.1.pending.length c_y347_pending), (Value.int .i64 sync_1.1.left), (Value.bool sync_1.1.stopped)]) (i := 0) ty25 hs370 rfl rfl rfl rfl ?_)
      replace hm := bd hm; obtain ⟨restart_1, hv372, hm⟩ := hm
      refine Rg_op rfl (op_call Try.call20 (c20_disk_Restart (d := sync_1.1) hs370.ltw f_y347_sectors f_y347_pending r_y347_left hv372) rfl ?_)
      rintro v373 w374 ⟨hx375, h376⟩
      have hs377 := hs370.call hx375
      have p378 := Step.ext (O := ks [(some b349, Obj.cells [(Value.slice a_y347_sectors sync_1.1.sectors.length c_y347_sectors), (Value.slice a_y347_pending sync_1.1.pending.length c_y347_pending), (Value.int .i64 sync_1.1.left), (Value.bool sync_1.1.stopped)].toArray 25), (some b67, Obj.cells [(Value.slice a_y65_sectors write_1.1.sectors.length c_y65_sectors), (Value.slice a_y65_pending write_1.1.pending.length c_y65_pending), (Value.int .i64 write_1.1.left), (Value.bool write_1.1.stopped)].toArray 25)] O) hx375
      clear hx375
      replace f_y65_sectors := f_y65_sectors.step p378
      replace f_y65_pending := f_y65_pending.step p378
      replace f_y86 := f_y86.step p378
      replace f_y347_sectors := f_y347_sectors.step p378
      replace f_y347_pending := f_y347_pending.step p378
      clear p378 hs370
      obtain ⟨_, rfl, ⟨_, _, rfl, ⟨a_y379_sectors, c_y379_sectors, rfl, f_y379_sectors⟩, ⟨_, _, rfl, ⟨a_y379_pending, c_y379_pending, rfl, f_y379_pending⟩, ⟨_, _, rfl, ⟨rfl, r_y379_left⟩, rfl⟩⟩⟩⟩ := h376
      refine Rg_op_ (op_store (cs := [(Value.slice a_y347_sectors sync_1.1.sectors.length c_y347_sectors), (Value.slice a_y347_pending sync_1.1.pending.length c_y347_pending), (Value.int .i64 sync_1.1.left), (Value.bool sync_1.1.stopped)]) (vs := [(Value.slice a_y379_sectors restart_1.sectors.length c_y379_sectors), (Value.slice a_y379_pending restart_1.pending.length c_y379_pending), (Value.int .i64 restart_1.left), (Value.bool restart_1.stopped)]) (cs' := [(Value.slice a_y379_sectors restart_1.sectors.length c_y379_sectors), (Value.slice a_y379_pending restart_1.pending.length c_y379_pending), (Value.int .i64 restart_1.left), (Value.bool restart_1.stopped)]) (bs' := [(some b349, Obj.cells [(Value.slice a_y379_sectors restart_1.sectors.length c_y379_sectors), (Value.slice a_y379_pending restart_1.pending.length c_y379_pending), (Value.int .i64 restart_1.left), (Value.bool restart_1.stopped)].toArray 25), (some b67, Obj.cells [(Value.slice a_y65_sectors write_1.1.sectors.length c_y65_sectors), (Value.slice a_y65_pending write_1.1.pending.length c_y65_pending), (Value.int .i64 write_1.1.left), (Value.bool write_1.1.stopped)].toArray 25)]) (i := 0) ty25 hs377 rfl rfl rfl rfl rfl (le_lit rfl) rfl rfl rfl ?_)
      intro w380 p381 hs382
      replace f_y65_sectors := f_y65_sectors.step p381
      replace f_y65_pending := f_y65_pending.step p381
      replace f_y86 := f_y86.step p381
      replace f_y347_sectors := f_y347_sectors.step p381
      replace f_y347_pending := f_y347_pending.step p381
      replace f_y379_sectors := f_y379_sectors.step p381
      replace f_y379_pending := f_y379_pending.step p381
      clear p381 hs377
      refine Rg_nil ?_
      refine Wp_seq ?_
      clear f_y347_sectors f_y347_pending
      refine Wp_region ?_  -- 13 law.go:25
      refine Rg_op rfl (op_loadA (cs := [(Value.slice a_y379_sectors restart_1.sectors.length c_y379_sectors), (Value.slice a_y379_pending restart_1.pending.length c_y379_pending), (Value.int .i64 restart_1.left), (Value.bool restart_1.stopped)]) (vs := [(Value.slice a_y379_sectors restart_1.sectors.length c_y379_sectors), (Value.slice a_y379_pending restart_1.pending.length c_y379_pending), (Value.int .i64 restart_1.left), (Value.bool restart_1.stopped)]) (i := 0) ty25 hs382 rfl rfl rfl rfl ?_)
      replace hm := bd hm; obtain ⟨read_3, hv383, hm⟩ := hm
      refine Rg_op rfl (op_call Try.call27 (c27_disk_Read (d := restart_1) (at_ := 1) hs382.ltw f_y379_sectors f_y379_pending r_y379_left (show InK .i64 1 from by decide) hv383) rfl ?_)
      rintro v384 w385 ⟨hx386, h387⟩
      have hs388 := hs382.call hx386
      have p389 := Step.ext (O := ks [(some b349, Obj.cells [(Value.slice a_y379_sectors restart_1.sectors.length c_y379_sectors), (Value.slice a_y379_pending restart_1.pending.length c_y379_pending), (Value.int .i64 restart_1.left), (Value.bool restart_1.stopped)].toArray 25), (some b67, Obj.cells [(Value.slice a_y65_sectors write_1.1.sectors.length c_y65_sectors), (Value.slice a_y65_pending write_1.1.pending.length c_y65_pending), (Value.int .i64 write_1.1.left), (Value.bool write_1.1.stopped)].toArray 25)] O) hx386
      clear hx386
      replace f_y65_sectors := f_y65_sectors.step p389
      replace f_y65_pending := f_y65_pending.step p389
      replace f_y86 := f_y86.step p389
      replace f_y379_sectors := f_y379_sectors.step p389
      replace f_y379_pending := f_y379_pending.step p389
      clear p389 hs382
      obtain ⟨v390, v391, rfl, h392, h393⟩ := h387
      obtain ⟨a_y394, c_y394, rfl, f_y394⟩ := un_sl h392
      obtain ⟨rfl, r_y395⟩ := h393
      refine Rg_op rfl (op_move (v := (Value.tuple [(Value.slice a_y394 read_3.1.length c_y394), (Value.int .i64 read_3.2)].toArray)) rfl ?_)
      refine Rg_op rfl (op_extract (v := (Value.slice a_y394 read_3.1.length c_y394)) rfl rfl ?_)
      refine Rg_op rfl (op_extract (v := (Value.int .i64 read_3.2)) rfl rfl ?_)
      refine Rg_op rfl (op_assign (v := (Value.slice a_y394 read_3.1.length c_y394)) rfl ?_)
      refine Rg_op rfl (op_assign (v := (Value.int .i64 read_3.2)) rfl ?_)
      refine Rg_nil ?_
      refine Wp_seq ?_
      refine Wp_region ?_  -- 14 law.go:26
      refine Rg_op rfl (op_loadA (cs := [(Value.slice a_y379_sectors restart_1.sectors.length c_y379_sectors), (Value.slice a_y379_pending restart_1.pending.length c_y379_pending), (Value.int .i64 restart_1.left), (Value.bool restart_1.stopped)]) (vs := [(Value.slice a_y379_sectors restart_1.sectors.length c_y379_sectors), (Value.slice a_y379_pending restart_1.pending.length c_y379_pending), (Value.int .i64 restart_1.left), (Value.bool restart_1.stopped)]) (i := 0) ty25 hs388 rfl rfl rfl rfl ?_)
      replace hm := bd hm; obtain ⟨read_4, hv396, hm⟩ := hm
      refine Rg_op rfl (op_call Try.call27 (c27_disk_Read (d := restart_1) (at_ := 0) hs388.ltw f_y379_sectors f_y379_pending r_y379_left (show InK .i64 0 from by decide) hv396) rfl ?_)
      rintro v397 w398 ⟨hx399, h400⟩
      have hs401 := hs388.call hx399
      have p402 := Step.ext (O := ks [(some b349, Obj.cells [(Value.slice a_y379_sectors restart_1.sectors.length c_y379_sectors), (Value.slice a_y379_pending restart_1.pending.length c_y379_pending), (Value.int .i64 restart_1.left), (Value.bool restart_1.stopped)].toArray 25), (some b67, Obj.cells [(Value.slice a_y65_sectors write_1.1.sectors.length c_y65_sectors), (Value.slice a_y65_pending write_1.1.pending.length c_y65_pending), (Value.int .i64 write_1.1.left), (Value.bool write_1.1.stopped)].toArray 25)] O) hx399
      clear hx399
      replace f_y65_sectors := f_y65_sectors.step p402
      replace f_y65_pending := f_y65_pending.step p402
      replace f_y86 := f_y86.step p402
      replace f_y379_sectors := f_y379_sectors.step p402
      replace f_y379_pending := f_y379_pending.step p402
      replace f_y394 := f_y394.step p402
      clear p402 hs388
      obtain ⟨v403, v404, rfl, h405, h406⟩ := h400
      obtain ⟨a_y407, c_y407, rfl, f_y407⟩ := un_sl h405
      obtain ⟨rfl, r_y408⟩ := h406
      refine Rg_op rfl (op_move (v := (Value.tuple [(Value.slice a_y407 read_4.1.length c_y407), (Value.int .i64 read_4.2)].toArray)) rfl ?_)
      refine Rg_op rfl (op_extract (v := (Value.slice a_y407 read_4.1.length c_y407)) rfl rfl ?_)
      refine Rg_op rfl (op_extract (v := (Value.int .i64 read_4.2)) rfl rfl ?_)
      refine Rg_op rfl (op_assign (v := (Value.slice a_y407 read_4.1.length c_y407)) rfl ?_)
      refine Rg_op rfl (op_assign (v := (Value.int .i64 read_4.2)) rfl ?_)
      refine Rg_nil ?_
      refine Wp_seq ?_
      obtain ⟨hs409, p410⟩ := hs401.sub (bs' := [(some b67, Obj.cells [(Value.slice a_y65_sectors write_1.1.sectors.length c_y65_sectors), (Value.slice a_y65_pending write_1.1.pending.length c_y65_pending), (Value.int .i64 write_1.1.left), (Value.bool write_1.1.stopped)].toArray 25)]) (.cons _ (.cons_cons _ List.Sublist.slnil))
      clear f_y379_sectors f_y379_pending
      replace f_y65_sectors := f_y65_sectors.step p410
      replace f_y65_pending := f_y65_pending.step p410
      replace f_y86 := f_y86.step p410
      replace f_y394 := f_y394.step p410
      replace f_y407 := f_y407.step p410
      clear p410 hs401
      refine Wp_reset [] [(5, (Value.pointer (some ⟨b67, 0, none⟩))), (7, (Value.slice a_y86 read_1.1.length c_y86)), (18, (Value.slice a_y394 read_3.1.length c_y394)), (19, (Value.int .i64 read_3.2)), (20, (Value.slice a_y407 read_4.1.length c_y407)), (21, (Value.int .i64 read_4.2))] rfl ⟨rfl, rfl, rfl, rfl, rfl, rfl, trivial⟩ fun ξ411 => ?_
      refine Wp_region ?_  -- 15 law.go:27
      refine Rg_op rfl (op_loadA (cs := [(Value.slice a_y65_sectors write_1.1.sectors.length c_y65_sectors), (Value.slice a_y65_pending write_1.1.pending.length c_y65_pending), (Value.int .i64 write_1.1.left), (Value.bool write_1.1.stopped)]) (vs := [(Value.slice a_y65_sectors write_1.1.sectors.length c_y65_sectors), (Value.slice a_y65_pending write_1.1.pending.length c_y65_pending), (Value.int .i64 write_1.1.left), (Value.bool write_1.1.stopped)]) (i := 0) ty25 hs409 rfl rfl rfl rfl ?_)
      replace hm := bd hm; obtain ⟨restart_2, hv412, hm⟩ := hm
      refine Rg_op rfl (op_call Try.call20 (c20_disk_Restart (d := write_1.1) hs409.ltw f_y65_sectors f_y65_pending r_y65_left hv412) rfl ?_)
      rintro v413 w414 ⟨hx415, h416⟩
      have hs417 := hs409.call hx415
      have p418 := Step.ext (O := ks [(some b67, Obj.cells [(Value.slice a_y65_sectors write_1.1.sectors.length c_y65_sectors), (Value.slice a_y65_pending write_1.1.pending.length c_y65_pending), (Value.int .i64 write_1.1.left), (Value.bool write_1.1.stopped)].toArray 25)] O) hx415
      clear hx415
      replace f_y65_sectors := f_y65_sectors.step p418
      replace f_y65_pending := f_y65_pending.step p418
      replace f_y86 := f_y86.step p418
      replace f_y394 := f_y394.step p418
      replace f_y407 := f_y407.step p418
      clear p418 hs409
      obtain ⟨_, rfl, ⟨_, _, rfl, ⟨a_y419_sectors, c_y419_sectors, rfl, f_y419_sectors⟩, ⟨_, _, rfl, ⟨a_y419_pending, c_y419_pending, rfl, f_y419_pending⟩, ⟨_, _, rfl, ⟨rfl, r_y419_left⟩, rfl⟩⟩⟩⟩ := h416
      replace hm := bd hm; obtain ⟨read_5, hv420, hm⟩ := hm
      refine Rg_op rfl (op_call Try.call27 (c27_disk_Read (d := restart_2) (at_ := 1) hs417.ltw f_y419_sectors f_y419_pending r_y419_left (show InK .i64 1 from by decide) hv420) rfl ?_)
      rintro v421 w422 ⟨hx423, h424⟩
      have hs425 := hs417.call hx423
      have p426 := Step.ext (O := ks [(some b67, Obj.cells [(Value.slice a_y65_sectors write_1.1.sectors.length c_y65_sectors), (Value.slice a_y65_pending write_1.1.pending.length c_y65_pending), (Value.int .i64 write_1.1.left), (Value.bool write_1.1.stopped)].toArray 25)] O) hx423
      clear hx423
      replace f_y65_sectors := f_y65_sectors.step p426
      replace f_y65_pending := f_y65_pending.step p426
      replace f_y86 := f_y86.step p426
      replace f_y394 := f_y394.step p426
      replace f_y407 := f_y407.step p426
      replace f_y419_sectors := f_y419_sectors.step p426
      replace f_y419_pending := f_y419_pending.step p426
      clear p426 hs417
      obtain ⟨v427, v428, rfl, h429, h430⟩ := h424
      obtain ⟨a_y431, c_y431, rfl, f_y431⟩ := un_sl h429
      obtain ⟨rfl, r_y432⟩ := h430
      refine Rg_op rfl (op_move (v := (Value.tuple [(Value.slice a_y431 read_5.1.length c_y431), (Value.int .i64 read_5.2)].toArray)) rfl ?_)
      refine Rg_op rfl (op_extract (v := (Value.slice a_y431 read_5.1.length c_y431)) rfl rfl ?_)
      refine Rg_op rfl (op_extract (v := (Value.int .i64 read_5.2)) rfl rfl ?_)
      refine Rg_op rfl (op_assign (v := (Value.slice a_y431 read_5.1.length c_y431)) rfl ?_)
      refine Rg_op rfl (op_assign (v := (Value.int .i64 read_5.2)) rfl ?_)
      refine Rg_nil ?_
      refine Wp_reset [] [(7, (Value.slice a_y86 read_1.1.length c_y86)), (18, (Value.slice a_y394 read_3.1.length c_y394)), (19, (Value.int .i64 read_3.2)), (20, (Value.slice a_y407 read_4.1.length c_y407)), (21, (Value.int .i64 read_4.2)), (22, (Value.slice a_y431 read_5.1.length c_y431)), (23, (Value.int .i64 read_5.2))] rfl ⟨rfl, rfl, rfl, rfl, rfl, rfl, rfl, trivial⟩ fun ξ433 => ?_
      replace hm := jn_elim hm; obtain ⟨k435, hk436, hm⟩ := hm
      refine Wp_seqJ [0, 127, 128, 129, 130, 131, 132, 133, 134, 135, 136, 137, 138, 139, 140, 141, 142, 143, 144, 145, 146, 147, 148, 149, 150, 151, 152, 153, 154, 155, 156, 157, 158, 159, 160, 161, 162, 163, 164, 165, 166, 167, 168, 169, 170, 171, 172, 173, 174, 175, 176, 177, 178, 179, 180, 181, 182, 183, 184, 185, 186, 187, 188, 189, 190, 191, 192, 193, 194, 195, 196, 197] (fun fr w' => ∃ (v_2 : Bool) (Ebs : Ents), Ebs = [(some b67, Obj.cells [(Value.slice a_y65_sectors write_1.1.sectors.length c_y65_sectors), (Value.slice a_y65_pending write_1.1.pending.length c_y65_pending), (Value.int .i64 write_1.1.left), (Value.bool write_1.1.stopped)].toArray 25)] ∧ fr [] [(0, (Value.bool v_2))] ∧ Step (ks [(some b67, Obj.cells [(Value.slice a_y65_sectors write_1.1.sectors.length c_y65_sectors), (Value.slice a_y65_pending write_1.1.pending.length c_y65_pending), (Value.int .i64 write_1.1.left), (Value.bool write_1.1.stopped)].toArray 25)] O) w422 (ks Ebs O) w' ∧ St ⟨w, [], []⟩ O w' Ebs ∧ k435 v_2 = some x) ?_ ?_
      ·
        rintro ρ442 w438 ⟨v_2, Ebs, hEbs, hfr441, hst440, hs439, hm⟩
        replace hm := jnE1 hk436 hm
        subst hEbs; rw [hfr441.eq]; clear hfr441
        replace f_y65_sectors := f_y65_sectors.step hst440
        replace f_y65_pending := f_y65_pending.step hst440
        replace f_y86 := f_y86.step hst440
        replace f_y394 := f_y394.step hst440
        replace f_y407 := f_y407.step hst440
        replace f_y419_sectors := f_y419_sectors.step hst440
        replace f_y419_pending := f_y419_pending.step hst440
        replace f_y431 := f_y431.step hst440
        clear hst440 hs425
        refine Wp_ret ?_
        have hz := step_all hs439
        replace f_y65_sectors := f_y65_sectors.step hz
        replace f_y65_pending := f_y65_pending.step hz
        replace f_y86 := f_y86.step hz
        replace f_y394 := f_y394.step hz
        replace f_y407 := f_y407.step hz
        replace f_y419_sectors := f_y419_sectors.step hz
        replace f_y419_pending := f_y419_pending.step hz
        replace f_y431 := f_y431.step hz
        refine ⟨_, (show Closes [] _ _ from rfl), [(Value.bool v_2)], ⟨rfl, trivial⟩, hs439.ext, ?_⟩
        exact Vr.eq (a := vB) (x := v_2) rfl (Option.some.inj hm)
      ·
        intro K437 hK437
        have ch443 := Step.refl (ks [(some b67, Obj.cells [(Value.slice a_y65_sectors write_1.1.sectors.length c_y65_sectors), (Value.slice a_y65_pending write_1.1.pending.length c_y65_pending), (Value.int .i64 write_1.1.left), (Value.bool write_1.1.stopped)].toArray 25)] O) w422
        clear f_y419_sectors f_y419_pending
        refine Wp_region ?_  -- 16 law.go:28
        refine Rg_op rfl (op_move (v := (Value.int .i64 read_3.2)) rfl ?_)
        refine Rg_op rfl (op_eql rfl rfl ?_)
        refine Rg_op rfl (op_move (v := (Value.bool (decide (read_3.2 = 0)))) rfl ?_)
        refine Rg_case (fun hg444 => ?_) (fun hg444 => ?_)
        ·
          replace hm := bif_t hm hg444
          refine Rg_opg rfl rfl rfl (op_move (v := (Value.int .i64 read_4.2)) rfl ?_)
          refine Rg_opg rfl rfl rfl (op_eql rfl rfl ?_)
          refine Rg_op rfl (op_pick_t (v := (Value.bool (decide (read_4.2 = 0)))) rfl rfl ?_)
          refine Rg_op rfl (op_move (v := (Value.bool (decide (read_4.2 = 0)))) rfl ?_)
          refine Rg_case (fun hg445 => ?_) (fun hg445 => ?_)
          ·
            replace hm := bif_t hm hg445
            refine Rg_opg rfl rfl rfl (op_move (v := (Value.int .i64 read_5.2)) rfl ?_)
            refine Rg_opg rfl rfl rfl (op_eql rfl rfl ?_)
            refine Rg_op rfl (op_pick_t (v := (Value.bool (decide (read_5.2 = 0)))) rfl rfl ?_)
            refine Rg_op rfl (op_move (v := (Value.bool (decide (read_5.2 = 0)))) rfl ?_)
            refine Rg_case (fun hg446 => ?_) (fun hg446 => ?_)
            ·
              replace hm := bif_t hm hg446
              refine Rg_opg rfl rfl rfl (op_move (v := (Value.slice a_y86 read_1.1.length c_y86)) rfl ?_)
              refine Rg_opg rfl rfl rfl (op_len Try.underlying41 rfl ?_)
              refine Rg_opg rfl rfl rfl (op_eql rfl rfl ?_)
              refine Rg_op rfl (op_pick_t (v := (Value.bool (decide ((read_1.1.length : Int) = 128)))) rfl rfl ?_)
              refine Rg_op rfl (op_move (v := (Value.bool (decide ((read_1.1.length : Int) = 128)))) rfl ?_)
              refine Rg_case (fun hg447 => ?_) (fun hg447 => ?_)
              ·
                replace hm := bif_t hm hg447
                refine Rg_opg rfl rfl rfl (op_move (v := (Value.slice a_y86 read_1.1.length c_y86)) rfl ?_)
                replace hm := ck_some hm; obtain ⟨hc448, hm⟩ := hm
                refine Rg_opg rfl rfl rfl (op_indexAddr (q := rU8) ty41 ty5 rfl rfl f_y86 rfl hc448.1 hc448.2 ?_)
                intro p449 f450
                refine Rg_opg rfl rfl rfl (op_loadP ty5 rfl f450 rfl ?_)
                intro v451 h452
                obtain rfl := un_u8 h452
                refine Rg_opg rfl rfl rfl (op_eql rfl rfl ?_)
                refine Rg_op rfl (op_pick_t (v := (Value.bool (decide (((read_1.1.getD 0 default).toNat : Int) = 7)))) rfl rfl ?_)
                refine Rg_op rfl (op_move (v := (Value.bool (decide (((read_1.1.getD 0 default).toNat : Int) = 7)))) rfl ?_)
                refine Rg_case (fun hg454 => ?_) (fun hg454 => ?_)
                ·
                  replace hm := bif_t hm hg454
                  refine Rg_opg rfl rfl rfl (op_move (v := (Value.slice a_y394 read_3.1.length c_y394)) rfl ?_)
                  refine Rg_opg rfl rfl rfl (op_len Try.underlying41 rfl ?_)
                  refine Rg_opg rfl rfl rfl (op_eql rfl rfl ?_)
                  refine Rg_op rfl (op_pick_t (v := (Value.bool (decide ((read_3.1.length : Int) = 128)))) rfl rfl ?_)
                  refine Rg_op rfl (op_move (v := (Value.bool (decide ((read_3.1.length : Int) = 128)))) rfl ?_)
                  refine Rg_case (fun hg455 => ?_) (fun hg455 => ?_)
                  ·
                    replace hm := bif_t hm hg455
                    refine Rg_opg rfl rfl rfl (op_move (v := (Value.slice a_y394 read_3.1.length c_y394)) rfl ?_)
                    replace hm := ck_some hm; obtain ⟨hc456, hm⟩ := hm
                    refine Rg_opg rfl rfl rfl (op_indexAddr (q := rU8) ty41 ty5 rfl rfl f_y394 rfl hc456.1 hc456.2 ?_)
                    intro p457 f458
                    refine Rg_opg rfl rfl rfl (op_loadP ty5 rfl f458 rfl ?_)
                    intro v459 h460
                    obtain rfl := un_u8 h460
                    refine Rg_opg rfl rfl rfl (op_eql rfl rfl ?_)
                    refine Rg_op rfl (op_pick_t (v := (Value.bool (decide (((read_3.1.getD 0 default).toNat : Int) = 7)))) rfl rfl ?_)
                    refine Rg_op rfl (op_move (v := (Value.bool (decide (((read_3.1.getD 0 default).toNat : Int) = 7)))) rfl ?_)
                    refine Rg_case (fun hg462 => ?_) (fun hg462 => ?_)
                    ·
                      replace hm := bif_t hm hg462
                      refine Rg_opg rfl rfl rfl (op_move (v := (Value.slice a_y407 read_4.1.length c_y407)) rfl ?_)
                      refine Rg_opg rfl rfl rfl (op_len Try.underlying41 rfl ?_)
                      refine Rg_opg rfl rfl rfl (op_eql rfl rfl ?_)
                      refine Rg_op rfl (op_pick_t (v := (Value.bool (decide ((read_4.1.length : Int) = 128)))) rfl rfl ?_)
                      refine Rg_op rfl (op_move (v := (Value.bool (decide ((read_4.1.length : Int) = 128)))) rfl ?_)
                      refine Rg_case (fun hg463 => ?_) (fun hg463 => ?_)
                      ·
                        replace hm := bif_t hm hg463
                        refine Rg_opg rfl rfl rfl (op_move (v := (Value.slice a_y407 read_4.1.length c_y407)) rfl ?_)
                        replace hm := ck_some hm; obtain ⟨hc464, hm⟩ := hm
                        refine Rg_opg rfl rfl rfl (op_indexAddr (q := rU8) ty41 ty5 rfl rfl f_y407 rfl hc464.1 hc464.2 ?_)
                        intro p465 f466
                        refine Rg_opg rfl rfl rfl (op_loadP ty5 rfl f466 rfl ?_)
                        intro v467 h468
                        obtain rfl := un_u8 h468
                        refine Rg_opg rfl rfl rfl (op_eql rfl rfl ?_)
                        refine Rg_op rfl (op_pick_t (v := (Value.bool (decide (((read_4.1.getD 0 default).toNat : Int) = 8)))) rfl rfl ?_)
                        refine Rg_op rfl (op_move (v := (Value.bool (decide (((read_4.1.getD 0 default).toNat : Int) = 8)))) rfl ?_)
                        refine Rg_case (fun hg470 => ?_) (fun hg470 => ?_)
                        ·
                          replace hm := bif_t hm hg470
                          refine Rg_opg rfl rfl rfl (op_move (v := (Value.slice a_y407 read_4.1.length c_y407)) rfl ?_)
                          replace hm := ck_some hm; obtain ⟨hc471, hm⟩ := hm
                          refine Rg_opg rfl rfl rfl (op_indexAddr (q := rU8) ty41 ty5 rfl rfl f_y407 rfl hc471.1 hc471.2 ?_)
                          intro p472 f473
                          refine Rg_opg rfl rfl rfl (op_loadP ty5 rfl f473 rfl ?_)
                          intro v474 h475
                          obtain rfl := un_u8 h475
                          refine Rg_opg rfl rfl rfl (op_eql rfl rfl ?_)
                          refine Rg_op rfl (op_pick_t (v := (Value.bool (decide (((read_4.1.getD 64 default).toNat : Int) = 0)))) rfl rfl ?_)
                          refine Rg_op rfl (op_move (v := (Value.bool (decide (((read_4.1.getD 64 default).toNat : Int) = 0)))) rfl ?_)
                          refine Rg_case (fun hg477 => ?_) (fun hg477 => ?_)
                          ·
                            replace hm := bif_t hm hg477
                            refine Rg_opg rfl rfl rfl (op_move (v := (Value.slice a_y431 read_5.1.length c_y431)) rfl ?_)
                            refine Rg_opg rfl rfl rfl (op_len Try.underlying41 rfl ?_)
                            refine Rg_opg rfl rfl rfl (op_eql rfl rfl ?_)
                            refine Rg_op rfl (op_pick_t (v := (Value.bool (decide ((read_5.1.length : Int) = 128)))) rfl rfl ?_)
                            refine Rg_op rfl (op_move (v := (Value.bool (decide ((read_5.1.length : Int) = 128)))) rfl ?_)
                            refine Rg_case (fun hg478 => ?_) (fun hg478 => ?_)
                            ·
                              replace hm := bif_t hm hg478
                              refine Rg_opg rfl rfl rfl (op_move (v := (Value.slice a_y431 read_5.1.length c_y431)) rfl ?_)
                              replace hm := ck_some hm; obtain ⟨hc479, hm⟩ := hm
                              refine Rg_opg rfl rfl rfl (op_indexAddr (q := rU8) ty41 ty5 rfl rfl f_y431 rfl hc479.1 hc479.2 ?_)
                              intro p480 f481
                              refine Rg_opg rfl rfl rfl (op_loadP ty5 rfl f481 rfl ?_)
                              intro v482 h483
                              obtain rfl := un_u8 h483
                              refine Rg_opg rfl rfl rfl (op_eql rfl rfl ?_)
                              refine Rg_op rfl (op_pick_t (v := (Value.bool (decide (((read_5.1.getD 0 default).toNat : Int) = 0)))) rfl rfl ?_)
                              refine Rg_op rfl (op_move (v := (Value.bool (decide (((read_5.1.getD 0 default).toNat : Int) = 0)))) rfl ?_)
                              refine Rg_case (fun hg485 => ?_) (fun hg485 => ?_)
                              ·
                                replace hm := bif_t hm hg485
                                refine Rg_opg rfl rfl rfl (op_build (vs := [(Value.slice none 0 0), (Value.slice none 0 0), (Value.int .i64 0), (Value.bool false)]) (parts := []) ty25 pl25 rfl ?_)
                                replace hm := bd hm; obtain ⟨check_1, hv486, hm⟩ := hm
                                refine Rg_opg rfl rfl rfl (op_call Try.call18 (c18_disk_Check (d := (⟨([] : List (List UInt8)), ([] : List XWrite), 0, false⟩ : XDisk)) hs425.ltw SlR.nil_ SlR.nil_ (show InK .i64 0 from by decide) hv486) rfl ?_)
                                rintro v487 w488 ⟨hx489, h490⟩
                                have hs491 := hs425.call hx489
                                have p492 := Step.ext (O := ks [(some b67, Obj.cells [(Value.slice a_y65_sectors write_1.1.sectors.length c_y65_sectors), (Value.slice a_y65_pending write_1.1.pending.length c_y65_pending), (Value.int .i64 write_1.1.left), (Value.bool write_1.1.stopped)].toArray 25)] O) hx489
                                clear hx489
                                replace f_y65_sectors := f_y65_sectors.step p492
                                replace f_y65_pending := f_y65_pending.step p492
                                replace f_y86 := f_y86.step p492
                                replace f_y394 := f_y394.step p492
                                replace f_y407 := f_y407.step p492
                                replace f_y431 := f_y431.step p492
                                replace f450 := f450.step p492
                                replace f458 := f458.step p492
                                replace f466 := f466.step p492
                                replace f473 := f473.step p492
                                replace f481 := f481.step p492
                                replace ch443 := ch443.trans p492
                                clear p492 hs425
                                obtain ⟨rfl, r_y493⟩ := h490
                                refine Rg_opg rfl rfl rfl (op_eql rfl rfl ?_)
                                refine Rg_op rfl (op_pick_t (v := (Value.bool (decide (check_1 = 440)))) rfl rfl ?_)
                                refine Rg_op rfl (op_move (v := (Value.bool (decide (check_1 = 440)))) rfl ?_)
                                refine Rg_case (fun hg494 => ?_) (fun hg494 => ?_)
                                ·
                                  replace hm := bif_t hm hg494
                                  refine Rg_opg rfl rfl rfl (op_build (vs := [(Value.slice none 0 0), (Value.slice none 0 0), (Value.int .i64 0), (Value.bool false)]) (parts := []) ty25 pl25 rfl ?_)
                                  replace hm := bd hm; obtain ⟨restart_3, hv495, hm⟩ := hm
                                  refine Rg_opg rfl rfl rfl (op_call Try.call20 (c20_disk_Restart (d := (⟨([] : List (List UInt8)), ([] : List XWrite), 0, false⟩ : XDisk)) hs491.ltw SlR.nil_ SlR.nil_ (show InK .i64 0 from by decide) hv495) rfl ?_)
                                  rintro v496 w497 ⟨hx498, h499⟩
                                  have hs500 := hs491.call hx498
                                  have p501 := Step.ext (O := ks [(some b67, Obj.cells [(Value.slice a_y65_sectors write_1.1.sectors.length c_y65_sectors), (Value.slice a_y65_pending write_1.1.pending.length c_y65_pending), (Value.int .i64 write_1.1.left), (Value.bool write_1.1.stopped)].toArray 25)] O) hx498
                                  clear hx498
                                  replace f_y65_sectors := f_y65_sectors.step p501
                                  replace f_y65_pending := f_y65_pending.step p501
                                  replace f_y86 := f_y86.step p501
                                  replace f_y394 := f_y394.step p501
                                  replace f_y407 := f_y407.step p501
                                  replace f_y431 := f_y431.step p501
                                  replace f450 := f450.step p501
                                  replace f458 := f458.step p501
                                  replace f466 := f466.step p501
                                  replace f473 := f473.step p501
                                  replace f481 := f481.step p501
                                  replace ch443 := ch443.trans p501
                                  clear p501 hs491
                                  obtain ⟨_, rfl, ⟨_, _, rfl, ⟨a_y502_sectors, c_y502_sectors, rfl, f_y502_sectors⟩, ⟨_, _, rfl, ⟨a_y502_pending, c_y502_pending, rfl, f_y502_pending⟩, ⟨_, _, rfl, ⟨rfl, r_y502_left⟩, rfl⟩⟩⟩⟩ := h499
                                  refine Rg_opg rfl rfl rfl (op_field1 (cs := [(Value.slice a_y502_sectors restart_3.sectors.length c_y502_sectors), (Value.slice a_y502_pending restart_3.pending.length c_y502_pending), (Value.int .i64 restart_3.left), (Value.bool restart_3.stopped)]) ty25 rfl ty3 rfl rfl ?_)
                                  refine Rg_opg rfl rfl rfl (op_eql rfl rfl ?_)
                                  refine Rg_op rfl (op_pick_t (v := (Value.bool (decide (restart_3.left = (-1))))) rfl rfl ?_)
                                  refine Rg_op rfl (op_assign (v := (Value.bool (decide (restart_3.left = (-1))))) rfl ?_)
                                  refine Rg_nil ?_
                                  exact hK437 _ _ ⟨(decide (restart_3.left = (-1))), _, rfl, ⟨(by repeat (first | with_reducible exact Out.refl _ _ | refine Out.upd ?_ rfl | refine Out.updL ?_ rfl | refine Out.mix' ?_ rfl | exact Out.refl _ _)), rfl, rfl, trivial⟩, ch443, hs500, hm⟩
                                ·
                                  replace hm := bif_f hm hg494
                                  refine Rg_opx rfl (asB_ne rfl rfl) rfl ?_
                                  refine Rg_opx rfl (asB_ne rfl rfl) rfl ?_
                                  refine Rg_opx rfl (asB_ne rfl rfl) rfl ?_
                                  refine Rg_opx rfl (asB_ne rfl rfl) rfl ?_
                                  refine Rg_op rfl (op_pick_f (v := (Value.bool false)) rfl rfl ?_)
                                  refine Rg_op rfl (op_assign (v := (Value.bool false)) rfl ?_)
                                  refine Rg_nil ?_
                                  exact hK437 _ _ ⟨false, _, rfl, ⟨(by repeat (first | with_reducible exact Out.refl _ _ | refine Out.upd ?_ rfl | refine Out.updL ?_ rfl | refine Out.mix' ?_ rfl | exact Out.refl _ _)), rfl, rfl, trivial⟩, ch443, hs491, hm⟩
                              ·
                                replace hm := bif_f hm hg485
                                refine Rg_opx rfl (asB_ne rfl rfl) rfl ?_
                                refine Rg_opx rfl (asB_ne rfl rfl) rfl ?_
                                refine Rg_opx rfl (asB_ne rfl rfl) rfl ?_
                                refine Rg_op rfl (op_pick_f (v := (Value.bool false)) rfl rfl ?_)
                                refine Rg_op rfl (op_move (v := (Value.bool false)) rfl ?_)
                                refine Rg_opx rfl (asB_ne rfl rfl) rfl ?_
                                refine Rg_opx rfl (asB_ne rfl rfl) rfl ?_
                                refine Rg_opx rfl (asB_ne rfl rfl) rfl ?_
                                refine Rg_opx rfl (asB_ne rfl rfl) rfl ?_
                                refine Rg_op rfl (op_pick_f (v := (Value.bool false)) rfl rfl ?_)
                                refine Rg_op rfl (op_assign (v := (Value.bool false)) rfl ?_)
                                refine Rg_nil ?_
                                exact hK437 _ _ ⟨false, _, rfl, ⟨(by repeat (first | with_reducible exact Out.refl _ _ | refine Out.upd ?_ rfl | refine Out.updL ?_ rfl | refine Out.mix' ?_ rfl | exact Out.refl _ _)), rfl, rfl, trivial⟩, ch443, hs425, hm⟩
                            ·
                              replace hm := bif_f hm hg478
                              refine Rg_opx rfl (asB_ne rfl rfl) rfl ?_
                              refine Rg_opx rfl (asB_ne rfl rfl) rfl ?_
                              refine Rg_opx rfl (asB_ne rfl rfl) rfl ?_
                              refine Rg_opx rfl (asB_ne rfl rfl) rfl ?_
                              refine Rg_op rfl (op_pick_f (v := (Value.bool false)) rfl rfl ?_)
                              refine Rg_op rfl (op_move (v := (Value.bool false)) rfl ?_)
                              refine Rg_opx rfl (asB_ne rfl rfl) rfl ?_
                              refine Rg_opx rfl (asB_ne rfl rfl) rfl ?_
                              refine Rg_opx rfl (asB_ne rfl rfl) rfl ?_
                              refine Rg_op rfl (op_pick_f (v := (Value.bool false)) rfl rfl ?_)
                              refine Rg_op rfl (op_move (v := (Value.bool false)) rfl ?_)
                              refine Rg_opx rfl (asB_ne rfl rfl) rfl ?_
                              refine Rg_opx rfl (asB_ne rfl rfl) rfl ?_
                              refine Rg_opx rfl (asB_ne rfl rfl) rfl ?_
                              refine Rg_opx rfl (asB_ne rfl rfl) rfl ?_
                              refine Rg_op rfl (op_pick_f (v := (Value.bool false)) rfl rfl ?_)
                              refine Rg_op rfl (op_assign (v := (Value.bool false)) rfl ?_)
                              refine Rg_nil ?_
                              exact hK437 _ _ ⟨false, _, rfl, ⟨(by repeat (first | with_reducible exact Out.refl _ _ | refine Out.upd ?_ rfl | refine Out.updL ?_ rfl | refine Out.mix' ?_ rfl | exact Out.refl _ _)), rfl, rfl, trivial⟩, ch443, hs425, hm⟩
                          ·
                            replace hm := bif_f hm hg477
                            refine Rg_opx rfl (asB_ne rfl rfl) rfl ?_
                            refine Rg_opx rfl (asB_ne rfl rfl) rfl ?_
                            refine Rg_opx rfl (asB_ne rfl rfl) rfl ?_
                            refine Rg_op rfl (op_pick_f (v := (Value.bool false)) rfl rfl ?_)
                            refine Rg_op rfl (op_move (v := (Value.bool false)) rfl ?_)
                            refine Rg_opx rfl (asB_ne rfl rfl) rfl ?_
                            refine Rg_opx rfl (asB_ne rfl rfl) rfl ?_
                            refine Rg_opx rfl (asB_ne rfl rfl) rfl ?_
                            refine Rg_opx rfl (asB_ne rfl rfl) rfl ?_
                            refine Rg_op rfl (op_pick_f (v := (Value.bool false)) rfl rfl ?_)
                            refine Rg_op rfl (op_move (v := (Value.bool false)) rfl ?_)
                            refine Rg_opx rfl (asB_ne rfl rfl) rfl ?_
                            refine Rg_opx rfl (asB_ne rfl rfl) rfl ?_
                            refine Rg_opx rfl (asB_ne rfl rfl) rfl ?_
                            refine Rg_op rfl (op_pick_f (v := (Value.bool false)) rfl rfl ?_)
                            refine Rg_op rfl (op_move (v := (Value.bool false)) rfl ?_)
                            refine Rg_opx rfl (asB_ne rfl rfl) rfl ?_
                            refine Rg_opx rfl (asB_ne rfl rfl) rfl ?_
                            refine Rg_opx rfl (asB_ne rfl rfl) rfl ?_
                            refine Rg_opx rfl (asB_ne rfl rfl) rfl ?_
                            refine Rg_op rfl (op_pick_f (v := (Value.bool false)) rfl rfl ?_)
                            refine Rg_op rfl (op_assign (v := (Value.bool false)) rfl ?_)
                            refine Rg_nil ?_
                            exact hK437 _ _ ⟨false, _, rfl, ⟨(by repeat (first | with_reducible exact Out.refl _ _ | refine Out.upd ?_ rfl | refine Out.updL ?_ rfl | refine Out.mix' ?_ rfl | exact Out.refl _ _)), rfl, rfl, trivial⟩, ch443, hs425, hm⟩
                        ·
                          replace hm := bif_f hm hg470
                          refine Rg_opx rfl (asB_ne rfl rfl) rfl ?_
                          refine Rg_opx rfl (asB_ne rfl rfl) rfl ?_
                          refine Rg_opx rfl (asB_ne rfl rfl) rfl ?_
                          refine Rg_opx rfl (asB_ne rfl rfl) rfl ?_
                          refine Rg_op rfl (op_pick_f (v := (Value.bool false)) rfl rfl ?_)
                          refine Rg_op rfl (op_move (v := (Value.bool false)) rfl ?_)
                          refine Rg_opx rfl (asB_ne rfl rfl) rfl ?_
                          refine Rg_opx rfl (asB_ne rfl rfl) rfl ?_
                          refine Rg_opx rfl (asB_ne rfl rfl) rfl ?_
                          refine Rg_op rfl (op_pick_f (v := (Value.bool false)) rfl rfl ?_)
                          refine Rg_op rfl (op_move (v := (Value.bool false)) rfl ?_)
                          refine Rg_opx rfl (asB_ne rfl rfl) rfl ?_
                          refine Rg_opx rfl (asB_ne rfl rfl) rfl ?_
                          refine Rg_opx rfl (asB_ne rfl rfl) rfl ?_
                          refine Rg_opx rfl (asB_ne rfl rfl) rfl ?_
                          refine Rg_op rfl (op_pick_f (v := (Value.bool false)) rfl rfl ?_)
                          refine Rg_op rfl (op_move (v := (Value.bool false)) rfl ?_)
                          refine Rg_opx rfl (asB_ne rfl rfl) rfl ?_
                          refine Rg_opx rfl (asB_ne rfl rfl) rfl ?_
                          refine Rg_opx rfl (asB_ne rfl rfl) rfl ?_
                          refine Rg_op rfl (op_pick_f (v := (Value.bool false)) rfl rfl ?_)
                          refine Rg_op rfl (op_move (v := (Value.bool false)) rfl ?_)
                          refine Rg_opx rfl (asB_ne rfl rfl) rfl ?_
                          refine Rg_opx rfl (asB_ne rfl rfl) rfl ?_
                          refine Rg_opx rfl (asB_ne rfl rfl) rfl ?_
                          refine Rg_opx rfl (asB_ne rfl rfl) rfl ?_
                          refine Rg_op rfl (op_pick_f (v := (Value.bool false)) rfl rfl ?_)
                          refine Rg_op rfl (op_assign (v := (Value.bool false)) rfl ?_)
                          refine Rg_nil ?_
                          exact hK437 _ _ ⟨false, _, rfl, ⟨(by repeat (first | with_reducible exact Out.refl _ _ | refine Out.upd ?_ rfl | refine Out.updL ?_ rfl | refine Out.mix' ?_ rfl | exact Out.refl _ _)), rfl, rfl, trivial⟩, ch443, hs425, hm⟩
                      ·
                        replace hm := bif_f hm hg463
                        refine Rg_opx rfl (asB_ne rfl rfl) rfl ?_
                        refine Rg_opx rfl (asB_ne rfl rfl) rfl ?_
                        refine Rg_opx rfl (asB_ne rfl rfl) rfl ?_
                        refine Rg_opx rfl (asB_ne rfl rfl) rfl ?_
                        refine Rg_op rfl (op_pick_f (v := (Value.bool false)) rfl rfl ?_)
                        refine Rg_op rfl (op_move (v := (Value.bool false)) rfl ?_)
                        refine Rg_opx rfl (asB_ne rfl rfl) rfl ?_
                        refine Rg_opx rfl (asB_ne rfl rfl) rfl ?_
                        refine Rg_opx rfl (asB_ne rfl rfl) rfl ?_
                        refine Rg_opx rfl (asB_ne rfl rfl) rfl ?_
                        refine Rg_op rfl (op_pick_f (v := (Value.bool false)) rfl rfl ?_)
                        refine Rg_op rfl (op_move (v := (Value.bool false)) rfl ?_)
                        refine Rg_opx rfl (asB_ne rfl rfl) rfl ?_
                        refine Rg_opx rfl (asB_ne rfl rfl) rfl ?_
                        refine Rg_opx rfl (asB_ne rfl rfl) rfl ?_
                        refine Rg_op rfl (op_pick_f (v := (Value.bool false)) rfl rfl ?_)
                        refine Rg_op rfl (op_move (v := (Value.bool false)) rfl ?_)
                        refine Rg_opx rfl (asB_ne rfl rfl) rfl ?_
                        refine Rg_opx rfl (asB_ne rfl rfl) rfl ?_
                        refine Rg_opx rfl (asB_ne rfl rfl) rfl ?_
                        refine Rg_opx rfl (asB_ne rfl rfl) rfl ?_
                        refine Rg_op rfl (op_pick_f (v := (Value.bool false)) rfl rfl ?_)
                        refine Rg_op rfl (op_move (v := (Value.bool false)) rfl ?_)
                        refine Rg_opx rfl (asB_ne rfl rfl) rfl ?_
                        refine Rg_opx rfl (asB_ne rfl rfl) rfl ?_
                        refine Rg_opx rfl (asB_ne rfl rfl) rfl ?_
                        refine Rg_op rfl (op_pick_f (v := (Value.bool false)) rfl rfl ?_)
                        refine Rg_op rfl (op_move (v := (Value.bool false)) rfl ?_)
                        refine Rg_opx rfl (asB_ne rfl rfl) rfl ?_
                        refine Rg_opx rfl (asB_ne rfl rfl) rfl ?_
                        refine Rg_opx rfl (asB_ne rfl rfl) rfl ?_
                        refine Rg_opx rfl (asB_ne rfl rfl) rfl ?_
                        refine Rg_op rfl (op_pick_f (v := (Value.bool false)) rfl rfl ?_)
                        refine Rg_op rfl (op_assign (v := (Value.bool false)) rfl ?_)
                        refine Rg_nil ?_
                        exact hK437 _ _ ⟨false, _, rfl, ⟨(by repeat (first | with_reducible exact Out.refl _ _ | refine Out.upd ?_ rfl | refine Out.updL ?_ rfl | refine Out.mix' ?_ rfl | exact Out.refl _ _)), rfl, rfl, trivial⟩, ch443, hs425, hm⟩
                    ·
                      replace hm := bif_f hm hg462
                      refine Rg_opx rfl (asB_ne rfl rfl) rfl ?_
                      refine Rg_opx rfl (asB_ne rfl rfl) rfl ?_
                      refine Rg_opx rfl (asB_ne rfl rfl) rfl ?_
                      refine Rg_op rfl (op_pick_f (v := (Value.bool false)) rfl rfl ?_)
                      refine Rg_op rfl (op_move (v := (Value.bool false)) rfl ?_)
                      refine Rg_opx rfl (asB_ne rfl rfl) rfl ?_
                      refine Rg_opx rfl (asB_ne rfl rfl) rfl ?_
                      refine Rg_opx rfl (asB_ne rfl rfl) rfl ?_
                      refine Rg_opx rfl (asB_ne rfl rfl) rfl ?_
                      refine Rg_op rfl (op_pick_f (v := (Value.bool false)) rfl rfl ?_)
                      refine Rg_op rfl (op_move (v := (Value.bool false)) rfl ?_)
                      refine Rg_opx rfl (asB_ne rfl rfl) rfl ?_
                      refine Rg_opx rfl (asB_ne rfl rfl) rfl ?_
                      refine Rg_opx rfl (asB_ne rfl rfl) rfl ?_
                      refine Rg_opx rfl (asB_ne rfl rfl) rfl ?_
                      refine Rg_op rfl (op_pick_f (v := (Value.bool false)) rfl rfl ?_)
                      refine Rg_op rfl (op_move (v := (Value.bool false)) rfl ?_)
                      refine Rg_opx rfl (asB_ne rfl rfl) rfl ?_
                      refine Rg_opx rfl (asB_ne rfl rfl) rfl ?_
                      refine Rg_opx rfl (asB_ne rfl rfl) rfl ?_
                      refine Rg_op rfl (op_pick_f (v := (Value.bool false)) rfl rfl ?_)
                      refine Rg_op rfl (op_move (v := (Value.bool false)) rfl ?_)
                      refine Rg_opx rfl (asB_ne rfl rfl) rfl ?_
                      refine Rg_opx rfl (asB_ne rfl rfl) rfl ?_
                      refine Rg_opx rfl (asB_ne rfl rfl) rfl ?_
                      refine Rg_opx rfl (asB_ne rfl rfl) rfl ?_
                      refine Rg_op rfl (op_pick_f (v := (Value.bool false)) rfl rfl ?_)
                      refine Rg_op rfl (op_move (v := (Value.bool false)) rfl ?_)
                      refine Rg_opx rfl (asB_ne rfl rfl) rfl ?_
                      refine Rg_opx rfl (asB_ne rfl rfl) rfl ?_
                      refine Rg_opx rfl (asB_ne rfl rfl) rfl ?_
                      refine Rg_op rfl (op_pick_f (v := (Value.bool false)) rfl rfl ?_)
                      refine Rg_op rfl (op_move (v := (Value.bool false)) rfl ?_)
                      refine Rg_opx rfl (asB_ne rfl rfl) rfl ?_
                      refine Rg_opx rfl (asB_ne rfl rfl) rfl ?_
                      refine Rg_opx rfl (asB_ne rfl rfl) rfl ?_
                      refine Rg_opx rfl (asB_ne rfl rfl) rfl ?_
                      refine Rg_op rfl (op_pick_f (v := (Value.bool false)) rfl rfl ?_)
                      refine Rg_op rfl (op_assign (v := (Value.bool false)) rfl ?_)
                      refine Rg_nil ?_
                      exact hK437 _ _ ⟨false, _, rfl, ⟨(by repeat (first | with_reducible exact Out.refl _ _ | refine Out.upd ?_ rfl | refine Out.updL ?_ rfl | refine Out.mix' ?_ rfl | exact Out.refl _ _)), rfl, rfl, trivial⟩, ch443, hs425, hm⟩
                  ·
                    replace hm := bif_f hm hg455
                    refine Rg_opx rfl (asB_ne rfl rfl) rfl ?_
                    refine Rg_opx rfl (asB_ne rfl rfl) rfl ?_
                    refine Rg_opx rfl (asB_ne rfl rfl) rfl ?_
                    refine Rg_opx rfl (asB_ne rfl rfl) rfl ?_
                    refine Rg_op rfl (op_pick_f (v := (Value.bool false)) rfl rfl ?_)
                    refine Rg_op rfl (op_move (v := (Value.bool false)) rfl ?_)
                    refine Rg_opx rfl (asB_ne rfl rfl) rfl ?_
                    refine Rg_opx rfl (asB_ne rfl rfl) rfl ?_
                    refine Rg_opx rfl (asB_ne rfl rfl) rfl ?_
                    refine Rg_op rfl (op_pick_f (v := (Value.bool false)) rfl rfl ?_)
                    refine Rg_op rfl (op_move (v := (Value.bool false)) rfl ?_)
                    refine Rg_opx rfl (asB_ne rfl rfl) rfl ?_
                    refine Rg_opx rfl (asB_ne rfl rfl) rfl ?_
                    refine Rg_opx rfl (asB_ne rfl rfl) rfl ?_
                    refine Rg_opx rfl (asB_ne rfl rfl) rfl ?_
                    refine Rg_op rfl (op_pick_f (v := (Value.bool false)) rfl rfl ?_)
                    refine Rg_op rfl (op_move (v := (Value.bool false)) rfl ?_)
                    refine Rg_opx rfl (asB_ne rfl rfl) rfl ?_
                    refine Rg_opx rfl (asB_ne rfl rfl) rfl ?_
                    refine Rg_opx rfl (asB_ne rfl rfl) rfl ?_
                    refine Rg_opx rfl (asB_ne rfl rfl) rfl ?_
                    refine Rg_op rfl (op_pick_f (v := (Value.bool false)) rfl rfl ?_)
                    refine Rg_op rfl (op_move (v := (Value.bool false)) rfl ?_)
                    refine Rg_opx rfl (asB_ne rfl rfl) rfl ?_
                    refine Rg_opx rfl (asB_ne rfl rfl) rfl ?_
                    refine Rg_opx rfl (asB_ne rfl rfl) rfl ?_
                    refine Rg_op rfl (op_pick_f (v := (Value.bool false)) rfl rfl ?_)
                    refine Rg_op rfl (op_move (v := (Value.bool false)) rfl ?_)
                    refine Rg_opx rfl (asB_ne rfl rfl) rfl ?_
                    refine Rg_opx rfl (asB_ne rfl rfl) rfl ?_
                    refine Rg_opx rfl (asB_ne rfl rfl) rfl ?_
                    refine Rg_opx rfl (asB_ne rfl rfl) rfl ?_
                    refine Rg_op rfl (op_pick_f (v := (Value.bool false)) rfl rfl ?_)
                    refine Rg_op rfl (op_move (v := (Value.bool false)) rfl ?_)
                    refine Rg_opx rfl (asB_ne rfl rfl) rfl ?_
                    refine Rg_opx rfl (asB_ne rfl rfl) rfl ?_
                    refine Rg_opx rfl (asB_ne rfl rfl) rfl ?_
                    refine Rg_op rfl (op_pick_f (v := (Value.bool false)) rfl rfl ?_)
                    refine Rg_op rfl (op_move (v := (Value.bool false)) rfl ?_)
                    refine Rg_opx rfl (asB_ne rfl rfl) rfl ?_
                    refine Rg_opx rfl (asB_ne rfl rfl) rfl ?_
                    refine Rg_opx rfl (asB_ne rfl rfl) rfl ?_
                    refine Rg_opx rfl (asB_ne rfl rfl) rfl ?_
                    refine Rg_op rfl (op_pick_f (v := (Value.bool false)) rfl rfl ?_)
                    refine Rg_op rfl (op_assign (v := (Value.bool false)) rfl ?_)
                    refine Rg_nil ?_
                    exact hK437 _ _ ⟨false, _, rfl, ⟨(by repeat (first | with_reducible exact Out.refl _ _ | refine Out.upd ?_ rfl | refine Out.updL ?_ rfl | refine Out.mix' ?_ rfl | exact Out.refl _ _)), rfl, rfl, trivial⟩, ch443, hs425, hm⟩
                ·
                  replace hm := bif_f hm hg454
                  refine Rg_opx rfl (asB_ne rfl rfl) rfl ?_
                  refine Rg_opx rfl (asB_ne rfl rfl) rfl ?_
                  refine Rg_opx rfl (asB_ne rfl rfl) rfl ?_
                  refine Rg_op rfl (op_pick_f (v := (Value.bool false)) rfl rfl ?_)
                  refine Rg_op rfl (op_move (v := (Value.bool false)) rfl ?_)
                  refine Rg_opx rfl (asB_ne rfl rfl) rfl ?_
                  refine Rg_opx rfl (asB_ne rfl rfl) rfl ?_
                  refine Rg_opx rfl (asB_ne rfl rfl) rfl ?_
                  refine Rg_opx rfl (asB_ne rfl rfl) rfl ?_
                  refine Rg_op rfl (op_pick_f (v := (Value.bool false)) rfl rfl ?_)
                  refine Rg_op rfl (op_move (v := (Value.bool false)) rfl ?_)
                  refine Rg_opx rfl (asB_ne rfl rfl) rfl ?_
                  refine Rg_opx rfl (asB_ne rfl rfl) rfl ?_
                  refine Rg_opx rfl (asB_ne rfl rfl) rfl ?_
                  refine Rg_op rfl (op_pick_f (v := (Value.bool false)) rfl rfl ?_)
                  refine Rg_op rfl (op_move (v := (Value.bool false)) rfl ?_)
                  refine Rg_opx rfl (asB_ne rfl rfl) rfl ?_
                  refine Rg_opx rfl (asB_ne rfl rfl) rfl ?_
                  refine Rg_opx rfl (asB_ne rfl rfl) rfl ?_
                  refine Rg_opx rfl (asB_ne rfl rfl) rfl ?_
                  refine Rg_op rfl (op_pick_f (v := (Value.bool false)) rfl rfl ?_)
                  refine Rg_op rfl (op_move (v := (Value.bool false)) rfl ?_)
                  refine Rg_opx rfl (asB_ne rfl rfl) rfl ?_
                  refine Rg_opx rfl (asB_ne rfl rfl) rfl ?_
                  refine Rg_opx rfl (asB_ne rfl rfl) rfl ?_
                  refine Rg_opx rfl (asB_ne rfl rfl) rfl ?_
                  refine Rg_op rfl (op_pick_f (v := (Value.bool false)) rfl rfl ?_)
                  refine Rg_op rfl (op_move (v := (Value.bool false)) rfl ?_)
                  refine Rg_opx rfl (asB_ne rfl rfl) rfl ?_
                  refine Rg_opx rfl (asB_ne rfl rfl) rfl ?_
                  refine Rg_opx rfl (asB_ne rfl rfl) rfl ?_
                  refine Rg_op rfl (op_pick_f (v := (Value.bool false)) rfl rfl ?_)
                  refine Rg_op rfl (op_move (v := (Value.bool false)) rfl ?_)
                  refine Rg_opx rfl (asB_ne rfl rfl) rfl ?_
                  refine Rg_opx rfl (asB_ne rfl rfl) rfl ?_
                  refine Rg_opx rfl (asB_ne rfl rfl) rfl ?_
                  refine Rg_opx rfl (asB_ne rfl rfl) rfl ?_
                  refine Rg_op rfl (op_pick_f (v := (Value.bool false)) rfl rfl ?_)
                  refine Rg_op rfl (op_move (v := (Value.bool false)) rfl ?_)
                  refine Rg_opx rfl (asB_ne rfl rfl) rfl ?_
                  refine Rg_opx rfl (asB_ne rfl rfl) rfl ?_
                  refine Rg_opx rfl (asB_ne rfl rfl) rfl ?_
                  refine Rg_op rfl (op_pick_f (v := (Value.bool false)) rfl rfl ?_)
                  refine Rg_op rfl (op_move (v := (Value.bool false)) rfl ?_)
                  refine Rg_opx rfl (asB_ne rfl rfl) rfl ?_
                  refine Rg_opx rfl (asB_ne rfl rfl) rfl ?_
                  refine Rg_opx rfl (asB_ne rfl rfl) rfl ?_
                  refine Rg_opx rfl (asB_ne rfl rfl) rfl ?_
                  refine Rg_op rfl (op_pick_f (v := (Value.bool false)) rfl rfl ?_)
                  refine Rg_op rfl (op_assign (v := (Value.bool false)) rfl ?_)
                  refine Rg_nil ?_
                  exact hK437 _ _ ⟨false, _, rfl, ⟨(by repeat (first | with_reducible exact Out.refl _ _ | refine Out.upd ?_ rfl | refine Out.updL ?_ rfl | refine Out.mix' ?_ rfl | exact Out.refl _ _)), rfl, rfl, trivial⟩, ch443, hs425, hm⟩
              ·
                replace hm := bif_f hm hg447
                refine Rg_opx rfl (asB_ne rfl rfl) rfl ?_
                refine Rg_opx rfl (asB_ne rfl rfl) rfl ?_
                refine Rg_opx rfl (asB_ne rfl rfl) rfl ?_
                refine Rg_opx rfl (asB_ne rfl rfl) rfl ?_
                refine Rg_op rfl (op_pick_f (v := (Value.bool false)) rfl rfl ?_)
                refine Rg_op rfl (op_move (v := (Value.bool false)) rfl ?_)
                refine Rg_opx rfl (asB_ne rfl rfl) rfl ?_
                refine Rg_opx rfl (asB_ne rfl rfl) rfl ?_
                refine Rg_opx rfl (asB_ne rfl rfl) rfl ?_
                refine Rg_op rfl (op_pick_f (v := (Value.bool false)) rfl rfl ?_)
                refine Rg_op rfl (op_move (v := (Value.bool false)) rfl ?_)
                refine Rg_opx rfl (asB_ne rfl rfl) rfl ?_
                refine Rg_opx rfl (asB_ne rfl rfl) rfl ?_
                refine Rg_opx rfl (asB_ne rfl rfl) rfl ?_
                refine Rg_opx rfl (asB_ne rfl rfl) rfl ?_
                refine Rg_op rfl (op_pick_f (v := (Value.bool false)) rfl rfl ?_)
                refine Rg_op rfl (op_move (v := (Value.bool false)) rfl ?_)
                refine Rg_opx rfl (asB_ne rfl rfl) rfl ?_
                refine Rg_opx rfl (asB_ne rfl rfl) rfl ?_
                refine Rg_opx rfl (asB_ne rfl rfl) rfl ?_
                refine Rg_op rfl (op_pick_f (v := (Value.bool false)) rfl rfl ?_)
                refine Rg_op rfl (op_move (v := (Value.bool false)) rfl ?_)
                refine Rg_opx rfl (asB_ne rfl rfl) rfl ?_
                refine Rg_opx rfl (asB_ne rfl rfl) rfl ?_
                refine Rg_opx rfl (asB_ne rfl rfl) rfl ?_
                refine Rg_opx rfl (asB_ne rfl rfl) rfl ?_
                refine Rg_op rfl (op_pick_f (v := (Value.bool false)) rfl rfl ?_)
                refine Rg_op rfl (op_move (v := (Value.bool false)) rfl ?_)
                refine Rg_opx rfl (asB_ne rfl rfl) rfl ?_
                refine Rg_opx rfl (asB_ne rfl rfl) rfl ?_
                refine Rg_opx rfl (asB_ne rfl rfl) rfl ?_
                refine Rg_opx rfl (asB_ne rfl rfl) rfl ?_
                refine Rg_op rfl (op_pick_f (v := (Value.bool false)) rfl rfl ?_)
                refine Rg_op rfl (op_move (v := (Value.bool false)) rfl ?_)
                refine Rg_opx rfl (asB_ne rfl rfl) rfl ?_
                refine Rg_opx rfl (asB_ne rfl rfl) rfl ?_
                refine Rg_opx rfl (asB_ne rfl rfl) rfl ?_
                refine Rg_op rfl (op_pick_f (v := (Value.bool false)) rfl rfl ?_)
                refine Rg_op rfl (op_move (v := (Value.bool false)) rfl ?_)
                refine Rg_opx rfl (asB_ne rfl rfl) rfl ?_
                refine Rg_opx rfl (asB_ne rfl rfl) rfl ?_
                refine Rg_opx rfl (asB_ne rfl rfl) rfl ?_
                refine Rg_opx rfl (asB_ne rfl rfl) rfl ?_
                refine Rg_op rfl (op_pick_f (v := (Value.bool false)) rfl rfl ?_)
                refine Rg_op rfl (op_move (v := (Value.bool false)) rfl ?_)
                refine Rg_opx rfl (asB_ne rfl rfl) rfl ?_
                refine Rg_opx rfl (asB_ne rfl rfl) rfl ?_
                refine Rg_opx rfl (asB_ne rfl rfl) rfl ?_
                refine Rg_op rfl (op_pick_f (v := (Value.bool false)) rfl rfl ?_)
                refine Rg_op rfl (op_move (v := (Value.bool false)) rfl ?_)
                refine Rg_opx rfl (asB_ne rfl rfl) rfl ?_
                refine Rg_opx rfl (asB_ne rfl rfl) rfl ?_
                refine Rg_opx rfl (asB_ne rfl rfl) rfl ?_
                refine Rg_opx rfl (asB_ne rfl rfl) rfl ?_
                refine Rg_op rfl (op_pick_f (v := (Value.bool false)) rfl rfl ?_)
                refine Rg_op rfl (op_assign (v := (Value.bool false)) rfl ?_)
                refine Rg_nil ?_
                exact hK437 _ _ ⟨false, _, rfl, ⟨(by repeat (first | with_reducible exact Out.refl _ _ | refine Out.upd ?_ rfl | refine Out.updL ?_ rfl | refine Out.mix' ?_ rfl | exact Out.refl _ _)), rfl, rfl, trivial⟩, ch443, hs425, hm⟩
            ·
              replace hm := bif_f hm hg446
              refine Rg_opx rfl (asB_ne rfl rfl) rfl ?_
              refine Rg_opx rfl (asB_ne rfl rfl) rfl ?_
              refine Rg_opx rfl (asB_ne rfl rfl) rfl ?_
              refine Rg_op rfl (op_pick_f (v := (Value.bool false)) rfl rfl ?_)
              refine Rg_op rfl (op_move (v := (Value.bool false)) rfl ?_)
              refine Rg_opx rfl (asB_ne rfl rfl) rfl ?_
              refine Rg_opx rfl (asB_ne rfl rfl) rfl ?_
              refine Rg_opx rfl (asB_ne rfl rfl) rfl ?_
              refine Rg_opx rfl (asB_ne rfl rfl) rfl ?_
              refine Rg_op rfl (op_pick_f (v := (Value.bool false)) rfl rfl ?_)
              refine Rg_op rfl (op_move (v := (Value.bool false)) rfl ?_)
              refine Rg_opx rfl (asB_ne rfl rfl) rfl ?_
              refine Rg_opx rfl (asB_ne rfl rfl) rfl ?_
              refine Rg_opx rfl (asB_ne rfl rfl) rfl ?_
              refine Rg_op rfl (op_pick_f (v := (Value.bool false)) rfl rfl ?_)
              refine Rg_op rfl (op_move (v := (Value.bool false)) rfl ?_)
              refine Rg_opx rfl (asB_ne rfl rfl) rfl ?_
              refine Rg_opx rfl (asB_ne rfl rfl) rfl ?_
              refine Rg_opx rfl (asB_ne rfl rfl) rfl ?_
              refine Rg_opx rfl (asB_ne rfl rfl) rfl ?_
              refine Rg_op rfl (op_pick_f (v := (Value.bool false)) rfl rfl ?_)
              refine Rg_op rfl (op_move (v := (Value.bool false)) rfl ?_)
              refine Rg_opx rfl (asB_ne rfl rfl) rfl ?_
              refine Rg_opx rfl (asB_ne rfl rfl) rfl ?_
              refine Rg_opx rfl (asB_ne rfl rfl) rfl ?_
              refine Rg_op rfl (op_pick_f (v := (Value.bool false)) rfl rfl ?_)
              refine Rg_op rfl (op_move (v := (Value.bool false)) rfl ?_)
              refine Rg_opx rfl (asB_ne rfl rfl) rfl ?_
              refine Rg_opx rfl (asB_ne rfl rfl) rfl ?_
              refine Rg_opx rfl (asB_ne rfl rfl) rfl ?_
              refine Rg_opx rfl (asB_ne rfl rfl) rfl ?_
              refine Rg_op rfl (op_pick_f (v := (Value.bool false)) rfl rfl ?_)
              refine Rg_op rfl (op_move (v := (Value.bool false)) rfl ?_)
              refine Rg_opx rfl (asB_ne rfl rfl) rfl ?_
              refine Rg_opx rfl (asB_ne rfl rfl) rfl ?_
              refine Rg_opx rfl (asB_ne rfl rfl) rfl ?_
              refine Rg_opx rfl (asB_ne rfl rfl) rfl ?_
              refine Rg_op rfl (op_pick_f (v := (Value.bool false)) rfl rfl ?_)
              refine Rg_op rfl (op_move (v := (Value.bool false)) rfl ?_)
              refine Rg_opx rfl (asB_ne rfl rfl) rfl ?_
              refine Rg_opx rfl (asB_ne rfl rfl) rfl ?_
              refine Rg_opx rfl (asB_ne rfl rfl) rfl ?_
              refine Rg_op rfl (op_pick_f (v := (Value.bool false)) rfl rfl ?_)
              refine Rg_op rfl (op_move (v := (Value.bool false)) rfl ?_)
              refine Rg_opx rfl (asB_ne rfl rfl) rfl ?_
              refine Rg_opx rfl (asB_ne rfl rfl) rfl ?_
              refine Rg_opx rfl (asB_ne rfl rfl) rfl ?_
              refine Rg_opx rfl (asB_ne rfl rfl) rfl ?_
              refine Rg_op rfl (op_pick_f (v := (Value.bool false)) rfl rfl ?_)
              refine Rg_op rfl (op_move (v := (Value.bool false)) rfl ?_)
              refine Rg_opx rfl (asB_ne rfl rfl) rfl ?_
              refine Rg_opx rfl (asB_ne rfl rfl) rfl ?_
              refine Rg_opx rfl (asB_ne rfl rfl) rfl ?_
              refine Rg_op rfl (op_pick_f (v := (Value.bool false)) rfl rfl ?_)
              refine Rg_op rfl (op_move (v := (Value.bool false)) rfl ?_)
              refine Rg_opx rfl (asB_ne rfl rfl) rfl ?_
              refine Rg_opx rfl (asB_ne rfl rfl) rfl ?_
              refine Rg_opx rfl (asB_ne rfl rfl) rfl ?_
              refine Rg_opx rfl (asB_ne rfl rfl) rfl ?_
              refine Rg_op rfl (op_pick_f (v := (Value.bool false)) rfl rfl ?_)
              refine Rg_op rfl (op_assign (v := (Value.bool false)) rfl ?_)
              refine Rg_nil ?_
              exact hK437 _ _ ⟨false, _, rfl, ⟨(by repeat (first | with_reducible exact Out.refl _ _ | refine Out.upd ?_ rfl | refine Out.updL ?_ rfl | refine Out.mix' ?_ rfl | exact Out.refl _ _)), rfl, rfl, trivial⟩, ch443, hs425, hm⟩
          ·
            replace hm := bif_f hm hg445
            refine Rg_opx rfl (asB_ne rfl rfl) rfl ?_
            refine Rg_opx rfl (asB_ne rfl rfl) rfl ?_
            refine Rg_op rfl (op_pick_f (v := (Value.bool false)) rfl rfl ?_)
            refine Rg_op rfl (op_move (v := (Value.bool false)) rfl ?_)
            refine Rg_opx rfl (asB_ne rfl rfl) rfl ?_
            refine Rg_opx rfl (asB_ne rfl rfl) rfl ?_
            refine Rg_opx rfl (asB_ne rfl rfl) rfl ?_
            refine Rg_op rfl (op_pick_f (v := (Value.bool false)) rfl rfl ?_)
            refine Rg_op rfl (op_move (v := (Value.bool false)) rfl ?_)
            refine Rg_opx rfl (asB_ne rfl rfl) rfl ?_
            refine Rg_opx rfl (asB_ne rfl rfl) rfl ?_
            refine Rg_opx rfl (asB_ne rfl rfl) rfl ?_
            refine Rg_opx rfl (asB_ne rfl rfl) rfl ?_
            refine Rg_op rfl (op_pick_f (v := (Value.bool false)) rfl rfl ?_)
            refine Rg_op rfl (op_move (v := (Value.bool false)) rfl ?_)
            refine Rg_opx rfl (asB_ne rfl rfl) rfl ?_
            refine Rg_opx rfl (asB_ne rfl rfl) rfl ?_
            refine Rg_opx rfl (asB_ne rfl rfl) rfl ?_
            refine Rg_op rfl (op_pick_f (v := (Value.bool false)) rfl rfl ?_)
            refine Rg_op rfl (op_move (v := (Value.bool false)) rfl ?_)
            refine Rg_opx rfl (asB_ne rfl rfl) rfl ?_
            refine Rg_opx rfl (asB_ne rfl rfl) rfl ?_
            refine Rg_opx rfl (asB_ne rfl rfl) rfl ?_
            refine Rg_opx rfl (asB_ne rfl rfl) rfl ?_
            refine Rg_op rfl (op_pick_f (v := (Value.bool false)) rfl rfl ?_)
            refine Rg_op rfl (op_move (v := (Value.bool false)) rfl ?_)
            refine Rg_opx rfl (asB_ne rfl rfl) rfl ?_
            refine Rg_opx rfl (asB_ne rfl rfl) rfl ?_
            refine Rg_opx rfl (asB_ne rfl rfl) rfl ?_
            refine Rg_op rfl (op_pick_f (v := (Value.bool false)) rfl rfl ?_)
            refine Rg_op rfl (op_move (v := (Value.bool false)) rfl ?_)
            refine Rg_opx rfl (asB_ne rfl rfl) rfl ?_
            refine Rg_opx rfl (asB_ne rfl rfl) rfl ?_
            refine Rg_opx rfl (asB_ne rfl rfl) rfl ?_
            refine Rg_opx rfl (asB_ne rfl rfl) rfl ?_
            refine Rg_op rfl (op_pick_f (v := (Value.bool false)) rfl rfl ?_)
            refine Rg_op rfl (op_move (v := (Value.bool false)) rfl ?_)
            refine Rg_opx rfl (asB_ne rfl rfl) rfl ?_
            refine Rg_opx rfl (asB_ne rfl rfl) rfl ?_
            refine Rg_opx rfl (asB_ne rfl rfl) rfl ?_
            refine Rg_opx rfl (asB_ne rfl rfl) rfl ?_
            refine Rg_op rfl (op_pick_f (v := (Value.bool false)) rfl rfl ?_)
            refine Rg_op rfl (op_move (v := (Value.bool false)) rfl ?_)
            refine Rg_opx rfl (asB_ne rfl rfl) rfl ?_
            refine Rg_opx rfl (asB_ne rfl rfl) rfl ?_
            refine Rg_opx rfl (asB_ne rfl rfl) rfl ?_
            refine Rg_op rfl (op_pick_f (v := (Value.bool false)) rfl rfl ?_)
            refine Rg_op rfl (op_move (v := (Value.bool false)) rfl ?_)
            refine Rg_opx rfl (asB_ne rfl rfl) rfl ?_
            refine Rg_opx rfl (asB_ne rfl rfl) rfl ?_
            refine Rg_opx rfl (asB_ne rfl rfl) rfl ?_
            refine Rg_opx rfl (asB_ne rfl rfl) rfl ?_
            refine Rg_op rfl (op_pick_f (v := (Value.bool false)) rfl rfl ?_)
            refine Rg_op rfl (op_move (v := (Value.bool false)) rfl ?_)
            refine Rg_opx rfl (asB_ne rfl rfl) rfl ?_
            refine Rg_opx rfl (asB_ne rfl rfl) rfl ?_
            refine Rg_opx rfl (asB_ne rfl rfl) rfl ?_
            refine Rg_op rfl (op_pick_f (v := (Value.bool false)) rfl rfl ?_)
            refine Rg_op rfl (op_move (v := (Value.bool false)) rfl ?_)
            refine Rg_opx rfl (asB_ne rfl rfl) rfl ?_
            refine Rg_opx rfl (asB_ne rfl rfl) rfl ?_
            refine Rg_opx rfl (asB_ne rfl rfl) rfl ?_
            refine Rg_opx rfl (asB_ne rfl rfl) rfl ?_
            refine Rg_op rfl (op_pick_f (v := (Value.bool false)) rfl rfl ?_)
            refine Rg_op rfl (op_assign (v := (Value.bool false)) rfl ?_)
            refine Rg_nil ?_
            exact hK437 _ _ ⟨false, _, rfl, ⟨(by repeat (first | with_reducible exact Out.refl _ _ | refine Out.upd ?_ rfl | refine Out.updL ?_ rfl | refine Out.mix' ?_ rfl | exact Out.refl _ _)), rfl, rfl, trivial⟩, ch443, hs425, hm⟩
        ·
          replace hm := bif_f hm hg444
          refine Rg_opx rfl (asB_ne rfl rfl) rfl ?_
          refine Rg_opx rfl (asB_ne rfl rfl) rfl ?_
          refine Rg_op rfl (op_pick_f (v := (Value.bool false)) rfl rfl ?_)
          refine Rg_op rfl (op_move (v := (Value.bool false)) rfl ?_)
          refine Rg_opx rfl (asB_ne rfl rfl) rfl ?_
          refine Rg_opx rfl (asB_ne rfl rfl) rfl ?_
          refine Rg_op rfl (op_pick_f (v := (Value.bool false)) rfl rfl ?_)
          refine Rg_op rfl (op_move (v := (Value.bool false)) rfl ?_)
          refine Rg_opx rfl (asB_ne rfl rfl) rfl ?_
          refine Rg_opx rfl (asB_ne rfl rfl) rfl ?_
          refine Rg_opx rfl (asB_ne rfl rfl) rfl ?_
          refine Rg_op rfl (op_pick_f (v := (Value.bool false)) rfl rfl ?_)
          refine Rg_op rfl (op_move (v := (Value.bool false)) rfl ?_)
          refine Rg_opx rfl (asB_ne rfl rfl) rfl ?_
          refine Rg_opx rfl (asB_ne rfl rfl) rfl ?_
          refine Rg_opx rfl (asB_ne rfl rfl) rfl ?_
          refine Rg_opx rfl (asB_ne rfl rfl) rfl ?_
          refine Rg_op rfl (op_pick_f (v := (Value.bool false)) rfl rfl ?_)
          refine Rg_op rfl (op_move (v := (Value.bool false)) rfl ?_)
          refine Rg_opx rfl (asB_ne rfl rfl) rfl ?_
          refine Rg_opx rfl (asB_ne rfl rfl) rfl ?_
          refine Rg_opx rfl (asB_ne rfl rfl) rfl ?_
          refine Rg_op rfl (op_pick_f (v := (Value.bool false)) rfl rfl ?_)
          refine Rg_op rfl (op_move (v := (Value.bool false)) rfl ?_)
          refine Rg_opx rfl (asB_ne rfl rfl) rfl ?_
          refine Rg_opx rfl (asB_ne rfl rfl) rfl ?_
          refine Rg_opx rfl (asB_ne rfl rfl) rfl ?_
          refine Rg_opx rfl (asB_ne rfl rfl) rfl ?_
          refine Rg_op rfl (op_pick_f (v := (Value.bool false)) rfl rfl ?_)
          refine Rg_op rfl (op_move (v := (Value.bool false)) rfl ?_)
          refine Rg_opx rfl (asB_ne rfl rfl) rfl ?_
          refine Rg_opx rfl (asB_ne rfl rfl) rfl ?_
          refine Rg_opx rfl (asB_ne rfl rfl) rfl ?_
          refine Rg_op rfl (op_pick_f (v := (Value.bool false)) rfl rfl ?_)
          refine Rg_op rfl (op_move (v := (Value.bool false)) rfl ?_)
          refine Rg_opx rfl (asB_ne rfl rfl) rfl ?_
          refine Rg_opx rfl (asB_ne rfl rfl) rfl ?_
          refine Rg_opx rfl (asB_ne rfl rfl) rfl ?_
          refine Rg_opx rfl (asB_ne rfl rfl) rfl ?_
          refine Rg_op rfl (op_pick_f (v := (Value.bool false)) rfl rfl ?_)
          refine Rg_op rfl (op_move (v := (Value.bool false)) rfl ?_)
          refine Rg_opx rfl (asB_ne rfl rfl) rfl ?_
          refine Rg_opx rfl (asB_ne rfl rfl) rfl ?_
          refine Rg_opx rfl (asB_ne rfl rfl) rfl ?_
          refine Rg_opx rfl (asB_ne rfl rfl) rfl ?_
          refine Rg_op rfl (op_pick_f (v := (Value.bool false)) rfl rfl ?_)
          refine Rg_op rfl (op_move (v := (Value.bool false)) rfl ?_)
          refine Rg_opx rfl (asB_ne rfl rfl) rfl ?_
          refine Rg_opx rfl (asB_ne rfl rfl) rfl ?_
          refine Rg_opx rfl (asB_ne rfl rfl) rfl ?_
          refine Rg_op rfl (op_pick_f (v := (Value.bool false)) rfl rfl ?_)
          refine Rg_op rfl (op_move (v := (Value.bool false)) rfl ?_)
          refine Rg_opx rfl (asB_ne rfl rfl) rfl ?_
          refine Rg_opx rfl (asB_ne rfl rfl) rfl ?_
          refine Rg_opx rfl (asB_ne rfl rfl) rfl ?_
          refine Rg_opx rfl (asB_ne rfl rfl) rfl ?_
          refine Rg_op rfl (op_pick_f (v := (Value.bool false)) rfl rfl ?_)
          refine Rg_op rfl (op_move (v := (Value.bool false)) rfl ?_)
          refine Rg_opx rfl (asB_ne rfl rfl) rfl ?_
          refine Rg_opx rfl (asB_ne rfl rfl) rfl ?_
          refine Rg_opx rfl (asB_ne rfl rfl) rfl ?_
          refine Rg_op rfl (op_pick_f (v := (Value.bool false)) rfl rfl ?_)
          refine Rg_op rfl (op_move (v := (Value.bool false)) rfl ?_)
          refine Rg_opx rfl (asB_ne rfl rfl) rfl ?_
          refine Rg_opx rfl (asB_ne rfl rfl) rfl ?_
          refine Rg_opx rfl (asB_ne rfl rfl) rfl ?_
          refine Rg_opx rfl (asB_ne rfl rfl) rfl ?_
          refine Rg_op rfl (op_pick_f (v := (Value.bool false)) rfl rfl ?_)
          refine Rg_op rfl (op_assign (v := (Value.bool false)) rfl ?_)
          refine Rg_nil ?_
          exact hK437 _ _ ⟨false, _, rfl, ⟨(by repeat (first | with_reducible exact Out.refl _ _ | refine Out.upd ?_ rfl | refine Out.updL ?_ rfl | refine Out.mix' ?_ rfl | exact Out.refl _ _)), rfl, rfl, trivial⟩, ch443, hs425, hm⟩
  ·
    intro K361 hK361
    have ch503 := Step.refl (ks [(some b349, Obj.cells [(Value.slice a_y347_sectors sync_1.1.sectors.length c_y347_sectors), (Value.slice a_y347_pending sync_1.1.pending.length c_y347_pending), (Value.int .i64 sync_1.1.left), (Value.bool sync_1.1.stopped)].toArray 25), (some b230, Obj.cells [(Value.slice a_y311_sectors write_3.1.sectors.length c_y311_sectors), (Value.slice a_y311_pending write_3.1.pending.length c_y311_pending), (Value.int .i64 write_3.1.left), (Value.bool write_3.1.stopped)].toArray 25), (some b67, Obj.cells [(Value.slice a_y65_sectors write_1.1.sectors.length c_y65_sectors), (Value.slice a_y65_pending write_1.1.pending.length c_y65_pending), (Value.int .i64 write_1.1.left), (Value.bool write_1.1.stopped)].toArray 25)] O) w354
    refine Wp_region ?_  -- 10 law.go:21
    refine Rg_op rfl (op_move (v := (Value.int .i64 new_1.2)) rfl ?_)
    refine Rg_op rfl (op_neq rfl rfl ?_)
    refine Rg_op rfl (op_move (v := (Value.bool (decide (new_1.2 ≠ 1)))) rfl ?_)
    refine Rg_case (fun hg504 => ?_) (fun hg504 => ?_)
    ·
      replace hm := bif_t hm hg504
      refine Rg_opx rfl (asB_ne rfl rfl) rfl ?_
      refine Rg_opx rfl (asB_ne rfl rfl) rfl ?_
      refine Rg_op rfl (op_pick_t (v := (Value.bool true)) rfl rfl ?_)
      refine Rg_op rfl (op_move (v := (Value.bool true)) rfl ?_)
      refine Rg_opx rfl (asB_ne rfl rfl) rfl ?_
      refine Rg_opx rfl (asB_ne rfl rfl) rfl ?_
      refine Rg_op rfl (op_pick_t (v := (Value.bool true)) rfl rfl ?_)
      refine Rg_op rfl (op_move (v := (Value.bool true)) rfl ?_)
      refine Rg_opx rfl (asB_ne rfl rfl) rfl ?_
      refine Rg_opx rfl (asB_ne rfl rfl) rfl ?_
      refine Rg_op rfl (op_pick_t (v := (Value.bool true)) rfl rfl ?_)
      refine Rg_op rfl (op_move (v := (Value.bool true)) rfl ?_)
      refine Rg_opx rfl (asB_ne rfl rfl) rfl ?_
      refine Rg_opx rfl (asB_ne rfl rfl) rfl ?_
      refine Rg_op rfl (op_pick_t (v := (Value.bool true)) rfl rfl ?_)
      refine Rg_op rfl (op_move (v := (Value.bool true)) rfl ?_)
      refine Rg_opx rfl (asB_ne rfl rfl) rfl ?_
      refine Rg_opx rfl (asB_ne rfl rfl) rfl ?_
      refine Rg_op rfl (op_pick_t (v := (Value.bool true)) rfl rfl ?_)
      refine Rg_op rfl (op_move (v := (Value.bool true)) rfl ?_)
      refine Rg_opx rfl (asB_ne rfl rfl) rfl ?_
      refine Rg_opx rfl (asB_ne rfl rfl) rfl ?_
      refine Rg_op rfl (op_pick_t (v := (Value.bool true)) rfl rfl ?_)
      refine Rg_op rfl (op_move (v := (Value.bool true)) rfl ?_)
      refine Rg_opx rfl (asB_ne rfl rfl) rfl ?_
      refine Rg_opx rfl (asB_ne rfl rfl) rfl ?_
      refine Rg_op rfl (op_pick_t (v := (Value.bool true)) rfl rfl ?_)
      refine Rg_op rfl (op_move (v := (Value.bool true)) rfl ?_)
      refine Rg_opx rfl (asB_ne rfl rfl) rfl ?_
      refine Rg_opx rfl (asB_ne rfl rfl) rfl ?_
      refine Rg_op rfl (op_pick_t (v := (Value.bool true)) rfl rfl ?_)
      refine Rg_op rfl (op_move (v := (Value.bool true)) rfl ?_)
      refine Rg_opx rfl (asB_ne rfl rfl) rfl ?_
      refine Rg_opx rfl (asB_ne rfl rfl) rfl ?_
      refine Rg_opx rfl (asB_ne rfl rfl) rfl ?_
      refine Rg_op rfl (op_pick_t (v := (Value.bool true)) rfl rfl ?_)
      refine Rg_nil ?_
      exact hK361 _ _ ⟨true, _, rfl, ⟨(by repeat (first | with_reducible exact Out.refl _ _ | refine Out.upd ?_ rfl | refine Out.updL ?_ rfl | refine Out.mix' ?_ rfl | exact Out.refl _ _)), rfl, rfl, trivial⟩, ch503, hs356, hm⟩
    ·
      replace hm := bif_f hm hg504
      refine Rg_opg rfl rfl rfl (op_move (v := (Value.int .i64 new_2.2)) rfl ?_)
      refine Rg_opg rfl rfl rfl (op_neq rfl rfl ?_)
      refine Rg_op rfl (op_pick_f (v := (Value.bool (decide (new_2.2 ≠ 0)))) rfl rfl ?_)
      refine Rg_op rfl (op_move (v := (Value.bool (decide (new_2.2 ≠ 0)))) rfl ?_)
      refine Rg_case (fun hg505 => ?_) (fun hg505 => ?_)
      ·
        replace hm := bif_t hm hg505
        refine Rg_opx rfl (asB_ne rfl rfl) rfl ?_
        refine Rg_opx rfl (asB_ne rfl rfl) rfl ?_
        refine Rg_op rfl (op_pick_t (v := (Value.bool true)) rfl rfl ?_)
        refine Rg_op rfl (op_move (v := (Value.bool true)) rfl ?_)
        refine Rg_opx rfl (asB_ne rfl rfl) rfl ?_
        refine Rg_opx rfl (asB_ne rfl rfl) rfl ?_
        refine Rg_op rfl (op_pick_t (v := (Value.bool true)) rfl rfl ?_)
        refine Rg_op rfl (op_move (v := (Value.bool true)) rfl ?_)
        refine Rg_opx rfl (asB_ne rfl rfl) rfl ?_
        refine Rg_opx rfl (asB_ne rfl rfl) rfl ?_
        refine Rg_op rfl (op_pick_t (v := (Value.bool true)) rfl rfl ?_)
        refine Rg_op rfl (op_move (v := (Value.bool true)) rfl ?_)
        refine Rg_opx rfl (asB_ne rfl rfl) rfl ?_
        refine Rg_opx rfl (asB_ne rfl rfl) rfl ?_
        refine Rg_op rfl (op_pick_t (v := (Value.bool true)) rfl rfl ?_)
        refine Rg_op rfl (op_move (v := (Value.bool true)) rfl ?_)
        refine Rg_opx rfl (asB_ne rfl rfl) rfl ?_
        refine Rg_opx rfl (asB_ne rfl rfl) rfl ?_
        refine Rg_op rfl (op_pick_t (v := (Value.bool true)) rfl rfl ?_)
        refine Rg_op rfl (op_move (v := (Value.bool true)) rfl ?_)
        refine Rg_opx rfl (asB_ne rfl rfl) rfl ?_
        refine Rg_opx rfl (asB_ne rfl rfl) rfl ?_
        refine Rg_op rfl (op_pick_t (v := (Value.bool true)) rfl rfl ?_)
        refine Rg_op rfl (op_move (v := (Value.bool true)) rfl ?_)
        refine Rg_opx rfl (asB_ne rfl rfl) rfl ?_
        refine Rg_opx rfl (asB_ne rfl rfl) rfl ?_
        refine Rg_op rfl (op_pick_t (v := (Value.bool true)) rfl rfl ?_)
        refine Rg_op rfl (op_move (v := (Value.bool true)) rfl ?_)
        refine Rg_opx rfl (asB_ne rfl rfl) rfl ?_
        refine Rg_opx rfl (asB_ne rfl rfl) rfl ?_
        refine Rg_opx rfl (asB_ne rfl rfl) rfl ?_
        refine Rg_op rfl (op_pick_t (v := (Value.bool true)) rfl rfl ?_)
        refine Rg_nil ?_
        exact hK361 _ _ ⟨true, _, rfl, ⟨(by repeat (first | with_reducible exact Out.refl _ _ | refine Out.upd ?_ rfl | refine Out.updL ?_ rfl | refine Out.mix' ?_ rfl | exact Out.refl _ _)), rfl, rfl, trivial⟩, ch503, hs356, hm⟩
      ·
        replace hm := bif_f hm hg505
        refine Rg_opg rfl rfl rfl (op_move (v := (Value.int .i64 write_1.2)) rfl ?_)
        refine Rg_opg rfl rfl rfl (op_neq rfl rfl ?_)
        refine Rg_op rfl (op_pick_f (v := (Value.bool (decide (write_1.2 ≠ 0)))) rfl rfl ?_)
        refine Rg_op rfl (op_move (v := (Value.bool (decide (write_1.2 ≠ 0)))) rfl ?_)
        refine Rg_case (fun hg506 => ?_) (fun hg506 => ?_)
        ·
          replace hm := bif_t hm hg506
          refine Rg_opx rfl (asB_ne rfl rfl) rfl ?_
          refine Rg_opx rfl (asB_ne rfl rfl) rfl ?_
          refine Rg_op rfl (op_pick_t (v := (Value.bool true)) rfl rfl ?_)
          refine Rg_op rfl (op_move (v := (Value.bool true)) rfl ?_)
          refine Rg_opx rfl (asB_ne rfl rfl) rfl ?_
          refine Rg_opx rfl (asB_ne rfl rfl) rfl ?_
          refine Rg_op rfl (op_pick_t (v := (Value.bool true)) rfl rfl ?_)
          refine Rg_op rfl (op_move (v := (Value.bool true)) rfl ?_)
          refine Rg_opx rfl (asB_ne rfl rfl) rfl ?_
          refine Rg_opx rfl (asB_ne rfl rfl) rfl ?_
          refine Rg_op rfl (op_pick_t (v := (Value.bool true)) rfl rfl ?_)
          refine Rg_op rfl (op_move (v := (Value.bool true)) rfl ?_)
          refine Rg_opx rfl (asB_ne rfl rfl) rfl ?_
          refine Rg_opx rfl (asB_ne rfl rfl) rfl ?_
          refine Rg_op rfl (op_pick_t (v := (Value.bool true)) rfl rfl ?_)
          refine Rg_op rfl (op_move (v := (Value.bool true)) rfl ?_)
          refine Rg_opx rfl (asB_ne rfl rfl) rfl ?_
          refine Rg_opx rfl (asB_ne rfl rfl) rfl ?_
          refine Rg_op rfl (op_pick_t (v := (Value.bool true)) rfl rfl ?_)
          refine Rg_op rfl (op_move (v := (Value.bool true)) rfl ?_)
          refine Rg_opx rfl (asB_ne rfl rfl) rfl ?_
          refine Rg_opx rfl (asB_ne rfl rfl) rfl ?_
          refine Rg_op rfl (op_pick_t (v := (Value.bool true)) rfl rfl ?_)
          refine Rg_op rfl (op_move (v := (Value.bool true)) rfl ?_)
          refine Rg_opx rfl (asB_ne rfl rfl) rfl ?_
          refine Rg_opx rfl (asB_ne rfl rfl) rfl ?_
          refine Rg_opx rfl (asB_ne rfl rfl) rfl ?_
          refine Rg_op rfl (op_pick_t (v := (Value.bool true)) rfl rfl ?_)
          refine Rg_nil ?_
          exact hK361 _ _ ⟨true, _, rfl, ⟨(by repeat (first | with_reducible exact Out.refl _ _ | refine Out.upd ?_ rfl | refine Out.updL ?_ rfl | refine Out.mix' ?_ rfl | exact Out.refl _ _)), rfl, rfl, trivial⟩, ch503, hs356, hm⟩
        ·
          replace hm := bif_f hm hg506
          refine Rg_opg rfl rfl rfl (op_move (v := (Value.int .i64 read_1.2)) rfl ?_)
          refine Rg_opg rfl rfl rfl (op_neq rfl rfl ?_)
          refine Rg_op rfl (op_pick_f (v := (Value.bool (decide (read_1.2 ≠ 0)))) rfl rfl ?_)
          refine Rg_op rfl (op_move (v := (Value.bool (decide (read_1.2 ≠ 0)))) rfl ?_)
          refine Rg_case (fun hg507 => ?_) (fun hg507 => ?_)
          ·
            replace hm := bif_t hm hg507
            refine Rg_opx rfl (asB_ne rfl rfl) rfl ?_
            refine Rg_opx rfl (asB_ne rfl rfl) rfl ?_
            refine Rg_op rfl (op_pick_t (v := (Value.bool true)) rfl rfl ?_)
            refine Rg_op rfl (op_move (v := (Value.bool true)) rfl ?_)
            refine Rg_opx rfl (asB_ne rfl rfl) rfl ?_
            refine Rg_opx rfl (asB_ne rfl rfl) rfl ?_
            refine Rg_op rfl (op_pick_t (v := (Value.bool true)) rfl rfl ?_)
            refine Rg_op rfl (op_move (v := (Value.bool true)) rfl ?_)
            refine Rg_opx rfl (asB_ne rfl rfl) rfl ?_
            refine Rg_opx rfl (asB_ne rfl rfl) rfl ?_
            refine Rg_op rfl (op_pick_t (v := (Value.bool true)) rfl rfl ?_)
            refine Rg_op rfl (op_move (v := (Value.bool true)) rfl ?_)
            refine Rg_opx rfl (asB_ne rfl rfl) rfl ?_
            refine Rg_opx rfl (asB_ne rfl rfl) rfl ?_
            refine Rg_op rfl (op_pick_t (v := (Value.bool true)) rfl rfl ?_)
            refine Rg_op rfl (op_move (v := (Value.bool true)) rfl ?_)
            refine Rg_opx rfl (asB_ne rfl rfl) rfl ?_
            refine Rg_opx rfl (asB_ne rfl rfl) rfl ?_
            refine Rg_op rfl (op_pick_t (v := (Value.bool true)) rfl rfl ?_)
            refine Rg_op rfl (op_move (v := (Value.bool true)) rfl ?_)
            refine Rg_opx rfl (asB_ne rfl rfl) rfl ?_
            refine Rg_opx rfl (asB_ne rfl rfl) rfl ?_
            refine Rg_opx rfl (asB_ne rfl rfl) rfl ?_
            refine Rg_op rfl (op_pick_t (v := (Value.bool true)) rfl rfl ?_)
            refine Rg_nil ?_
            exact hK361 _ _ ⟨true, _, rfl, ⟨(by repeat (first | with_reducible exact Out.refl _ _ | refine Out.upd ?_ rfl | refine Out.updL ?_ rfl | refine Out.mix' ?_ rfl | exact Out.refl _ _)), rfl, rfl, trivial⟩, ch503, hs356, hm⟩
          ·
            replace hm := bif_f hm hg507
            refine Rg_opg rfl rfl rfl (op_move (v := (Value.int .i64 read_2.2)) rfl ?_)
            refine Rg_opg rfl rfl rfl (op_neq rfl rfl ?_)
            refine Rg_op rfl (op_pick_f (v := (Value.bool (decide (read_2.2 ≠ 440)))) rfl rfl ?_)
            refine Rg_op rfl (op_move (v := (Value.bool (decide (read_2.2 ≠ 440)))) rfl ?_)
            refine Rg_case (fun hg508 => ?_) (fun hg508 => ?_)
            ·
              replace hm := bif_t hm hg508
              refine Rg_opx rfl (asB_ne rfl rfl) rfl ?_
              refine Rg_opx rfl (asB_ne rfl rfl) rfl ?_
              refine Rg_op rfl (op_pick_t (v := (Value.bool true)) rfl rfl ?_)
              refine Rg_op rfl (op_move (v := (Value.bool true)) rfl ?_)
              refine Rg_opx rfl (asB_ne rfl rfl) rfl ?_
              refine Rg_opx rfl (asB_ne rfl rfl) rfl ?_
              refine Rg_op rfl (op_pick_t (v := (Value.bool true)) rfl rfl ?_)
              refine Rg_op rfl (op_move (v := (Value.bool true)) rfl ?_)
              refine Rg_opx rfl (asB_ne rfl rfl) rfl ?_
              refine Rg_opx rfl (asB_ne rfl rfl) rfl ?_
              refine Rg_op rfl (op_pick_t (v := (Value.bool true)) rfl rfl ?_)
              refine Rg_op rfl (op_move (v := (Value.bool true)) rfl ?_)
              refine Rg_opx rfl (asB_ne rfl rfl) rfl ?_
              refine Rg_opx rfl (asB_ne rfl rfl) rfl ?_
              refine Rg_op rfl (op_pick_t (v := (Value.bool true)) rfl rfl ?_)
              refine Rg_op rfl (op_move (v := (Value.bool true)) rfl ?_)
              refine Rg_opx rfl (asB_ne rfl rfl) rfl ?_
              refine Rg_opx rfl (asB_ne rfl rfl) rfl ?_
              refine Rg_opx rfl (asB_ne rfl rfl) rfl ?_
              refine Rg_op rfl (op_pick_t (v := (Value.bool true)) rfl rfl ?_)
              refine Rg_nil ?_
              exact hK361 _ _ ⟨true, _, rfl, ⟨(by repeat (first | with_reducible exact Out.refl _ _ | refine Out.upd ?_ rfl | refine Out.updL ?_ rfl | refine Out.mix' ?_ rfl | exact Out.refl _ _)), rfl, rfl, trivial⟩, ch503, hs356, hm⟩
            ·
              replace hm := bif_f hm hg508
              refine Rg_opg rfl rfl rfl (op_move (v := (Value.int .i64 write_2.2)) rfl ?_)
              refine Rg_opg rfl rfl rfl (op_neq rfl rfl ?_)
              refine Rg_op rfl (op_pick_f (v := (Value.bool (decide (write_2.2 ≠ 1)))) rfl rfl ?_)
              refine Rg_op rfl (op_move (v := (Value.bool (decide (write_2.2 ≠ 1)))) rfl ?_)
              refine Rg_case (fun hg509 => ?_) (fun hg509 => ?_)
              ·
                replace hm := bif_t hm hg509
                refine Rg_opx rfl (asB_ne rfl rfl) rfl ?_
                refine Rg_opx rfl (asB_ne rfl rfl) rfl ?_
                refine Rg_op rfl (op_pick_t (v := (Value.bool true)) rfl rfl ?_)
                refine Rg_op rfl (op_move (v := (Value.bool true)) rfl ?_)
                refine Rg_opx rfl (asB_ne rfl rfl) rfl ?_
                refine Rg_opx rfl (asB_ne rfl rfl) rfl ?_
                refine Rg_op rfl (op_pick_t (v := (Value.bool true)) rfl rfl ?_)
                refine Rg_op rfl (op_move (v := (Value.bool true)) rfl ?_)
                refine Rg_opx rfl (asB_ne rfl rfl) rfl ?_
                refine Rg_opx rfl (asB_ne rfl rfl) rfl ?_
                refine Rg_op rfl (op_pick_t (v := (Value.bool true)) rfl rfl ?_)
                refine Rg_op rfl (op_move (v := (Value.bool true)) rfl ?_)
                refine Rg_opx rfl (asB_ne rfl rfl) rfl ?_
                refine Rg_opx rfl (asB_ne rfl rfl) rfl ?_
                refine Rg_opx rfl (asB_ne rfl rfl) rfl ?_
                refine Rg_op rfl (op_pick_t (v := (Value.bool true)) rfl rfl ?_)
                refine Rg_nil ?_
                exact hK361 _ _ ⟨true, _, rfl, ⟨(by repeat (first | with_reducible exact Out.refl _ _ | refine Out.upd ?_ rfl | refine Out.updL ?_ rfl | refine Out.mix' ?_ rfl | exact Out.refl _ _)), rfl, rfl, trivial⟩, ch503, hs356, hm⟩
              ·
                replace hm := bif_f hm hg509
                refine Rg_opg rfl rfl rfl (op_move (v := (Value.int .i64 stop_1.2)) rfl ?_)
                refine Rg_opg rfl rfl rfl (op_neq rfl rfl ?_)
                refine Rg_op rfl (op_pick_f (v := (Value.bool (decide (stop_1.2 ≠ 0)))) rfl rfl ?_)
                refine Rg_op rfl (op_move (v := (Value.bool (decide (stop_1.2 ≠ 0)))) rfl ?_)
                refine Rg_case (fun hg510 => ?_) (fun hg510 => ?_)
                ·
                  replace hm := bif_t hm hg510
                  refine Rg_opx rfl (asB_ne rfl rfl) rfl ?_
                  refine Rg_opx rfl (asB_ne rfl rfl) rfl ?_
                  refine Rg_op rfl (op_pick_t (v := (Value.bool true)) rfl rfl ?_)
                  refine Rg_op rfl (op_move (v := (Value.bool true)) rfl ?_)
                  refine Rg_opx rfl (asB_ne rfl rfl) rfl ?_
                  refine Rg_opx rfl (asB_ne rfl rfl) rfl ?_
                  refine Rg_op rfl (op_pick_t (v := (Value.bool true)) rfl rfl ?_)
                  refine Rg_op rfl (op_move (v := (Value.bool true)) rfl ?_)
                  refine Rg_opx rfl (asB_ne rfl rfl) rfl ?_
                  refine Rg_opx rfl (asB_ne rfl rfl) rfl ?_
                  refine Rg_opx rfl (asB_ne rfl rfl) rfl ?_
                  refine Rg_op rfl (op_pick_t (v := (Value.bool true)) rfl rfl ?_)
                  refine Rg_nil ?_
                  exact hK361 _ _ ⟨true, _, rfl, ⟨(by repeat (first | with_reducible exact Out.refl _ _ | refine Out.upd ?_ rfl | refine Out.updL ?_ rfl | refine Out.mix' ?_ rfl | exact Out.refl _ _)), rfl, rfl, trivial⟩, ch503, hs356, hm⟩
                ·
                  replace hm := bif_f hm hg510
                  refine Rg_opg rfl rfl rfl (op_move (v := (Value.int .i64 write_3.2)) rfl ?_)
                  refine Rg_opg rfl rfl rfl (op_neq rfl rfl ?_)
                  refine Rg_op rfl (op_pick_f (v := (Value.bool (decide (write_3.2 ≠ 0)))) rfl rfl ?_)
                  refine Rg_op rfl (op_move (v := (Value.bool (decide (write_3.2 ≠ 0)))) rfl ?_)
                  refine Rg_case (fun hg511 => ?_) (fun hg511 => ?_)
                  ·
                    replace hm := bif_t hm hg511
                    refine Rg_opx rfl (asB_ne rfl rfl) rfl ?_
                    refine Rg_opx rfl (asB_ne rfl rfl) rfl ?_
                    refine Rg_op rfl (op_pick_t (v := (Value.bool true)) rfl rfl ?_)
                    refine Rg_op rfl (op_move (v := (Value.bool true)) rfl ?_)
                    refine Rg_opx rfl (asB_ne rfl rfl) rfl ?_
                    refine Rg_opx rfl (asB_ne rfl rfl) rfl ?_
                    refine Rg_opx rfl (asB_ne rfl rfl) rfl ?_
                    refine Rg_op rfl (op_pick_t (v := (Value.bool true)) rfl rfl ?_)
                    refine Rg_nil ?_
                    exact hK361 _ _ ⟨true, _, rfl, ⟨(by repeat (first | with_reducible exact Out.refl _ _ | refine Out.upd ?_ rfl | refine Out.updL ?_ rfl | refine Out.mix' ?_ rfl | exact Out.refl _ _)), rfl, rfl, trivial⟩, ch503, hs356, hm⟩
                  ·
                    replace hm := bif_f hm hg511
                    refine Rg_opg rfl rfl rfl (op_move (v := (Value.int .i64 sync_1.2)) rfl ?_)
                    refine Rg_opg rfl rfl rfl (op_neq rfl rfl ?_)
                    refine Rg_op rfl (op_pick_f (v := (Value.bool (decide (sync_1.2 ≠ 440)))) rfl rfl ?_)
                    refine Rg_op rfl (op_move (v := (Value.bool (decide (sync_1.2 ≠ 440)))) rfl ?_)
                    refine Rg_case (fun hg512 => ?_) (fun hg512 => ?_)
                    ·
                      replace hm := bif_t hm hg512
                      refine Rg_opx rfl (asB_ne rfl rfl) rfl ?_
                      refine Rg_opx rfl (asB_ne rfl rfl) rfl ?_
                      refine Rg_opx rfl (asB_ne rfl rfl) rfl ?_
                      refine Rg_op rfl (op_pick_t (v := (Value.bool true)) rfl rfl ?_)
                      refine Rg_nil ?_
                      exact hK361 _ _ ⟨true, _, rfl, ⟨(by repeat (first | with_reducible exact Out.refl _ _ | refine Out.upd ?_ rfl | refine Out.updL ?_ rfl | refine Out.mix' ?_ rfl | exact Out.refl _ _)), rfl, rfl, trivial⟩, ch503, hs356, hm⟩
                    ·
                      replace hm := bif_f hm hg512
                      refine Rg_opg rfl rfl rfl (op_fieldAddr ty25 rfl ty4 (by decide) rfl (rfl : _ = (⟨_, 3, none⟩ : Addr)) ?_)
                      refine Rg_opg rfl rfl rfl (op_load (cs := [(Value.slice a_y347_sectors sync_1.1.sectors.length c_y347_sectors), (Value.slice a_y347_pending sync_1.1.pending.length c_y347_pending), (Value.int .i64 sync_1.1.left), (Value.bool sync_1.1.stopped)]) (i := 0) ty4 hs356 rfl rfl rfl ?_)
                      refine Rg_opg rfl rfl rfl (op_not rfl ?_)
                      refine Rg_op rfl (op_pick_f (v := (Value.bool (!sync_1.1.stopped))) rfl rfl ?_)
                      refine Rg_nil ?_
                      exact hK361 _ _ ⟨(!sync_1.1.stopped), _, rfl, ⟨(by repeat (first | with_reducible exact Out.refl _ _ | refine Out.upd ?_ rfl | refine Out.updL ?_ rfl | refine Out.mix' ?_ rfl | exact Out.refl _ _)), rfl, rfl, trivial⟩, ch503, hs356, hm⟩

end Go.Fx


set_option linter.unusedVariables false
set_option linter.unusedSimpArgs false
set_option maxRecDepth 100000
set_option maxHeartbeats 0
namespace Go.Fx
open Go Go.RowKit Go.Proofs
def m26_overflightlaw44_holds_B0 (d : XDisk) (first : List UInt8) (second : List UInt8) (sf22 : Int → Option Bool) (i_1 : Int) : Option Bool :=
  bif (decide (i_1 < 4)) then
    (m27_disk_Read d i_1).bind fun read_1 =>
    jn (fun (v_1 : Bool) =>
      bif v_1 then
        some false
      else
        sf22 (IntKind.wrap .i64 (i_1 + 1)))
    (fun k48 =>
      bif (decide (read_1.2 ≠ 0)) then
        k48 true
      else
        bif (decide ((read_1.1.length : Int) ≠ 128)) then
          k48 true
        else
          ck ((0 : Int) ≤ 0 ∧ 0 < (read_1.1.length : Int)) <|
          ck ((0 : Int) ≤ i_1 ∧ i_1 < (first.length : Int)) <|
          bif (decide (((read_1.1.getD 0 default).toNat : Int) ≠ ((first.getD i_1.toNat default).toNat : Int))) then
            k48 true
          else
            ck ((0 : Int) ≤ 64 ∧ 64 < (read_1.1.length : Int)) <|
            ck ((0 : Int) ≤ i_1 ∧ i_1 < (second.length : Int)) <|
            bif (decide (((read_1.1.getD 64 default).toNat : Int) ≠ ((second.getD i_1.toNat default).toNat : Int))) then
              k48 true
            else
              ck ((0 : Int) ≤ 1 ∧ 1 < (read_1.1.length : Int)) <|
              bif (decide (((read_1.1.getD 1 default).toNat : Int) ≠ 0)) then
                k48 true
              else
                ck ((0 : Int) ≤ 127 ∧ 127 < (read_1.1.length : Int)) <|
                k48 (decide (((read_1.1.getD 127 default).toNat : Int) ≠ 0)))
  else
    some true

def m26_overflightlaw44_holds (d : XDisk) (first : List UInt8) (second : List UInt8) : Option Bool :=
  ck (first.length = 4) <|
  ck (second.length = 4) <|
  loop1 (m26_overflightlaw44_holds_B0 d first second) (((4 : Int) - 0).toNat + 1) 0

theorem c26_overflightlaw44_holds {w : World} {O : List Nat} {d : XDisk} {first : List UInt8} {second : List UInt8} {a_d_sectors : Option Addr} {c_d_sectors : Nat} {a_d_pending : Option Addr} {c_d_pending : Nat} {s_first : List Value} {s_second : List Value} (hO : ∀ k ∈ O, k < w.heap.size) (f_d_sectors : SlR (rSl rU8) w O a_d_sectors c_d_sectors d.sectors) (f_d_pending : SlR rXWrite w O a_d_pending c_d_pending d.pending) (r_d_left : InK .i64 d.left) (f_first : Els rU8 w O s_first first) (f_second : Els rU8 w O s_second second) {x : Bool} (hm : m26_overflightlaw44_holds d first second = some x) :
    Ok Try.prog 26 [(Value.agg [(Value.slice a_d_sectors d.sectors.length c_d_sectors), (Value.slice a_d_pending d.pending.length c_d_pending), (Value.int .i64 d.left), (Value.bool d.stopped)].toArray), (Value.agg s_first.toArray), (Value.agg s_second.toArray)] w O vB x := by
  unfold m26_overflightlaw44_holds at hm
  refine Fn_of_Wp (n := 57) (xs := [.tmp 6]) Try.func26 rfl Try.ntmps26 Try.results26 rfl ?_
  have hs := St.start hO
  refine Wp_seq ?_
  refine Wp_region ?_  -- 0 law.go:89
  refine Rg_op rfl (op_box (cs := [(Value.slice a_d_sectors d.sectors.length c_d_sectors), (Value.slice a_d_pending d.pending.length c_d_pending), (Value.int .i64 d.left), (Value.bool d.stopped)]) hs rfl rfl ?_)
  intro b1 w2 _ p3 hs4
  replace f_d_sectors := f_d_sectors.step p3
  replace f_d_pending := f_d_pending.step p3
  replace f_first := f_first.step p3
  replace f_second := f_second.step p3
  clear p3
  replace hm := ck_some hm; obtain ⟨hc11, hm⟩ := hm
  refine Rg_op rfl (op_box (cs := s_first) hs4 rfl rfl ?_)
  intro b6 w7 _ p8 hs9
  replace f_d_sectors := f_d_sectors.step p8
  replace f_d_pending := f_d_pending.step p8
  replace f_first := f_first.step p8
  replace f_second := f_second.step p8
  clear p8 hs4
  have f10 := Gs.of_cells (p := rU8) (e := 37) (bl := b6) (c := 4) (w := w7) (O := ks [(some b6, Obj.cells s_first.toArray 37), (some b1, Obj.cells [(Value.slice a_d_sectors d.sectors.length c_d_sectors), (Value.slice a_d_pending d.pending.length c_d_pending), (Value.int .i64 d.left), (Value.bool d.stopped)].toArray 25)] O) f_first hc11 (le_lit rfl)
  replace hm := ck_some hm; obtain ⟨hc18, hm⟩ := hm
  refine Rg_op rfl (op_box (cs := s_second) hs9 rfl rfl ?_)
  intro b13 w14 _ p15 hs16
  replace f_d_sectors := f_d_sectors.step p15
  replace f_d_pending := f_d_pending.step p15
  replace f_first := f_first.step p15
  replace f_second := f_second.step p15
  replace f10 := f10.step p15
  clear p15 hs9
  have f17 := Gs.of_cells (p := rU8) (e := 37) (bl := b13) (c := 4) (w := w14) (O := ks [(some b13, Obj.cells s_second.toArray 37), (some b6, Obj.cells s_first.toArray 37), (some b1, Obj.cells [(Value.slice a_d_sectors d.sectors.length c_d_sectors), (Value.slice a_d_pending d.pending.length c_d_pending), (Value.int .i64 d.left), (Value.bool d.stopped)].toArray 25)] O) f_second hc18 (le_lit rfl)
  refine Rg_op rfl (op_assign (v := (Value.bool false)) rfl ?_)
  refine Rg_nil ?_
  refine Wp_seq ?_
  refine Wp_seq ?_
  clear f_first f_second
  refine Wp_region ?_  -- 1 law.go:90
  refine Rg_op rfl (op_assign (v := (Value.int .i64 0)) rfl ?_)
  refine Rg_nil ?_
  refine Wp_block ?_
  refine Wp_reset [] [(3, (Value.pointer (some ⟨b1, 0, none⟩))), (4, (Value.pointer (some ⟨b6, 0, none⟩))), (5, (Value.pointer (some ⟨b13, 0, none⟩))), (7, (Value.int .i64 0))] rfl ⟨rfl, rfl, rfl, rfl, trivial⟩ fun ξ21 => ?_
  refine Wp_loopM [6, 7, 8, 9, 10, 11, 12, 13, 14, 15, 16, 17, 18, 19, 20, 21, 22, 23, 24, 25, 26, 27, 28, 29, 30, 31, 32, 33, 34, 35, 36, 37, 38, 39, 40, 41, 42, 43, 44, 45, 46, 47, 48, 49, 50, 51, 52, 53, 54, 55, 56] (fun m fr w' => ∃ (i_1 : Int) (Ebs : Ents), Ebs = [(some b13, Obj.cells s_second.toArray 37), (some b6, Obj.cells s_first.toArray 37), (some b1, Obj.cells [(Value.slice a_d_sectors d.sectors.length c_d_sectors), (Value.slice a_d_pending d.pending.length c_d_pending), (Value.int .i64 d.left), (Value.bool d.stopped)].toArray 25)] ∧ fr [] [(7, (Value.int .i64 i_1))] ∧ Step (ks [(some b13, Obj.cells s_second.toArray 37), (some b6, Obj.cells s_first.toArray 37), (some b1, Obj.cells [(Value.slice a_d_sectors d.sectors.length c_d_sectors), (Value.slice a_d_pending d.pending.length c_d_pending), (Value.int .i64 d.left), (Value.bool d.stopped)].toArray 25)] O) w14 (ks Ebs O) w' ∧ St ⟨w, [], []⟩ O w' Ebs ∧ InK .i64 i_1 ∧ loop1 (m26_overflightlaw44_holds_B0 d first second) m i_1 = some x) (((4 : Int) - 0).toNat + 1) ⟨0, _, rfl, ⟨Out.refl _ _, rfl, rfl, trivial⟩, Step.refl _ _, hs16, (show InK .i64 0 from by decide), hm⟩ ?_ ?_
  · rintro _ _ ⟨_, _, _, _, _, _, _, hm⟩; exact loop1_z hm
  · rintro m25 K24 hK24 ρ30 w26 ⟨i_1, Ebs, hEbs, hfr29, hst28, hs27, r_y20, hm⟩
    obtain ⟨sf22, hsf23, hm⟩ := loop1_s hm; unfold m26_overflightlaw44_holds_B0 at hm
    subst hEbs; rw [hfr29.eq]; clear hfr29
    replace f_d_sectors := f_d_sectors.step hst28
    replace f_d_pending := f_d_pending.step hst28
    replace f10 := f10.step hst28
    replace f17 := f17.step hst28
    have ch31 := hst28
    refine Wp_seq ?_
    refine Wp_seq ?_
    refine Wp_region ?_  -- 2 law.go:90
    refine Rg_op rfl (op_move (v := (Value.int .i64 i_1)) rfl ?_)
    refine Rg_op rfl (op_lss rfl rfl ?_)
    refine Rg_nil ?_
    refine Wp_cond rfl (fun hc32 => ?_) (fun hc32 => ?_)
    ·
      replace hm := bif_t hm hc32
      refine Wp_skip ?_
      refine Wp_seq ?_
      refine Wp_block ?_
      refine Wp_seq ?_
      refine Wp_region ?_  -- 4 law.go:91
      refine Rg_op rfl (op_loadA (cs := [(Value.slice a_d_sectors d.sectors.length c_d_sectors), (Value.slice a_d_pending d.pending.length c_d_pending), (Value.int .i64 d.left), (Value.bool d.stopped)]) (vs := [(Value.slice a_d_sectors d.sectors.length c_d_sectors), (Value.slice a_d_pending d.pending.length c_d_pending), (Value.int .i64 d.left), (Value.bool d.stopped)]) (i := 2) ty25 hs27 rfl rfl rfl rfl ?_)
      refine Rg_op rfl (op_move (v := (Value.int .i64 i_1)) rfl ?_)
      replace hm := bd hm; obtain ⟨read_1, hv33, hm⟩ := hm
      refine Rg_op rfl (op_call Try.call27 (c27_disk_Read (d := d) (at_ := i_1) hs27.ltw f_d_sectors f_d_pending r_d_left r_y20 hv33) rfl ?_)
      rintro v34 w35 ⟨hx36, h37⟩
      have hs38 := hs27.call hx36
      have p39 := Step.ext (O := ks [(some b13, Obj.cells s_second.toArray 37), (some b6, Obj.cells s_first.toArray 37), (some b1, Obj.cells [(Value.slice a_d_sectors d.sectors.length c_d_sectors), (Value.slice a_d_pending d.pending.length c_d_pending), (Value.int .i64 d.left), (Value.bool d.stopped)].toArray 25)] O) hx36
      clear hx36
      replace f_d_sectors := f_d_sectors.step p39
      replace f_d_pending := f_d_pending.step p39
      replace f10 := f10.step p39
      replace f17 := f17.step p39
      replace ch31 := ch31.trans p39
      clear p39 hs27
      obtain ⟨v40, v41, rfl, h42, h43⟩ := h37
      obtain ⟨a_y44, c_y44, rfl, f_y44⟩ := un_sl h42
      obtain ⟨rfl, r_y45⟩ := h43
      refine Rg_op rfl (op_move (v := (Value.tuple [(Value.slice a_y44 read_1.1.length c_y44), (Value.int .i64 read_1.2)].toArray)) rfl ?_)
      refine Rg_op rfl (op_extract (v := (Value.slice a_y44 read_1.1.length c_y44)) rfl rfl ?_)
      refine Rg_op rfl (op_extract (v := (Value.int .i64 read_1.2)) rfl rfl ?_)
      refine Rg_op rfl (op_assign (v := (Value.slice a_y44 read_1.1.length c_y44)) rfl ?_)
      refine Rg_op rfl (op_assign (v := (Value.int .i64 read_1.2)) rfl ?_)
      refine Rg_nil ?_
      refine Wp_reset2 [6, 7, 8, 9, 10, 11, 12, 13, 14, 15, 16, 17, 18, 19, 20, 21, 22, 23, 24, 25, 26, 27, 28, 29, 30, 31, 32, 33, 34, 35, 36, 37, 38, 39, 40, 41, 42, 43, 44, 45, 46, 47, 48, 49, 50, 51, 52, 53, 54, 55, 56] [] (updL ⟨ξ21, []⟩ [(3, (Value.pointer (some ⟨b1, 0, none⟩))), (4, (Value.pointer (some ⟨b6, 0, none⟩))), (5, (Value.pointer (some ⟨b13, 0, none⟩))), (7, (Value.int .i64 0))]) [(7, (Value.int .i64 i_1)), (8, (Value.slice a_y44 read_1.1.length c_y44)), (9, (Value.int .i64 read_1.2))] (by repeat (first | with_reducible exact Out.refl _ _ | refine Out.upd ?_ rfl | refine Out.updL ?_ rfl | refine Out.mix' ?_ rfl | exact Out.refl _ _)) rfl ⟨rfl, rfl, rfl, trivial⟩ fun ξ46 => ?_
      replace hm := jn_elim hm; obtain ⟨k48, hk49, hm⟩ := hm
      refine Wp_seqJ [20, 21, 22, 23, 24, 25, 26, 27, 28, 29, 30, 31, 32, 33, 34, 35, 36, 37, 38, 39, 40, 41, 42, 43, 44, 45, 46, 47, 48, 49, 50, 51, 52, 53, 54, 55, 56] (fun fr w' => ∃ (v_1 : Bool) (Ebs : Ents), Ebs = [(some b13, Obj.cells s_second.toArray 37), (some b6, Obj.cells s_first.toArray 37), (some b1, Obj.cells [(Value.slice a_d_sectors d.sectors.length c_d_sectors), (Value.slice a_d_pending d.pending.length c_d_pending), (Value.int .i64 d.left), (Value.bool d.stopped)].toArray 25)] ∧ fr [] [(56, (Value.bool v_1))] ∧ Step (ks [(some b13, Obj.cells s_second.toArray 37), (some b6, Obj.cells s_first.toArray 37), (some b1, Obj.cells [(Value.slice a_d_sectors d.sectors.length c_d_sectors), (Value.slice a_d_pending d.pending.length c_d_pending), (Value.int .i64 d.left), (Value.bool d.stopped)].toArray 25)] O) w35 (ks Ebs O) w' ∧ St ⟨w, [], []⟩ O w' Ebs ∧ k48 v_1 = some x) ?_ ?_
      ·
        rintro ρ55 w51 ⟨v_1, Ebs, hEbs, hfr54, hst53, hs52, hm⟩
        replace hm := jnE1 hk49 hm
        subst hEbs; rw [hfr54.eq]; clear hfr54
        replace f_d_sectors := f_d_sectors.step hst53
        replace f_d_pending := f_d_pending.step hst53
        replace f10 := f10.step hst53
        replace f17 := f17.step hst53
        replace f_y44 := f_y44.step hst53
        replace ch31 := ch31.trans hst53
        clear hst53 hs38
        refine Wp_cond rfl (fun hc56 => ?_) (fun hc56 => ?_)
        ·
          replace hm := bif_t hm hc56
          refine Wp_seq ?_
          clear f_y44
          refine Wp_region ?_  -- 6 law.go:93
          refine Rg_op rfl (op_assign (v := (Value.bool false)) rfl ?_)
          refine Rg_nil ?_
          refine Wp_ret ?_
          have hz := step_all hs52
          replace f_d_sectors := f_d_sectors.step hz
          replace f_d_pending := f_d_pending.step hz
          replace f10 := f10.step hz
          replace f17 := f17.step hz
          refine ⟨_, (show Closes [] _ _ from rfl), [(Value.bool false)], ⟨rfl, trivial⟩, hs52.ext, ?_⟩
          exact Vr.eq (a := vB) (x := false) rfl (Option.some.inj hm)
        ·
          replace hm := bif_f hm hc56
          refine Wp_skip ?_
          clear f_y44
          refine Wp_region ?_  -- 3 law.go:90
          refine Rg_op rfl (op_move (v := (Value.int .i64 i_1)) rfl ?_)
          refine Rg_op rfl (op_addw rfl rfl ?_)
          refine Rg_op rfl (op_assign (v := (Value.int .i64 (IntKind.wrap .i64 (i_1 + 1)))) rfl ?_)
          refine Rg_nil ?_
          exact hK24 _ _ ⟨(IntKind.wrap .i64 (i_1 + 1)), _, rfl, ⟨(by repeat (first | with_reducible exact Out.refl _ _ | refine Out.upd ?_ rfl | refine Out.updL ?_ rfl | refine Out.mix' ?_ rfl | exact Out.refl _ _)), rfl, rfl, trivial⟩, ch31, hs52, (inK_wrap .i64 _), jnE1 hsf23 hm⟩
      ·
        intro K50 hK50
        have ch57 := Step.refl (ks [(some b13, Obj.cells s_second.toArray 37), (some b6, Obj.cells s_first.toArray 37), (some b1, Obj.cells [(Value.slice a_d_sectors d.sectors.length c_d_sectors), (Value.slice a_d_pending d.pending.length c_d_pending), (Value.int .i64 d.left), (Value.bool d.stopped)].toArray 25)] O) w35
        refine Wp_drawR (g0 := []) (m := 37) (fl := []) (TS_inv hs38) (.inl rfl) rfl (by decide +kernel) ?_  -- 5
        refine Dw_eq (Value.int .i64 read_1.2) (fun ρ58 w59 g hle hi ht => ?_) ?_
        ·
          obtain ⟨-, hst, -⟩ := hle
          refine StepOp_plain (op_move (v := (Value.int .i64 read_1.2)) (ht 9 rfl) ?_)
          exact Goes.same hi rfl
        refine Dw_eq (Value.bool (decide (read_1.2 ≠ 0))) (fun ρ61 w62 g hle hi ht => ?_) ?_
        ·
          obtain ⟨-, hst, -⟩ := hle
          refine StepOp_plain (op_neq (ht 20 rfl) rfl ?_)
          exact Goes.same hi rfl
        refine Dw_opB (decide (read_1.2 ≠ 0)) (fun ρ64 w65 g hle hi ht => ?_) (fun hg67 => ?_) (fun hg67 => ?_)
        ·
          obtain ⟨-, hst, -⟩ := hle
          refine StepOp_plain (op_move (v := (Value.bool (decide (read_1.2 ≠ 0)))) (ht 21 rfl) ?_)
          exact Goes.same hi rfl
        ·
          replace hm := bif_t hm hg67
          refine Dw_skip (fun _ _ _ ht => wanted_x rfl (ht 22 rfl) rfl) ?_
          refine Dw_skip (fun _ _ _ ht => wanted_x rfl (ht 22 rfl) rfl) ?_
          refine Dw_skip (fun _ _ _ ht => wanted_x rfl (ht 22 rfl) rfl) ?_
          refine Dw_eq (Value.bool true) (fun ρ68 w69 g hle hi ht => ?_) ?_
          ·
            obtain ⟨-, hst, -⟩ := hle
            refine StepOp_plain (op_pick_t (v := (Value.bool true)) (ht 22 rfl) rfl ?_)
            exact Goes.same hi rfl
          refine Dw_eq (Value.bool true) (fun ρ71 w72 g hle hi ht => ?_) ?_
          ·
            obtain ⟨-, hst, -⟩ := hle
            refine StepOp_plain (op_move (v := (Value.bool true)) (ht 26 rfl) ?_)
            exact Goes.same hi rfl
          refine Dw_skip (fun _ _ _ ht => wanted_x rfl (ht 27 rfl) rfl) ?_
          refine Dw_skip (fun _ _ _ ht => wanted_x rfl (ht 27 rfl) rfl) ?_
          refine Dw_skip (fun _ _ _ ht => wanted_x rfl (ht 27 rfl) rfl) ?_
          refine Dw_skip (fun _ _ _ ht => wanted_x rfl (ht 27 rfl) rfl) ?_
          refine Dw_skip (fun _ _ _ ht => wanted_x rfl (ht 27 rfl) rfl) ?_
          refine Dw_skip (fun _ _ _ ht => wanted_x rfl (ht 27 rfl) rfl) ?_
          refine Dw_skip (fun _ _ _ ht => wanted_x rfl (ht 27 rfl) rfl) ?_
          refine Dw_eq (Value.bool true) (fun ρ74 w75 g hle hi ht => ?_) ?_
          ·
            obtain ⟨-, hst, -⟩ := hle
            refine StepOp_plain (op_pick_t (v := (Value.bool true)) (ht 27 rfl) rfl ?_)
            exact Goes.same hi rfl
          refine Dw_eq (Value.bool true) (fun ρ77 w78 g hle hi ht => ?_) ?_
          ·
            obtain ⟨-, hst, -⟩ := hle
            refine StepOp_plain (op_move (v := (Value.bool true)) (ht 35 rfl) ?_)
            exact Goes.same hi rfl
          refine Dw_skip (fun _ _ _ ht => wanted_x rfl (ht 36 rfl) rfl) ?_
          refine Dw_skip (fun _ _ _ ht => wanted_x rfl (ht 36 rfl) rfl) ?_
          refine Dw_skip (fun _ _ _ ht => wanted_x rfl (ht 36 rfl) rfl) ?_
          refine Dw_skip (fun _ _ _ ht => wanted_x rfl (ht 36 rfl) rfl) ?_
          refine Dw_skip (fun _ _ _ ht => wanted_x rfl (ht 36 rfl) rfl) ?_
          refine Dw_skip (fun _ _ _ ht => wanted_x rfl (ht 36 rfl) rfl) ?_
          refine Dw_skip (fun _ _ _ ht => wanted_x rfl (ht 36 rfl) rfl) ?_
          refine Dw_eq (Value.bool true) (fun ρ80 w81 g hle hi ht => ?_) ?_
          ·
            obtain ⟨-, hst, -⟩ := hle
            refine StepOp_plain (op_pick_t (v := (Value.bool true)) (ht 36 rfl) rfl ?_)
            exact Goes.same hi rfl
          refine Dw_eq (Value.bool true) (fun ρ83 w84 g hle hi ht => ?_) ?_
          ·
            obtain ⟨-, hst, -⟩ := hle
            refine StepOp_plain (op_move (v := (Value.bool true)) (ht 44 rfl) ?_)
            exact Goes.same hi rfl
          refine Dw_skip (fun _ _ _ ht => wanted_x rfl (ht 45 rfl) rfl) ?_
          refine Dw_skip (fun _ _ _ ht => wanted_x rfl (ht 45 rfl) rfl) ?_
          refine Dw_skip (fun _ _ _ ht => wanted_x rfl (ht 45 rfl) rfl) ?_
          refine Dw_skip (fun _ _ _ ht => wanted_x rfl (ht 45 rfl) rfl) ?_
          refine Dw_eq (Value.bool true) (fun ρ86 w87 g hle hi ht => ?_) ?_
          ·
            obtain ⟨-, hst, -⟩ := hle
            refine StepOp_plain (op_pick_t (v := (Value.bool true)) (ht 45 rfl) rfl ?_)
            exact Goes.same hi rfl
          refine Dw_eq (Value.bool true) (fun ρ89 w90 g hle hi ht => ?_) ?_
          ·
            obtain ⟨-, hst, -⟩ := hle
            refine StepOp_plain (op_move (v := (Value.bool true)) (ht 50 rfl) ?_)
            exact Goes.same hi rfl
          refine Dw_skip (fun _ _ _ ht => wanted_x rfl (ht 51 rfl) rfl) ?_
          refine Dw_skip (fun _ _ _ ht => wanted_x rfl (ht 51 rfl) rfl) ?_
          refine Dw_skip (fun _ _ _ ht => wanted_x rfl (ht 51 rfl) rfl) ?_
          refine Dw_skip (fun _ _ _ ht => wanted_x rfl (ht 51 rfl) rfl) ?_
          refine Dw_eq (Value.bool true) (fun ρ92 w93 g hle hi ht => ?_) ?_
          ·
            obtain ⟨-, hst, -⟩ := hle
            refine StepOp_plain (op_pick_t (v := (Value.bool true)) (ht 51 rfl) rfl ?_)
            exact Goes.same hi rfl
          refine Dw_nil fun w99 g100 hl101 hi102 => ?_
          obtain ⟨-, hst103, -⟩ := hl101
          obtain ⟨hs105, p104⟩ := Step.nx hi102
          rintro _ rfl
          rintro _ rfl
          rintro _ rfl
          rintro _ rfl
          rintro _ rfl
          rintro _ rfl
          rintro _ rfl
          rintro _ rfl
          rintro _ rfl
          rintro _ rfl
          rintro _ rfl
          rintro _ rfl
          rintro _ rfl
          rintro _ rfl
          rintro _ rfl
          rintro _ rfl
          rintro _ rfl
          rintro _ rfl
          rintro _ rfl
          rintro _ rfl
          rintro _ rfl
          rintro _ rfl
          rintro _ rfl
          rintro _ rfl
          rintro _ rfl
          rintro _ rfl
          rintro _ rfl
          rintro _ rfl
          rintro _ rfl
          rintro _ rfl
          rintro _ rfl
          rintro _ rfl
          rintro _ rfl
          rintro _ rfl
          rintro _ rfl
          rintro _ rfl
          rintro _ rfl
          have p106 : Step (ks [(some b13, Obj.cells s_second.toArray 37), (some b6, Obj.cells s_first.toArray 37), (some b1, Obj.cells [(Value.slice a_d_sectors d.sectors.length c_d_sectors), (Value.slice a_d_pending d.pending.length c_d_pending), (Value.int .i64 d.left), (Value.bool d.stopped)].toArray 25)] O) w35 (ks [(some b13, Obj.cells s_second.toArray 37), (some b6, Obj.cells s_first.toArray 37), (some b1, Obj.cells [(Value.slice a_d_sectors d.sectors.length c_d_sectors), (Value.slice a_d_pending d.pending.length c_d_pending), (Value.int .i64 d.left), (Value.bool d.stopped)].toArray 25)] O) w99 := hst103.trans p104
          replace f_d_sectors := f_d_sectors.step p106
          replace f_d_pending := f_d_pending.step p106
          replace f10 := f10.step p106
          replace f17 := f17.step p106
          replace f_y44 := f_y44.step p106
          replace ch31 := ch31.trans p106
          replace ch57 := ch57.trans p106
          clear p106 hs38
          refine Rg_nil ?_
          exact hK50 _ _ ⟨true, _, rfl, ⟨(by repeat (first | with_reducible exact Out.refl _ _ | refine Out.upd ?_ rfl | refine Out.updL ?_ rfl | refine Out.mix' ?_ rfl | exact Out.refl _ _)), rfl, rfl, trivial⟩, ch57, hs105, hm⟩
        ·
          replace hm := bif_f hm hg67
          refine Dw_eq (Value.slice a_y44 read_1.1.length c_y44) (fun ρ107 w108 g hle hi ht => ?_) ?_
          ·
            obtain ⟨-, hst, -⟩ := hle
            refine StepOp_g rfl (ht 22 rfl) (op_move (v := (Value.slice a_y44 read_1.1.length c_y44)) (ht 8 rfl) ?_)
            exact Goes.same hi rfl
          refine Dw_eq (Value.int .i64 (read_1.1.length : Int)) (fun ρ110 w111 g hle hi ht => ?_) ?_
          ·
            obtain ⟨-, hst, -⟩ := hle
            refine StepOp_g rfl (ht 22 rfl) (op_len Try.underlying41 (ht 23 rfl) ?_)
            exact Goes.same hi rfl
          refine Dw_eq (Value.bool (decide ((read_1.1.length : Int) ≠ 128))) (fun ρ113 w114 g hle hi ht => ?_) ?_
          ·
            obtain ⟨-, hst, -⟩ := hle
            refine StepOp_g rfl (ht 22 rfl) (op_neq (ht 24 rfl) rfl ?_)
            exact Goes.same hi rfl
          refine Dw_eq (Value.bool (decide ((read_1.1.length : Int) ≠ 128))) (fun ρ116 w117 g hle hi ht => ?_) ?_
          ·
            obtain ⟨-, hst, -⟩ := hle
            refine StepOp_plain (op_pick_f (v := (Value.bool (decide ((read_1.1.length : Int) ≠ 128)))) (ht 22 rfl) (ht 25 rfl) ?_)
            exact Goes.same hi rfl
          refine Dw_opB (decide ((read_1.1.length : Int) ≠ 128)) (fun ρ119 w120 g hle hi ht => ?_) (fun hg122 => ?_) (fun hg122 => ?_)
          ·
            obtain ⟨-, hst, -⟩ := hle
            refine StepOp_plain (op_move (v := (Value.bool (decide ((read_1.1.length : Int) ≠ 128)))) (ht 26 rfl) ?_)
            exact Goes.same hi rfl
          ·
            replace hm := bif_t hm hg122
            refine Dw_skip (fun _ _ _ ht => wanted_x rfl (ht 27 rfl) rfl) ?_
            refine Dw_skip (fun _ _ _ ht => wanted_x rfl (ht 27 rfl) rfl) ?_
            refine Dw_skip (fun _ _ _ ht => wanted_x rfl (ht 27 rfl) rfl) ?_
            refine Dw_skip (fun _ _ _ ht => wanted_x rfl (ht 27 rfl) rfl) ?_
            refine Dw_skip (fun _ _ _ ht => wanted_x rfl (ht 27 rfl) rfl) ?_
            refine Dw_skip (fun _ _ _ ht => wanted_x rfl (ht 27 rfl) rfl) ?_
            refine Dw_skip (fun _ _ _ ht => wanted_x rfl (ht 27 rfl) rfl) ?_
            refine Dw_eq (Value.bool true) (fun ρ123 w124 g hle hi ht => ?_) ?_
            ·
              obtain ⟨-, hst, -⟩ := hle
              refine StepOp_plain (op_pick_t (v := (Value.bool true)) (ht 27 rfl) rfl ?_)
              exact Goes.same hi rfl
            refine Dw_eq (Value.bool true) (fun ρ126 w127 g hle hi ht => ?_) ?_
            ·
              obtain ⟨-, hst, -⟩ := hle
              refine StepOp_plain (op_move (v := (Value.bool true)) (ht 35 rfl) ?_)
              exact Goes.same hi rfl
            refine Dw_skip (fun _ _ _ ht => wanted_x rfl (ht 36 rfl) rfl) ?_
            refine Dw_skip (fun _ _ _ ht => wanted_x rfl (ht 36 rfl) rfl) ?_
            refine Dw_skip (fun _ _ _ ht => wanted_x rfl (ht 36 rfl) rfl) ?_
            refine Dw_skip (fun _ _ _ ht => wanted_x rfl (ht 36 rfl) rfl) ?_
            refine Dw_skip (fun _ _ _ ht => wanted_x rfl (ht 36 rfl) rfl) ?_
            refine Dw_skip (fun _ _ _ ht => wanted_x rfl (ht 36 rfl) rfl) ?_
            refine Dw_skip (fun _ _ _ ht => wanted_x rfl (ht 36 rfl) rfl) ?_
            refine Dw_eq (Value.bool true) (fun ρ129 w130 g hle hi ht => ?_) ?_
            ·
              obtain ⟨-, hst, -⟩ := hle
              refine StepOp_plain (op_pick_t (v := (Value.bool true)) (ht 36 rfl) rfl ?_)
              exact Goes.same hi rfl
            refine Dw_eq (Value.bool true) (fun ρ132 w133 g hle hi ht => ?_) ?_
            ·
              obtain ⟨-, hst, -⟩ := hle
              refine StepOp_plain (op_move (v := (Value.bool true)) (ht 44 rfl) ?_)
              exact Goes.same hi rfl
            refine Dw_skip (fun _ _ _ ht => wanted_x rfl (ht 45 rfl) rfl) ?_
            refine Dw_skip (fun _ _ _ ht => wanted_x rfl (ht 45 rfl) rfl) ?_
            refine Dw_skip (fun _ _ _ ht => wanted_x rfl (ht 45 rfl) rfl) ?_
            refine Dw_skip (fun _ _ _ ht => wanted_x rfl (ht 45 rfl) rfl) ?_
            refine Dw_eq (Value.bool true) (fun ρ135 w136 g hle hi ht => ?_) ?_
            ·
              obtain ⟨-, hst, -⟩ := hle
              refine StepOp_plain (op_pick_t (v := (Value.bool true)) (ht 45 rfl) rfl ?_)
              exact Goes.same hi rfl
            refine Dw_eq (Value.bool true) (fun ρ138 w139 g hle hi ht => ?_) ?_
            ·
              obtain ⟨-, hst, -⟩ := hle
              refine StepOp_plain (op_move (v := (Value.bool true)) (ht 50 rfl) ?_)
              exact Goes.same hi rfl
            refine Dw_skip (fun _ _ _ ht => wanted_x rfl (ht 51 rfl) rfl) ?_
            refine Dw_skip (fun _ _ _ ht => wanted_x rfl (ht 51 rfl) rfl) ?_
            refine Dw_skip (fun _ _ _ ht => wanted_x rfl (ht 51 rfl) rfl) ?_
            refine Dw_skip (fun _ _ _ ht => wanted_x rfl (ht 51 rfl) rfl) ?_
            refine Dw_eq (Value.bool true) (fun ρ141 w142 g hle hi ht => ?_) ?_
            ·
              obtain ⟨-, hst, -⟩ := hle
              refine StepOp_plain (op_pick_t (v := (Value.bool true)) (ht 51 rfl) rfl ?_)
              exact Goes.same hi rfl
            refine Dw_nil fun w148 g149 hl150 hi151 => ?_
            obtain ⟨-, hst152, -⟩ := hl150
            obtain ⟨hs154, p153⟩ := Step.nx hi151
            rintro _ rfl
            rintro _ rfl
            rintro _ rfl
            rintro _ rfl
            rintro _ rfl
            rintro _ rfl
            rintro _ rfl
            rintro _ rfl
            rintro _ rfl
            rintro _ rfl
            rintro _ rfl
            rintro _ rfl
            rintro _ rfl
            rintro _ rfl
            rintro _ rfl
            rintro _ rfl
            rintro _ rfl
            rintro _ rfl
            rintro _ rfl
            rintro _ rfl
            rintro _ rfl
            rintro _ rfl
            rintro _ rfl
            rintro _ rfl
            rintro _ rfl
            rintro _ rfl
            rintro _ rfl
            rintro _ rfl
            rintro _ rfl
            rintro _ rfl
            rintro _ rfl
            rintro _ rfl
            rintro _ rfl
            rintro _ rfl
            rintro _ rfl
            rintro _ rfl
            rintro _ rfl
            have p155 : Step (ks [(some b13, Obj.cells s_second.toArray 37), (some b6, Obj.cells s_first.toArray 37), (some b1, Obj.cells [(Value.slice a_d_sectors d.sectors.length c_d_sectors), (Value.slice a_d_pending d.pending.length c_d_pending), (Value.int .i64 d.left), (Value.bool d.stopped)].toArray 25)] O) w35 (ks [(some b13, Obj.cells s_second.toArray 37), (some b6, Obj.cells s_first.toArray 37), (some b1, Obj.cells [(Value.slice a_d_sectors d.sectors.length c_d_sectors), (Value.slice a_d_pending d.pending.length c_d_pending), (Value.int .i64 d.left), (Value.bool d.stopped)].toArray 25)] O) w148 := hst152.trans p153
            replace f_d_sectors := f_d_sectors.step p155
            replace f_d_pending := f_d_pending.step p155
            replace f10 := f10.step p155
            replace f17 := f17.step p155
            replace f_y44 := f_y44.step p155
            replace ch31 := ch31.trans p155
            replace ch57 := ch57.trans p155
            clear p155 hs38
            refine Rg_nil ?_
            exact hK50 _ _ ⟨true, _, rfl, ⟨(by repeat (first | with_reducible exact Out.refl _ _ | refine Out.upd ?_ rfl | refine Out.updL ?_ rfl | refine Out.mix' ?_ rfl | exact Out.refl _ _)), rfl, rfl, trivial⟩, ch57, hs154, hm⟩
          ·
            replace hm := bif_f hm hg122
            refine Dw_eq (Value.slice a_y44 read_1.1.length c_y44) (fun ρ156 w157 g hle hi ht => ?_) ?_
            ·
              obtain ⟨-, hst, -⟩ := hle
              refine StepOp_g rfl (ht 27 rfl) (op_move (v := (Value.slice a_y44 read_1.1.length c_y44)) (ht 8 rfl) ?_)
              exact Goes.same hi rfl
            replace hm := ck_some hm; obtain ⟨hc162, hm⟩ := hm
            refine Dw_op (VP O [(some b13, Obj.cells s_second.toArray 37), (some b6, Obj.cells s_first.toArray 37), (some b1, Obj.cells [(Value.slice a_d_sectors d.sectors.length c_d_sectors), (Value.slice a_d_pending d.pending.length c_d_pending), (Value.int .i64 d.left), (Value.bool d.stopped)].toArray 25)] rU8 (read_1.1.getD 0 default)) (VP.stab _ _) (fun ρ159 w160 g hle hi ht => ?_) ?_
            ·
              obtain ⟨-, hst, -⟩ := hle
              replace f_y44 := f_y44.step hst
              refine StepOp_g rfl (ht 27 rfl) (op_indexAddr (q := rU8) ty41 ty5 (ht 28 rfl) rfl f_y44 rfl hc162.1 hc162.2 ?_)
              intro p163 f164
              exact Goes.same hi ⟨_, rfl, f164⟩
            refine Dw_eq (Value.int .u8 ((read_1.1.getD 0 default).toNat : Int)) (fun ρ165 w166 g hle hi ht => ?_) ?_
            ·
              obtain ⟨-, hst, -⟩ := hle
              obtain ⟨p168, q169, f170⟩ := ht 29 rfl
              refine StepOp_g rfl (ht 27 rfl) (op_loadP ty5 q169 f170 rfl ?_)
              intro v171 h172
              obtain rfl := un_u8 h172
              exact Goes.same hi rfl
            refine Dw_eq (Value.int .i64 i_1) (fun ρ174 w175 g hle hi ht => ?_) ?_
            ·
              obtain ⟨-, hst, -⟩ := hle
              refine StepOp_g rfl (ht 27 rfl) (op_move (v := (Value.int .i64 i_1)) (ht 7 rfl) ?_)
              exact Goes.same hi rfl
            replace hm := ck_some hm; obtain ⟨hc180, hm⟩ := hm
            refine Dw_eq (Value.pointer (some ⟨b6, i_1.toNat * 1, none⟩)) (fun ρ177 w178 g hle hi ht => ?_) ?_
            ·
              obtain ⟨-, hst, -⟩ := hle
              replace f10 := f10.step hst
              refine StepOp_g rfl (ht 27 rfl) (op_indexAddrAG ty37 ty5 (ht 4 rfl) (ht 31 rfl) f10 hc180 ?_)
              exact Goes.same hi rfl
            refine Dw_eq (Value.int .u8 ((first.getD i_1.toNat default).toNat : Int)) (fun ρ181 w182 g hle hi ht => ?_) ?_
            ·
              obtain ⟨-, hst, -⟩ := hle
              replace f10 := f10.step hst
              have hsn := (Step.nx hi).1
              refine StepOp_g rfl (ht 27 rfl) (op_loadG (i := 1) ty5 rfl hsn rfl (ht 32 rfl) f10 hc180 ?_)
              intro v184 h185
              obtain rfl := un_u8 h185
              exact Goes.same hi rfl
            refine Dw_eq (Value.bool (decide (((read_1.1.getD 0 default).toNat : Int) ≠ ((first.getD i_1.toNat default).toNat : Int)))) (fun ρ187 w188 g hle hi ht => ?_) ?_
            ·
              obtain ⟨-, hst, -⟩ := hle
              refine StepOp_g rfl (ht 27 rfl) (op_neq (ht 30 rfl) (ht 33 rfl) ?_)
              exact Goes.same hi rfl
            refine Dw_eq (Value.bool (decide (((read_1.1.getD 0 default).toNat : Int) ≠ ((first.getD i_1.toNat default).toNat : Int)))) (fun ρ190 w191 g hle hi ht => ?_) ?_
            ·
              obtain ⟨-, hst, -⟩ := hle
              refine StepOp_plain (op_pick_f (v := (Value.bool (decide (((read_1.1.getD 0 default).toNat : Int) ≠ ((first.getD i_1.toNat default).toNat : Int))))) (ht 27 rfl) (ht 34 rfl) ?_)
              exact Goes.same hi rfl
            refine Dw_opB (decide (((read_1.1.getD 0 default).toNat : Int) ≠ ((first.getD i_1.toNat default).toNat : Int))) (fun ρ193 w194 g hle hi ht => ?_) (fun hg196 => ?_) (fun hg196 => ?_)
            ·
              obtain ⟨-, hst, -⟩ := hle
              refine StepOp_plain (op_move (v := (Value.bool (decide (((read_1.1.getD 0 default).toNat : Int) ≠ ((first.getD i_1.toNat default).toNat : Int))))) (ht 35 rfl) ?_)
              exact Goes.same hi rfl
            ·
              replace hm := bif_t hm hg196
              refine Dw_skip (fun _ _ _ ht => wanted_x rfl (ht 36 rfl) rfl) ?_
              refine Dw_skip (fun _ _ _ ht => wanted_x rfl (ht 36 rfl) rfl) ?_
              refine Dw_skip (fun _ _ _ ht => wanted_x rfl (ht 36 rfl) rfl) ?_
              refine Dw_skip (fun _ _ _ ht => wanted_x rfl (ht 36 rfl) rfl) ?_
              refine Dw_skip (fun _ _ _ ht => wanted_x rfl (ht 36 rfl) rfl) ?_
              refine Dw_skip (fun _ _ _ ht => wanted_x rfl (ht 36 rfl) rfl) ?_
              refine Dw_skip (fun _ _ _ ht => wanted_x rfl (ht 36 rfl) rfl) ?_
              refine Dw_eq (Value.bool true) (fun ρ197 w198 g hle hi ht => ?_) ?_
              ·
                obtain ⟨-, hst, -⟩ := hle
                refine StepOp_plain (op_pick_t (v := (Value.bool true)) (ht 36 rfl) rfl ?_)
                exact Goes.same hi rfl
              refine Dw_eq (Value.bool true) (fun ρ200 w201 g hle hi ht => ?_) ?_
              ·
                obtain ⟨-, hst, -⟩ := hle
                refine StepOp_plain (op_move (v := (Value.bool true)) (ht 44 rfl) ?_)
                exact Goes.same hi rfl
              refine Dw_skip (fun _ _ _ ht => wanted_x rfl (ht 45 rfl) rfl) ?_
              refine Dw_skip (fun _ _ _ ht => wanted_x rfl (ht 45 rfl) rfl) ?_
              refine Dw_skip (fun _ _ _ ht => wanted_x rfl (ht 45 rfl) rfl) ?_
              refine Dw_skip (fun _ _ _ ht => wanted_x rfl (ht 45 rfl) rfl) ?_
              refine Dw_eq (Value.bool true) (fun ρ203 w204 g hle hi ht => ?_) ?_
              ·
                obtain ⟨-, hst, -⟩ := hle
                refine StepOp_plain (op_pick_t (v := (Value.bool true)) (ht 45 rfl) rfl ?_)
                exact Goes.same hi rfl
              refine Dw_eq (Value.bool true) (fun ρ206 w207 g hle hi ht => ?_) ?_
              ·
                obtain ⟨-, hst, -⟩ := hle
                refine StepOp_plain (op_move (v := (Value.bool true)) (ht 50 rfl) ?_)
                exact Goes.same hi rfl
              refine Dw_skip (fun _ _ _ ht => wanted_x rfl (ht 51 rfl) rfl) ?_
              refine Dw_skip (fun _ _ _ ht => wanted_x rfl (ht 51 rfl) rfl) ?_
              refine Dw_skip (fun _ _ _ ht => wanted_x rfl (ht 51 rfl) rfl) ?_
              refine Dw_skip (fun _ _ _ ht => wanted_x rfl (ht 51 rfl) rfl) ?_
              refine Dw_eq (Value.bool true) (fun ρ209 w210 g hle hi ht => ?_) ?_
              ·
                obtain ⟨-, hst, -⟩ := hle
                refine StepOp_plain (op_pick_t (v := (Value.bool true)) (ht 51 rfl) rfl ?_)
                exact Goes.same hi rfl
              refine Dw_nil fun w216 g217 hl218 hi219 => ?_
              obtain ⟨-, hst220, -⟩ := hl218
              obtain ⟨hs222, p221⟩ := Step.nx hi219
              rintro _ rfl
              rintro _ rfl
              rintro _ rfl
              rintro _ rfl
              rintro _ rfl
              rintro _ rfl
              rintro _ rfl
              rintro _ rfl
              rintro _ rfl
              rintro _ rfl
              rintro _ rfl
              rintro _ rfl
              rintro _ rfl
              rintro _ rfl
              rintro _ rfl
              rintro _ rfl
              rintro _ rfl
              rintro _ rfl
              rintro _ rfl
              rintro _ rfl
              rintro _ rfl
              rintro _ rfl
              rintro _ rfl
              rintro _ rfl
              rintro _ rfl
              rintro _ rfl
              rintro _ rfl
              rintro _ ⟨p223, rfl, f224⟩
              rintro _ rfl
              rintro _ rfl
              rintro _ rfl
              rintro _ rfl
              rintro _ rfl
              rintro _ rfl
              rintro _ rfl
              rintro _ rfl
              rintro _ rfl
              have p225 : Step (ks [(some b13, Obj.cells s_second.toArray 37), (some b6, Obj.cells s_first.toArray 37), (some b1, Obj.cells [(Value.slice a_d_sectors d.sectors.length c_d_sectors), (Value.slice a_d_pending d.pending.length c_d_pending), (Value.int .i64 d.left), (Value.bool d.stopped)].toArray 25)] O) w35 (ks [(some b13, Obj.cells s_second.toArray 37), (some b6, Obj.cells s_first.toArray 37), (some b1, Obj.cells [(Value.slice a_d_sectors d.sectors.length c_d_sectors), (Value.slice a_d_pending d.pending.length c_d_pending), (Value.int .i64 d.left), (Value.bool d.stopped)].toArray 25)] O) w216 := hst220.trans p221
              replace f224 := f224.step p221
              replace f_d_sectors := f_d_sectors.step p225
              replace f_d_pending := f_d_pending.step p225
              replace f10 := f10.step p225
              replace f17 := f17.step p225
              replace f_y44 := f_y44.step p225
              replace ch31 := ch31.trans p225
              replace ch57 := ch57.trans p225
              clear p225 hs38
              refine Rg_nil ?_
              exact hK50 _ _ ⟨true, _, rfl, ⟨(by repeat (first | with_reducible exact Out.refl _ _ | refine Out.upd ?_ rfl | refine Out.updL ?_ rfl | refine Out.mix' ?_ rfl | exact Out.refl _ _)), rfl, rfl, trivial⟩, ch57, hs222, hm⟩
            ·
              replace hm := bif_f hm hg196
              refine Dw_eq (Value.slice a_y44 read_1.1.length c_y44) (fun ρ226 w227 g hle hi ht => ?_) ?_
              ·
                obtain ⟨-, hst, -⟩ := hle
                refine StepOp_g rfl (ht 36 rfl) (op_move (v := (Value.slice a_y44 read_1.1.length c_y44)) (ht 8 rfl) ?_)
                exact Goes.same hi rfl
              replace hm := ck_some hm; obtain ⟨hc232, hm⟩ := hm
              refine Dw_op (VP O [(some b13, Obj.cells s_second.toArray 37), (some b6, Obj.cells s_first.toArray 37), (some b1, Obj.cells [(Value.slice a_d_sectors d.sectors.length c_d_sectors), (Value.slice a_d_pending d.pending.length c_d_pending), (Value.int .i64 d.left), (Value.bool d.stopped)].toArray 25)] rU8 (read_1.1.getD 64 default)) (VP.stab _ _) (fun ρ229 w230 g hle hi ht => ?_) ?_
              ·
                obtain ⟨-, hst, -⟩ := hle
                replace f_y44 := f_y44.step hst
                refine StepOp_g rfl (ht 36 rfl) (op_indexAddr (q := rU8) ty41 ty5 (ht 37 rfl) rfl f_y44 rfl hc232.1 hc232.2 ?_)
                intro p233 f234
                exact Goes.same hi ⟨_, rfl, f234⟩
              refine Dw_eq (Value.int .u8 ((read_1.1.getD 64 default).toNat : Int)) (fun ρ235 w236 g hle hi ht => ?_) ?_
              ·
                obtain ⟨-, hst, -⟩ := hle
                obtain ⟨p238, q239, f240⟩ := ht 38 rfl
                refine StepOp_g rfl (ht 36 rfl) (op_loadP ty5 q239 f240 rfl ?_)
                intro v241 h242
                obtain rfl := un_u8 h242
                exact Goes.same hi rfl
              refine Dw_eq (Value.int .i64 i_1) (fun ρ244 w245 g hle hi ht => ?_) ?_
              ·
                obtain ⟨-, hst, -⟩ := hle
                refine StepOp_g rfl (ht 36 rfl) (op_move (v := (Value.int .i64 i_1)) (ht 7 rfl) ?_)
                exact Goes.same hi rfl
              replace hm := ck_some hm; obtain ⟨hc250, hm⟩ := hm
              refine Dw_eq (Value.pointer (some ⟨b13, i_1.toNat * 1, none⟩)) (fun ρ247 w248 g hle hi ht => ?_) ?_
              ·
                obtain ⟨-, hst, -⟩ := hle
                replace f17 := f17.step hst
                refine StepOp_g rfl (ht 36 rfl) (op_indexAddrAG ty37 ty5 (ht 5 rfl) (ht 40 rfl) f17 hc250 ?_)
                exact Goes.same hi rfl
              refine Dw_eq (Value.int .u8 ((second.getD i_1.toNat default).toNat : Int)) (fun ρ251 w252 g hle hi ht => ?_) ?_
              ·
                obtain ⟨-, hst, -⟩ := hle
                replace f17 := f17.step hst
                have hsn := (Step.nx hi).1
                refine StepOp_g rfl (ht 36 rfl) (op_loadG (i := 0) ty5 rfl hsn rfl (ht 41 rfl) f17 hc250 ?_)
                intro v254 h255
                obtain rfl := un_u8 h255
                exact Goes.same hi rfl
              refine Dw_eq (Value.bool (decide (((read_1.1.getD 64 default).toNat : Int) ≠ ((second.getD i_1.toNat default).toNat : Int)))) (fun ρ257 w258 g hle hi ht => ?_) ?_
              ·
                obtain ⟨-, hst, -⟩ := hle
                refine StepOp_g rfl (ht 36 rfl) (op_neq (ht 39 rfl) (ht 42 rfl) ?_)
                exact Goes.same hi rfl
              refine Dw_eq (Value.bool (decide (((read_1.1.getD 64 default).toNat : Int) ≠ ((second.getD i_1.toNat default).toNat : Int)))) (fun ρ260 w261 g hle hi ht => ?_) ?_
              ·
                obtain ⟨-, hst, -⟩ := hle
                refine StepOp_plain (op_pick_f (v := (Value.bool (decide (((read_1.1.getD 64 default).toNat : Int) ≠ ((second.getD i_1.toNat default).toNat : Int))))) (ht 36 rfl) (ht 43 rfl) ?_)
                exact Goes.same hi rfl
              refine Dw_opB (decide (((read_1.1.getD 64 default).toNat : Int) ≠ ((second.getD i_1.toNat default).toNat : Int))) (fun ρ263 w264 g hle hi ht => ?_) (fun hg266 => ?_) (fun hg266 => ?_)
              ·
                obtain ⟨-, hst, -⟩ := hle
                refine StepOp_plain (op_move (v := (Value.bool (decide (((read_1.1.getD 64 default).toNat : Int) ≠ ((second.getD i_1.toNat default).toNat : Int))))) (ht 44 rfl) ?_)
                exact Goes.same hi rfl
              ·
                replace hm := bif_t hm hg266
                refine Dw_skip (fun _ _ _ ht => wanted_x rfl (ht 45 rfl) rfl) ?_
                refine Dw_skip (fun _ _ _ ht => wanted_x rfl (ht 45 rfl) rfl) ?_
                refine Dw_skip (fun _ _ _ ht => wanted_x rfl (ht 45 rfl) rfl) ?_
                refine Dw_skip (fun _ _ _ ht => wanted_x rfl (ht 45 rfl) rfl) ?_
                refine Dw_eq (Value.bool true) (fun ρ267 w268 g hle hi ht => ?_) ?_
                ·
                  obtain ⟨-, hst, -⟩ := hle
                  refine StepOp_plain (op_pick_t (v := (Value.bool true)) (ht 45 rfl) rfl ?_)
                  exact Goes.same hi rfl
                refine Dw_eq (Value.bool true) (fun ρ270 w271 g hle hi ht => ?_) ?_
                ·
                  obtain ⟨-, hst, -⟩ := hle
                  refine StepOp_plain (op_move (v := (Value.bool true)) (ht 50 rfl) ?_)
                  exact Goes.same hi rfl
                refine Dw_skip (fun _ _ _ ht => wanted_x rfl (ht 51 rfl) rfl) ?_
                refine Dw_skip (fun _ _ _ ht => wanted_x rfl (ht 51 rfl) rfl) ?_
                refine Dw_skip (fun _ _ _ ht => wanted_x rfl (ht 51 rfl) rfl) ?_
                refine Dw_skip (fun _ _ _ ht => wanted_x rfl (ht 51 rfl) rfl) ?_
                refine Dw_eq (Value.bool true) (fun ρ273 w274 g hle hi ht => ?_) ?_
                ·
                  obtain ⟨-, hst, -⟩ := hle
                  refine StepOp_plain (op_pick_t (v := (Value.bool true)) (ht 51 rfl) rfl ?_)
                  exact Goes.same hi rfl
                refine Dw_nil fun w280 g281 hl282 hi283 => ?_
                obtain ⟨-, hst284, -⟩ := hl282
                obtain ⟨hs286, p285⟩ := Step.nx hi283
                rintro _ rfl
                rintro _ rfl
                rintro _ rfl
                rintro _ rfl
                rintro _ rfl
                rintro _ rfl
                rintro _ rfl
                rintro _ rfl
                rintro _ rfl
                rintro _ rfl
                rintro _ rfl
                rintro _ rfl
                rintro _ rfl
                rintro _ rfl
                rintro _ rfl
                rintro _ rfl
                rintro _ rfl
                rintro _ rfl
                rintro _ ⟨p287, rfl, f288⟩
                rintro _ rfl
                rintro _ rfl
                rintro _ rfl
                rintro _ rfl
                rintro _ rfl
                rintro _ rfl
                rintro _ rfl
                rintro _ rfl
                rintro _ ⟨p289, rfl, f290⟩
                rintro _ rfl
                rintro _ rfl
                rintro _ rfl
                rintro _ rfl
                rintro _ rfl
                rintro _ rfl
                rintro _ rfl
                rintro _ rfl
                rintro _ rfl
                have p291 : Step (ks [(some b13, Obj.cells s_second.toArray 37), (some b6, Obj.cells s_first.toArray 37), (some b1, Obj.cells [(Value.slice a_d_sectors d.sectors.length c_d_sectors), (Value.slice a_d_pending d.pending.length c_d_pending), (Value.int .i64 d.left), (Value.bool d.stopped)].toArray 25)] O) w35 (ks [(some b13, Obj.cells s_second.toArray 37), (some b6, Obj.cells s_first.toArray 37), (some b1, Obj.cells [(Value.slice a_d_sectors d.sectors.length c_d_sectors), (Value.slice a_d_pending d.pending.length c_d_pending), (Value.int .i64 d.left), (Value.bool d.stopped)].toArray 25)] O) w280 := hst284.trans p285
                replace f288 := f288.step p285
                replace f290 := f290.step p285
                replace f_d_sectors := f_d_sectors.step p291
                replace f_d_pending := f_d_pending.step p291
                replace f10 := f10.step p291
                replace f17 := f17.step p291
                replace f_y44 := f_y44.step p291
                replace ch31 := ch31.trans p291
                replace ch57 := ch57.trans p291
                clear p291 hs38
                refine Rg_nil ?_
                exact hK50 _ _ ⟨true, _, rfl, ⟨(by repeat (first | with_reducible exact Out.refl _ _ | refine Out.upd ?_ rfl | refine Out.updL ?_ rfl | refine Out.mix' ?_ rfl | exact Out.refl _ _)), rfl, rfl, trivial⟩, ch57, hs286, hm⟩
              ·
                replace hm := bif_f hm hg266
                refine Dw_eq (Value.slice a_y44 read_1.1.length c_y44) (fun ρ292 w293 g hle hi ht => ?_) ?_
                ·
                  obtain ⟨-, hst, -⟩ := hle
                  refine StepOp_g rfl (ht 45 rfl) (op_move (v := (Value.slice a_y44 read_1.1.length c_y44)) (ht 8 rfl) ?_)
                  exact Goes.same hi rfl
                replace hm := ck_some hm; obtain ⟨hc298, hm⟩ := hm
                refine Dw_op (VP O [(some b13, Obj.cells s_second.toArray 37), (some b6, Obj.cells s_first.toArray 37), (some b1, Obj.cells [(Value.slice a_d_sectors d.sectors.length c_d_sectors), (Value.slice a_d_pending d.pending.length c_d_pending), (Value.int .i64 d.left), (Value.bool d.stopped)].toArray 25)] rU8 (read_1.1.getD 1 default)) (VP.stab _ _) (fun ρ295 w296 g hle hi ht => ?_) ?_
                ·
                  obtain ⟨-, hst, -⟩ := hle
                  replace f_y44 := f_y44.step hst
                  refine StepOp_g rfl (ht 45 rfl) (op_indexAddr (q := rU8) ty41 ty5 (ht 46 rfl) rfl f_y44 rfl hc298.1 hc298.2 ?_)
                  intro p299 f300
                  exact Goes.same hi ⟨_, rfl, f300⟩
                refine Dw_eq (Value.int .u8 ((read_1.1.getD 1 default).toNat : Int)) (fun ρ301 w302 g hle hi ht => ?_) ?_
                ·
                  obtain ⟨-, hst, -⟩ := hle
                  obtain ⟨p304, q305, f306⟩ := ht 47 rfl
                  refine StepOp_g rfl (ht 45 rfl) (op_loadP ty5 q305 f306 rfl ?_)
                  intro v307 h308
                  obtain rfl := un_u8 h308
                  exact Goes.same hi rfl
                refine Dw_eq (Value.bool (decide (((read_1.1.getD 1 default).toNat : Int) ≠ 0))) (fun ρ310 w311 g hle hi ht => ?_) ?_
                ·
                  obtain ⟨-, hst, -⟩ := hle
                  refine StepOp_g rfl (ht 45 rfl) (op_neq (ht 48 rfl) rfl ?_)
                  exact Goes.same hi rfl
                refine Dw_eq (Value.bool (decide (((read_1.1.getD 1 default).toNat : Int) ≠ 0))) (fun ρ313 w314 g hle hi ht => ?_) ?_
                ·
                  obtain ⟨-, hst, -⟩ := hle
                  refine StepOp_plain (op_pick_f (v := (Value.bool (decide (((read_1.1.getD 1 default).toNat : Int) ≠ 0)))) (ht 45 rfl) (ht 49 rfl) ?_)
                  exact Goes.same hi rfl
                refine Dw_opB (decide (((read_1.1.getD 1 default).toNat : Int) ≠ 0)) (fun ρ316 w317 g hle hi ht => ?_) (fun hg319 => ?_) (fun hg319 => ?_)
                ·
                  obtain ⟨-, hst, -⟩ := hle
                  refine StepOp_plain (op_move (v := (Value.bool (decide (((read_1.1.getD 1 default).toNat : Int) ≠ 0)))) (ht 50 rfl) ?_)
                  exact Goes.same hi rfl
                ·
                  replace hm := bif_t hm hg319
                  refine Dw_skip (fun _ _ _ ht => wanted_x rfl (ht 51 rfl) rfl) ?_
                  refine Dw_skip (fun _ _ _ ht => wanted_x rfl (ht 51 rfl) rfl) ?_
                  refine Dw_skip (fun _ _ _ ht => wanted_x rfl (ht 51 rfl) rfl) ?_
                  refine Dw_skip (fun _ _ _ ht => wanted_x rfl (ht 51 rfl) rfl) ?_
                  refine Dw_eq (Value.bool true) (fun ρ320 w321 g hle hi ht => ?_) ?_
                  ·
                    obtain ⟨-, hst, -⟩ := hle
                    refine StepOp_plain (op_pick_t (v := (Value.bool true)) (ht 51 rfl) rfl ?_)
                    exact Goes.same hi rfl
                  refine Dw_nil fun w327 g328 hl329 hi330 => ?_
                  obtain ⟨-, hst331, -⟩ := hl329
                  obtain ⟨hs333, p332⟩ := Step.nx hi330
                  rintro _ rfl
                  rintro _ rfl
                  rintro _ rfl
                  rintro _ rfl
                  rintro _ rfl
                  rintro _ rfl
                  rintro _ rfl
                  rintro _ rfl
                  rintro _ rfl
                  rintro _ ⟨p334, rfl, f335⟩
                  rintro _ rfl
                  rintro _ rfl
                  rintro _ rfl
                  rintro _ rfl
                  rintro _ rfl
                  rintro _ rfl
                  rintro _ rfl
                  rintro _ rfl
                  rintro _ ⟨p336, rfl, f337⟩
                  rintro _ rfl
                  rintro _ rfl
                  rintro _ rfl
                  rintro _ rfl
                  rintro _ rfl
                  rintro _ rfl
                  rintro _ rfl
                  rintro _ rfl
                  rintro _ ⟨p338, rfl, f339⟩
                  rintro _ rfl
                  rintro _ rfl
                  rintro _ rfl
                  rintro _ rfl
                  rintro _ rfl
                  rintro _ rfl
                  rintro _ rfl
                  rintro _ rfl
                  rintro _ rfl
                  have p340 : Step (ks [(some b13, Obj.cells s_second.toArray 37), (some b6, Obj.cells s_first.toArray 37), (some b1, Obj.cells [(Value.slice a_d_sectors d.sectors.length c_d_sectors), (Value.slice a_d_pending d.pending.length c_d_pending), (Value.int .i64 d.left), (Value.bool d.stopped)].toArray 25)] O) w35 (ks [(some b13, Obj.cells s_second.toArray 37), (some b6, Obj.cells s_first.toArray 37), (some b1, Obj.cells [(Value.slice a_d_sectors d.sectors.length c_d_sectors), (Value.slice a_d_pending d.pending.length c_d_pending), (Value.int .i64 d.left), (Value.bool d.stopped)].toArray 25)] O) w327 := hst331.trans p332
                  replace f335 := f335.step p332
                  replace f337 := f337.step p332
                  replace f339 := f339.step p332
                  replace f_d_sectors := f_d_sectors.step p340
                  replace f_d_pending := f_d_pending.step p340
                  replace f10 := f10.step p340
                  replace f17 := f17.step p340
                  replace f_y44 := f_y44.step p340
                  replace ch31 := ch31.trans p340
                  replace ch57 := ch57.trans p340
                  clear p340 hs38
                  refine Rg_nil ?_
                  exact hK50 _ _ ⟨true, _, rfl, ⟨(by repeat (first | with_reducible exact Out.refl _ _ | refine Out.upd ?_ rfl | refine Out.updL ?_ rfl | refine Out.mix' ?_ rfl | exact Out.refl _ _)), rfl, rfl, trivial⟩, ch57, hs333, hm⟩
                ·
                  replace hm := bif_f hm hg319
                  refine Dw_eq (Value.slice a_y44 read_1.1.length c_y44) (fun ρ341 w342 g hle hi ht => ?_) ?_
                  ·
                    obtain ⟨-, hst, -⟩ := hle
                    refine StepOp_g rfl (ht 51 rfl) (op_move (v := (Value.slice a_y44 read_1.1.length c_y44)) (ht 8 rfl) ?_)
                    exact Goes.same hi rfl
                  replace hm := ck_some hm; obtain ⟨hc347, hm⟩ := hm
                  refine Dw_op (VP O [(some b13, Obj.cells s_second.toArray 37), (some b6, Obj.cells s_first.toArray 37), (some b1, Obj.cells [(Value.slice a_d_sectors d.sectors.length c_d_sectors), (Value.slice a_d_pending d.pending.length c_d_pending), (Value.int .i64 d.left), (Value.bool d.stopped)].toArray 25)] rU8 (read_1.1.getD 127 default)) (VP.stab _ _) (fun ρ344 w345 g hle hi ht => ?_) ?_
                  ·
                    obtain ⟨-, hst, -⟩ := hle
                    replace f_y44 := f_y44.step hst
                    refine StepOp_g rfl (ht 51 rfl) (op_indexAddr (q := rU8) ty41 ty5 (ht 52 rfl) rfl f_y44 rfl hc347.1 hc347.2 ?_)
                    intro p348 f349
                    exact Goes.same hi ⟨_, rfl, f349⟩
                  refine Dw_eq (Value.int .u8 ((read_1.1.getD 127 default).toNat : Int)) (fun ρ350 w351 g hle hi ht => ?_) ?_
                  ·
                    obtain ⟨-, hst, -⟩ := hle
                    obtain ⟨p353, q354, f355⟩ := ht 53 rfl
                    refine StepOp_g rfl (ht 51 rfl) (op_loadP ty5 q354 f355 rfl ?_)
                    intro v356 h357
                    obtain rfl := un_u8 h357
                    exact Goes.same hi rfl
                  refine Dw_eq (Value.bool (decide (((read_1.1.getD 127 default).toNat : Int) ≠ 0))) (fun ρ359 w360 g hle hi ht => ?_) ?_
                  ·
                    obtain ⟨-, hst, -⟩ := hle
                    refine StepOp_g rfl (ht 51 rfl) (op_neq (ht 54 rfl) rfl ?_)
                    exact Goes.same hi rfl
                  refine Dw_eq (Value.bool (decide (((read_1.1.getD 127 default).toNat : Int) ≠ 0))) (fun ρ362 w363 g hle hi ht => ?_) ?_
                  ·
                    obtain ⟨-, hst, -⟩ := hle
                    refine StepOp_plain (op_pick_f (v := (Value.bool (decide (((read_1.1.getD 127 default).toNat : Int) ≠ 0)))) (ht 51 rfl) (ht 55 rfl) ?_)
                    exact Goes.same hi rfl
                  refine Dw_nil fun w369 g370 hl371 hi372 => ?_
                  obtain ⟨-, hst373, -⟩ := hl371
                  obtain ⟨hs375, p374⟩ := Step.nx hi372
                  rintro _ rfl
                  rintro _ rfl
                  rintro _ rfl
                  rintro _ ⟨p376, rfl, f377⟩
                  rintro _ rfl
                  rintro _ rfl
                  rintro _ rfl
                  rintro _ rfl
                  rintro _ rfl
                  rintro _ ⟨p378, rfl, f379⟩
                  rintro _ rfl
                  rintro _ rfl
                  rintro _ rfl
                  rintro _ rfl
                  rintro _ rfl
                  rintro _ rfl
                  rintro _ rfl
                  rintro _ rfl
                  rintro _ ⟨p380, rfl, f381⟩
                  rintro _ rfl
                  rintro _ rfl
                  rintro _ rfl
                  rintro _ rfl
                  rintro _ rfl
                  rintro _ rfl
                  rintro _ rfl
                  rintro _ rfl
                  rintro _ ⟨p382, rfl, f383⟩
                  rintro _ rfl
                  rintro _ rfl
                  rintro _ rfl
                  rintro _ rfl
                  rintro _ rfl
                  rintro _ rfl
                  rintro _ rfl
                  rintro _ rfl
                  rintro _ rfl
                  have p384 : Step (ks [(some b13, Obj.cells s_second.toArray 37), (some b6, Obj.cells s_first.toArray 37), (some b1, Obj.cells [(Value.slice a_d_sectors d.sectors.length c_d_sectors), (Value.slice a_d_pending d.pending.length c_d_pending), (Value.int .i64 d.left), (Value.bool d.stopped)].toArray 25)] O) w35 (ks [(some b13, Obj.cells s_second.toArray 37), (some b6, Obj.cells s_first.toArray 37), (some b1, Obj.cells [(Value.slice a_d_sectors d.sectors.length c_d_sectors), (Value.slice a_d_pending d.pending.length c_d_pending), (Value.int .i64 d.left), (Value.bool d.stopped)].toArray 25)] O) w369 := hst373.trans p374
                  replace f377 := f377.step p374
                  replace f379 := f379.step p374
                  replace f381 := f381.step p374
                  replace f383 := f383.step p374
                  replace f_d_sectors := f_d_sectors.step p384
                  replace f_d_pending := f_d_pending.step p384
                  replace f10 := f10.step p384
                  replace f17 := f17.step p384
                  replace f_y44 := f_y44.step p384
                  replace ch31 := ch31.trans p384
                  replace ch57 := ch57.trans p384
                  clear p384 hs38
                  refine Rg_nil ?_
                  exact hK50 _ _ ⟨(decide (((read_1.1.getD 127 default).toNat : Int) ≠ 0)), _, rfl, ⟨(by repeat (first | with_reducible exact Out.refl _ _ | refine Out.upd ?_ rfl | refine Out.updL ?_ rfl | refine Out.mix' ?_ rfl | exact Out.refl _ _)), rfl, rfl, trivial⟩, ch57, hs375, hm⟩
    ·
      replace hm := bif_f hm hc32
      refine Wp_exit ?_
      refine Wp_seq ?_
      obtain ⟨hs385, p386⟩ := hs27.sub (bs' := []) (.cons _ (.cons _ (.cons _ List.Sublist.slnil)))
      clear f_d_sectors f_d_pending f10 f17
      replace ch31 := ch31.trans p386
      clear p386 hs27
      refine Wp_region ?_  -- 7 law.go:96
      refine Rg_op rfl (op_assign (v := (Value.bool true)) rfl ?_)
      refine Rg_nil ?_
      refine Wp_ret ?_
      have hz := step_all hs385
      refine ⟨_, (show Closes [] _ _ from rfl), [(Value.bool true)], ⟨rfl, trivial⟩, hs385.ext, ?_⟩
      exact Vr.eq (a := vB) (x := true) rfl (Option.some.inj hm)

end Go.Fx

