/- Part 6 of the proof: the law JournalSurvives holds for every number of sectors and every script of crashes. -/
import Derived.Test.YtegomkljijgjjaaSurv5
import Derived.Laws.BitsAllLaws
set_option linter.unusedVariables false
set_option linter.unusedSimpArgs false
set_option maxRecDepth 100000
set_option maxHeartbeats 0
namespace Go.Fx
open Go Go.RowKit Go.Proofs
def m12_overflightlaw45_JournalSurvives_B1 (sectors : UInt8) (script : List XCrash) (kept_1 : List (List UInt8)) (v_1 : Int) (v_2 : List (List UInt8)) (v_3 : List XWrite) (v_4 : Int) (v_5 : Bool) (k61 : (List (List UInt8)) → (List (List UInt8)) → (List XWrite) → Int → Bool → Option Bool) (sf131 : Int → (List (List UInt8)) → Int → Int → Option Bool) (v_11 : Int) (v_12 : List (List UInt8)) (v_13 : Int) (v_14 : Int) : Option Bool :=
 bif (decide (v_11 < (((script.getD v_1.toNat default).records).length : Int))) then
  ck ((0 : Int) ≤ v_11 ∧ v_11 < (((script.getD v_1.toNat default).records).length : Int)) <|
  (m30_journal_Append (⟨v_12, v_13, v_14⟩ : XJournal) (((script.getD v_1.toNat default).records).getD v_11.toNat default)).bind fun append_1 =>
  bif (decide (append_1.2 = 0)) then
   sf131 (IntKind.wrap .i64 (v_11 + 1)) append_1.1.records append_1.1.many append_1.1.synced
  else
   sf131 (IntKind.wrap .i64 (v_11 + 1)) v_12 v_13 v_14
 else
  bif (decide ((v_12.length : Int) < (kept_1.length : Int))) then
   some false
  else
   jn (fun (v_15 : List (List UInt8)) (v_16 : List XWrite) (v_17 : Int) (v_18 : Bool) =>
    (m39_journal_Sync (⟨v_12, v_13, v_14⟩ : XJournal) (⟨v_15, v_16, v_17, v_18⟩ : XDisk)).bind fun sync_1 =>
    bif (decide (sync_1.2.2 = 0)) then
     jn (fun (v_19 : Bool) =>
      bif v_19 then
       some false
      else
       (m20_disk_Restart sync_1.2.1).bind fun restart_1 =>
       k61 v_12 restart_1.sectors restart_1.pending restart_1.left restart_1.stopped)
     (fun k226 =>
      bif (decide (sync_1.1.synced ≠ (v_12.length : Int))) then
       k226 true
      else
       (m37_overflightref45_SameRecords sync_1.1.records v_12).bind fun samerecords_1 =>
       k226 (!samerecords_1))
    else
     bif (decide (sync_1.2.2 = 440)) then
      (m20_disk_Restart sync_1.2.1).bind fun restart_2 =>
      (m38_journal_Open restart_2).bind fun open_2 =>
      jn (fun (v_20 : Bool) =>
       bif v_20 then
        some false
       else
        (m20_disk_Restart sync_1.2.1).bind fun restart_3 =>
        k61 open_2.1.records restart_3.sectors restart_3.pending restart_3.left restart_3.stopped)
      (fun k293 =>
       bif (!((script.getD v_1.toNat default).stop)) then
        k293 true
       else
        bif (decide (open_2.2 ≠ 0)) then
         k293 true
        else
         bif (decide ((open_2.1.records.length : Int) < (kept_1.length : Int))) then
          k293 true
         else
          bif (decide ((v_12.length : Int) < (open_2.1.records.length : Int))) then
           k293 true
          else
           ck ((0 : Int) ≤ (open_2.1.records.length : Int) ∧ (open_2.1.records.length : Int) ≤ (v_12.length : Int)) <|
           (m37_overflightref45_SameRecords open_2.1.records ((v_12.drop 0).take (open_2.1.records.length - 0))).bind fun samerecords_2 =>
           k293 (!samerecords_2))
     else
      some false)
   (fun k183 =>
    bif (script.getD v_1.toNat default).stop then
     (m22_disk_Stop (⟨v_2, v_3, v_4, v_5⟩ : XDisk) ((UInt8.ofNat ((((script.getD v_1.toNat default).left).toNat : Int).tmod 40).toNat).toNat : Int)).bind fun stop_1 =>
     bif (decide (stop_1.2 ≠ 0)) then
      some false
     else
      k183 stop_1.1.sectors stop_1.1.pending stop_1.1.left stop_1.1.stopped
    else
     k183 v_2 v_3 v_4 v_5)

def m12_overflightlaw45_JournalSurvives_B0 (sectors : UInt8) (script : List XCrash) (sf44 : (List (List UInt8)) → Int → (List (List UInt8)) → (List XWrite) → Int → Bool → Option Bool) (kept_1 : List (List UInt8)) (v_1 : Int) (v_2 : List (List UInt8)) (v_3 : List XWrite) (v_4 : Int) (v_5 : Bool) : Option Bool :=
 bif (decide (v_1 < (script.length : Int))) then
  jn (fun (kept_2 : List (List UInt8)) (v_6 : List (List UInt8)) (v_7 : List XWrite) (v_8 : Int) (v_9 : Bool) =>
   sf44 kept_2 (IntKind.wrap .i64 (v_1 + 1)) v_6 v_7 v_8 v_9)
  (fun k61 =>
   ck ((0 : Int) ≤ v_1 ∧ v_1 < (script.length : Int)) <|
   (m29_overflightlaw45_few (⟨v_2, v_3, v_4, v_5⟩ : XDisk) ((script.getD v_1.toNat default).records)).bind fun few_1 =>
   bif (!few_1) then
    some true
   else
    (m38_journal_Open (⟨v_2, v_3, v_4, v_5⟩ : XDisk)).bind fun open_1 =>
    jn (fun (v_10 : Bool) =>
     bif v_10 then
      some false
     else
      loop4 (m12_overflightlaw45_JournalSurvives_B1 sectors script kept_1 v_1 v_2 v_3 v_4 v_5 k61) (((((script.getD v_1.toNat default).records).length : Int) - 0).toNat + 1) 0 open_1.1.records open_1.1.many open_1.1.synced)
    (fun k116 =>
     bif (decide (open_1.2 ≠ 0)) then
      k116 true
     else
      bif (decide (open_1.1.synced ≠ (open_1.1.records.length : Int))) then
       k116 true
      else
       (m37_overflightref45_SameRecords open_1.1.records kept_1).bind fun samerecords_3 =>
       k116 (!samerecords_3)))
 else
  (m38_journal_Open (⟨v_2, v_3, v_4, v_5⟩ : XDisk)).bind fun open_3 =>
  bif (decide (open_3.2 = 0)) then
   (m37_overflightref45_SameRecords open_3.1.records kept_1).bind fun samerecords_4 =>
   some samerecords_4
  else
   some false

def m12_overflightlaw45_JournalSurvives (sectors : UInt8) (script : List XCrash) : Option Bool :=
 (m28_overflightlaw45_sane).bind fun sane_1 =>
 bif (!sane_1) then
  some false
 else
  bif (decide (8 < (script.length : Int))) then
   some true
  else
   (m15_disk_New (IntKind.wrap .i64 (((UInt8.ofNat ((sectors.toNat : Int).tmod 30).toNat).toNat : Int) + 1))).bind fun new_1 =>
   bif (decide (new_1.2 ≠ 0)) then
    some false
   else
    loop6 (m12_overflightlaw45_JournalSurvives_B0 sectors script) (((script.length : Int) - 0).toNat + 1) ([] : List (List UInt8)) 0 new_1.1.sectors new_1.1.pending new_1.1.left new_1.1.stopped

theorem c12_overflightlaw45_JournalSurvives {w : World} {O : List Nat} {sectors : UInt8} {script : List XCrash} {a_script : Option Addr} {c_script : Nat} (hO : ∀ k ∈ O, k < w.heap.size) (f_script : SlR rXCrash w O a_script c_script script) {x : Bool} (hm : m12_overflightlaw45_JournalSurvives sectors script = some x) :
  Ok Try.prog 12 [(Value.int .u8 (sectors.toNat : Int)), (Value.slice a_script script.length c_script)] w O vB x := by
 unfold m12_overflightlaw45_JournalSurvives at hm
 refine Fn_of_Wp (n := 195) (xs := [.tmp 4]) Try.func12 rfl Try.ntmps12 Try.results12 rfl ?_
 have hs := St.start hO
 refine Wp_seq ?_
 refine Wp_region ?_
 refine Rg_op rfl (op_assign (v := (Value.bool false)) rfl ?_)
 refine Rg_nil ?_
 refine Wp_seq ?_
 refine Wp_seq ?_
 refine Wp_region ?_
 replace hm := bd hm; obtain ⟨sane_1, hv1, hm⟩ := hm
 refine Rg_op rfl (op_call Try.call28 (c28_overflightlaw45_sane  hs.ltw  hv1) rfl ?_)
 rintro v2 w3 ⟨hx4, h5⟩
 have hs6 := hs.call hx4
 have p7 := Step.ext (O := ks [] O) hx4
 clear hx4
 replace f_script := f_script.step p7; clear p7
 obtain rfl := h5
 refine Rg_op rfl (op_not rfl ?_)
 refine Rg_nil ?_
 refine Wp_cond rfl (fun hc9 => ?_) (fun hc9 => ?_)
 ·
  replace hm := bif_t hm hc9
  refine Wp_seq ?_
  clear f_script
  refine Wp_region ?_
  refine Rg_op rfl (op_assign (v := (Value.bool false)) rfl ?_)
  refine Rg_nil ?_
  refine Wp_ret ?_
  have hz := step_all hs6
  refine ⟨_, (show Closes [] _ _ from rfl), [(Value.bool false)], ⟨rfl, trivial⟩, hs6.ext, ?_⟩
  exact Vr.eq (a := vB) (x := false) rfl (Option.some.inj hm)
 ·
  replace hm := bif_f hm hc9
  refine Wp_skip ?_
  refine Wp_seq ?_
  refine Wp_seq ?_
  refine Wp_region ?_
  refine Rg_op rfl (op_move (v := (Value.slice a_script script.length c_script)) rfl ?_)
  refine Rg_op rfl (op_len Try.underlying68 rfl ?_)
  have rl10 := inK_len f_script
  refine Rg_op rfl (op_gtr rfl rfl ?_)
  refine Rg_nil ?_
  refine Wp_cond rfl (fun hc11 => ?_) (fun hc11 => ?_)
  ·
   replace hm := bif_t hm hc11
   refine Wp_seq ?_
   clear f_script
   refine Wp_region ?_
   refine Rg_op rfl (op_assign (v := (Value.bool true)) rfl ?_)
   refine Rg_nil ?_
   refine Wp_ret ?_
   have hz := step_all hs6
   refine ⟨_, (show Closes [] _ _ from rfl), [(Value.bool true)], ⟨rfl, trivial⟩, hs6.ext, ?_⟩
   exact Vr.eq (a := vB) (x := true) rfl (Option.some.inj hm)
  ·
   replace hm := bif_f hm hc11
   refine Wp_skip ?_
   refine Wp_seq ?_
   refine Wp_region ?_
   refine Rg_op rfl (op_move (v := (Value.int .u8 (sectors.toNat : Int))) rfl ?_)
   refine Rg_op rfl (run1_u8 (e := ((sectors.toNat : Int).tmod 30)) (inK_tmod (inK_u8 sectors)) (fun _ hk => op_rem rfl rfl (by decide) hk) ?_)
   refine Rg_op rfl (op_conv_u8 Try.underlying5 Try.underlying3 rfl (by decide) ?_)
   refine Rg_op rfl (op_addw rfl rfl ?_)
   replace hm := bd hm; obtain ⟨new_1, hv12, hm⟩ := hm
   refine Rg_op rfl (op_call Try.call15 (c15_disk_New (sectors := (IntKind.wrap .i64 (((UInt8.ofNat ((sectors.toNat : Int).tmod 30).toNat).toNat : Int) + 1))) hs6.ltw (inK_wrap .i64 _) hv12) rfl ?_)
   rintro v13 w14 ⟨hx15, h16⟩
   have hs17 := hs6.call hx15
   have p18 := Step.ext (O := ks [] O) hx15
   clear hx15
   replace f_script := f_script.step p18; clear p18 hs6
   obtain ⟨v19, v20, rfl, h21, h22⟩ := h16
   obtain ⟨_, rfl, ⟨_, _, rfl, ⟨a_y23_sectors, c_y23_sectors, rfl, f_y23_sectors⟩, ⟨_, _, rfl, ⟨a_y23_pending, c_y23_pending, rfl, f_y23_pending⟩, ⟨_, _, rfl, ⟨rfl, r_y23_left⟩, rfl⟩⟩⟩⟩ := h21
   obtain ⟨rfl, r_y24⟩ := h22
   refine Rg_op rfl (op_move (v := (Value.tuple [(Value.agg [(Value.slice a_y23_sectors new_1.1.sectors.length c_y23_sectors), (Value.slice a_y23_pending new_1.1.pending.length c_y23_pending), (Value.int .i64 new_1.1.left), (Value.bool new_1.1.stopped)].toArray), (Value.int .i64 new_1.2)].toArray)) rfl ?_)
   refine Rg_op rfl (op_extract (v := (Value.agg [(Value.slice a_y23_sectors new_1.1.sectors.length c_y23_sectors), (Value.slice a_y23_pending new_1.1.pending.length c_y23_pending), (Value.int .i64 new_1.1.left), (Value.bool new_1.1.stopped)].toArray)) rfl rfl ?_)
   refine Rg_op rfl (op_extract (v := (Value.int .i64 new_1.2)) rfl rfl ?_)
   refine Rg_op rfl (op_alloc ty25 hs17 ?_)
   intro b25 w26 _ p27 hs28
   replace f_script := f_script.step p27; replace f_y23_sectors := f_y23_sectors.step p27; replace f_y23_pending := f_y23_pending.step p27; clear p27 hs17
   refine Rg_op_ (op_store (cs := [(Value.slice none 0 0), (Value.slice none 0 0), (Value.int .i64 0), (Value.bool false)]) (vs := [(Value.slice a_y23_sectors new_1.1.sectors.length c_y23_sectors), (Value.slice a_y23_pending new_1.1.pending.length c_y23_pending), (Value.int .i64 new_1.1.left), (Value.bool new_1.1.stopped)]) (cs' := [(Value.slice a_y23_sectors new_1.1.sectors.length c_y23_sectors), (Value.slice a_y23_pending new_1.1.pending.length c_y23_pending), (Value.int .i64 new_1.1.left), (Value.bool new_1.1.stopped)]) (bs' := [(some b25, Obj.cells [(Value.slice a_y23_sectors new_1.1.sectors.length c_y23_sectors), (Value.slice a_y23_pending new_1.1.pending.length c_y23_pending), (Value.int .i64 new_1.1.left), (Value.bool new_1.1.stopped)].toArray 25)]) (i := 0) ty25 hs28 rfl rfl rfl rfl rfl (le_lit rfl) rfl rfl rfl ?_)
   intro w30 p31 hs32
   replace f_script := f_script.step p31; replace f_y23_sectors := f_y23_sectors.step p31; replace f_y23_pending := f_y23_pending.step p31; clear p31 hs28
   refine Rg_op rfl (op_assign (v := (Value.int .i64 new_1.2)) rfl ?_)
   refine Rg_nil ?_
   refine Wp_seq ?_
   refine Wp_seq ?_
   refine Wp_region ?_
   refine Rg_op rfl (op_move (v := (Value.int .i64 new_1.2)) rfl ?_)
   refine Rg_op rfl (op_neq rfl rfl ?_)
   refine Rg_nil ?_
   refine Wp_cond rfl (fun hc33 => ?_) (fun hc33 => ?_)
   ·
    replace hm := bif_t hm hc33
    refine Wp_seq ?_
    obtain ⟨hs34, p35⟩ := hs32.sub (bs' := []) (.cons _ List.Sublist.slnil)
    clear f_script f_y23_sectors f_y23_pending
    clear p35 hs32
    refine Wp_region ?_
    refine Rg_op rfl (op_assign (v := (Value.bool false)) rfl ?_)
    refine Rg_nil ?_
    refine Wp_ret ?_
    have hz := step_all hs34
    refine ⟨_, (show Closes [] _ _ from rfl), [(Value.bool false)], ⟨rfl, trivial⟩, hs34.ext, ?_⟩
    exact Vr.eq (a := vB) (x := false) rfl (Option.some.inj hm)
   ·
    replace hm := bif_f hm hc33
    refine Wp_skip ?_
    refine Wp_seq ?_
    refine Wp_region ?_
    refine Rg_op rfl (op_assign (v := (Value.slice none 0 0)) rfl ?_)
    refine Rg_nil ?_
    refine Wp_seq ?_
    refine Wp_seq ?_
    refine Wp_region ?_
    refine Rg_op rfl (op_move (v := (Value.slice a_script script.length c_script)) rfl ?_)
    refine Rg_op rfl (op_len Try.underlying68 rfl ?_)
    have rl36 := inK_len f_script
    refine Rg_op rfl (op_move (v := (Value.int .i64 0)) rfl ?_)
    refine Rg_nil ?_
    refine Wp_block ?_
    refine Wp_reset [] [(5, (Value.pointer (some ⟨b25, 0, none⟩))), (7, (Value.slice none 0 0)), (38, (Value.slice a_script script.length c_script)), (39, (Value.int .i64 (script.length : Int))), (40, (Value.int .i64 0))] rfl ⟨rfl, rfl, rfl, rfl, rfl, trivial⟩ fun ξ43 => ?_
    refine Wp_loopM [4, 6, 7, 9, 10, 11, 13, 14, 15, 16, 17, 18, 19, 20, 40, 41, 42, 43, 44, 45, 46, 47, 48, 49, 50, 51, 52, 53, 54, 55, 56, 57, 58, 59, 60, 61, 62, 63, 64, 65, 66, 67, 68, 69, 70, 71, 72, 73, 74, 75, 76, 77, 78, 79, 80, 81, 82, 83, 84, 85, 86, 87, 88, 89, 90, 91, 92, 93, 94, 95, 96, 97, 98, 99, 100, 101, 102, 103, 104, 105, 106, 107, 108, 109, 110, 111, 112, 113, 114, 115, 116, 117, 118, 119, 120, 121, 122, 123, 124, 125, 126, 127, 128, 129, 130, 131, 132, 133, 134, 135, 136, 137, 138, 139, 140, 141, 142, 143, 144, 145, 146, 147, 148, 149, 150, 151, 152, 153, 154, 155, 156, 157, 158, 159, 160, 161, 162, 163, 164, 165, 166, 167, 168, 169, 170, 171, 172, 173, 174, 175, 176, 177, 178, 179, 180, 181] (fun m fr w' => ∃ (kept_1 : List (List UInt8)) (v_1 : Int) (v_2 : List (List UInt8)) (v_3 : List XWrite) (v_4 : Int) (v_5 : Bool) (a_y37 : Option Addr) (c_y37 : Nat) (a_y39 : Option Addr) (c_y39 : Nat) (a_y40 : Option Addr) (c_y40 : Nat) (Ebs : Ents), Ebs = [(some b25, Obj.cells [(Value.slice a_y39 v_2.length c_y39), (Value.slice a_y40 v_3.length c_y40), (Value.int .i64 v_4), (Value.bool v_5)].toArray 25)] ∧ fr [] [(7, (Value.slice a_y37 kept_1.length c_y37)), (40, (Value.int .i64 v_1))] ∧ Step (ks [(some b25, Obj.cells [(Value.slice a_y23_sectors new_1.1.sectors.length c_y23_sectors), (Value.slice a_y23_pending new_1.1.pending.length c_y23_pending), (Value.int .i64 new_1.1.left), (Value.bool new_1.1.stopped)].toArray 25)] O) w30 (ks Ebs O) w' ∧ St ⟨w, [], []⟩ O w' Ebs ∧ SlR (rSl rU8) w' (ks Ebs O) a_y37 c_y37 kept_1 ∧ InK .i64 v_1 ∧ SlR (rSl rU8) w' (ks Ebs O) a_y39 c_y39 v_2 ∧ SlR rXWrite w' (ks Ebs O) a_y40 c_y40 v_3 ∧ InK .i64 v_4 ∧ loop6 (m12_overflightlaw45_JournalSurvives_B0 sectors script) m kept_1 v_1 v_2 v_3 v_4 v_5 = some x) (((script.length : Int) - 0).toNat + 1) ⟨([] : List (List UInt8)), 0, new_1.1.sectors, new_1.1.pending, new_1.1.left, new_1.1.stopped, none, 0, a_y23_sectors, c_y23_sectors, a_y23_pending, c_y23_pending, _, rfl, ⟨Out.refl _ _, rfl, rfl, rfl, trivial⟩, Step.refl _ _, hs32, SlR.nil_, (show InK .i64 0 from by decide), f_y23_sectors, f_y23_pending, r_y23_left, hm⟩ ?_ ?_
    · rintro _ _ ⟨_, _, _, _, _, _, _, _, _, _, _, _, _, _, _, _, _, _, _, _, _, _, hm⟩; exact loop6_z hm
    ·
     rintro m47 K46 hK46 ρ52 w48 ⟨kept_1, v_1, v_2, v_3, v_4, v_5, a_y37, c_y37, a_y39, c_y39, a_y40, c_y40, Ebs, hEbs, hfr51, hst50, hs49, f_y37, r_y38, f_y39, f_y40, r_y41, hm⟩
     obtain ⟨sf44, hsf45, hm⟩ := loop6_s hm; unfold m12_overflightlaw45_JournalSurvives_B0 at hm
     subst hEbs; rw [hfr51.eq]; clear hfr51
     replace f_script := f_script.step hst50; replace f_y23_sectors := f_y23_sectors.step hst50; replace f_y23_pending := f_y23_pending.step hst50
     have ch53 := hst50
     refine Wp_seq ?_
     clear f_y23_sectors f_y23_pending
     refine Wp_region ?_
     refine Rg_op rfl (op_lss rfl rfl ?_)
     refine Rg_nil ?_
     refine Wp_seq ?_
     refine Wp_cond rfl (fun hc54 => ?_) (fun hc54 => ?_)
     ·
      replace hm := bif_t hm hc54
      refine Wp_skip ?_
      refine Wp_reset2 [4, 6, 7, 9, 10, 11, 13, 14, 15, 16, 17, 18, 19, 20, 40, 41, 42, 43, 44, 45, 46, 47, 48, 49, 50, 51, 52, 53, 54, 55, 56, 57, 58, 59, 60, 61, 62, 63, 64, 65, 66, 67, 68, 69, 70, 71, 72, 73, 74, 75, 76, 77, 78, 79, 80, 81, 82, 83, 84, 85, 86, 87, 88, 89, 90, 91, 92, 93, 94, 95, 96, 97, 98, 99, 100, 101, 102, 103, 104, 105, 106, 107, 108, 109, 110, 111, 112, 113, 114, 115, 116, 117, 118, 119, 120, 121, 122, 123, 124, 125, 126, 127, 128, 129, 130, 131, 132, 133, 134, 135, 136, 137, 138, 139, 140, 141, 142, 143, 144, 145, 146, 147, 148, 149, 150, 151, 152, 153, 154, 155, 156, 157, 158, 159, 160, 161, 162, 163, 164, 165, 166, 167, 168, 169, 170, 171, 172, 173, 174, 175, 176, 177, 178, 179, 180, 181] [] (updL ⟨ξ43, []⟩ [(5, (Value.pointer (some ⟨b25, 0, none⟩))), (7, (Value.slice none 0 0)), (38, (Value.slice a_script script.length c_script)), (39, (Value.int .i64 (script.length : Int))), (40, (Value.int .i64 0))]) [(7, (Value.slice a_y37 kept_1.length c_y37)), (40, (Value.int .i64 v_1))] (by repeat (first | with_reducible exact Out.refl _ _ | refine Out.upd ?_ rfl | refine Out.updL ?_ rfl | refine Out.mix' ?_ rfl | exact Out.refl _ _)) rfl ⟨rfl, rfl, trivial⟩ fun ξ55 => ?_
      replace hm := jn_elim hm; obtain ⟨k61, hk62, hm⟩ := hm
      refine Wp_seqJ [4, 6, 7, 9, 10, 11, 13, 14, 15, 16, 17, 18, 19, 20, 42, 43, 44, 45, 46, 47, 48, 49, 50, 51, 52, 53, 54, 55, 56, 57, 58, 59, 60, 61, 62, 63, 64, 65, 66, 67, 68, 69, 70, 71, 72, 73, 74, 75, 76, 77, 78, 79, 80, 81, 82, 83, 84, 85, 86, 87, 88, 89, 90, 91, 92, 93, 94, 95, 96, 97, 98, 99, 100, 101, 102, 103, 104, 105, 106, 107, 108, 109, 110, 111, 112, 113, 114, 115, 116, 117, 118, 119, 120, 121, 122, 123, 124, 125, 126, 127, 128, 129, 130, 131, 132, 133, 134, 135, 136, 137, 138, 139, 140, 141, 142, 143, 144, 145, 146, 147, 148, 149, 150, 151, 152, 153, 154, 155, 156, 157, 158, 159, 160, 161, 162, 163, 164, 165, 166, 167, 168, 169, 170, 171, 172, 173, 174, 175, 176, 177, 178, 179, 180] (fun fr w' => ∃ (kept_2 : List (List UInt8)) (v_6 : List (List UInt8)) (v_7 : List XWrite) (v_8 : Int) (v_9 : Bool) (a_y56 : Option Addr) (c_y56 : Nat) (a_y57 : Option Addr) (c_y57 : Nat) (a_y58 : Option Addr) (c_y58 : Nat) (Ebs : Ents), Ebs = [(some b25, Obj.cells [(Value.slice a_y57 v_6.length c_y57), (Value.slice a_y58 v_7.length c_y58), (Value.int .i64 v_8), (Value.bool v_9)].toArray 25)] ∧ fr [] [(7, (Value.slice a_y56 kept_2.length c_y56))] ∧ Step (ks [(some b25, Obj.cells [(Value.slice a_y39 v_2.length c_y39), (Value.slice a_y40 v_3.length c_y40), (Value.int .i64 v_4), (Value.bool v_5)].toArray 25)] O) w48 (ks Ebs O) w' ∧ St ⟨w, [], []⟩ O w' Ebs ∧ SlR (rSl rU8) w' (ks Ebs O) a_y56 c_y56 kept_2 ∧ SlR (rSl rU8) w' (ks Ebs O) a_y57 c_y57 v_6 ∧ SlR rXWrite w' (ks Ebs O) a_y58 c_y58 v_7 ∧ InK .i64 v_8 ∧ k61 kept_2 v_6 v_7 v_8 v_9 = some x) ?_ ?_
      ·
       rintro ρ68 w64 ⟨kept_2, v_6, v_7, v_8, v_9, a_y56, c_y56, a_y57, c_y57, a_y58, c_y58, Ebs, hEbs, hfr67, hst66, hs65, f_y56, f_y57, f_y58, r_y59, hm⟩
       replace hm := jnE5 hk62 hm
       subst hEbs; rw [hfr67.eq]; clear hfr67
       replace f_script := f_script.step hst66; replace f_y37 := f_y37.step hst66; replace f_y39 := f_y39.step hst66; replace f_y40 := f_y40.step hst66; replace ch53 := ch53.trans hst66; clear hst66 hs49; clear f_y37 f_y39 f_y40
       refine Wp_region ?_
       refine Rg_op rfl (op_addw rfl rfl ?_)
       refine Rg_op rfl (op_move (v := (Value.int .i64 (IntKind.wrap .i64 (v_1 + 1)))) rfl ?_)
       refine Rg_nil ?_
       exact hK46 _ _ ⟨kept_2, (IntKind.wrap .i64 (v_1 + 1)), v_6, v_7, v_8, v_9, a_y56, c_y56, a_y57, c_y57, a_y58, c_y58, _, rfl, ⟨(by repeat (first | with_reducible exact Out.refl _ _ | refine Out.upd ?_ rfl | refine Out.updL ?_ rfl | refine Out.mix' ?_ rfl | exact Out.refl _ _)), rfl, rfl, rfl, trivial⟩, ch53, hs65, f_y56, (inK_wrap .i64 _), f_y57, f_y58, r_y59, jnE6 hsf45 hm⟩
      ·
       intro K63 hK63
       have ch69 := Step.refl (ks [(some b25, Obj.cells [(Value.slice a_y39 v_2.length c_y39), (Value.slice a_y40 v_3.length c_y40), (Value.int .i64 v_4), (Value.bool v_5)].toArray 25)] O) w48
       refine Wp_block ?_
       refine Wp_seq ?_
       refine Wp_region ?_
       replace hm := ck_some hm; obtain ⟨hc70, hm⟩ := hm
       refine Rg_op rfl (op_indexAddr (q := rXCrash) ty68 ty70 rfl rfl f_script rfl hc70.1 hc70.2 ?_)
       intro p71 f72
       refine Rg_op rfl (op_loadPA ty70 rfl f72 rfl ?_)
       intro vs73 h74
       obtain ⟨_, _, rfl, ⟨a_y75_records, c_y75_records, rfl, f_y75_records⟩, ⟨_, _, rfl, rfl, rfl⟩⟩ := h74
       refine Rg_op rfl (op_alloc ty70 hs49 ?_)
       intro b76 w77 _ p78 hs79
       replace f_script := f_script.step p78; replace f_y37 := f_y37.step p78; replace f_y39 := f_y39.step p78; replace f_y40 := f_y40.step p78; replace f72 := f72.step p78; replace f_y75_records := f_y75_records.step p78; replace ch53 := ch53.trans p78; replace ch69 := ch69.trans p78; clear p78 hs49
       refine Rg_op_ (op_store (cs := [(Value.slice none 0 0), (Value.bool false), (Value.int .u8 0)]) (vs := [(Value.slice a_y75_records ((script.getD v_1.toNat default).records).length c_y75_records), (Value.bool ((script.getD v_1.toNat default).stop)), (Value.int .u8 (((script.getD v_1.toNat default).left).toNat : Int))]) (cs' := [(Value.slice a_y75_records ((script.getD v_1.toNat default).records).length c_y75_records), (Value.bool ((script.getD v_1.toNat default).stop)), (Value.int .u8 (((script.getD v_1.toNat default).left).toNat : Int))]) (bs' := [(some b76, Obj.cells [(Value.slice a_y75_records ((script.getD v_1.toNat default).records).length c_y75_records), (Value.bool ((script.getD v_1.toNat default).stop)), (Value.int .u8 (((script.getD v_1.toNat default).left).toNat : Int))].toArray 70), (some b25, Obj.cells [(Value.slice a_y39 v_2.length c_y39), (Value.slice a_y40 v_3.length c_y40), (Value.int .i64 v_4), (Value.bool v_5)].toArray 25)]) (i := 0) ty70 hs79 rfl rfl rfl rfl rfl (le_lit rfl) rfl rfl rfl ?_)
       intro w81 p82 hs83
       replace f_script := f_script.step p82; replace f_y37 := f_y37.step p82; replace f_y39 := f_y39.step p82; replace f_y40 := f_y40.step p82; replace f72 := f72.step p82; replace f_y75_records := f_y75_records.step p82; replace ch53 := ch53.trans p82; replace ch69 := ch69.trans p82; clear p82 hs79
       refine Rg_nil ?_
       refine Wp_seq ?_
       refine Wp_seq ?_
       clear f72
       refine Wp_region ?_
       refine Rg_op rfl (op_loadA (cs := [(Value.slice a_y39 v_2.length c_y39), (Value.slice a_y40 v_3.length c_y40), (Value.int .i64 v_4), (Value.bool v_5)]) (vs := [(Value.slice a_y39 v_2.length c_y39), (Value.slice a_y40 v_3.length c_y40), (Value.int .i64 v_4), (Value.bool v_5)]) (i := 1) ty25 hs83 rfl rfl rfl rfl ?_)
       refine Rg_op rfl (op_fieldAddr ty70 rfl ty22 (by decide) rfl (rfl : _ = (⟨_, 0, none⟩ : Addr)) ?_)
       refine Rg_op rfl (op_load (cs := [(Value.slice a_y75_records ((script.getD v_1.toNat default).records).length c_y75_records), (Value.bool ((script.getD v_1.toNat default).stop)), (Value.int .u8 (((script.getD v_1.toNat default).left).toNat : Int))]) (i := 0) ty22 hs83 rfl rfl rfl ?_)
       replace hm := bd hm; obtain ⟨few_1, hv84, hm⟩ := hm
       refine Rg_op rfl (op_call Try.call29 (c29_overflightlaw45_few (d := (⟨v_2, v_3, v_4, v_5⟩ : XDisk)) (records := (script.getD v_1.toNat default).records) hs83.ltw f_y39 f_y40 r_y41 f_y75_records hv84) rfl ?_)
       rintro v85 w86 ⟨hx87, h88⟩
       have hs89 := hs83.call hx87
       have p90 := Step.ext (O := ks [(some b76, Obj.cells [(Value.slice a_y75_records ((script.getD v_1.toNat default).records).length c_y75_records), (Value.bool ((script.getD v_1.toNat default).stop)), (Value.int .u8 (((script.getD v_1.toNat default).left).toNat : Int))].toArray 70), (some b25, Obj.cells [(Value.slice a_y39 v_2.length c_y39), (Value.slice a_y40 v_3.length c_y40), (Value.int .i64 v_4), (Value.bool v_5)].toArray 25)] O) hx87
       clear hx87
       replace f_script := f_script.step p90; replace f_y37 := f_y37.step p90; replace f_y39 := f_y39.step p90; replace f_y40 := f_y40.step p90; replace f_y75_records := f_y75_records.step p90; replace ch53 := ch53.trans p90; replace ch69 := ch69.trans p90; clear p90 hs83
       obtain rfl := h88
       refine Rg_op rfl (op_not rfl ?_)
       refine Rg_nil ?_
       refine Wp_cond rfl (fun hc92 => ?_) (fun hc92 => ?_)
       ·
        replace hm := bif_t hm hc92
        refine Wp_seq ?_
        clear f_script f_y37
        refine Wp_region ?_
        refine Rg_op rfl (op_assign (v := (Value.bool true)) rfl ?_)
        refine Rg_nil ?_
        refine Wp_ret ?_
        have hz := step_all hs89
        replace f_y39 := f_y39.step hz; replace f_y40 := f_y40.step hz; replace f_y75_records := f_y75_records.step hz
        refine ⟨_, (show Closes [] _ _ from rfl), [(Value.bool true)], ⟨rfl, trivial⟩, hs89.ext, ?_⟩
        exact Vr.eq (a := vB) (x := true) rfl (Option.some.inj hm)
       ·
        replace hm := bif_f hm hc92
        refine Wp_skip ?_
        refine Wp_seq ?_
        refine Wp_region ?_
        refine Rg_op rfl (op_loadA (cs := [(Value.slice a_y39 v_2.length c_y39), (Value.slice a_y40 v_3.length c_y40), (Value.int .i64 v_4), (Value.bool v_5)]) (vs := [(Value.slice a_y39 v_2.length c_y39), (Value.slice a_y40 v_3.length c_y40), (Value.int .i64 v_4), (Value.bool v_5)]) (i := 1) ty25 hs89 rfl rfl rfl rfl ?_)
        replace hm := bd hm; obtain ⟨open_1, hv93, hm⟩ := hm
        refine Rg_op rfl (op_call Try.call38 (c38_journal_Open (d := (⟨v_2, v_3, v_4, v_5⟩ : XDisk)) hs89.ltw f_y39 f_y40 r_y41 hv93) rfl ?_)
        rintro v94 w95 ⟨hx96, h97⟩
        have hs98 := hs89.call hx96
        have p99 := Step.ext (O := ks [(some b76, Obj.cells [(Value.slice a_y75_records ((script.getD v_1.toNat default).records).length c_y75_records), (Value.bool ((script.getD v_1.toNat default).stop)), (Value.int .u8 (((script.getD v_1.toNat default).left).toNat : Int))].toArray 70), (some b25, Obj.cells [(Value.slice a_y39 v_2.length c_y39), (Value.slice a_y40 v_3.length c_y40), (Value.int .i64 v_4), (Value.bool v_5)].toArray 25)] O) hx96
        clear hx96
        replace f_script := f_script.step p99; replace f_y37 := f_y37.step p99; replace f_y39 := f_y39.step p99; replace f_y40 := f_y40.step p99; replace f_y75_records := f_y75_records.step p99; replace ch53 := ch53.trans p99; replace ch69 := ch69.trans p99; clear p99 hs89
        obtain ⟨v100, v101, rfl, h102, h103⟩ := h97
        obtain ⟨_, rfl, ⟨_, _, rfl, ⟨a_y104_records, c_y104_records, rfl, f_y104_records⟩, ⟨_, _, rfl, ⟨rfl, r_y104_many⟩, ⟨rfl, r_y104_synced⟩⟩⟩⟩ := h102
        obtain ⟨rfl, r_y105⟩ := h103
        refine Rg_op rfl (op_move (v := (Value.tuple [(Value.agg [(Value.slice a_y104_records open_1.1.records.length c_y104_records), (Value.int .i64 open_1.1.many), (Value.int .i64 open_1.1.synced)].toArray), (Value.int .i64 open_1.2)].toArray)) rfl ?_)
        refine Rg_op rfl (op_extract (v := (Value.agg [(Value.slice a_y104_records open_1.1.records.length c_y104_records), (Value.int .i64 open_1.1.many), (Value.int .i64 open_1.1.synced)].toArray)) rfl rfl ?_)
        refine Rg_op rfl (op_extract (v := (Value.int .i64 open_1.2)) rfl rfl ?_)
        refine Rg_op rfl (op_alloc ty52 hs98 ?_)
        intro b106 w107 _ p108 hs109
        replace f_script := f_script.step p108; replace f_y37 := f_y37.step p108; replace f_y39 := f_y39.step p108; replace f_y40 := f_y40.step p108; replace f_y75_records := f_y75_records.step p108; replace f_y104_records := f_y104_records.step p108; replace ch53 := ch53.trans p108; replace ch69 := ch69.trans p108; clear p108 hs98
        refine Rg_op_ (op_store (cs := [(Value.slice none 0 0), (Value.int .i64 0), (Value.int .i64 0)]) (vs := [(Value.slice a_y104_records open_1.1.records.length c_y104_records), (Value.int .i64 open_1.1.many), (Value.int .i64 open_1.1.synced)]) (cs' := [(Value.slice a_y104_records open_1.1.records.length c_y104_records), (Value.int .i64 open_1.1.many), (Value.int .i64 open_1.1.synced)]) (bs' := [(some b106, Obj.cells [(Value.slice a_y104_records open_1.1.records.length c_y104_records), (Value.int .i64 open_1.1.many), (Value.int .i64 open_1.1.synced)].toArray 52), (some b76, Obj.cells [(Value.slice a_y75_records ((script.getD v_1.toNat default).records).length c_y75_records), (Value.bool ((script.getD v_1.toNat default).stop)), (Value.int .u8 (((script.getD v_1.toNat default).left).toNat : Int))].toArray 70), (some b25, Obj.cells [(Value.slice a_y39 v_2.length c_y39), (Value.slice a_y40 v_3.length c_y40), (Value.int .i64 v_4), (Value.bool v_5)].toArray 25)]) (i := 0) ty52 hs109 rfl rfl rfl rfl rfl (le_lit rfl) rfl rfl rfl ?_)
        intro w111 p112 hs113
        replace f_script := f_script.step p112; replace f_y37 := f_y37.step p112; replace f_y39 := f_y39.step p112; replace f_y40 := f_y40.step p112; replace f_y75_records := f_y75_records.step p112; replace f_y104_records := f_y104_records.step p112; replace ch53 := ch53.trans p112; replace ch69 := ch69.trans p112; clear p112 hs109
        refine Rg_op rfl (op_assign (v := (Value.int .i64 open_1.2)) rfl ?_)
        refine Rg_nil ?_
        refine Wp_seq ?_
        refine Wp_reset2 [4, 6, 7, 9, 10, 11, 13, 14, 15, 16, 17, 18, 19, 20, 42, 43, 44, 45, 46, 47, 48, 49, 50, 51, 52, 53, 54, 55, 56, 57, 58, 59, 60, 61, 62, 63, 64, 65, 66, 67, 68, 69, 70, 71, 72, 73, 74, 75, 76, 77, 78, 79, 80, 81, 82, 83, 84, 85, 86, 87, 88, 89, 90, 91, 92, 93, 94, 95, 96, 97, 98, 99, 100, 101, 102, 103, 104, 105, 106, 107, 108, 109, 110, 111, 112, 113, 114, 115, 116, 117, 118, 119, 120, 121, 122, 123, 124, 125, 126, 127, 128, 129, 130, 131, 132, 133, 134, 135, 136, 137, 138, 139, 140, 141, 142, 143, 144, 145, 146, 147, 148, 149, 150, 151, 152, 153, 154, 155, 156, 157, 158, 159, 160, 161, 162, 163, 164, 165, 166, 167, 168, 169, 170, 171, 172, 173, 174, 175, 176, 177, 178, 179, 180] [] (updL (mix [4, 6, 7, 9, 10, 11, 13, 14, 15, 16, 17, 18, 19, 20, 40, 41, 42, 43, 44, 45, 46, 47, 48, 49, 50, 51, 52, 53, 54, 55, 56, 57, 58, 59, 60, 61, 62, 63, 64, 65, 66, 67, 68, 69, 70, 71, 72, 73, 74, 75, 76, 77, 78, 79, 80, 81, 82, 83, 84, 85, 86, 87, 88, 89, 90, 91, 92, 93, 94, 95, 96, 97, 98, 99, 100, 101, 102, 103, 104, 105, 106, 107, 108, 109, 110, 111, 112, 113, 114, 115, 116, 117, 118, 119, 120, 121, 122, 123, 124, 125, 126, 127, 128, 129, 130, 131, 132, 133, 134, 135, 136, 137, 138, 139, 140, 141, 142, 143, 144, 145, 146, 147, 148, 149, 150, 151, 152, 153, 154, 155, 156, 157, 158, 159, 160, 161, 162, 163, 164, 165, 166, 167, 168, 169, 170, 171, 172, 173, 174, 175, 176, 177, 178, 179, 180, 181] [] ξ55 (updL ⟨ξ43, []⟩ [(5, (Value.pointer (some ⟨b25, 0, none⟩))), (7, (Value.slice none 0 0)), (38, (Value.slice a_script script.length c_script)), (39, (Value.int .i64 (script.length : Int))), (40, (Value.int .i64 0))])) [(7, (Value.slice a_y37 kept_1.length c_y37)), (40, (Value.int .i64 v_1))]) [(7, (Value.slice a_y37 kept_1.length c_y37)), (9, (Value.pointer (some ⟨b76, 0, none⟩))), (10, (Value.pointer (some ⟨b106, 0, none⟩))), (11, (Value.int .i64 open_1.2))] (by repeat (first | with_reducible exact Out.refl _ _ | refine Out.upd ?_ rfl | refine Out.updL ?_ rfl | refine Out.mix' ?_ rfl | exact Out.refl _ _)) rfl ⟨rfl, rfl, rfl, rfl, trivial⟩ fun ξ114 => ?_
        replace hm := jn_elim hm; obtain ⟨k116, hk117, hm⟩ := hm
        refine Wp_seqJ [54, 55, 56, 57, 58, 59, 60, 61, 62, 63, 64, 65, 66, 67, 68, 69, 70] (fun fr w' => ∃ (v_10 : Bool) (Ebs : Ents), Ebs = [(some b106, Obj.cells [(Value.slice a_y104_records open_1.1.records.length c_y104_records), (Value.int .i64 open_1.1.many), (Value.int .i64 open_1.1.synced)].toArray 52), (some b76, Obj.cells [(Value.slice a_y75_records ((script.getD v_1.toNat default).records).length c_y75_records), (Value.bool ((script.getD v_1.toNat default).stop)), (Value.int .u8 (((script.getD v_1.toNat default).left).toNat : Int))].toArray 70), (some b25, Obj.cells [(Value.slice a_y39 v_2.length c_y39), (Value.slice a_y40 v_3.length c_y40), (Value.int .i64 v_4), (Value.bool v_5)].toArray 25)] ∧ fr [] [(70, (Value.bool v_10))] ∧ Step (ks [(some b106, Obj.cells [(Value.slice a_y104_records open_1.1.records.length c_y104_records), (Value.int .i64 open_1.1.many), (Value.int .i64 open_1.1.synced)].toArray 52), (some b76, Obj.cells [(Value.slice a_y75_records ((script.getD v_1.toNat default).records).length c_y75_records), (Value.bool ((script.getD v_1.toNat default).stop)), (Value.int .u8 (((script.getD v_1.toNat default).left).toNat : Int))].toArray 70), (some b25, Obj.cells [(Value.slice a_y39 v_2.length c_y39), (Value.slice a_y40 v_3.length c_y40), (Value.int .i64 v_4), (Value.bool v_5)].toArray 25)] O) w111 (ks Ebs O) w' ∧ St ⟨w, [], []⟩ O w' Ebs ∧ k116 v_10 = some x) ?_ ?_
        ·
         rintro ρ123 w119 ⟨v_10, Ebs, hEbs, hfr122, hst121, hs120, hm⟩
         replace hm := jnE1 hk117 hm
         subst hEbs; rw [hfr122.eq]; clear hfr122
         replace f_script := f_script.step hst121; replace f_y37 := f_y37.step hst121; replace f_y39 := f_y39.step hst121; replace f_y40 := f_y40.step hst121; replace f_y75_records := f_y75_records.step hst121; replace f_y104_records := f_y104_records.step hst121; replace ch53 := ch53.trans hst121; replace ch69 := ch69.trans hst121; clear hst121 hs113
         refine Wp_cond rfl (fun hc124 => ?_) (fun hc124 => ?_)
         ·
          replace hm := bif_t hm hc124
          refine Wp_seq ?_
          clear f_script f_y37
          refine Wp_region ?_
          refine Rg_op rfl (op_assign (v := (Value.bool false)) rfl ?_)
          refine Rg_nil ?_
          refine Wp_ret ?_
          have hz := step_all hs120
          replace f_y39 := f_y39.step hz; replace f_y40 := f_y40.step hz; replace f_y75_records := f_y75_records.step hz; replace f_y104_records := f_y104_records.step hz
          refine ⟨_, (show Closes [] _ _ from rfl), [(Value.bool false)], ⟨rfl, trivial⟩, hs120.ext, ?_⟩
          exact Vr.eq (a := vB) (x := false) rfl (Option.some.inj hm)
         ·
          replace hm := bif_f hm hc124
          refine Wp_skip ?_
          refine Wp_seq ?_
          refine Wp_seq ?_
          refine Wp_region ?_
          refine Rg_op rfl (op_fieldAddr ty70 rfl ty22 (by decide) rfl (rfl : _ = (⟨_, 0, none⟩ : Addr)) ?_)
          refine Rg_op rfl (op_load (cs := [(Value.slice a_y75_records ((script.getD v_1.toNat default).records).length c_y75_records), (Value.bool ((script.getD v_1.toNat default).stop)), (Value.int .u8 (((script.getD v_1.toNat default).left).toNat : Int))]) (i := 1) ty22 hs120 rfl rfl rfl ?_)
          refine Rg_op rfl (op_len Try.underlying22 rfl ?_)
          have rl125 := inK_len f_y75_records
          refine Rg_op rfl (op_move (v := (Value.int .i64 0)) rfl ?_)
          refine Rg_nil ?_
          refine Wp_block ?_
          refine Wp_reset2 [4, 6, 7, 9, 10, 11, 13, 14, 15, 16, 17, 18, 19, 20, 42, 43, 44, 45, 46, 47, 48, 49, 50, 51, 52, 53, 54, 55, 56, 57, 58, 59, 60, 61, 62, 63, 64, 65, 66, 67, 68, 69, 70, 71, 72, 73, 74, 75, 76, 77, 78, 79, 80, 81, 82, 83, 84, 85, 86, 87, 88, 89, 90, 91, 92, 93, 94, 95, 96, 97, 98, 99, 100, 101, 102, 103, 104, 105, 106, 107, 108, 109, 110, 111, 112, 113, 114, 115, 116, 117, 118, 119, 120, 121, 122, 123, 124, 125, 126, 127, 128, 129, 130, 131, 132, 133, 134, 135, 136, 137, 138, 139, 140, 141, 142, 143, 144, 145, 146, 147, 148, 149, 150, 151, 152, 153, 154, 155, 156, 157, 158, 159, 160, 161, 162, 163, 164, 165, 166, 167, 168, 169, 170, 171, 172, 173, 174, 175, 176, 177, 178, 179, 180] [] (updL (mix [4, 6, 7, 9, 10, 11, 13, 14, 15, 16, 17, 18, 19, 20, 40, 41, 42, 43, 44, 45, 46, 47, 48, 49, 50, 51, 52, 53, 54, 55, 56, 57, 58, 59, 60, 61, 62, 63, 64, 65, 66, 67, 68, 69, 70, 71, 72, 73, 74, 75, 76, 77, 78, 79, 80, 81, 82, 83, 84, 85, 86, 87, 88, 89, 90, 91, 92, 93, 94, 95, 96, 97, 98, 99, 100, 101, 102, 103, 104, 105, 106, 107, 108, 109, 110, 111, 112, 113, 114, 115, 116, 117, 118, 119, 120, 121, 122, 123, 124, 125, 126, 127, 128, 129, 130, 131, 132, 133, 134, 135, 136, 137, 138, 139, 140, 141, 142, 143, 144, 145, 146, 147, 148, 149, 150, 151, 152, 153, 154, 155, 156, 157, 158, 159, 160, 161, 162, 163, 164, 165, 166, 167, 168, 169, 170, 171, 172, 173, 174, 175, 176, 177, 178, 179, 180, 181] [] ξ55 (updL ⟨ξ43, []⟩ [(5, (Value.pointer (some ⟨b25, 0, none⟩))), (7, (Value.slice none 0 0)), (38, (Value.slice a_script script.length c_script)), (39, (Value.int .i64 (script.length : Int))), (40, (Value.int .i64 0))])) [(7, (Value.slice a_y37 kept_1.length c_y37)), (40, (Value.int .i64 v_1))]) [(7, (Value.slice a_y37 kept_1.length c_y37)), (9, (Value.pointer (some ⟨b76, 0, none⟩))), (10, (Value.pointer (some ⟨b106, 0, none⟩))), (72, (Value.slice a_y75_records ((script.getD v_1.toNat default).records).length c_y75_records)), (73, (Value.int .i64 (((script.getD v_1.toNat default).records).length : Int))), (74, (Value.int .i64 0))] (by repeat (first | with_reducible exact Out.refl _ _ | refine Out.upd ?_ rfl | refine Out.updL ?_ rfl | refine Out.mix' ?_ rfl | exact Out.refl _ _)) rfl ⟨rfl, rfl, rfl, rfl, rfl, rfl, trivial⟩ fun ξ130 => ?_
          refine Wp_loopM [13, 14, 15, 74, 75, 76, 77, 78, 79, 80, 81, 82, 83, 84, 85, 86, 87] (fun m fr w' => ∃ (v_11 : Int) (v_12 : List (List UInt8)) (v_13 : Int) (v_14 : Int) (a_y127 : Option Addr) (c_y127 : Nat) (Ebs : Ents), Ebs = [(some b106, Obj.cells [(Value.slice a_y127 v_12.length c_y127), (Value.int .i64 v_13), (Value.int .i64 v_14)].toArray 52), (some b76, Obj.cells [(Value.slice a_y75_records ((script.getD v_1.toNat default).records).length c_y75_records), (Value.bool ((script.getD v_1.toNat default).stop)), (Value.int .u8 (((script.getD v_1.toNat default).left).toNat : Int))].toArray 70), (some b25, Obj.cells [(Value.slice a_y39 v_2.length c_y39), (Value.slice a_y40 v_3.length c_y40), (Value.int .i64 v_4), (Value.bool v_5)].toArray 25)] ∧ fr [] [(74, (Value.int .i64 v_11))] ∧ Step (ks [(some b106, Obj.cells [(Value.slice a_y104_records open_1.1.records.length c_y104_records), (Value.int .i64 open_1.1.many), (Value.int .i64 open_1.1.synced)].toArray 52), (some b76, Obj.cells [(Value.slice a_y75_records ((script.getD v_1.toNat default).records).length c_y75_records), (Value.bool ((script.getD v_1.toNat default).stop)), (Value.int .u8 (((script.getD v_1.toNat default).left).toNat : Int))].toArray 70), (some b25, Obj.cells [(Value.slice a_y39 v_2.length c_y39), (Value.slice a_y40 v_3.length c_y40), (Value.int .i64 v_4), (Value.bool v_5)].toArray 25)] O) w119 (ks Ebs O) w' ∧ St ⟨w, [], []⟩ O w' Ebs ∧ InK .i64 v_11 ∧ SlR (rSl rU8) w' (ks Ebs O) a_y127 c_y127 v_12 ∧ InK .i64 v_13 ∧ InK .i64 v_14 ∧ loop4 (m12_overflightlaw45_JournalSurvives_B1 sectors script kept_1 v_1 v_2 v_3 v_4 v_5 k61) m v_11 v_12 v_13 v_14 = some x) (((((script.getD v_1.toNat default).records).length : Int) - 0).toNat + 1) ⟨0, open_1.1.records, open_1.1.many, open_1.1.synced, a_y104_records, c_y104_records, _, rfl, ⟨Out.refl _ _, rfl, rfl, trivial⟩, Step.refl _ _, hs120, (show InK .i64 0 from by decide), f_y104_records, r_y104_many, r_y104_synced, hm⟩ ?_ ?_
          · rintro _ _ ⟨_, _, _, _, _, _, _, _, _, _, _, _, _, _, _, hm⟩; exact loop4_z hm
          ·
           rintro m134 K133 hK133 ρ139 w135 ⟨v_11, v_12, v_13, v_14, a_y127, c_y127, Ebs, hEbs, hfr138, hst137, hs136, r_y126, f_y127, r_y128, r_y129, hm⟩
           obtain ⟨sf131, hsf132, hm⟩ := loop4_s hm; unfold m12_overflightlaw45_JournalSurvives_B1 at hm
           subst hEbs; rw [hfr138.eq]; clear hfr138
           replace f_script := f_script.step hst137; replace f_y37 := f_y37.step hst137; replace f_y39 := f_y39.step hst137; replace f_y40 := f_y40.step hst137; replace f_y75_records := f_y75_records.step hst137; replace f_y104_records := f_y104_records.step hst137; replace ch53 := ch53.trans hst137; replace ch69 := ch69.trans hst137
           have ch140 := hst137
           refine Wp_seq ?_
           clear f_y104_records
           refine Wp_region ?_
           refine Rg_op rfl (op_lss rfl rfl ?_)
           refine Rg_nil ?_
           refine Wp_seq ?_
           refine Wp_cond rfl (fun hc141 => ?_) (fun hc141 => ?_)
           ·
            replace hm := bif_t hm hc141
            refine Wp_skip ?_
            refine Wp_seq ?_
            refine Wp_block ?_
            refine Wp_seq ?_
            refine Wp_region ?_
            replace hm := ck_some hm; obtain ⟨hc142, hm⟩ := hm
            refine Rg_op rfl (op_indexAddr (q := (rSl rU8)) ty22 ty41 rfl rfl f_y75_records rfl hc142.1 hc142.2 ?_)
            intro p143 f144
            refine Rg_op rfl (op_loadP ty41 rfl f144 rfl ?_)
            intro v145 h146
            obtain ⟨a_y147, c_y147, rfl, f_y147⟩ := un_sl h146
            refine Rg_op rfl (op_assign (v := (Value.slice a_y147 (((script.getD v_1.toNat default).records).getD v_11.toNat default).length c_y147)) rfl ?_)
            refine Rg_nil ?_
            refine Wp_seq ?_
            clear f144
            refine Wp_region ?_
            refine Rg_op rfl (op_loadA (cs := [(Value.slice a_y127 v_12.length c_y127), (Value.int .i64 v_13), (Value.int .i64 v_14)]) (vs := [(Value.slice a_y127 v_12.length c_y127), (Value.int .i64 v_13), (Value.int .i64 v_14)]) (i := 0) ty52 hs136 rfl rfl rfl rfl ?_)
            refine Rg_op rfl (op_move (v := (Value.slice a_y147 (((script.getD v_1.toNat default).records).getD v_11.toNat default).length c_y147)) rfl ?_)
            replace hm := bd hm; obtain ⟨append_1, hv148, hm⟩ := hm
            refine Rg_op rfl (op_call Try.call30 (c30_journal_Append (l := (⟨v_12, v_13, v_14⟩ : XJournal)) (b := (((script.getD v_1.toNat default).records).getD v_11.toNat default)) hs136.ltw f_y127 r_y128 r_y129 f_y147 hv148) rfl ?_)
            rintro v149 w150 ⟨hx151, h152⟩
            have hs153 := hs136.call hx151
            have p154 := Step.ext (O := ks [(some b106, Obj.cells [(Value.slice a_y127 v_12.length c_y127), (Value.int .i64 v_13), (Value.int .i64 v_14)].toArray 52), (some b76, Obj.cells [(Value.slice a_y75_records ((script.getD v_1.toNat default).records).length c_y75_records), (Value.bool ((script.getD v_1.toNat default).stop)), (Value.int .u8 (((script.getD v_1.toNat default).left).toNat : Int))].toArray 70), (some b25, Obj.cells [(Value.slice a_y39 v_2.length c_y39), (Value.slice a_y40 v_3.length c_y40), (Value.int .i64 v_4), (Value.bool v_5)].toArray 25)] O) hx151
            clear hx151
            replace f_script := f_script.step p154; replace f_y37 := f_y37.step p154; replace f_y39 := f_y39.step p154; replace f_y40 := f_y40.step p154; replace f_y75_records := f_y75_records.step p154; replace f_y127 := f_y127.step p154; replace f_y147 := f_y147.step p154; replace ch53 := ch53.trans p154; replace ch69 := ch69.trans p154; replace ch140 := ch140.trans p154; clear p154 hs136
            obtain ⟨v155, v156, rfl, h157, h158⟩ := h152
            obtain ⟨_, rfl, ⟨_, _, rfl, ⟨a_y159_records, c_y159_records, rfl, f_y159_records⟩, ⟨_, _, rfl, ⟨rfl, r_y159_many⟩, ⟨rfl, r_y159_synced⟩⟩⟩⟩ := h157
            obtain ⟨rfl, r_y160⟩ := h158
            refine Rg_op rfl (op_move (v := (Value.tuple [(Value.agg [(Value.slice a_y159_records append_1.1.records.length c_y159_records), (Value.int .i64 append_1.1.many), (Value.int .i64 append_1.1.synced)].toArray), (Value.int .i64 append_1.2)].toArray)) rfl ?_)
            refine Rg_op rfl (op_extract (v := (Value.agg [(Value.slice a_y159_records append_1.1.records.length c_y159_records), (Value.int .i64 append_1.1.many), (Value.int .i64 append_1.1.synced)].toArray)) rfl rfl ?_)
            refine Rg_op rfl (op_extract (v := (Value.int .i64 append_1.2)) rfl rfl ?_)
            refine Rg_op rfl (op_alloc ty52 hs153 ?_)
            intro b161 w162 _ p163 hs164
            replace f_script := f_script.step p163; replace f_y37 := f_y37.step p163; replace f_y39 := f_y39.step p163; replace f_y40 := f_y40.step p163; replace f_y75_records := f_y75_records.step p163; replace f_y127 := f_y127.step p163; replace f_y147 := f_y147.step p163; replace f_y159_records := f_y159_records.step p163; replace ch53 := ch53.trans p163; replace ch69 := ch69.trans p163; replace ch140 := ch140.trans p163; clear p163 hs153
            refine Rg_op_ (op_store (cs := [(Value.slice none 0 0), (Value.int .i64 0), (Value.int .i64 0)]) (vs := [(Value.slice a_y159_records append_1.1.records.length c_y159_records), (Value.int .i64 append_1.1.many), (Value.int .i64 append_1.1.synced)]) (cs' := [(Value.slice a_y159_records append_1.1.records.length c_y159_records), (Value.int .i64 append_1.1.many), (Value.int .i64 append_1.1.synced)]) (bs' := [(some b161, Obj.cells [(Value.slice a_y159_records append_1.1.records.length c_y159_records), (Value.int .i64 append_1.1.many), (Value.int .i64 append_1.1.synced)].toArray 52), (some b106, Obj.cells [(Value.slice a_y127 v_12.length c_y127), (Value.int .i64 v_13), (Value.int .i64 v_14)].toArray 52), (some b76, Obj.cells [(Value.slice a_y75_records ((script.getD v_1.toNat default).records).length c_y75_records), (Value.bool ((script.getD v_1.toNat default).stop)), (Value.int .u8 (((script.getD v_1.toNat default).left).toNat : Int))].toArray 70), (some b25, Obj.cells [(Value.slice a_y39 v_2.length c_y39), (Value.slice a_y40 v_3.length c_y40), (Value.int .i64 v_4), (Value.bool v_5)].toArray 25)]) (i := 0) ty52 hs164 rfl rfl rfl rfl rfl (le_lit rfl) rfl rfl rfl ?_)
            intro w166 p167 hs168
            replace f_script := f_script.step p167; replace f_y37 := f_y37.step p167; replace f_y39 := f_y39.step p167; replace f_y40 := f_y40.step p167; replace f_y75_records := f_y75_records.step p167; replace f_y127 := f_y127.step p167; replace f_y147 := f_y147.step p167; replace f_y159_records := f_y159_records.step p167; replace ch53 := ch53.trans p167; replace ch69 := ch69.trans p167; replace ch140 := ch140.trans p167; clear p167 hs164
            refine Rg_op rfl (op_assign (v := (Value.int .i64 append_1.2)) rfl ?_)
            refine Rg_nil ?_
            refine Wp_seq ?_
            clear f_y147
            refine Wp_region ?_
            refine Rg_op rfl (op_move (v := (Value.int .i64 append_1.2)) rfl ?_)
            refine Rg_op rfl (op_eql rfl rfl ?_)
            refine Rg_nil ?_
            refine Wp_cond rfl (fun hc169 => ?_) (fun hc169 => ?_)
            ·
             replace hm := bif_t hm hc169
             refine Wp_region ?_
             refine Rg_op rfl (op_loadA (cs := [(Value.slice a_y159_records append_1.1.records.length c_y159_records), (Value.int .i64 append_1.1.many), (Value.int .i64 append_1.1.synced)]) (vs := [(Value.slice a_y159_records append_1.1.records.length c_y159_records), (Value.int .i64 append_1.1.many), (Value.int .i64 append_1.1.synced)]) (i := 0) ty52 hs168 rfl rfl rfl rfl ?_)
             refine Rg_op_ (op_store (cs := [(Value.slice a_y127 v_12.length c_y127), (Value.int .i64 v_13), (Value.int .i64 v_14)]) (vs := [(Value.slice a_y159_records append_1.1.records.length c_y159_records), (Value.int .i64 append_1.1.many), (Value.int .i64 append_1.1.synced)]) (cs' := [(Value.slice a_y159_records append_1.1.records.length c_y159_records), (Value.int .i64 append_1.1.many), (Value.int .i64 append_1.1.synced)]) (bs' := [(some b161, Obj.cells [(Value.slice a_y159_records append_1.1.records.length c_y159_records), (Value.int .i64 append_1.1.many), (Value.int .i64 append_1.1.synced)].toArray 52), (some b106, Obj.cells [(Value.slice a_y159_records append_1.1.records.length c_y159_records), (Value.int .i64 append_1.1.many), (Value.int .i64 append_1.1.synced)].toArray 52), (some b76, Obj.cells [(Value.slice a_y75_records ((script.getD v_1.toNat default).records).length c_y75_records), (Value.bool ((script.getD v_1.toNat default).stop)), (Value.int .u8 (((script.getD v_1.toNat default).left).toNat : Int))].toArray 70), (some b25, Obj.cells [(Value.slice a_y39 v_2.length c_y39), (Value.slice a_y40 v_3.length c_y40), (Value.int .i64 v_4), (Value.bool v_5)].toArray 25)]) (i := 1) ty52 hs168 rfl rfl rfl rfl rfl (le_lit rfl) rfl rfl rfl ?_)
             intro w170 p171 hs172
             replace f_script := f_script.step p171; replace f_y37 := f_y37.step p171; replace f_y39 := f_y39.step p171; replace f_y40 := f_y40.step p171; replace f_y75_records := f_y75_records.step p171; replace f_y127 := f_y127.step p171; replace f_y159_records := f_y159_records.step p171; replace ch53 := ch53.trans p171; replace ch69 := ch69.trans p171; replace ch140 := ch140.trans p171; clear p171 hs168
             refine Rg_nil ?_
             clear f_y127
             refine Wp_region ?_
             refine Rg_op rfl (op_addw rfl rfl ?_)
             refine Rg_op rfl (op_move (v := (Value.int .i64 (IntKind.wrap .i64 (v_11 + 1)))) rfl ?_)
             refine Rg_nil ?_
             have hs173 := hs172.drop 0
             replace f_script := f_script.step (hs172.dropS 0)
             replace f_y37 := f_y37.step (hs172.dropS 0)
             replace f_y39 := f_y39.step (hs172.dropS 0)
             replace f_y40 := f_y40.step (hs172.dropS 0)
             replace f_y75_records := f_y75_records.step (hs172.dropS 0)
             replace f_y159_records := f_y159_records.step (hs172.dropS 0)
             replace ch53 := ch53.trans (hs172.dropS 0)
             replace ch69 := ch69.trans (hs172.dropS 0)
             replace ch140 := ch140.trans (hs172.dropS 0); clear hs172
             exact hK133 _ _ ⟨(IntKind.wrap .i64 (v_11 + 1)), append_1.1.records, append_1.1.many, append_1.1.synced, a_y159_records, c_y159_records, _, rfl, ⟨(by repeat (first | with_reducible exact Out.refl _ _ | refine Out.upd ?_ rfl | refine Out.updL ?_ rfl | refine Out.mix' ?_ rfl | exact Out.refl _ _)), rfl, rfl, trivial⟩, ch140, hs173, (inK_wrap .i64 _), f_y159_records, r_y159_many, r_y159_synced, jnE4 hsf132 hm⟩
            ·
             replace hm := bif_f hm hc169
             refine Wp_skip ?_
             refine Wp_region ?_
             refine Rg_op rfl (op_addw rfl rfl ?_)
             refine Rg_op rfl (op_move (v := (Value.int .i64 (IntKind.wrap .i64 (v_11 + 1)))) rfl ?_)
             refine Rg_nil ?_
             have hs174 := hs168.drop 0
             replace f_script := f_script.step (hs168.dropS 0)
             replace f_y37 := f_y37.step (hs168.dropS 0)
             replace f_y39 := f_y39.step (hs168.dropS 0)
             replace f_y40 := f_y40.step (hs168.dropS 0)
             replace f_y75_records := f_y75_records.step (hs168.dropS 0)
             replace f_y127 := f_y127.step (hs168.dropS 0)
             replace f_y159_records := f_y159_records.step (hs168.dropS 0)
             replace ch53 := ch53.trans (hs168.dropS 0)
             replace ch69 := ch69.trans (hs168.dropS 0)
             replace ch140 := ch140.trans (hs168.dropS 0); clear hs168
             exact hK133 _ _ ⟨(IntKind.wrap .i64 (v_11 + 1)), v_12, v_13, v_14, a_y127, c_y127, _, rfl, ⟨(by repeat (first | with_reducible exact Out.refl _ _ | refine Out.upd ?_ rfl | refine Out.updL ?_ rfl | refine Out.mix' ?_ rfl | exact Out.refl _ _)), rfl, rfl, trivial⟩, ch140, hs174, (inK_wrap .i64 _), f_y127, r_y128, r_y129, jnE4 hsf132 hm⟩
           ·
            replace hm := bif_f hm hc141
            refine Wp_exit ?_
            refine Wp_seq ?_
            refine Wp_seq ?_
            refine Wp_region ?_
            refine Rg_op rfl (op_fieldAddr ty52 rfl ty22 (by decide) rfl (rfl : _ = (⟨_, 0, none⟩ : Addr)) ?_)
            refine Rg_op rfl (op_load (cs := [(Value.slice a_y127 v_12.length c_y127), (Value.int .i64 v_13), (Value.int .i64 v_14)]) (i := 0) ty22 hs136 rfl rfl rfl ?_)
            refine Rg_op rfl (op_len Try.underlying22 rfl ?_)
            have rl175 := inK_len f_y127
            refine Rg_op rfl (op_move (v := (Value.slice a_y37 kept_1.length c_y37)) rfl ?_)
            refine Rg_op rfl (op_len Try.underlying22 rfl ?_)
            have rl176 := inK_len f_y37
            refine Rg_op rfl (op_lss rfl rfl ?_)
            refine Rg_nil ?_
            refine Wp_cond rfl (fun hc177 => ?_) (fun hc177 => ?_)
            ·
             replace hm := bif_t hm hc177
             refine Wp_seq ?_
             clear f_script f_y37
             refine Wp_region ?_
             refine Rg_op rfl (op_assign (v := (Value.bool false)) rfl ?_)
             refine Rg_nil ?_
             refine Wp_ret ?_
             have hz := step_all hs136
             replace f_y39 := f_y39.step hz; replace f_y40 := f_y40.step hz; replace f_y75_records := f_y75_records.step hz; replace f_y127 := f_y127.step hz
             refine ⟨_, (show Closes [] _ _ from rfl), [(Value.bool false)], ⟨rfl, trivial⟩, hs136.ext, ?_⟩
             exact Vr.eq (a := vB) (x := false) rfl (Option.some.inj hm)
            ·
             replace hm := bif_f hm hc177
             refine Wp_skip ?_
             refine Wp_reset2 [4, 6, 7, 9, 10, 11, 13, 14, 15, 16, 17, 18, 19, 20, 42, 43, 44, 45, 46, 47, 48, 49, 50, 51, 52, 53, 54, 55, 56, 57, 58, 59, 60, 61, 62, 63, 64, 65, 66, 67, 68, 69, 70, 71, 72, 73, 74, 75, 76, 77, 78, 79, 80, 81, 82, 83, 84, 85, 86, 87, 88, 89, 90, 91, 92, 93, 94, 95, 96, 97, 98, 99, 100, 101, 102, 103, 104, 105, 106, 107, 108, 109, 110, 111, 112, 113, 114, 115, 116, 117, 118, 119, 120, 121, 122, 123, 124, 125, 126, 127, 128, 129, 130, 131, 132, 133, 134, 135, 136, 137, 138, 139, 140, 141, 142, 143, 144, 145, 146, 147, 148, 149, 150, 151, 152, 153, 154, 155, 156, 157, 158, 159, 160, 161, 162, 163, 164, 165, 166, 167, 168, 169, 170, 171, 172, 173, 174, 175, 176, 177, 178, 179, 180] [] (updL (mix [4, 6, 7, 9, 10, 11, 13, 14, 15, 16, 17, 18, 19, 20, 40, 41, 42, 43, 44, 45, 46, 47, 48, 49, 50, 51, 52, 53, 54, 55, 56, 57, 58, 59, 60, 61, 62, 63, 64, 65, 66, 67, 68, 69, 70, 71, 72, 73, 74, 75, 76, 77, 78, 79, 80, 81, 82, 83, 84, 85, 86, 87, 88, 89, 90, 91, 92, 93, 94, 95, 96, 97, 98, 99, 100, 101, 102, 103, 104, 105, 106, 107, 108, 109, 110, 111, 112, 113, 114, 115, 116, 117, 118, 119, 120, 121, 122, 123, 124, 125, 126, 127, 128, 129, 130, 131, 132, 133, 134, 135, 136, 137, 138, 139, 140, 141, 142, 143, 144, 145, 146, 147, 148, 149, 150, 151, 152, 153, 154, 155, 156, 157, 158, 159, 160, 161, 162, 163, 164, 165, 166, 167, 168, 169, 170, 171, 172, 173, 174, 175, 176, 177, 178, 179, 180, 181] [] ξ55 (updL ⟨ξ43, []⟩ [(5, (Value.pointer (some ⟨b25, 0, none⟩))), (7, (Value.slice none 0 0)), (38, (Value.slice a_script script.length c_script)), (39, (Value.int .i64 (script.length : Int))), (40, (Value.int .i64 0))])) [(7, (Value.slice a_y37 kept_1.length c_y37)), (40, (Value.int .i64 v_1))]) [(7, (Value.slice a_y37 kept_1.length c_y37)), (9, (Value.pointer (some ⟨b76, 0, none⟩))), (10, (Value.pointer (some ⟨b106, 0, none⟩)))] (by repeat (first | with_reducible exact Out.refl _ _ | refine Out.upd ?_ rfl | refine Out.updL ?_ rfl | refine Out.mix' ?_ rfl | exact Out.refl _ _)) rfl ⟨rfl, rfl, rfl, trivial⟩ fun ξ178 => ?_
             replace hm := jn_elim hm; obtain ⟨k183, hk184, hm⟩ := hm
             refine Wp_seqJ [4, 6, 94, 95, 96, 97, 98, 99, 100, 101, 102, 103, 104, 105, 106] (fun fr w' => ∃ (v_15 : List (List UInt8)) (v_16 : List XWrite) (v_17 : Int) (v_18 : Bool) (a_y179 : Option Addr) (c_y179 : Nat) (a_y180 : Option Addr) (c_y180 : Nat) (Ebs : Ents), Ebs = [(some b106, Obj.cells [(Value.slice a_y127 v_12.length c_y127), (Value.int .i64 v_13), (Value.int .i64 v_14)].toArray 52), (some b76, Obj.cells [(Value.slice a_y75_records ((script.getD v_1.toNat default).records).length c_y75_records), (Value.bool ((script.getD v_1.toNat default).stop)), (Value.int .u8 (((script.getD v_1.toNat default).left).toNat : Int))].toArray 70), (some b25, Obj.cells [(Value.slice a_y179 v_15.length c_y179), (Value.slice a_y180 v_16.length c_y180), (Value.int .i64 v_17), (Value.bool v_18)].toArray 25)] ∧ fr [] [] ∧ Step (ks [(some b106, Obj.cells [(Value.slice a_y127 v_12.length c_y127), (Value.int .i64 v_13), (Value.int .i64 v_14)].toArray 52), (some b76, Obj.cells [(Value.slice a_y75_records ((script.getD v_1.toNat default).records).length c_y75_records), (Value.bool ((script.getD v_1.toNat default).stop)), (Value.int .u8 (((script.getD v_1.toNat default).left).toNat : Int))].toArray 70), (some b25, Obj.cells [(Value.slice a_y39 v_2.length c_y39), (Value.slice a_y40 v_3.length c_y40), (Value.int .i64 v_4), (Value.bool v_5)].toArray 25)] O) w135 (ks Ebs O) w' ∧ St ⟨w, [], []⟩ O w' Ebs ∧ SlR (rSl rU8) w' (ks Ebs O) a_y179 c_y179 v_15 ∧ SlR rXWrite w' (ks Ebs O) a_y180 c_y180 v_16 ∧ InK .i64 v_17 ∧ k183 v_15 v_16 v_17 v_18 = some x) ?_ ?_
             ·
              rintro ρ190 w186 ⟨v_15, v_16, v_17, v_18, a_y179, c_y179, a_y180, c_y180, Ebs, hEbs, hfr189, hst188, hs187, f_y179, f_y180, r_y181, hm⟩
              replace hm := jnE4 hk184 hm
              subst hEbs; rw [hfr189.eq]; clear hfr189
              replace f_script := f_script.step hst188; replace f_y37 := f_y37.step hst188; replace f_y39 := f_y39.step hst188; replace f_y40 := f_y40.step hst188; replace f_y75_records := f_y75_records.step hst188; replace f_y127 := f_y127.step hst188; replace ch53 := ch53.trans hst188; replace ch69 := ch69.trans hst188; replace ch140 := ch140.trans hst188; clear hst188 hs136
              refine Wp_seq ?_
              clear f_y39 f_y40
              refine Wp_region ?_
              refine Rg_op rfl (op_loadA (cs := [(Value.slice a_y127 v_12.length c_y127), (Value.int .i64 v_13), (Value.int .i64 v_14)]) (vs := [(Value.slice a_y127 v_12.length c_y127), (Value.int .i64 v_13), (Value.int .i64 v_14)]) (i := 0) ty52 hs187 rfl rfl rfl rfl ?_)
              refine Rg_op rfl (op_loadA (cs := [(Value.slice a_y179 v_15.length c_y179), (Value.slice a_y180 v_16.length c_y180), (Value.int .i64 v_17), (Value.bool v_18)]) (vs := [(Value.slice a_y179 v_15.length c_y179), (Value.slice a_y180 v_16.length c_y180), (Value.int .i64 v_17), (Value.bool v_18)]) (i := 2) ty25 hs187 rfl rfl rfl rfl ?_)
              replace hm := bd hm; obtain ⟨sync_1, hv191, hm⟩ := hm
              refine Rg_op rfl (op_call Try.call39 (c39_journal_Sync (l := (⟨v_12, v_13, v_14⟩ : XJournal)) (d := (⟨v_15, v_16, v_17, v_18⟩ : XDisk)) hs187.ltw f_y127 r_y128 r_y129 f_y179 f_y180 r_y181 hv191) rfl ?_)
              rintro v192 w193 ⟨hx194, h195⟩
              have hs196 := hs187.call hx194
              have p197 := Step.ext (O := ks [(some b106, Obj.cells [(Value.slice a_y127 v_12.length c_y127), (Value.int .i64 v_13), (Value.int .i64 v_14)].toArray 52), (some b76, Obj.cells [(Value.slice a_y75_records ((script.getD v_1.toNat default).records).length c_y75_records), (Value.bool ((script.getD v_1.toNat default).stop)), (Value.int .u8 (((script.getD v_1.toNat default).left).toNat : Int))].toArray 70), (some b25, Obj.cells [(Value.slice a_y179 v_15.length c_y179), (Value.slice a_y180 v_16.length c_y180), (Value.int .i64 v_17), (Value.bool v_18)].toArray 25)] O) hx194
              clear hx194
              replace f_script := f_script.step p197; replace f_y37 := f_y37.step p197; replace f_y75_records := f_y75_records.step p197; replace f_y127 := f_y127.step p197; replace f_y179 := f_y179.step p197; replace f_y180 := f_y180.step p197; replace ch53 := ch53.trans p197; replace ch69 := ch69.trans p197; replace ch140 := ch140.trans p197; clear p197 hs187
              obtain ⟨v198, v199, v200, rfl, h201, h202, h203⟩ := h195
              obtain ⟨_, rfl, ⟨_, _, rfl, ⟨a_y204_records, c_y204_records, rfl, f_y204_records⟩, ⟨_, _, rfl, ⟨rfl, r_y204_many⟩, ⟨rfl, r_y204_synced⟩⟩⟩⟩ := h201
              obtain ⟨_, rfl, ⟨_, _, rfl, ⟨a_y205_sectors, c_y205_sectors, rfl, f_y205_sectors⟩, ⟨_, _, rfl, ⟨a_y205_pending, c_y205_pending, rfl, f_y205_pending⟩, ⟨_, _, rfl, ⟨rfl, r_y205_left⟩, rfl⟩⟩⟩⟩ := h202
              obtain ⟨rfl, r_y206⟩ := h203
              refine Rg_op rfl (op_move (v := (Value.tuple [(Value.agg [(Value.slice a_y204_records sync_1.1.records.length c_y204_records), (Value.int .i64 sync_1.1.many), (Value.int .i64 sync_1.1.synced)].toArray), (Value.agg [(Value.slice a_y205_sectors sync_1.2.1.sectors.length c_y205_sectors), (Value.slice a_y205_pending sync_1.2.1.pending.length c_y205_pending), (Value.int .i64 sync_1.2.1.left), (Value.bool sync_1.2.1.stopped)].toArray), (Value.int .i64 sync_1.2.2)].toArray)) rfl ?_)
              refine Rg_op rfl (op_extract (v := (Value.agg [(Value.slice a_y204_records sync_1.1.records.length c_y204_records), (Value.int .i64 sync_1.1.many), (Value.int .i64 sync_1.1.synced)].toArray)) rfl rfl ?_)
              refine Rg_op rfl (op_extract (v := (Value.agg [(Value.slice a_y205_sectors sync_1.2.1.sectors.length c_y205_sectors), (Value.slice a_y205_pending sync_1.2.1.pending.length c_y205_pending), (Value.int .i64 sync_1.2.1.left), (Value.bool sync_1.2.1.stopped)].toArray)) rfl rfl ?_)
              refine Rg_op rfl (op_extract (v := (Value.int .i64 sync_1.2.2)) rfl rfl ?_)
              refine Rg_op rfl (op_alloc ty52 hs196 ?_)
              intro b207 w208 _ p209 hs210
              replace f_script := f_script.step p209; replace f_y37 := f_y37.step p209; replace f_y75_records := f_y75_records.step p209; replace f_y127 := f_y127.step p209; replace f_y179 := f_y179.step p209; replace f_y180 := f_y180.step p209; replace f_y204_records := f_y204_records.step p209; replace f_y205_sectors := f_y205_sectors.step p209; replace f_y205_pending := f_y205_pending.step p209; replace ch53 := ch53.trans p209; replace ch69 := ch69.trans p209; replace ch140 := ch140.trans p209; clear p209 hs196
              refine Rg_op rfl (op_alloc ty25 hs210 ?_)
              intro b212 w213 _ p214 hs215
              replace f_script := f_script.step p214; replace f_y37 := f_y37.step p214; replace f_y75_records := f_y75_records.step p214; replace f_y127 := f_y127.step p214; replace f_y179 := f_y179.step p214; replace f_y180 := f_y180.step p214; replace f_y204_records := f_y204_records.step p214; replace f_y205_sectors := f_y205_sectors.step p214; replace f_y205_pending := f_y205_pending.step p214; replace ch53 := ch53.trans p214; replace ch69 := ch69.trans p214; replace ch140 := ch140.trans p214; clear p214 hs210
              refine Rg_op_ (op_store (cs := [(Value.slice none 0 0), (Value.int .i64 0), (Value.int .i64 0)]) (vs := [(Value.slice a_y204_records sync_1.1.records.length c_y204_records), (Value.int .i64 sync_1.1.many), (Value.int .i64 sync_1.1.synced)]) (cs' := [(Value.slice a_y204_records sync_1.1.records.length c_y204_records), (Value.int .i64 sync_1.1.many), (Value.int .i64 sync_1.1.synced)]) (bs' := [(some b212, Obj.cells [(Value.slice none 0 0), (Value.slice none 0 0), (Value.int .i64 0), (Value.bool false)].toArray 25), (some b207, Obj.cells [(Value.slice a_y204_records sync_1.1.records.length c_y204_records), (Value.int .i64 sync_1.1.many), (Value.int .i64 sync_1.1.synced)].toArray 52), (some b106, Obj.cells [(Value.slice a_y127 v_12.length c_y127), (Value.int .i64 v_13), (Value.int .i64 v_14)].toArray 52), (some b76, Obj.cells [(Value.slice a_y75_records ((script.getD v_1.toNat default).records).length c_y75_records), (Value.bool ((script.getD v_1.toNat default).stop)), (Value.int .u8 (((script.getD v_1.toNat default).left).toNat : Int))].toArray 70), (some b25, Obj.cells [(Value.slice a_y179 v_15.length c_y179), (Value.slice a_y180 v_16.length c_y180), (Value.int .i64 v_17), (Value.bool v_18)].toArray 25)]) (i := 1) ty52 hs215 rfl rfl rfl rfl rfl (le_lit rfl) rfl rfl rfl ?_)
              intro w217 p218 hs219
              replace f_script := f_script.step p218; replace f_y37 := f_y37.step p218; replace f_y75_records := f_y75_records.step p218; replace f_y127 := f_y127.step p218; replace f_y179 := f_y179.step p218; replace f_y180 := f_y180.step p218; replace f_y204_records := f_y204_records.step p218; replace f_y205_sectors := f_y205_sectors.step p218; replace f_y205_pending := f_y205_pending.step p218; replace ch53 := ch53.trans p218; replace ch69 := ch69.trans p218; replace ch140 := ch140.trans p218; clear p218 hs215
              refine Rg_op_ (op_store (cs := [(Value.slice none 0 0), (Value.slice none 0 0), (Value.int .i64 0), (Value.bool false)]) (vs := [(Value.slice a_y205_sectors sync_1.2.1.sectors.length c_y205_sectors), (Value.slice a_y205_pending sync_1.2.1.pending.length c_y205_pending), (Value.int .i64 sync_1.2.1.left), (Value.bool sync_1.2.1.stopped)]) (cs' := [(Value.slice a_y205_sectors sync_1.2.1.sectors.length c_y205_sectors), (Value.slice a_y205_pending sync_1.2.1.pending.length c_y205_pending), (Value.int .i64 sync_1.2.1.left), (Value.bool sync_1.2.1.stopped)]) (bs' := [(some b212, Obj.cells [(Value.slice a_y205_sectors sync_1.2.1.sectors.length c_y205_sectors), (Value.slice a_y205_pending sync_1.2.1.pending.length c_y205_pending), (Value.int .i64 sync_1.2.1.left), (Value.bool sync_1.2.1.stopped)].toArray 25), (some b207, Obj.cells [(Value.slice a_y204_records sync_1.1.records.length c_y204_records), (Value.int .i64 sync_1.1.many), (Value.int .i64 sync_1.1.synced)].toArray 52), (some b106, Obj.cells [(Value.slice a_y127 v_12.length c_y127), (Value.int .i64 v_13), (Value.int .i64 v_14)].toArray 52), (some b76, Obj.cells [(Value.slice a_y75_records ((script.getD v_1.toNat default).records).length c_y75_records), (Value.bool ((script.getD v_1.toNat default).stop)), (Value.int .u8 (((script.getD v_1.toNat default).left).toNat : Int))].toArray 70), (some b25, Obj.cells [(Value.slice a_y179 v_15.length c_y179), (Value.slice a_y180 v_16.length c_y180), (Value.int .i64 v_17), (Value.bool v_18)].toArray 25)]) (i := 0) ty25 hs219 rfl rfl rfl rfl rfl (le_lit rfl) rfl rfl rfl ?_)
              intro w220 p221 hs222
              replace f_script := f_script.step p221; replace f_y37 := f_y37.step p221; replace f_y75_records := f_y75_records.step p221; replace f_y127 := f_y127.step p221; replace f_y179 := f_y179.step p221; replace f_y180 := f_y180.step p221; replace f_y204_records := f_y204_records.step p221; replace f_y205_sectors := f_y205_sectors.step p221; replace f_y205_pending := f_y205_pending.step p221; replace ch53 := ch53.trans p221; replace ch69 := ch69.trans p221; replace ch140 := ch140.trans p221; clear p221 hs219
              refine Rg_op rfl (op_assign (v := (Value.int .i64 sync_1.2.2)) rfl ?_)
              refine Rg_nil ?_
              refine Wp_seq ?_
              refine Wp_seq ?_
              refine Wp_region ?_
              refine Rg_op rfl (op_move (v := (Value.int .i64 sync_1.2.2)) rfl ?_)
              refine Rg_nil ?_
              refine Wp_block ?_
              refine Wp_seq ?_
              refine Wp_region ?_
              refine Rg_op rfl (op_eql rfl rfl ?_)
              refine Rg_op rfl (op_assign (v := (Value.bool (decide (sync_1.2.2 = 0)))) rfl ?_)
              refine Rg_nil ?_
              refine Wp_cond rfl (fun hc223 => ?_) (fun hc223 => ?_)
              ·
               replace hm := bif_t hm hc223
               refine Wp_seq ?_
               refine Wp_reset2 [4, 6, 7, 9, 10, 11, 13, 14, 15, 16, 17, 18, 19, 20, 42, 43, 44, 45, 46, 47, 48, 49, 50, 51, 52, 53, 54, 55, 56, 57, 58, 59, 60, 61, 62, 63, 64, 65, 66, 67, 68, 69, 70, 71, 72, 73, 74, 75, 76, 77, 78, 79, 80, 81, 82, 83, 84, 85, 86, 87, 88, 89, 90, 91, 92, 93, 94, 95, 96, 97, 98, 99, 100, 101, 102, 103, 104, 105, 106, 107, 108, 109, 110, 111, 112, 113, 114, 115, 116, 117, 118, 119, 120, 121, 122, 123, 124, 125, 126, 127, 128, 129, 130, 131, 132, 133, 134, 135, 136, 137, 138, 139, 140, 141, 142, 143, 144, 145, 146, 147, 148, 149, 150, 151, 152, 153, 154, 155, 156, 157, 158, 159, 160, 161, 162, 163, 164, 165, 166, 167, 168, 169, 170, 171, 172, 173, 174, 175, 176, 177, 178, 179, 180] [] (updL (mix [4, 6, 7, 9, 10, 11, 13, 14, 15, 16, 17, 18, 19, 20, 40, 41, 42, 43, 44, 45, 46, 47, 48, 49, 50, 51, 52, 53, 54, 55, 56, 57, 58, 59, 60, 61, 62, 63, 64, 65, 66, 67, 68, 69, 70, 71, 72, 73, 74, 75, 76, 77, 78, 79, 80, 81, 82, 83, 84, 85, 86, 87, 88, 89, 90, 91, 92, 93, 94, 95, 96, 97, 98, 99, 100, 101, 102, 103, 104, 105, 106, 107, 108, 109, 110, 111, 112, 113, 114, 115, 116, 117, 118, 119, 120, 121, 122, 123, 124, 125, 126, 127, 128, 129, 130, 131, 132, 133, 134, 135, 136, 137, 138, 139, 140, 141, 142, 143, 144, 145, 146, 147, 148, 149, 150, 151, 152, 153, 154, 155, 156, 157, 158, 159, 160, 161, 162, 163, 164, 165, 166, 167, 168, 169, 170, 171, 172, 173, 174, 175, 176, 177, 178, 179, 180, 181] [] ξ55 (updL ⟨ξ43, []⟩ [(5, (Value.pointer (some ⟨b25, 0, none⟩))), (7, (Value.slice none 0 0)), (38, (Value.slice a_script script.length c_script)), (39, (Value.int .i64 (script.length : Int))), (40, (Value.int .i64 0))])) [(7, (Value.slice a_y37 kept_1.length c_y37)), (40, (Value.int .i64 v_1))]) [(10, (Value.pointer (some ⟨b106, 0, none⟩))), (16, (Value.pointer (some ⟨b207, 0, none⟩))), (17, (Value.pointer (some ⟨b212, 0, none⟩)))] (by repeat (first | with_reducible exact Out.refl _ _ | refine Out.upd ?_ rfl | refine Out.updL ?_ rfl | refine Out.mix' ?_ rfl | exact Out.refl _ _)) rfl ⟨rfl, rfl, rfl, trivial⟩ fun ξ224 => ?_
               replace hm := jn_elim hm; obtain ⟨k226, hk227, hm⟩ := hm
               refine Wp_seqJ [117, 118, 119, 120, 121, 122, 123, 124, 125, 126, 127, 128, 129, 130] (fun fr w' => ∃ (v_19 : Bool) (Ebs : Ents), Ebs = [(some b212, Obj.cells [(Value.slice a_y205_sectors sync_1.2.1.sectors.length c_y205_sectors), (Value.slice a_y205_pending sync_1.2.1.pending.length c_y205_pending), (Value.int .i64 sync_1.2.1.left), (Value.bool sync_1.2.1.stopped)].toArray 25), (some b207, Obj.cells [(Value.slice a_y204_records sync_1.1.records.length c_y204_records), (Value.int .i64 sync_1.1.many), (Value.int .i64 sync_1.1.synced)].toArray 52), (some b106, Obj.cells [(Value.slice a_y127 v_12.length c_y127), (Value.int .i64 v_13), (Value.int .i64 v_14)].toArray 52), (some b76, Obj.cells [(Value.slice a_y75_records ((script.getD v_1.toNat default).records).length c_y75_records), (Value.bool ((script.getD v_1.toNat default).stop)), (Value.int .u8 (((script.getD v_1.toNat default).left).toNat : Int))].toArray 70), (some b25, Obj.cells [(Value.slice a_y179 v_15.length c_y179), (Value.slice a_y180 v_16.length c_y180), (Value.int .i64 v_17), (Value.bool v_18)].toArray 25)] ∧ fr [] [(130, (Value.bool v_19))] ∧ Step (ks [(some b212, Obj.cells [(Value.slice a_y205_sectors sync_1.2.1.sectors.length c_y205_sectors), (Value.slice a_y205_pending sync_1.2.1.pending.length c_y205_pending), (Value.int .i64 sync_1.2.1.left), (Value.bool sync_1.2.1.stopped)].toArray 25), (some b207, Obj.cells [(Value.slice a_y204_records sync_1.1.records.length c_y204_records), (Value.int .i64 sync_1.1.many), (Value.int .i64 sync_1.1.synced)].toArray 52), (some b106, Obj.cells [(Value.slice a_y127 v_12.length c_y127), (Value.int .i64 v_13), (Value.int .i64 v_14)].toArray 52), (some b76, Obj.cells [(Value.slice a_y75_records ((script.getD v_1.toNat default).records).length c_y75_records), (Value.bool ((script.getD v_1.toNat default).stop)), (Value.int .u8 (((script.getD v_1.toNat default).left).toNat : Int))].toArray 70), (some b25, Obj.cells [(Value.slice a_y179 v_15.length c_y179), (Value.slice a_y180 v_16.length c_y180), (Value.int .i64 v_17), (Value.bool v_18)].toArray 25)] O) w220 (ks Ebs O) w' ∧ St ⟨w, [], []⟩ O w' Ebs ∧ k226 v_19 = some x) ?_ ?_
               ·
                rintro ρ233 w229 ⟨v_19, Ebs, hEbs, hfr232, hst231, hs230, hm⟩
                replace hm := jnE1 hk227 hm
                subst hEbs; rw [hfr232.eq]; clear hfr232
                replace f_script := f_script.step hst231; replace f_y37 := f_y37.step hst231; replace f_y75_records := f_y75_records.step hst231; replace f_y127 := f_y127.step hst231; replace f_y179 := f_y179.step hst231; replace f_y180 := f_y180.step hst231; replace f_y204_records := f_y204_records.step hst231; replace f_y205_sectors := f_y205_sectors.step hst231; replace f_y205_pending := f_y205_pending.step hst231; replace ch53 := ch53.trans hst231; replace ch69 := ch69.trans hst231; replace ch140 := ch140.trans hst231; clear hst231 hs222
                refine Wp_cond rfl (fun hc234 => ?_) (fun hc234 => ?_)
                ·
                 replace hm := bif_t hm hc234
                 refine Wp_seq ?_
                 clear f_script f_y37
                 refine Wp_region ?_
                 refine Rg_op rfl (op_assign (v := (Value.bool false)) rfl ?_)
                 refine Rg_nil ?_
                 refine Wp_ret ?_
                 have hz := step_all hs230
                 replace f_y75_records := f_y75_records.step hz; replace f_y127 := f_y127.step hz; replace f_y179 := f_y179.step hz; replace f_y180 := f_y180.step hz; replace f_y204_records := f_y204_records.step hz; replace f_y205_sectors := f_y205_sectors.step hz; replace f_y205_pending := f_y205_pending.step hz
                 refine ⟨_, (show Closes [] _ _ from rfl), [(Value.bool false)], ⟨rfl, trivial⟩, hs230.ext, ?_⟩
                 exact Vr.eq (a := vB) (x := false) rfl (Option.some.inj hm)
                ·
                 replace hm := bif_f hm hc234
                 refine Wp_skip ?_
                 clear f_y37
                 refine Wp_region ?_
                 refine Rg_op rfl (op_fieldAddr ty52 rfl ty22 (by decide) rfl (rfl : _ = (⟨_, 0, none⟩ : Addr)) ?_)
                 refine Rg_op rfl (op_load (cs := [(Value.slice a_y127 v_12.length c_y127), (Value.int .i64 v_13), (Value.int .i64 v_14)]) (i := 2) ty22 hs230 rfl rfl rfl ?_)
                 refine Rg_op rfl (op_assign (v := (Value.slice a_y127 v_12.length c_y127)) rfl ?_)
                 refine Rg_nil ?_
                 refine Wp_region ?_
                 refine Rg_op rfl (op_loadA (cs := [(Value.slice a_y205_sectors sync_1.2.1.sectors.length c_y205_sectors), (Value.slice a_y205_pending sync_1.2.1.pending.length c_y205_pending), (Value.int .i64 sync_1.2.1.left), (Value.bool sync_1.2.1.stopped)]) (vs := [(Value.slice a_y205_sectors sync_1.2.1.sectors.length c_y205_sectors), (Value.slice a_y205_pending sync_1.2.1.pending.length c_y205_pending), (Value.int .i64 sync_1.2.1.left), (Value.bool sync_1.2.1.stopped)]) (i := 0) ty25 hs230 rfl rfl rfl rfl ?_)
                 replace hm := bd hm; obtain ⟨restart_1, hv235, hm⟩ := hm
                 refine Rg_op rfl (op_call Try.call20 (c20_disk_Restart (d := sync_1.2.1) hs230.ltw f_y205_sectors f_y205_pending r_y205_left hv235) rfl ?_)
                 rintro v236 w237 ⟨hx238, h239⟩
                 have hs240 := hs230.call hx238
                 have p241 := Step.ext (O := ks [(some b212, Obj.cells [(Value.slice a_y205_sectors sync_1.2.1.sectors.length c_y205_sectors), (Value.slice a_y205_pending sync_1.2.1.pending.length c_y205_pending), (Value.int .i64 sync_1.2.1.left), (Value.bool sync_1.2.1.stopped)].toArray 25), (some b207, Obj.cells [(Value.slice a_y204_records sync_1.1.records.length c_y204_records), (Value.int .i64 sync_1.1.many), (Value.int .i64 sync_1.1.synced)].toArray 52), (some b106, Obj.cells [(Value.slice a_y127 v_12.length c_y127), (Value.int .i64 v_13), (Value.int .i64 v_14)].toArray 52), (some b76, Obj.cells [(Value.slice a_y75_records ((script.getD v_1.toNat default).records).length c_y75_records), (Value.bool ((script.getD v_1.toNat default).stop)), (Value.int .u8 (((script.getD v_1.toNat default).left).toNat : Int))].toArray 70), (some b25, Obj.cells [(Value.slice a_y179 v_15.length c_y179), (Value.slice a_y180 v_16.length c_y180), (Value.int .i64 v_17), (Value.bool v_18)].toArray 25)] O) hx238
                 clear hx238
                 replace f_script := f_script.step p241; replace f_y75_records := f_y75_records.step p241; replace f_y127 := f_y127.step p241; replace f_y179 := f_y179.step p241; replace f_y180 := f_y180.step p241; replace f_y204_records := f_y204_records.step p241; replace f_y205_sectors := f_y205_sectors.step p241; replace f_y205_pending := f_y205_pending.step p241; replace ch53 := ch53.trans p241; replace ch69 := ch69.trans p241; replace ch140 := ch140.trans p241; clear p241 hs230
                 obtain ⟨_, rfl, ⟨_, _, rfl, ⟨a_y242_sectors, c_y242_sectors, rfl, f_y242_sectors⟩, ⟨_, _, rfl, ⟨a_y242_pending, c_y242_pending, rfl, f_y242_pending⟩, ⟨_, _, rfl, ⟨rfl, r_y242_left⟩, rfl⟩⟩⟩⟩ := h239
                 refine Rg_op_ (op_store (cs := [(Value.slice a_y179 v_15.length c_y179), (Value.slice a_y180 v_16.length c_y180), (Value.int .i64 v_17), (Value.bool v_18)]) (vs := [(Value.slice a_y242_sectors restart_1.sectors.length c_y242_sectors), (Value.slice a_y242_pending restart_1.pending.length c_y242_pending), (Value.int .i64 restart_1.left), (Value.bool restart_1.stopped)]) (cs' := [(Value.slice a_y242_sectors restart_1.sectors.length c_y242_sectors), (Value.slice a_y242_pending restart_1.pending.length c_y242_pending), (Value.int .i64 restart_1.left), (Value.bool restart_1.stopped)]) (bs' := [(some b212, Obj.cells [(Value.slice a_y205_sectors sync_1.2.1.sectors.length c_y205_sectors), (Value.slice a_y205_pending sync_1.2.1.pending.length c_y205_pending), (Value.int .i64 sync_1.2.1.left), (Value.bool sync_1.2.1.stopped)].toArray 25), (some b207, Obj.cells [(Value.slice a_y204_records sync_1.1.records.length c_y204_records), (Value.int .i64 sync_1.1.many), (Value.int .i64 sync_1.1.synced)].toArray 52), (some b106, Obj.cells [(Value.slice a_y127 v_12.length c_y127), (Value.int .i64 v_13), (Value.int .i64 v_14)].toArray 52), (some b76, Obj.cells [(Value.slice a_y75_records ((script.getD v_1.toNat default).records).length c_y75_records), (Value.bool ((script.getD v_1.toNat default).stop)), (Value.int .u8 (((script.getD v_1.toNat default).left).toNat : Int))].toArray 70), (some b25, Obj.cells [(Value.slice a_y242_sectors restart_1.sectors.length c_y242_sectors), (Value.slice a_y242_pending restart_1.pending.length c_y242_pending), (Value.int .i64 restart_1.left), (Value.bool restart_1.stopped)].toArray 25)]) (i := 4) ty25 hs240 rfl rfl rfl rfl rfl (le_lit rfl) rfl rfl rfl ?_)
                 intro w243 p244 hs245
                 replace f_script := f_script.step p244; replace f_y75_records := f_y75_records.step p244; replace f_y127 := f_y127.step p244; replace f_y179 := f_y179.step p244; replace f_y180 := f_y180.step p244; replace f_y204_records := f_y204_records.step p244; replace f_y205_sectors := f_y205_sectors.step p244; replace f_y205_pending := f_y205_pending.step p244; replace f_y242_sectors := f_y242_sectors.step p244; replace f_y242_pending := f_y242_pending.step p244; replace ch53 := ch53.trans p244; replace ch69 := ch69.trans p244; replace ch140 := ch140.trans p244; clear p244 hs240
                 refine Rg_nil ?_
                 have hs246 := hs245.drop 3
                 replace f_script := f_script.step (hs245.dropS 3)
                 replace f_y75_records := f_y75_records.step (hs245.dropS 3)
                 replace f_y127 := f_y127.step (hs245.dropS 3)
                 replace f_y179 := f_y179.step (hs245.dropS 3)
                 replace f_y180 := f_y180.step (hs245.dropS 3)
                 replace f_y204_records := f_y204_records.step (hs245.dropS 3)
                 replace f_y205_sectors := f_y205_sectors.step (hs245.dropS 3)
                 replace f_y205_pending := f_y205_pending.step (hs245.dropS 3)
                 replace f_y242_sectors := f_y242_sectors.step (hs245.dropS 3)
                 replace f_y242_pending := f_y242_pending.step (hs245.dropS 3)
                 replace ch53 := ch53.trans (hs245.dropS 3)
                 replace ch69 := ch69.trans (hs245.dropS 3)
                 replace ch140 := ch140.trans (hs245.dropS 3); clear hs245
                 have hs247 := hs246.drop 2
                 replace f_script := f_script.step (hs246.dropS 2)
                 replace f_y75_records := f_y75_records.step (hs246.dropS 2)
                 replace f_y127 := f_y127.step (hs246.dropS 2)
                 replace f_y179 := f_y179.step (hs246.dropS 2)
                 replace f_y180 := f_y180.step (hs246.dropS 2)
                 replace f_y204_records := f_y204_records.step (hs246.dropS 2)
                 replace f_y205_sectors := f_y205_sectors.step (hs246.dropS 2)
                 replace f_y205_pending := f_y205_pending.step (hs246.dropS 2)
                 replace f_y242_sectors := f_y242_sectors.step (hs246.dropS 2)
                 replace f_y242_pending := f_y242_pending.step (hs246.dropS 2)
                 replace ch53 := ch53.trans (hs246.dropS 2)
                 replace ch69 := ch69.trans (hs246.dropS 2)
                 replace ch140 := ch140.trans (hs246.dropS 2); clear hs246
                 have hs248 := hs247.drop 1
                 replace f_script := f_script.step (hs247.dropS 1)
                 replace f_y75_records := f_y75_records.step (hs247.dropS 1)
                 replace f_y127 := f_y127.step (hs247.dropS 1)
                 replace f_y179 := f_y179.step (hs247.dropS 1)
                 replace f_y180 := f_y180.step (hs247.dropS 1)
                 replace f_y204_records := f_y204_records.step (hs247.dropS 1)
                 replace f_y205_sectors := f_y205_sectors.step (hs247.dropS 1)
                 replace f_y205_pending := f_y205_pending.step (hs247.dropS 1)
                 replace f_y242_sectors := f_y242_sectors.step (hs247.dropS 1)
                 replace f_y242_pending := f_y242_pending.step (hs247.dropS 1)
                 replace ch53 := ch53.trans (hs247.dropS 1)
                 replace ch69 := ch69.trans (hs247.dropS 1)
                 replace ch140 := ch140.trans (hs247.dropS 1); clear hs247
                 have hs249 := hs248.drop 0
                 replace f_script := f_script.step (hs248.dropS 0)
                 replace f_y75_records := f_y75_records.step (hs248.dropS 0)
                 replace f_y127 := f_y127.step (hs248.dropS 0)
                 replace f_y179 := f_y179.step (hs248.dropS 0)
                 replace f_y180 := f_y180.step (hs248.dropS 0)
                 replace f_y204_records := f_y204_records.step (hs248.dropS 0)
                 replace f_y205_sectors := f_y205_sectors.step (hs248.dropS 0)
                 replace f_y205_pending := f_y205_pending.step (hs248.dropS 0)
                 replace f_y242_sectors := f_y242_sectors.step (hs248.dropS 0)
                 replace f_y242_pending := f_y242_pending.step (hs248.dropS 0)
                 replace ch53 := ch53.trans (hs248.dropS 0)
                 replace ch69 := ch69.trans (hs248.dropS 0)
                 replace ch140 := ch140.trans (hs248.dropS 0); clear hs248
                 exact hK63 _ _ ⟨v_12, restart_1.sectors, restart_1.pending, restart_1.left, restart_1.stopped, a_y127, c_y127, a_y242_sectors, c_y242_sectors, a_y242_pending, c_y242_pending, _, rfl, ⟨(by repeat (first | with_reducible exact Out.refl _ _ | refine Out.upd ?_ rfl | refine Out.updL ?_ rfl | refine Out.mix' ?_ rfl | exact Out.refl _ _)), rfl, rfl, trivial⟩, ch69, hs249, f_y127, f_y242_sectors, f_y242_pending, r_y242_left, hm⟩
               ·
                intro K228 hK228
                have ch250 := Step.refl (ks [(some b212, Obj.cells [(Value.slice a_y205_sectors sync_1.2.1.sectors.length c_y205_sectors), (Value.slice a_y205_pending sync_1.2.1.pending.length c_y205_pending), (Value.int .i64 sync_1.2.1.left), (Value.bool sync_1.2.1.stopped)].toArray 25), (some b207, Obj.cells [(Value.slice a_y204_records sync_1.1.records.length c_y204_records), (Value.int .i64 sync_1.1.many), (Value.int .i64 sync_1.1.synced)].toArray 52), (some b106, Obj.cells [(Value.slice a_y127 v_12.length c_y127), (Value.int .i64 v_13), (Value.int .i64 v_14)].toArray 52), (some b76, Obj.cells [(Value.slice a_y75_records ((script.getD v_1.toNat default).records).length c_y75_records), (Value.bool ((script.getD v_1.toNat default).stop)), (Value.int .u8 (((script.getD v_1.toNat default).left).toNat : Int))].toArray 70), (some b25, Obj.cells [(Value.slice a_y179 v_15.length c_y179), (Value.slice a_y180 v_16.length c_y180), (Value.int .i64 v_17), (Value.bool v_18)].toArray 25)] O) w220
                clear f_y37
                refine Wp_region ?_
                refine Rg_op rfl (op_fieldAddr ty52 rfl ty3 (by decide) rfl (rfl : _ = (⟨_, 2, none⟩ : Addr)) ?_)
                refine Rg_op rfl (op_load (cs := [(Value.slice a_y204_records sync_1.1.records.length c_y204_records), (Value.int .i64 sync_1.1.many), (Value.int .i64 sync_1.1.synced)]) (i := 1) ty3 hs222 rfl rfl rfl ?_)
                refine Rg_op rfl (op_fieldAddr ty52 rfl ty22 (by decide) rfl (rfl : _ = (⟨_, 0, none⟩ : Addr)) ?_)
                refine Rg_op rfl (op_load (cs := [(Value.slice a_y127 v_12.length c_y127), (Value.int .i64 v_13), (Value.int .i64 v_14)]) (i := 2) ty22 hs222 rfl rfl rfl ?_)
                refine Rg_op rfl (op_len Try.underlying22 rfl ?_)
                have rl251 := inK_len f_y127
                refine Rg_op rfl (op_neq rfl rfl ?_)
                refine Rg_op rfl (op_move (v := (Value.bool (decide (sync_1.1.synced ≠ (v_12.length : Int))))) rfl ?_)
                refine Rg_case (fun hg252 => ?_) (fun hg252 => ?_)
                ·
                 replace hm := bif_t hm hg252
                 iterate 6 refine Rg_opx rfl (asB_ne rfl rfl) rfl ?_
                 refine Rg_op rfl (op_pick_t (v := (Value.bool true)) rfl rfl ?_)
                 refine Rg_nil ?_
                 exact hK228 _ _ ⟨true, _, rfl, ⟨(by repeat (first | with_reducible exact Out.refl _ _ | refine Out.upd ?_ rfl | refine Out.updL ?_ rfl | refine Out.mix' ?_ rfl | exact Out.refl _ _)), rfl, rfl, trivial⟩, ch250, hs222, hm⟩
                ·
                 replace hm := bif_f hm hg252
                 refine Rg_opg rfl rfl rfl (op_fieldAddr ty52 rfl ty22 (by decide) rfl (rfl : _ = (⟨_, 0, none⟩ : Addr)) ?_)
                 refine Rg_opg rfl rfl rfl (op_load (cs := [(Value.slice a_y204_records sync_1.1.records.length c_y204_records), (Value.int .i64 sync_1.1.many), (Value.int .i64 sync_1.1.synced)]) (i := 1) ty22 hs222 rfl rfl rfl ?_)
                 refine Rg_opg rfl rfl rfl (op_fieldAddr ty52 rfl ty22 (by decide) rfl (rfl : _ = (⟨_, 0, none⟩ : Addr)) ?_)
                 refine Rg_opg rfl rfl rfl (op_load (cs := [(Value.slice a_y127 v_12.length c_y127), (Value.int .i64 v_13), (Value.int .i64 v_14)]) (i := 2) ty22 hs222 rfl rfl rfl ?_)
                 replace hm := bd hm; obtain ⟨samerecords_1, hv253, hm⟩ := hm
                 refine Rg_opg rfl rfl rfl (op_call Try.call37 (c37_overflightref45_SameRecords (a := sync_1.1.records) (b := v_12) hs222.ltw f_y204_records f_y127 hv253) rfl ?_)
                 rintro v254 w255 ⟨hx256, h257⟩
                 have hs258 := hs222.call hx256
                 have p259 := Step.ext (O := ks [(some b212, Obj.cells [(Value.slice a_y205_sectors sync_1.2.1.sectors.length c_y205_sectors), (Value.slice a_y205_pending sync_1.2.1.pending.length c_y205_pending), (Value.int .i64 sync_1.2.1.left), (Value.bool sync_1.2.1.stopped)].toArray 25), (some b207, Obj.cells [(Value.slice a_y204_records sync_1.1.records.length c_y204_records), (Value.int .i64 sync_1.1.many), (Value.int .i64 sync_1.1.synced)].toArray 52), (some b106, Obj.cells [(Value.slice a_y127 v_12.length c_y127), (Value.int .i64 v_13), (Value.int .i64 v_14)].toArray 52), (some b76, Obj.cells [(Value.slice a_y75_records ((script.getD v_1.toNat default).records).length c_y75_records), (Value.bool ((script.getD v_1.toNat default).stop)), (Value.int .u8 (((script.getD v_1.toNat default).left).toNat : Int))].toArray 70), (some b25, Obj.cells [(Value.slice a_y179 v_15.length c_y179), (Value.slice a_y180 v_16.length c_y180), (Value.int .i64 v_17), (Value.bool v_18)].toArray 25)] O) hx256
                 clear hx256
                 replace f_script := f_script.step p259; replace f_y75_records := f_y75_records.step p259; replace f_y127 := f_y127.step p259; replace f_y179 := f_y179.step p259; replace f_y180 := f_y180.step p259; replace f_y204_records := f_y204_records.step p259; replace f_y205_sectors := f_y205_sectors.step p259; replace f_y205_pending := f_y205_pending.step p259; replace ch53 := ch53.trans p259; replace ch69 := ch69.trans p259; replace ch140 := ch140.trans p259; replace ch250 := ch250.trans p259; clear p259 hs222
                 obtain rfl := h257
                 refine Rg_opg rfl rfl rfl (op_not rfl ?_)
                 refine Rg_op rfl (op_pick_f (v := (Value.bool (!samerecords_1))) rfl rfl ?_)
                 refine Rg_nil ?_
                 exact hK228 _ _ ⟨(!samerecords_1), _, rfl, ⟨(by repeat (first | with_reducible exact Out.refl _ _ | refine Out.upd ?_ rfl | refine Out.updL ?_ rfl | refine Out.mix' ?_ rfl | exact Out.refl _ _)), rfl, rfl, trivial⟩, ch250, hs258, hm⟩
              ·
               replace hm := bif_f hm hc223
               refine Wp_seq ?_
               refine Wp_region ?_
               refine Rg_op rfl (op_eql rfl rfl ?_)
               refine Rg_op rfl (op_assign (v := (Value.bool (decide (sync_1.2.2 = 440)))) rfl ?_)
               refine Rg_nil ?_
               refine Wp_cond rfl (fun hc261 => ?_) (fun hc261 => ?_)
               ·
                replace hm := bif_t hm hc261
                refine Wp_seq ?_
                refine Wp_region ?_
                refine Rg_op rfl (op_loadA (cs := [(Value.slice a_y205_sectors sync_1.2.1.sectors.length c_y205_sectors), (Value.slice a_y205_pending sync_1.2.1.pending.length c_y205_pending), (Value.int .i64 sync_1.2.1.left), (Value.bool sync_1.2.1.stopped)]) (vs := [(Value.slice a_y205_sectors sync_1.2.1.sectors.length c_y205_sectors), (Value.slice a_y205_pending sync_1.2.1.pending.length c_y205_pending), (Value.int .i64 sync_1.2.1.left), (Value.bool sync_1.2.1.stopped)]) (i := 0) ty25 hs222 rfl rfl rfl rfl ?_)
                replace hm := bd hm; obtain ⟨restart_2, hv262, hm⟩ := hm
                refine Rg_op rfl (op_call Try.call20 (c20_disk_Restart (d := sync_1.2.1) hs222.ltw f_y205_sectors f_y205_pending r_y205_left hv262) rfl ?_)
                rintro v263 w264 ⟨hx265, h266⟩
                have hs267 := hs222.call hx265
                have p268 := Step.ext (O := ks [(some b212, Obj.cells [(Value.slice a_y205_sectors sync_1.2.1.sectors.length c_y205_sectors), (Value.slice a_y205_pending sync_1.2.1.pending.length c_y205_pending), (Value.int .i64 sync_1.2.1.left), (Value.bool sync_1.2.1.stopped)].toArray 25), (some b207, Obj.cells [(Value.slice a_y204_records sync_1.1.records.length c_y204_records), (Value.int .i64 sync_1.1.many), (Value.int .i64 sync_1.1.synced)].toArray 52), (some b106, Obj.cells [(Value.slice a_y127 v_12.length c_y127), (Value.int .i64 v_13), (Value.int .i64 v_14)].toArray 52), (some b76, Obj.cells [(Value.slice a_y75_records ((script.getD v_1.toNat default).records).length c_y75_records), (Value.bool ((script.getD v_1.toNat default).stop)), (Value.int .u8 (((script.getD v_1.toNat default).left).toNat : Int))].toArray 70), (some b25, Obj.cells [(Value.slice a_y179 v_15.length c_y179), (Value.slice a_y180 v_16.length c_y180), (Value.int .i64 v_17), (Value.bool v_18)].toArray 25)] O) hx265
                clear hx265
                replace f_script := f_script.step p268; replace f_y37 := f_y37.step p268; replace f_y75_records := f_y75_records.step p268; replace f_y127 := f_y127.step p268; replace f_y179 := f_y179.step p268; replace f_y180 := f_y180.step p268; replace f_y204_records := f_y204_records.step p268; replace f_y205_sectors := f_y205_sectors.step p268; replace f_y205_pending := f_y205_pending.step p268; replace ch53 := ch53.trans p268; replace ch69 := ch69.trans p268; replace ch140 := ch140.trans p268; clear p268 hs222
                obtain ⟨_, rfl, ⟨_, _, rfl, ⟨a_y269_sectors, c_y269_sectors, rfl, f_y269_sectors⟩, ⟨_, _, rfl, ⟨a_y269_pending, c_y269_pending, rfl, f_y269_pending⟩, ⟨_, _, rfl, ⟨rfl, r_y269_left⟩, rfl⟩⟩⟩⟩ := h266
                replace hm := bd hm; obtain ⟨open_2, hv270, hm⟩ := hm
                refine Rg_op rfl (op_call Try.call38 (c38_journal_Open (d := restart_2) hs267.ltw f_y269_sectors f_y269_pending r_y269_left hv270) rfl ?_)
                rintro v271 w272 ⟨hx273, h274⟩
                have hs275 := hs267.call hx273
                have p276 := Step.ext (O := ks [(some b212, Obj.cells [(Value.slice a_y205_sectors sync_1.2.1.sectors.length c_y205_sectors), (Value.slice a_y205_pending sync_1.2.1.pending.length c_y205_pending), (Value.int .i64 sync_1.2.1.left), (Value.bool sync_1.2.1.stopped)].toArray 25), (some b207, Obj.cells [(Value.slice a_y204_records sync_1.1.records.length c_y204_records), (Value.int .i64 sync_1.1.many), (Value.int .i64 sync_1.1.synced)].toArray 52), (some b106, Obj.cells [(Value.slice a_y127 v_12.length c_y127), (Value.int .i64 v_13), (Value.int .i64 v_14)].toArray 52), (some b76, Obj.cells [(Value.slice a_y75_records ((script.getD v_1.toNat default).records).length c_y75_records), (Value.bool ((script.getD v_1.toNat default).stop)), (Value.int .u8 (((script.getD v_1.toNat default).left).toNat : Int))].toArray 70), (some b25, Obj.cells [(Value.slice a_y179 v_15.length c_y179), (Value.slice a_y180 v_16.length c_y180), (Value.int .i64 v_17), (Value.bool v_18)].toArray 25)] O) hx273
                clear hx273
                replace f_script := f_script.step p276; replace f_y37 := f_y37.step p276; replace f_y75_records := f_y75_records.step p276; replace f_y127 := f_y127.step p276; replace f_y179 := f_y179.step p276; replace f_y180 := f_y180.step p276; replace f_y204_records := f_y204_records.step p276; replace f_y205_sectors := f_y205_sectors.step p276; replace f_y205_pending := f_y205_pending.step p276; replace f_y269_sectors := f_y269_sectors.step p276; replace f_y269_pending := f_y269_pending.step p276; replace ch53 := ch53.trans p276; replace ch69 := ch69.trans p276; replace ch140 := ch140.trans p276; clear p276 hs267
                obtain ⟨v277, v278, rfl, h279, h280⟩ := h274
                obtain ⟨_, rfl, ⟨_, _, rfl, ⟨a_y281_records, c_y281_records, rfl, f_y281_records⟩, ⟨_, _, rfl, ⟨rfl, r_y281_many⟩, ⟨rfl, r_y281_synced⟩⟩⟩⟩ := h279
                obtain ⟨rfl, r_y282⟩ := h280
                refine Rg_op rfl (op_move (v := (Value.tuple [(Value.agg [(Value.slice a_y281_records open_2.1.records.length c_y281_records), (Value.int .i64 open_2.1.many), (Value.int .i64 open_2.1.synced)].toArray), (Value.int .i64 open_2.2)].toArray)) rfl ?_)
                refine Rg_op rfl (op_extract (v := (Value.agg [(Value.slice a_y281_records open_2.1.records.length c_y281_records), (Value.int .i64 open_2.1.many), (Value.int .i64 open_2.1.synced)].toArray)) rfl rfl ?_)
                refine Rg_op rfl (op_extract (v := (Value.int .i64 open_2.2)) rfl rfl ?_)
                refine Rg_op rfl (op_alloc ty52 hs275 ?_)
                intro b283 w284 _ p285 hs286
                replace f_script := f_script.step p285; replace f_y37 := f_y37.step p285; replace f_y75_records := f_y75_records.step p285; replace f_y127 := f_y127.step p285; replace f_y179 := f_y179.step p285; replace f_y180 := f_y180.step p285; replace f_y204_records := f_y204_records.step p285; replace f_y205_sectors := f_y205_sectors.step p285; replace f_y205_pending := f_y205_pending.step p285; replace f_y269_sectors := f_y269_sectors.step p285; replace f_y269_pending := f_y269_pending.step p285; replace f_y281_records := f_y281_records.step p285; replace ch53 := ch53.trans p285; replace ch69 := ch69.trans p285; replace ch140 := ch140.trans p285; clear p285 hs275
                refine Rg_op_ (op_store (cs := [(Value.slice none 0 0), (Value.int .i64 0), (Value.int .i64 0)]) (vs := [(Value.slice a_y281_records open_2.1.records.length c_y281_records), (Value.int .i64 open_2.1.many), (Value.int .i64 open_2.1.synced)]) (cs' := [(Value.slice a_y281_records open_2.1.records.length c_y281_records), (Value.int .i64 open_2.1.many), (Value.int .i64 open_2.1.synced)]) (bs' := [(some b283, Obj.cells [(Value.slice a_y281_records open_2.1.records.length c_y281_records), (Value.int .i64 open_2.1.many), (Value.int .i64 open_2.1.synced)].toArray 52), (some b212, Obj.cells [(Value.slice a_y205_sectors sync_1.2.1.sectors.length c_y205_sectors), (Value.slice a_y205_pending sync_1.2.1.pending.length c_y205_pending), (Value.int .i64 sync_1.2.1.left), (Value.bool sync_1.2.1.stopped)].toArray 25), (some b207, Obj.cells [(Value.slice a_y204_records sync_1.1.records.length c_y204_records), (Value.int .i64 sync_1.1.many), (Value.int .i64 sync_1.1.synced)].toArray 52), (some b106, Obj.cells [(Value.slice a_y127 v_12.length c_y127), (Value.int .i64 v_13), (Value.int .i64 v_14)].toArray 52), (some b76, Obj.cells [(Value.slice a_y75_records ((script.getD v_1.toNat default).records).length c_y75_records), (Value.bool ((script.getD v_1.toNat default).stop)), (Value.int .u8 (((script.getD v_1.toNat default).left).toNat : Int))].toArray 70), (some b25, Obj.cells [(Value.slice a_y179 v_15.length c_y179), (Value.slice a_y180 v_16.length c_y180), (Value.int .i64 v_17), (Value.bool v_18)].toArray 25)]) (i := 0) ty52 hs286 rfl rfl rfl rfl rfl (le_lit rfl) rfl rfl rfl ?_)
                intro w288 p289 hs290
                replace f_script := f_script.step p289; replace f_y37 := f_y37.step p289; replace f_y75_records := f_y75_records.step p289; replace f_y127 := f_y127.step p289; replace f_y179 := f_y179.step p289; replace f_y180 := f_y180.step p289; replace f_y204_records := f_y204_records.step p289; replace f_y205_sectors := f_y205_sectors.step p289; replace f_y205_pending := f_y205_pending.step p289; replace f_y269_sectors := f_y269_sectors.step p289; replace f_y269_pending := f_y269_pending.step p289; replace f_y281_records := f_y281_records.step p289; replace ch53 := ch53.trans p289; replace ch69 := ch69.trans p289; replace ch140 := ch140.trans p289; clear p289 hs286
                refine Rg_op rfl (op_assign (v := (Value.int .i64 open_2.2)) rfl ?_)
                refine Rg_nil ?_
                refine Wp_seq ?_
                refine Wp_reset2 [4, 6, 7, 9, 10, 11, 13, 14, 15, 16, 17, 18, 19, 20, 42, 43, 44, 45, 46, 47, 48, 49, 50, 51, 52, 53, 54, 55, 56, 57, 58, 59, 60, 61, 62, 63, 64, 65, 66, 67, 68, 69, 70, 71, 72, 73, 74, 75, 76, 77, 78, 79, 80, 81, 82, 83, 84, 85, 86, 87, 88, 89, 90, 91, 92, 93, 94, 95, 96, 97, 98, 99, 100, 101, 102, 103, 104, 105, 106, 107, 108, 109, 110, 111, 112, 113, 114, 115, 116, 117, 118, 119, 120, 121, 122, 123, 124, 125, 126, 127, 128, 129, 130, 131, 132, 133, 134, 135, 136, 137, 138, 139, 140, 141, 142, 143, 144, 145, 146, 147, 148, 149, 150, 151, 152, 153, 154, 155, 156, 157, 158, 159, 160, 161, 162, 163, 164, 165, 166, 167, 168, 169, 170, 171, 172, 173, 174, 175, 176, 177, 178, 179, 180] [] (updL (mix [4, 6, 7, 9, 10, 11, 13, 14, 15, 16, 17, 18, 19, 20, 40, 41, 42, 43, 44, 45, 46, 47, 48, 49, 50, 51, 52, 53, 54, 55, 56, 57, 58, 59, 60, 61, 62, 63, 64, 65, 66, 67, 68, 69, 70, 71, 72, 73, 74, 75, 76, 77, 78, 79, 80, 81, 82, 83, 84, 85, 86, 87, 88, 89, 90, 91, 92, 93, 94, 95, 96, 97, 98, 99, 100, 101, 102, 103, 104, 105, 106, 107, 108, 109, 110, 111, 112, 113, 114, 115, 116, 117, 118, 119, 120, 121, 122, 123, 124, 125, 126, 127, 128, 129, 130, 131, 132, 133, 134, 135, 136, 137, 138, 139, 140, 141, 142, 143, 144, 145, 146, 147, 148, 149, 150, 151, 152, 153, 154, 155, 156, 157, 158, 159, 160, 161, 162, 163, 164, 165, 166, 167, 168, 169, 170, 171, 172, 173, 174, 175, 176, 177, 178, 179, 180, 181] [] ξ55 (updL ⟨ξ43, []⟩ [(5, (Value.pointer (some ⟨b25, 0, none⟩))), (7, (Value.slice none 0 0)), (38, (Value.slice a_script script.length c_script)), (39, (Value.int .i64 (script.length : Int))), (40, (Value.int .i64 0))])) [(7, (Value.slice a_y37 kept_1.length c_y37)), (40, (Value.int .i64 v_1))]) [(7, (Value.slice a_y37 kept_1.length c_y37)), (9, (Value.pointer (some ⟨b76, 0, none⟩))), (10, (Value.pointer (some ⟨b106, 0, none⟩))), (17, (Value.pointer (some ⟨b212, 0, none⟩))), (19, (Value.pointer (some ⟨b283, 0, none⟩))), (20, (Value.int .i64 open_2.2))] (by repeat (first | with_reducible exact Out.refl _ _ | refine Out.upd ?_ rfl | refine Out.updL ?_ rfl | refine Out.mix' ?_ rfl | exact Out.refl _ _)) rfl ⟨rfl, rfl, rfl, rfl, rfl, rfl, trivial⟩ fun ξ291 => ?_
                replace hm := jn_elim hm; obtain ⟨k293, hk294, hm⟩ := hm
                refine Wp_seqJ [141, 142, 143, 144, 145, 146, 147, 148, 149, 150, 151, 152, 153, 154, 155, 156, 157, 158, 159, 160, 161, 162, 163, 164, 165, 166, 167, 168, 169, 170, 171, 172, 173, 174, 175, 176] (fun fr w' => ∃ (v_20 : Bool) (Ebs : Ents), Ebs = [(some b283, Obj.cells [(Value.slice a_y281_records open_2.1.records.length c_y281_records), (Value.int .i64 open_2.1.many), (Value.int .i64 open_2.1.synced)].toArray 52), (some b212, Obj.cells [(Value.slice a_y205_sectors sync_1.2.1.sectors.length c_y205_sectors), (Value.slice a_y205_pending sync_1.2.1.pending.length c_y205_pending), (Value.int .i64 sync_1.2.1.left), (Value.bool sync_1.2.1.stopped)].toArray 25), (some b207, Obj.cells [(Value.slice a_y204_records sync_1.1.records.length c_y204_records), (Value.int .i64 sync_1.1.many), (Value.int .i64 sync_1.1.synced)].toArray 52), (some b106, Obj.cells [(Value.slice a_y127 v_12.length c_y127), (Value.int .i64 v_13), (Value.int .i64 v_14)].toArray 52), (some b76, Obj.cells [(Value.slice a_y75_records ((script.getD v_1.toNat default).records).length c_y75_records), (Value.bool ((script.getD v_1.toNat default).stop)), (Value.int .u8 (((script.getD v_1.toNat default).left).toNat : Int))].toArray 70), (some b25, Obj.cells [(Value.slice a_y179 v_15.length c_y179), (Value.slice a_y180 v_16.length c_y180), (Value.int .i64 v_17), (Value.bool v_18)].toArray 25)] ∧ fr [] [(176, (Value.bool v_20))] ∧ Step (ks [(some b283, Obj.cells [(Value.slice a_y281_records open_2.1.records.length c_y281_records), (Value.int .i64 open_2.1.many), (Value.int .i64 open_2.1.synced)].toArray 52), (some b212, Obj.cells [(Value.slice a_y205_sectors sync_1.2.1.sectors.length c_y205_sectors), (Value.slice a_y205_pending sync_1.2.1.pending.length c_y205_pending), (Value.int .i64 sync_1.2.1.left), (Value.bool sync_1.2.1.stopped)].toArray 25), (some b207, Obj.cells [(Value.slice a_y204_records sync_1.1.records.length c_y204_records), (Value.int .i64 sync_1.1.many), (Value.int .i64 sync_1.1.synced)].toArray 52), (some b106, Obj.cells [(Value.slice a_y127 v_12.length c_y127), (Value.int .i64 v_13), (Value.int .i64 v_14)].toArray 52), (some b76, Obj.cells [(Value.slice a_y75_records ((script.getD v_1.toNat default).records).length c_y75_records), (Value.bool ((script.getD v_1.toNat default).stop)), (Value.int .u8 (((script.getD v_1.toNat default).left).toNat : Int))].toArray 70), (some b25, Obj.cells [(Value.slice a_y179 v_15.length c_y179), (Value.slice a_y180 v_16.length c_y180), (Value.int .i64 v_17), (Value.bool v_18)].toArray 25)] O) w288 (ks Ebs O) w' ∧ St ⟨w, [], []⟩ O w' Ebs ∧ k293 v_20 = some x) ?_ ?_
                ·
                 rintro ρ300 w296 ⟨v_20, Ebs, hEbs, hfr299, hst298, hs297, hm⟩
                 replace hm := jnE1 hk294 hm
                 subst hEbs; rw [hfr299.eq]; clear hfr299
                 replace f_script := f_script.step hst298; replace f_y37 := f_y37.step hst298; replace f_y75_records := f_y75_records.step hst298; replace f_y127 := f_y127.step hst298; replace f_y179 := f_y179.step hst298; replace f_y180 := f_y180.step hst298; replace f_y204_records := f_y204_records.step hst298; replace f_y205_sectors := f_y205_sectors.step hst298; replace f_y205_pending := f_y205_pending.step hst298; replace f_y269_sectors := f_y269_sectors.step hst298; replace f_y269_pending := f_y269_pending.step hst298; replace f_y281_records := f_y281_records.step hst298; replace ch53 := ch53.trans hst298; replace ch69 := ch69.trans hst298; replace ch140 := ch140.trans hst298; clear hst298 hs290
                 refine Wp_cond rfl (fun hc301 => ?_) (fun hc301 => ?_)
                 ·
                  replace hm := bif_t hm hc301
                  refine Wp_seq ?_
                  clear f_script f_y37 f_y269_sectors f_y269_pending
                  refine Wp_region ?_
                  refine Rg_op rfl (op_assign (v := (Value.bool false)) rfl ?_)
                  refine Rg_nil ?_
                  refine Wp_ret ?_
                  have hz := step_all hs297
                  replace f_y75_records := f_y75_records.step hz; replace f_y127 := f_y127.step hz; replace f_y179 := f_y179.step hz; replace f_y180 := f_y180.step hz; replace f_y204_records := f_y204_records.step hz; replace f_y205_sectors := f_y205_sectors.step hz; replace f_y205_pending := f_y205_pending.step hz; replace f_y281_records := f_y281_records.step hz
                  refine ⟨_, (show Closes [] _ _ from rfl), [(Value.bool false)], ⟨rfl, trivial⟩, hs297.ext, ?_⟩
                  exact Vr.eq (a := vB) (x := false) rfl (Option.some.inj hm)
                 ·
                  replace hm := bif_f hm hc301
                  refine Wp_skip ?_
                  clear f_y37 f_y269_sectors f_y269_pending
                  refine Wp_region ?_
                  refine Rg_op rfl (op_fieldAddr ty52 rfl ty22 (by decide) rfl (rfl : _ = (⟨_, 0, none⟩ : Addr)) ?_)
                  refine Rg_op rfl (op_load (cs := [(Value.slice a_y281_records open_2.1.records.length c_y281_records), (Value.int .i64 open_2.1.many), (Value.int .i64 open_2.1.synced)]) (i := 0) ty22 hs297 rfl rfl rfl ?_)
                  refine Rg_op rfl (op_assign (v := (Value.slice a_y281_records open_2.1.records.length c_y281_records)) rfl ?_)
                  refine Rg_nil ?_
                  refine Wp_region ?_
                  refine Rg_op rfl (op_loadA (cs := [(Value.slice a_y205_sectors sync_1.2.1.sectors.length c_y205_sectors), (Value.slice a_y205_pending sync_1.2.1.pending.length c_y205_pending), (Value.int .i64 sync_1.2.1.left), (Value.bool sync_1.2.1.stopped)]) (vs := [(Value.slice a_y205_sectors sync_1.2.1.sectors.length c_y205_sectors), (Value.slice a_y205_pending sync_1.2.1.pending.length c_y205_pending), (Value.int .i64 sync_1.2.1.left), (Value.bool sync_1.2.1.stopped)]) (i := 1) ty25 hs297 rfl rfl rfl rfl ?_)
                  replace hm := bd hm; obtain ⟨restart_3, hv302, hm⟩ := hm
                  refine Rg_op rfl (op_call Try.call20 (c20_disk_Restart (d := sync_1.2.1) hs297.ltw f_y205_sectors f_y205_pending r_y205_left hv302) rfl ?_)
                  rintro v303 w304 ⟨hx305, h306⟩
                  have hs307 := hs297.call hx305
                  have p308 := Step.ext (O := ks [(some b283, Obj.cells [(Value.slice a_y281_records open_2.1.records.length c_y281_records), (Value.int .i64 open_2.1.many), (Value.int .i64 open_2.1.synced)].toArray 52), (some b212, Obj.cells [(Value.slice a_y205_sectors sync_1.2.1.sectors.length c_y205_sectors), (Value.slice a_y205_pending sync_1.2.1.pending.length c_y205_pending), (Value.int .i64 sync_1.2.1.left), (Value.bool sync_1.2.1.stopped)].toArray 25), (some b207, Obj.cells [(Value.slice a_y204_records sync_1.1.records.length c_y204_records), (Value.int .i64 sync_1.1.many), (Value.int .i64 sync_1.1.synced)].toArray 52), (some b106, Obj.cells [(Value.slice a_y127 v_12.length c_y127), (Value.int .i64 v_13), (Value.int .i64 v_14)].toArray 52), (some b76, Obj.cells [(Value.slice a_y75_records ((script.getD v_1.toNat default).records).length c_y75_records), (Value.bool ((script.getD v_1.toNat default).stop)), (Value.int .u8 (((script.getD v_1.toNat default).left).toNat : Int))].toArray 70), (some b25, Obj.cells [(Value.slice a_y179 v_15.length c_y179), (Value.slice a_y180 v_16.length c_y180), (Value.int .i64 v_17), (Value.bool v_18)].toArray 25)] O) hx305
                  clear hx305
                  replace f_script := f_script.step p308; replace f_y75_records := f_y75_records.step p308; replace f_y127 := f_y127.step p308; replace f_y179 := f_y179.step p308; replace f_y180 := f_y180.step p308; replace f_y204_records := f_y204_records.step p308; replace f_y205_sectors := f_y205_sectors.step p308; replace f_y205_pending := f_y205_pending.step p308; replace f_y281_records := f_y281_records.step p308; replace ch53 := ch53.trans p308; replace ch69 := ch69.trans p308; replace ch140 := ch140.trans p308; clear p308 hs297
                  obtain ⟨_, rfl, ⟨_, _, rfl, ⟨a_y309_sectors, c_y309_sectors, rfl, f_y309_sectors⟩, ⟨_, _, rfl, ⟨a_y309_pending, c_y309_pending, rfl, f_y309_pending⟩, ⟨_, _, rfl, ⟨rfl, r_y309_left⟩, rfl⟩⟩⟩⟩ := h306
                  refine Rg_op_ (op_store (cs := [(Value.slice a_y179 v_15.length c_y179), (Value.slice a_y180 v_16.length c_y180), (Value.int .i64 v_17), (Value.bool v_18)]) (vs := [(Value.slice a_y309_sectors restart_3.sectors.length c_y309_sectors), (Value.slice a_y309_pending restart_3.pending.length c_y309_pending), (Value.int .i64 restart_3.left), (Value.bool restart_3.stopped)]) (cs' := [(Value.slice a_y309_sectors restart_3.sectors.length c_y309_sectors), (Value.slice a_y309_pending restart_3.pending.length c_y309_pending), (Value.int .i64 restart_3.left), (Value.bool restart_3.stopped)]) (bs' := [(some b283, Obj.cells [(Value.slice a_y281_records open_2.1.records.length c_y281_records), (Value.int .i64 open_2.1.many), (Value.int .i64 open_2.1.synced)].toArray 52), (some b212, Obj.cells [(Value.slice a_y205_sectors sync_1.2.1.sectors.length c_y205_sectors), (Value.slice a_y205_pending sync_1.2.1.pending.length c_y205_pending), (Value.int .i64 sync_1.2.1.left), (Value.bool sync_1.2.1.stopped)].toArray 25), (some b207, Obj.cells [(Value.slice a_y204_records sync_1.1.records.length c_y204_records), (Value.int .i64 sync_1.1.many), (Value.int .i64 sync_1.1.synced)].toArray 52), (some b106, Obj.cells [(Value.slice a_y127 v_12.length c_y127), (Value.int .i64 v_13), (Value.int .i64 v_14)].toArray 52), (some b76, Obj.cells [(Value.slice a_y75_records ((script.getD v_1.toNat default).records).length c_y75_records), (Value.bool ((script.getD v_1.toNat default).stop)), (Value.int .u8 (((script.getD v_1.toNat default).left).toNat : Int))].toArray 70), (some b25, Obj.cells [(Value.slice a_y309_sectors restart_3.sectors.length c_y309_sectors), (Value.slice a_y309_pending restart_3.pending.length c_y309_pending), (Value.int .i64 restart_3.left), (Value.bool restart_3.stopped)].toArray 25)]) (i := 5) ty25 hs307 rfl rfl rfl rfl rfl (le_lit rfl) rfl rfl rfl ?_)
                  intro w310 p311 hs312
                  replace f_script := f_script.step p311; replace f_y75_records := f_y75_records.step p311; replace f_y127 := f_y127.step p311; replace f_y179 := f_y179.step p311; replace f_y180 := f_y180.step p311; replace f_y204_records := f_y204_records.step p311; replace f_y205_sectors := f_y205_sectors.step p311; replace f_y205_pending := f_y205_pending.step p311; replace f_y281_records := f_y281_records.step p311; replace f_y309_sectors := f_y309_sectors.step p311; replace f_y309_pending := f_y309_pending.step p311; replace ch53 := ch53.trans p311; replace ch69 := ch69.trans p311; replace ch140 := ch140.trans p311; clear p311 hs307
                  refine Rg_nil ?_
                  have hs313 := hs312.drop 4
                  replace f_script := f_script.step (hs312.dropS 4)
                  replace f_y75_records := f_y75_records.step (hs312.dropS 4)
                  replace f_y127 := f_y127.step (hs312.dropS 4)
                  replace f_y179 := f_y179.step (hs312.dropS 4)
                  replace f_y180 := f_y180.step (hs312.dropS 4)
                  replace f_y204_records := f_y204_records.step (hs312.dropS 4)
                  replace f_y205_sectors := f_y205_sectors.step (hs312.dropS 4)
                  replace f_y205_pending := f_y205_pending.step (hs312.dropS 4)
                  replace f_y281_records := f_y281_records.step (hs312.dropS 4)
                  replace f_y309_sectors := f_y309_sectors.step (hs312.dropS 4)
                  replace f_y309_pending := f_y309_pending.step (hs312.dropS 4)
                  replace ch53 := ch53.trans (hs312.dropS 4)
                  replace ch69 := ch69.trans (hs312.dropS 4)
                  replace ch140 := ch140.trans (hs312.dropS 4); clear hs312
                  have hs314 := hs313.drop 3
                  replace f_script := f_script.step (hs313.dropS 3)
                  replace f_y75_records := f_y75_records.step (hs313.dropS 3)
                  replace f_y127 := f_y127.step (hs313.dropS 3)
                  replace f_y179 := f_y179.step (hs313.dropS 3)
                  replace f_y180 := f_y180.step (hs313.dropS 3)
                  replace f_y204_records := f_y204_records.step (hs313.dropS 3)
                  replace f_y205_sectors := f_y205_sectors.step (hs313.dropS 3)
                  replace f_y205_pending := f_y205_pending.step (hs313.dropS 3)
                  replace f_y281_records := f_y281_records.step (hs313.dropS 3)
                  replace f_y309_sectors := f_y309_sectors.step (hs313.dropS 3)
                  replace f_y309_pending := f_y309_pending.step (hs313.dropS 3)
                  replace ch53 := ch53.trans (hs313.dropS 3)
                  replace ch69 := ch69.trans (hs313.dropS 3)
                  replace ch140 := ch140.trans (hs313.dropS 3); clear hs313
                  have hs315 := hs314.drop 2
                  replace f_script := f_script.step (hs314.dropS 2)
                  replace f_y75_records := f_y75_records.step (hs314.dropS 2)
                  replace f_y127 := f_y127.step (hs314.dropS 2)
                  replace f_y179 := f_y179.step (hs314.dropS 2)
                  replace f_y180 := f_y180.step (hs314.dropS 2)
                  replace f_y204_records := f_y204_records.step (hs314.dropS 2)
                  replace f_y205_sectors := f_y205_sectors.step (hs314.dropS 2)
                  replace f_y205_pending := f_y205_pending.step (hs314.dropS 2)
                  replace f_y281_records := f_y281_records.step (hs314.dropS 2)
                  replace f_y309_sectors := f_y309_sectors.step (hs314.dropS 2)
                  replace f_y309_pending := f_y309_pending.step (hs314.dropS 2)
                  replace ch53 := ch53.trans (hs314.dropS 2)
                  replace ch69 := ch69.trans (hs314.dropS 2)
                  replace ch140 := ch140.trans (hs314.dropS 2); clear hs314
                  have hs316 := hs315.drop 1
                  replace f_script := f_script.step (hs315.dropS 1)
                  replace f_y75_records := f_y75_records.step (hs315.dropS 1)
                  replace f_y127 := f_y127.step (hs315.dropS 1)
                  replace f_y179 := f_y179.step (hs315.dropS 1)
                  replace f_y180 := f_y180.step (hs315.dropS 1)
                  replace f_y204_records := f_y204_records.step (hs315.dropS 1)
                  replace f_y205_sectors := f_y205_sectors.step (hs315.dropS 1)
                  replace f_y205_pending := f_y205_pending.step (hs315.dropS 1)
                  replace f_y281_records := f_y281_records.step (hs315.dropS 1)
                  replace f_y309_sectors := f_y309_sectors.step (hs315.dropS 1)
                  replace f_y309_pending := f_y309_pending.step (hs315.dropS 1)
                  replace ch53 := ch53.trans (hs315.dropS 1)
                  replace ch69 := ch69.trans (hs315.dropS 1)
                  replace ch140 := ch140.trans (hs315.dropS 1); clear hs315
                  have hs317 := hs316.drop 0
                  replace f_script := f_script.step (hs316.dropS 0)
                  replace f_y75_records := f_y75_records.step (hs316.dropS 0)
                  replace f_y127 := f_y127.step (hs316.dropS 0)
                  replace f_y179 := f_y179.step (hs316.dropS 0)
                  replace f_y180 := f_y180.step (hs316.dropS 0)
                  replace f_y204_records := f_y204_records.step (hs316.dropS 0)
                  replace f_y205_sectors := f_y205_sectors.step (hs316.dropS 0)
                  replace f_y205_pending := f_y205_pending.step (hs316.dropS 0)
                  replace f_y281_records := f_y281_records.step (hs316.dropS 0)
                  replace f_y309_sectors := f_y309_sectors.step (hs316.dropS 0)
                  replace f_y309_pending := f_y309_pending.step (hs316.dropS 0)
                  replace ch53 := ch53.trans (hs316.dropS 0)
                  replace ch69 := ch69.trans (hs316.dropS 0)
                  replace ch140 := ch140.trans (hs316.dropS 0); clear hs316
                  exact hK63 _ _ ⟨open_2.1.records, restart_3.sectors, restart_3.pending, restart_3.left, restart_3.stopped, a_y281_records, c_y281_records, a_y309_sectors, c_y309_sectors, a_y309_pending, c_y309_pending, _, rfl, ⟨(by repeat (first | with_reducible exact Out.refl _ _ | refine Out.upd ?_ rfl | refine Out.updL ?_ rfl | refine Out.mix' ?_ rfl | exact Out.refl _ _)), rfl, rfl, trivial⟩, ch69, hs317, f_y281_records, f_y309_sectors, f_y309_pending, r_y309_left, hm⟩
                ·
                 intro K295 hK295
                 have ch318 := Step.refl (ks [(some b283, Obj.cells [(Value.slice a_y281_records open_2.1.records.length c_y281_records), (Value.int .i64 open_2.1.many), (Value.int .i64 open_2.1.synced)].toArray 52), (some b212, Obj.cells [(Value.slice a_y205_sectors sync_1.2.1.sectors.length c_y205_sectors), (Value.slice a_y205_pending sync_1.2.1.pending.length c_y205_pending), (Value.int .i64 sync_1.2.1.left), (Value.bool sync_1.2.1.stopped)].toArray 25), (some b207, Obj.cells [(Value.slice a_y204_records sync_1.1.records.length c_y204_records), (Value.int .i64 sync_1.1.many), (Value.int .i64 sync_1.1.synced)].toArray 52), (some b106, Obj.cells [(Value.slice a_y127 v_12.length c_y127), (Value.int .i64 v_13), (Value.int .i64 v_14)].toArray 52), (some b76, Obj.cells [(Value.slice a_y75_records ((script.getD v_1.toNat default).records).length c_y75_records), (Value.bool ((script.getD v_1.toNat default).stop)), (Value.int .u8 (((script.getD v_1.toNat default).left).toNat : Int))].toArray 70), (some b25, Obj.cells [(Value.slice a_y179 v_15.length c_y179), (Value.slice a_y180 v_16.length c_y180), (Value.int .i64 v_17), (Value.bool v_18)].toArray 25)] O) w288
                 clear f_y269_sectors f_y269_pending
                 refine Wp_drawR (g0 := []) (m := 33) (fl := []) (TS_inv hs290) rfl (.inl rfl) rfl (by decide +kernel) ?_  -- 39
                 refine Dw_eq (Value.pointer (some ⟨b76, 1, none⟩)) (fun ρ319 w320 g hle hi ht => ?_) ?_
                 ·
                  obtain ⟨-, hst, -⟩ := hle
                  refine StepOp_plain (op_fieldAddr ty70 rfl ty4 (by decide) (ht 9 rfl) (rfl : _ = (⟨_, 1, none⟩ : Addr)) ?_)
                  exact Goes.same hi rfl
                 refine Dw_eq (Value.bool ((script.getD v_1.toNat default).stop)) (fun ρ322 w323 g hle hi ht => ?_) ?_
                 ·
                  obtain ⟨-, hst, -⟩ := hle
                  have hsn := (Step.nx hi).1
                  refine StepOp_plain (op_load (cs := [(Value.slice a_y75_records ((script.getD v_1.toNat default).records).length c_y75_records), (Value.bool ((script.getD v_1.toNat default).stop)), (Value.int .u8 (((script.getD v_1.toNat default).left).toNat : Int))]) (i := 4) ty4 hsn (ht 141 rfl) rfl rfl ?_)
                  exact Goes.same hi rfl
                 refine Dw_eq (Value.bool (!((script.getD v_1.toNat default).stop))) (fun ρ325 w326 g hle hi ht => ?_) ?_
                 ·
                  obtain ⟨-, hst, -⟩ := hle
                  refine StepOp_plain (op_not (ht 142 rfl) ?_)
                  exact Goes.same hi rfl
                 refine Dw_opB (!((script.getD v_1.toNat default).stop)) (fun ρ328 w329 g hle hi ht => ?_) (fun hg331 => ?_) (fun hg331 => ?_)
                 ·
                  obtain ⟨-, hst, -⟩ := hle
                  refine StepOp_plain (op_move (v := (Value.bool (!((script.getD v_1.toNat default).stop)))) (ht 143 rfl) ?_)
                  exact Goes.same hi rfl
                 ·
                  replace hm := bif_t hm hg331
                  refine Dw_skip (fun _ _ _ ht => wanted_x rfl (ht 144 rfl) rfl) ?_
                  refine Dw_skip (fun _ _ _ ht => wanted_x rfl (ht 144 rfl) rfl) ?_
                  refine Dw_eq (Value.bool true) (fun ρ332 w333 g hle hi ht => ?_) ?_
                  ·
                   obtain ⟨-, hst, -⟩ := hle
                   refine StepOp_plain (op_pick_t (v := (Value.bool true)) (ht 144 rfl) rfl ?_)
                   exact Goes.same hi rfl
                  refine Dw_eq (Value.bool true) (fun ρ335 w336 g hle hi ht => ?_) ?_
                  ·
                   obtain ⟨-, hst, -⟩ := hle
                   refine StepOp_plain (op_move (v := (Value.bool true)) (ht 147 rfl) ?_)
                   exact Goes.same hi rfl
                  refine Dw_skip (fun _ _ _ ht => wanted_x rfl (ht 148 rfl) rfl) ?_
                  refine Dw_skip (fun _ _ _ ht => wanted_x rfl (ht 148 rfl) rfl) ?_
                  refine Dw_skip (fun _ _ _ ht => wanted_x rfl (ht 148 rfl) rfl) ?_
                  refine Dw_skip (fun _ _ _ ht => wanted_x rfl (ht 148 rfl) rfl) ?_
                  refine Dw_skip (fun _ _ _ ht => wanted_x rfl (ht 148 rfl) rfl) ?_
                  refine Dw_skip (fun _ _ _ ht => wanted_x rfl (ht 148 rfl) rfl) ?_
                  refine Dw_eq (Value.bool true) (fun ρ338 w339 g hle hi ht => ?_) ?_
                  ·
                   obtain ⟨-, hst, -⟩ := hle
                   refine StepOp_plain (op_pick_t (v := (Value.bool true)) (ht 148 rfl) rfl ?_)
                   exact Goes.same hi rfl
                  refine Dw_eq (Value.bool true) (fun ρ341 w342 g hle hi ht => ?_) ?_
                  ·
                   obtain ⟨-, hst, -⟩ := hle
                   refine StepOp_plain (op_move (v := (Value.bool true)) (ht 155 rfl) ?_)
                   exact Goes.same hi rfl
                  refine Dw_skip (fun _ _ _ ht => wanted_x rfl (ht 156 rfl) rfl) ?_
                  refine Dw_skip (fun _ _ _ ht => wanted_x rfl (ht 156 rfl) rfl) ?_
                  refine Dw_skip (fun _ _ _ ht => wanted_x rfl (ht 156 rfl) rfl) ?_
                  refine Dw_skip (fun _ _ _ ht => wanted_x rfl (ht 156 rfl) rfl) ?_
                  refine Dw_skip (fun _ _ _ ht => wanted_x rfl (ht 156 rfl) rfl) ?_
                  refine Dw_skip (fun _ _ _ ht => wanted_x rfl (ht 156 rfl) rfl) ?_
                  refine Dw_skip (fun _ _ _ ht => wanted_x rfl (ht 156 rfl) rfl) ?_
                  refine Dw_eq (Value.bool true) (fun ρ344 w345 g hle hi ht => ?_) ?_
                  ·
                   obtain ⟨-, hst, -⟩ := hle
                   refine StepOp_plain (op_pick_t (v := (Value.bool true)) (ht 156 rfl) rfl ?_)
                   exact Goes.same hi rfl
                  refine Dw_eq (Value.bool true) (fun ρ347 w348 g hle hi ht => ?_) ?_
                  ·
                   obtain ⟨-, hst, -⟩ := hle
                   refine StepOp_plain (op_move (v := (Value.bool true)) (ht 164 rfl) ?_)
                   exact Goes.same hi rfl
                  refine Dw_skip (fun _ _ _ ht => wanted_x rfl (ht 165 rfl) rfl) ?_
                  refine Dw_skip (fun _ _ _ ht => wanted_x rfl (ht 165 rfl) rfl) ?_
                  refine Dw_skip (fun _ _ _ ht => wanted_x rfl (ht 165 rfl) rfl) ?_
                  refine Dw_skip (fun _ _ _ ht => wanted_x rfl (ht 165 rfl) rfl) ?_
                  refine Dw_skip (fun _ _ _ ht => wanted_x rfl (ht 165 rfl) rfl) ?_
                  refine Dw_skip (fun _ _ _ ht => wanted_x rfl (ht 165 rfl) rfl) ?_
                  refine Dw_skip (fun _ _ _ ht => wanted_x rfl (ht 165 rfl) rfl) ?_
                  refine Dw_skip (fun _ _ _ ht => wanted_x rfl (ht 165 rfl) rfl) ?_
                  refine Dw_nil fun w354 g355 hl356 hi357 => ?_
                  obtain ⟨-, hst358, -⟩ := hl356
                  obtain ⟨hs360, p359⟩ := Step.nx hi357
                  rintro _ rfl
                  rintro _ rfl
                  rintro _ rfl
                  rintro _ rfl
                  rintro _ rfl
                  rintro _ rfl
                  rintro _ rfl
                  rintro _ rfl
                  rintro _ rfl
                  rintro _ rfl
                  rintro _ rfl
                  rintro _ rfl
                  rintro _ rfl
                  rintro _ rfl
                  rintro _ rfl
                  rintro _ rfl
                  rintro _ rfl
                  rintro _ rfl
                  rintro _ rfl
                  rintro _ rfl
                  rintro _ rfl
                  rintro _ rfl
                  rintro _ rfl
                  rintro _ rfl
                  rintro _ rfl
                  rintro _ rfl
                  rintro _ rfl
                  rintro _ rfl
                  rintro _ rfl
                  rintro _ rfl
                  rintro _ rfl
                  rintro _ rfl
                  rintro _ rfl
                  have p361 : Step (ks [(some b283, Obj.cells [(Value.slice a_y281_records open_2.1.records.length c_y281_records), (Value.int .i64 open_2.1.many), (Value.int .i64 open_2.1.synced)].toArray 52), (some b212, Obj.cells [(Value.slice a_y205_sectors sync_1.2.1.sectors.length c_y205_sectors), (Value.slice a_y205_pending sync_1.2.1.pending.length c_y205_pending), (Value.int .i64 sync_1.2.1.left), (Value.bool sync_1.2.1.stopped)].toArray 25), (some b207, Obj.cells [(Value.slice a_y204_records sync_1.1.records.length c_y204_records), (Value.int .i64 sync_1.1.many), (Value.int .i64 sync_1.1.synced)].toArray 52), (some b106, Obj.cells [(Value.slice a_y127 v_12.length c_y127), (Value.int .i64 v_13), (Value.int .i64 v_14)].toArray 52), (some b76, Obj.cells [(Value.slice a_y75_records ((script.getD v_1.toNat default).records).length c_y75_records), (Value.bool ((script.getD v_1.toNat default).stop)), (Value.int .u8 (((script.getD v_1.toNat default).left).toNat : Int))].toArray 70), (some b25, Obj.cells [(Value.slice a_y179 v_15.length c_y179), (Value.slice a_y180 v_16.length c_y180), (Value.int .i64 v_17), (Value.bool v_18)].toArray 25)] O) w288 (ks [(some b283, Obj.cells [(Value.slice a_y281_records open_2.1.records.length c_y281_records), (Value.int .i64 open_2.1.many), (Value.int .i64 open_2.1.synced)].toArray 52), (some b212, Obj.cells [(Value.slice a_y205_sectors sync_1.2.1.sectors.length c_y205_sectors), (Value.slice a_y205_pending sync_1.2.1.pending.length c_y205_pending), (Value.int .i64 sync_1.2.1.left), (Value.bool sync_1.2.1.stopped)].toArray 25), (some b207, Obj.cells [(Value.slice a_y204_records sync_1.1.records.length c_y204_records), (Value.int .i64 sync_1.1.many), (Value.int .i64 sync_1.1.synced)].toArray 52), (some b106, Obj.cells [(Value.slice a_y127 v_12.length c_y127), (Value.int .i64 v_13), (Value.int .i64 v_14)].toArray 52), (some b76, Obj.cells [(Value.slice a_y75_records ((script.getD v_1.toNat default).records).length c_y75_records), (Value.bool ((script.getD v_1.toNat default).stop)), (Value.int .u8 (((script.getD v_1.toNat default).left).toNat : Int))].toArray 70), (some b25, Obj.cells [(Value.slice a_y179 v_15.length c_y179), (Value.slice a_y180 v_16.length c_y180), (Value.int .i64 v_17), (Value.bool v_18)].toArray 25)] O) w354 := hst358.trans p359
                  replace f_script := f_script.step p361; replace f_y37 := f_y37.step p361; replace f_y75_records := f_y75_records.step p361; replace f_y127 := f_y127.step p361; replace f_y179 := f_y179.step p361; replace f_y180 := f_y180.step p361; replace f_y204_records := f_y204_records.step p361; replace f_y205_sectors := f_y205_sectors.step p361; replace f_y205_pending := f_y205_pending.step p361; replace f_y281_records := f_y281_records.step p361; replace ch53 := ch53.trans p361; replace ch69 := ch69.trans p361; replace ch140 := ch140.trans p361; replace ch318 := ch318.trans p361; clear p361 hs290
                  iterate 2 refine Rg_opx rfl (asB_ne rfl rfl) rfl ?_
                  refine Rg_op rfl (op_pick_t (v := (Value.bool true)) rfl rfl ?_)
                  refine Rg_nil ?_
                  exact hK295 _ _ ⟨true, _, rfl, ⟨(by repeat (first | with_reducible exact Out.refl _ _ | refine Out.upd ?_ rfl | refine Out.updL ?_ rfl | refine Out.mix' ?_ rfl | exact Out.refl _ _)), rfl, rfl, trivial⟩, ch318, hs360, hm⟩
                 ·
                  replace hm := bif_f hm hg331
                  refine Dw_eq (Value.int .i64 open_2.2) (fun ρ362 w363 g hle hi ht => ?_) ?_
                  ·
                   obtain ⟨-, hst, -⟩ := hle
                   refine StepOp_g rfl (ht 144 rfl) (op_move (v := (Value.int .i64 open_2.2)) (ht 20 rfl) ?_)
                   exact Goes.same hi rfl
                  refine Dw_eq (Value.bool (decide (open_2.2 ≠ 0))) (fun ρ365 w366 g hle hi ht => ?_) ?_
                  ·
                   obtain ⟨-, hst, -⟩ := hle
                   refine StepOp_g rfl (ht 144 rfl) (op_neq (ht 145 rfl) rfl ?_)
                   exact Goes.same hi rfl
                  refine Dw_eq (Value.bool (decide (open_2.2 ≠ 0))) (fun ρ368 w369 g hle hi ht => ?_) ?_
                  ·
                   obtain ⟨-, hst, -⟩ := hle
                   refine StepOp_plain (op_pick_f (v := (Value.bool (decide (open_2.2 ≠ 0)))) (ht 144 rfl) (ht 146 rfl) ?_)
                   exact Goes.same hi rfl
                  refine Dw_opB (decide (open_2.2 ≠ 0)) (fun ρ371 w372 g hle hi ht => ?_) (fun hg374 => ?_) (fun hg374 => ?_)
                  ·
                   obtain ⟨-, hst, -⟩ := hle
                   refine StepOp_plain (op_move (v := (Value.bool (decide (open_2.2 ≠ 0)))) (ht 147 rfl) ?_)
                   exact Goes.same hi rfl
                  ·
                   replace hm := bif_t hm hg374
                   refine Dw_skip (fun _ _ _ ht => wanted_x rfl (ht 148 rfl) rfl) ?_
                   refine Dw_skip (fun _ _ _ ht => wanted_x rfl (ht 148 rfl) rfl) ?_
                   refine Dw_skip (fun _ _ _ ht => wanted_x rfl (ht 148 rfl) rfl) ?_
                   refine Dw_skip (fun _ _ _ ht => wanted_x rfl (ht 148 rfl) rfl) ?_
                   refine Dw_skip (fun _ _ _ ht => wanted_x rfl (ht 148 rfl) rfl) ?_
                   refine Dw_skip (fun _ _ _ ht => wanted_x rfl (ht 148 rfl) rfl) ?_
                   refine Dw_eq (Value.bool true) (fun ρ375 w376 g hle hi ht => ?_) ?_
                   ·
                    obtain ⟨-, hst, -⟩ := hle
                    refine StepOp_plain (op_pick_t (v := (Value.bool true)) (ht 148 rfl) rfl ?_)
                    exact Goes.same hi rfl
                   refine Dw_eq (Value.bool true) (fun ρ378 w379 g hle hi ht => ?_) ?_
                   ·
                    obtain ⟨-, hst, -⟩ := hle
                    refine StepOp_plain (op_move (v := (Value.bool true)) (ht 155 rfl) ?_)
                    exact Goes.same hi rfl
                   refine Dw_skip (fun _ _ _ ht => wanted_x rfl (ht 156 rfl) rfl) ?_
                   refine Dw_skip (fun _ _ _ ht => wanted_x rfl (ht 156 rfl) rfl) ?_
                   refine Dw_skip (fun _ _ _ ht => wanted_x rfl (ht 156 rfl) rfl) ?_
                   refine Dw_skip (fun _ _ _ ht => wanted_x rfl (ht 156 rfl) rfl) ?_
                   refine Dw_skip (fun _ _ _ ht => wanted_x rfl (ht 156 rfl) rfl) ?_
                   refine Dw_skip (fun _ _ _ ht => wanted_x rfl (ht 156 rfl) rfl) ?_
                   refine Dw_skip (fun _ _ _ ht => wanted_x rfl (ht 156 rfl) rfl) ?_
                   refine Dw_eq (Value.bool true) (fun ρ381 w382 g hle hi ht => ?_) ?_
                   ·
                    obtain ⟨-, hst, -⟩ := hle
                    refine StepOp_plain (op_pick_t (v := (Value.bool true)) (ht 156 rfl) rfl ?_)
                    exact Goes.same hi rfl
                   refine Dw_eq (Value.bool true) (fun ρ384 w385 g hle hi ht => ?_) ?_
                   ·
                    obtain ⟨-, hst, -⟩ := hle
                    refine StepOp_plain (op_move (v := (Value.bool true)) (ht 164 rfl) ?_)
                    exact Goes.same hi rfl
                   refine Dw_skip (fun _ _ _ ht => wanted_x rfl (ht 165 rfl) rfl) ?_
                   refine Dw_skip (fun _ _ _ ht => wanted_x rfl (ht 165 rfl) rfl) ?_
                   refine Dw_skip (fun _ _ _ ht => wanted_x rfl (ht 165 rfl) rfl) ?_
                   refine Dw_skip (fun _ _ _ ht => wanted_x rfl (ht 165 rfl) rfl) ?_
                   refine Dw_skip (fun _ _ _ ht => wanted_x rfl (ht 165 rfl) rfl) ?_
                   refine Dw_skip (fun _ _ _ ht => wanted_x rfl (ht 165 rfl) rfl) ?_
                   refine Dw_skip (fun _ _ _ ht => wanted_x rfl (ht 165 rfl) rfl) ?_
                   refine Dw_skip (fun _ _ _ ht => wanted_x rfl (ht 165 rfl) rfl) ?_
                   refine Dw_nil fun w391 g392 hl393 hi394 => ?_
                   obtain ⟨-, hst395, -⟩ := hl393
                   obtain ⟨hs397, p396⟩ := Step.nx hi394
                   rintro _ rfl
                   rintro _ rfl
                   rintro _ rfl
                   rintro _ rfl
                   rintro _ rfl
                   rintro _ rfl
                   rintro _ rfl
                   rintro _ rfl
                   rintro _ rfl
                   rintro _ rfl
                   rintro _ rfl
                   rintro _ rfl
                   rintro _ rfl
                   rintro _ rfl
                   rintro _ rfl
                   rintro _ rfl
                   rintro _ rfl
                   rintro _ rfl
                   rintro _ rfl
                   rintro _ rfl
                   rintro _ rfl
                   rintro _ rfl
                   rintro _ rfl
                   rintro _ rfl
                   rintro _ rfl
                   rintro _ rfl
                   rintro _ rfl
                   rintro _ rfl
                   rintro _ rfl
                   rintro _ rfl
                   rintro _ rfl
                   rintro _ rfl
                   rintro _ rfl
                   have p398 : Step (ks [(some b283, Obj.cells [(Value.slice a_y281_records open_2.1.records.length c_y281_records), (Value.int .i64 open_2.1.many), (Value.int .i64 open_2.1.synced)].toArray 52), (some b212, Obj.cells [(Value.slice a_y205_sectors sync_1.2.1.sectors.length c_y205_sectors), (Value.slice a_y205_pending sync_1.2.1.pending.length c_y205_pending), (Value.int .i64 sync_1.2.1.left), (Value.bool sync_1.2.1.stopped)].toArray 25), (some b207, Obj.cells [(Value.slice a_y204_records sync_1.1.records.length c_y204_records), (Value.int .i64 sync_1.1.many), (Value.int .i64 sync_1.1.synced)].toArray 52), (some b106, Obj.cells [(Value.slice a_y127 v_12.length c_y127), (Value.int .i64 v_13), (Value.int .i64 v_14)].toArray 52), (some b76, Obj.cells [(Value.slice a_y75_records ((script.getD v_1.toNat default).records).length c_y75_records), (Value.bool ((script.getD v_1.toNat default).stop)), (Value.int .u8 (((script.getD v_1.toNat default).left).toNat : Int))].toArray 70), (some b25, Obj.cells [(Value.slice a_y179 v_15.length c_y179), (Value.slice a_y180 v_16.length c_y180), (Value.int .i64 v_17), (Value.bool v_18)].toArray 25)] O) w288 (ks [(some b283, Obj.cells [(Value.slice a_y281_records open_2.1.records.length c_y281_records), (Value.int .i64 open_2.1.many), (Value.int .i64 open_2.1.synced)].toArray 52), (some b212, Obj.cells [(Value.slice a_y205_sectors sync_1.2.1.sectors.length c_y205_sectors), (Value.slice a_y205_pending sync_1.2.1.pending.length c_y205_pending), (Value.int .i64 sync_1.2.1.left), (Value.bool sync_1.2.1.stopped)].toArray 25), (some b207, Obj.cells [(Value.slice a_y204_records sync_1.1.records.length c_y204_records), (Value.int .i64 sync_1.1.many), (Value.int .i64 sync_1.1.synced)].toArray 52), (some b106, Obj.cells [(Value.slice a_y127 v_12.length c_y127), (Value.int .i64 v_13), (Value.int .i64 v_14)].toArray 52), (some b76, Obj.cells [(Value.slice a_y75_records ((script.getD v_1.toNat default).records).length c_y75_records), (Value.bool ((script.getD v_1.toNat default).stop)), (Value.int .u8 (((script.getD v_1.toNat default).left).toNat : Int))].toArray 70), (some b25, Obj.cells [(Value.slice a_y179 v_15.length c_y179), (Value.slice a_y180 v_16.length c_y180), (Value.int .i64 v_17), (Value.bool v_18)].toArray 25)] O) w391 := hst395.trans p396
                   replace f_script := f_script.step p398; replace f_y37 := f_y37.step p398; replace f_y75_records := f_y75_records.step p398; replace f_y127 := f_y127.step p398; replace f_y179 := f_y179.step p398; replace f_y180 := f_y180.step p398; replace f_y204_records := f_y204_records.step p398; replace f_y205_sectors := f_y205_sectors.step p398; replace f_y205_pending := f_y205_pending.step p398; replace f_y281_records := f_y281_records.step p398; replace ch53 := ch53.trans p398; replace ch69 := ch69.trans p398; replace ch140 := ch140.trans p398; replace ch318 := ch318.trans p398; clear p398 hs290
                   iterate 2 refine Rg_opx rfl (asB_ne rfl rfl) rfl ?_
                   refine Rg_op rfl (op_pick_t (v := (Value.bool true)) rfl rfl ?_)
                   refine Rg_nil ?_
                   exact hK295 _ _ ⟨true, _, rfl, ⟨(by repeat (first | with_reducible exact Out.refl _ _ | refine Out.upd ?_ rfl | refine Out.updL ?_ rfl | refine Out.mix' ?_ rfl | exact Out.refl _ _)), rfl, rfl, trivial⟩, ch318, hs397, hm⟩
                  ·
                   replace hm := bif_f hm hg374
                   refine Dw_eq (Value.pointer (some ⟨b283, 0, none⟩)) (fun ρ399 w400 g hle hi ht => ?_) ?_
                   ·
                    obtain ⟨-, hst, -⟩ := hle
                    refine StepOp_g rfl (ht 148 rfl) (op_fieldAddr ty52 rfl ty22 (by decide) (ht 19 rfl) (rfl : _ = (⟨_, 0, none⟩ : Addr)) ?_)
                    exact Goes.same hi rfl
                   refine Dw_eq (Value.slice a_y281_records open_2.1.records.length c_y281_records) (fun ρ402 w403 g hle hi ht => ?_) ?_
                   ·
                    obtain ⟨-, hst, -⟩ := hle
                    have hsn := (Step.nx hi).1
                    refine StepOp_g rfl (ht 148 rfl) (op_load (cs := [(Value.slice a_y281_records open_2.1.records.length c_y281_records), (Value.int .i64 open_2.1.many), (Value.int .i64 open_2.1.synced)]) (i := 0) ty22 hsn (ht 149 rfl) rfl rfl ?_)
                    exact Goes.same hi rfl
                   refine Dw_eq (Value.int .i64 (open_2.1.records.length : Int)) (fun ρ405 w406 g hle hi ht => ?_) ?_
                   ·
                    obtain ⟨-, hst, -⟩ := hle
                    refine StepOp_g rfl (ht 148 rfl) (op_len Try.underlying22 (ht 150 rfl) ?_)
                    exact Goes.same hi rfl
                   refine Dw_eq (Value.slice a_y37 kept_1.length c_y37) (fun ρ408 w409 g hle hi ht => ?_) ?_
                   ·
                    obtain ⟨-, hst, -⟩ := hle
                    refine StepOp_g rfl (ht 148 rfl) (op_move (v := (Value.slice a_y37 kept_1.length c_y37)) (ht 7 rfl) ?_)
                    exact Goes.same hi rfl
                   refine Dw_eq (Value.int .i64 (kept_1.length : Int)) (fun ρ411 w412 g hle hi ht => ?_) ?_
                   ·
                    obtain ⟨-, hst, -⟩ := hle
                    refine StepOp_g rfl (ht 148 rfl) (op_len Try.underlying22 (ht 152 rfl) ?_)
                    exact Goes.same hi rfl
                   refine Dw_eq (Value.bool (decide ((open_2.1.records.length : Int) < (kept_1.length : Int)))) (fun ρ414 w415 g hle hi ht => ?_) ?_
                   ·
                    obtain ⟨-, hst, -⟩ := hle
                    refine StepOp_g rfl (ht 148 rfl) (op_lss (ht 151 rfl) (ht 153 rfl) ?_)
                    exact Goes.same hi rfl
                   refine Dw_eq (Value.bool (decide ((open_2.1.records.length : Int) < (kept_1.length : Int)))) (fun ρ417 w418 g hle hi ht => ?_) ?_
                   ·
                    obtain ⟨-, hst, -⟩ := hle
                    refine StepOp_plain (op_pick_f (v := (Value.bool (decide ((open_2.1.records.length : Int) < (kept_1.length : Int))))) (ht 148 rfl) (ht 154 rfl) ?_)
                    exact Goes.same hi rfl
                   refine Dw_opB (decide ((open_2.1.records.length : Int) < (kept_1.length : Int))) (fun ρ420 w421 g hle hi ht => ?_) (fun hg423 => ?_) (fun hg423 => ?_)
                   ·
                    obtain ⟨-, hst, -⟩ := hle
                    refine StepOp_plain (op_move (v := (Value.bool (decide ((open_2.1.records.length : Int) < (kept_1.length : Int))))) (ht 155 rfl) ?_)
                    exact Goes.same hi rfl
                   ·
                    replace hm := bif_t hm hg423
                    refine Dw_skip (fun _ _ _ ht => wanted_x rfl (ht 156 rfl) rfl) ?_
                    refine Dw_skip (fun _ _ _ ht => wanted_x rfl (ht 156 rfl) rfl) ?_
                    refine Dw_skip (fun _ _ _ ht => wanted_x rfl (ht 156 rfl) rfl) ?_
                    refine Dw_skip (fun _ _ _ ht => wanted_x rfl (ht 156 rfl) rfl) ?_
                    refine Dw_skip (fun _ _ _ ht => wanted_x rfl (ht 156 rfl) rfl) ?_
                    refine Dw_skip (fun _ _ _ ht => wanted_x rfl (ht 156 rfl) rfl) ?_
                    refine Dw_skip (fun _ _ _ ht => wanted_x rfl (ht 156 rfl) rfl) ?_
                    refine Dw_eq (Value.bool true) (fun ρ424 w425 g hle hi ht => ?_) ?_
                    ·
                     obtain ⟨-, hst, -⟩ := hle
                     refine StepOp_plain (op_pick_t (v := (Value.bool true)) (ht 156 rfl) rfl ?_)
                     exact Goes.same hi rfl
                    refine Dw_eq (Value.bool true) (fun ρ427 w428 g hle hi ht => ?_) ?_
                    ·
                     obtain ⟨-, hst, -⟩ := hle
                     refine StepOp_plain (op_move (v := (Value.bool true)) (ht 164 rfl) ?_)
                     exact Goes.same hi rfl
                    refine Dw_skip (fun _ _ _ ht => wanted_x rfl (ht 165 rfl) rfl) ?_
                    refine Dw_skip (fun _ _ _ ht => wanted_x rfl (ht 165 rfl) rfl) ?_
                    refine Dw_skip (fun _ _ _ ht => wanted_x rfl (ht 165 rfl) rfl) ?_
                    refine Dw_skip (fun _ _ _ ht => wanted_x rfl (ht 165 rfl) rfl) ?_
                    refine Dw_skip (fun _ _ _ ht => wanted_x rfl (ht 165 rfl) rfl) ?_
                    refine Dw_skip (fun _ _ _ ht => wanted_x rfl (ht 165 rfl) rfl) ?_
                    refine Dw_skip (fun _ _ _ ht => wanted_x rfl (ht 165 rfl) rfl) ?_
                    refine Dw_skip (fun _ _ _ ht => wanted_x rfl (ht 165 rfl) rfl) ?_
                    refine Dw_nil fun w434 g435 hl436 hi437 => ?_
                    obtain ⟨-, hst438, -⟩ := hl436
                    obtain ⟨hs440, p439⟩ := Step.nx hi437
                    rintro _ rfl
                    rintro _ rfl
                    rintro _ rfl
                    rintro _ rfl
                    rintro _ rfl
                    rintro _ rfl
                    rintro _ rfl
                    rintro _ rfl
                    rintro _ rfl
                    rintro _ rfl
                    rintro _ rfl
                    rintro _ rfl
                    rintro _ rfl
                    rintro _ rfl
                    rintro _ rfl
                    rintro _ rfl
                    rintro _ rfl
                    rintro _ rfl
                    rintro _ rfl
                    rintro _ rfl
                    rintro _ rfl
                    rintro _ rfl
                    rintro _ rfl
                    rintro _ rfl
                    rintro _ rfl
                    rintro _ rfl
                    rintro _ rfl
                    rintro _ rfl
                    rintro _ rfl
                    rintro _ rfl
                    rintro _ rfl
                    rintro _ rfl
                    rintro _ rfl
                    have p441 : Step (ks [(some b283, Obj.cells [(Value.slice a_y281_records open_2.1.records.length c_y281_records), (Value.int .i64 open_2.1.many), (Value.int .i64 open_2.1.synced)].toArray 52), (some b212, Obj.cells [(Value.slice a_y205_sectors sync_1.2.1.sectors.length c_y205_sectors), (Value.slice a_y205_pending sync_1.2.1.pending.length c_y205_pending), (Value.int .i64 sync_1.2.1.left), (Value.bool sync_1.2.1.stopped)].toArray 25), (some b207, Obj.cells [(Value.slice a_y204_records sync_1.1.records.length c_y204_records), (Value.int .i64 sync_1.1.many), (Value.int .i64 sync_1.1.synced)].toArray 52), (some b106, Obj.cells [(Value.slice a_y127 v_12.length c_y127), (Value.int .i64 v_13), (Value.int .i64 v_14)].toArray 52), (some b76, Obj.cells [(Value.slice a_y75_records ((script.getD v_1.toNat default).records).length c_y75_records), (Value.bool ((script.getD v_1.toNat default).stop)), (Value.int .u8 (((script.getD v_1.toNat default).left).toNat : Int))].toArray 70), (some b25, Obj.cells [(Value.slice a_y179 v_15.length c_y179), (Value.slice a_y180 v_16.length c_y180), (Value.int .i64 v_17), (Value.bool v_18)].toArray 25)] O) w288 (ks [(some b283, Obj.cells [(Value.slice a_y281_records open_2.1.records.length c_y281_records), (Value.int .i64 open_2.1.many), (Value.int .i64 open_2.1.synced)].toArray 52), (some b212, Obj.cells [(Value.slice a_y205_sectors sync_1.2.1.sectors.length c_y205_sectors), (Value.slice a_y205_pending sync_1.2.1.pending.length c_y205_pending), (Value.int .i64 sync_1.2.1.left), (Value.bool sync_1.2.1.stopped)].toArray 25), (some b207, Obj.cells [(Value.slice a_y204_records sync_1.1.records.length c_y204_records), (Value.int .i64 sync_1.1.many), (Value.int .i64 sync_1.1.synced)].toArray 52), (some b106, Obj.cells [(Value.slice a_y127 v_12.length c_y127), (Value.int .i64 v_13), (Value.int .i64 v_14)].toArray 52), (some b76, Obj.cells [(Value.slice a_y75_records ((script.getD v_1.toNat default).records).length c_y75_records), (Value.bool ((script.getD v_1.toNat default).stop)), (Value.int .u8 (((script.getD v_1.toNat default).left).toNat : Int))].toArray 70), (some b25, Obj.cells [(Value.slice a_y179 v_15.length c_y179), (Value.slice a_y180 v_16.length c_y180), (Value.int .i64 v_17), (Value.bool v_18)].toArray 25)] O) w434 := hst438.trans p439
                    replace f_script := f_script.step p441; replace f_y37 := f_y37.step p441; replace f_y75_records := f_y75_records.step p441; replace f_y127 := f_y127.step p441; replace f_y179 := f_y179.step p441; replace f_y180 := f_y180.step p441; replace f_y204_records := f_y204_records.step p441; replace f_y205_sectors := f_y205_sectors.step p441; replace f_y205_pending := f_y205_pending.step p441; replace f_y281_records := f_y281_records.step p441; replace ch53 := ch53.trans p441; replace ch69 := ch69.trans p441; replace ch140 := ch140.trans p441; replace ch318 := ch318.trans p441; clear p441 hs290
                    iterate 2 refine Rg_opx rfl (asB_ne rfl rfl) rfl ?_
                    refine Rg_op rfl (op_pick_t (v := (Value.bool true)) rfl rfl ?_)
                    refine Rg_nil ?_
                    exact hK295 _ _ ⟨true, _, rfl, ⟨(by repeat (first | with_reducible exact Out.refl _ _ | refine Out.upd ?_ rfl | refine Out.updL ?_ rfl | refine Out.mix' ?_ rfl | exact Out.refl _ _)), rfl, rfl, trivial⟩, ch318, hs440, hm⟩
                   ·
                    replace hm := bif_f hm hg423
                    refine Dw_eq (Value.pointer (some ⟨b283, 0, none⟩)) (fun ρ442 w443 g hle hi ht => ?_) ?_
                    ·
                     obtain ⟨-, hst, -⟩ := hle
                     refine StepOp_g rfl (ht 156 rfl) (op_fieldAddr ty52 rfl ty22 (by decide) (ht 19 rfl) (rfl : _ = (⟨_, 0, none⟩ : Addr)) ?_)
                     exact Goes.same hi rfl
                    refine Dw_eq (Value.slice a_y281_records open_2.1.records.length c_y281_records) (fun ρ445 w446 g hle hi ht => ?_) ?_
                    ·
                     obtain ⟨-, hst, -⟩ := hle
                     have hsn := (Step.nx hi).1
                     refine StepOp_g rfl (ht 156 rfl) (op_load (cs := [(Value.slice a_y281_records open_2.1.records.length c_y281_records), (Value.int .i64 open_2.1.many), (Value.int .i64 open_2.1.synced)]) (i := 0) ty22 hsn (ht 157 rfl) rfl rfl ?_)
                     exact Goes.same hi rfl
                    refine Dw_eq (Value.int .i64 (open_2.1.records.length : Int)) (fun ρ448 w449 g hle hi ht => ?_) ?_
                    ·
                     obtain ⟨-, hst, -⟩ := hle
                     refine StepOp_g rfl (ht 156 rfl) (op_len Try.underlying22 (ht 158 rfl) ?_)
                     exact Goes.same hi rfl
                    refine Dw_eq (Value.pointer (some ⟨b106, 0, none⟩)) (fun ρ451 w452 g hle hi ht => ?_) ?_
                    ·
                     obtain ⟨-, hst, -⟩ := hle
                     refine StepOp_g rfl (ht 156 rfl) (op_fieldAddr ty52 rfl ty22 (by decide) (ht 10 rfl) (rfl : _ = (⟨_, 0, none⟩ : Addr)) ?_)
                     exact Goes.same hi rfl
                    refine Dw_eq (Value.slice a_y127 v_12.length c_y127) (fun ρ454 w455 g hle hi ht => ?_) ?_
                    ·
                     obtain ⟨-, hst, -⟩ := hle
                     have hsn := (Step.nx hi).1
                     refine StepOp_g rfl (ht 156 rfl) (op_load (cs := [(Value.slice a_y127 v_12.length c_y127), (Value.int .i64 v_13), (Value.int .i64 v_14)]) (i := 3) ty22 hsn (ht 160 rfl) rfl rfl ?_)
                     exact Goes.same hi rfl
                    refine Dw_eq (Value.int .i64 (v_12.length : Int)) (fun ρ457 w458 g hle hi ht => ?_) ?_
                    ·
                     obtain ⟨-, hst, -⟩ := hle
                     refine StepOp_g rfl (ht 156 rfl) (op_len Try.underlying22 (ht 161 rfl) ?_)
                     exact Goes.same hi rfl
                    refine Dw_eq (Value.bool (decide ((v_12.length : Int) < (open_2.1.records.length : Int)))) (fun ρ460 w461 g hle hi ht => ?_) ?_
                    ·
                     obtain ⟨-, hst, -⟩ := hle
                     refine StepOp_g rfl (ht 156 rfl) (op_gtr (ht 159 rfl) (ht 162 rfl) ?_)
                     exact Goes.same hi rfl
                    refine Dw_eq (Value.bool (decide ((v_12.length : Int) < (open_2.1.records.length : Int)))) (fun ρ463 w464 g hle hi ht => ?_) ?_
                    ·
                     obtain ⟨-, hst, -⟩ := hle
                     refine StepOp_plain (op_pick_f (v := (Value.bool (decide ((v_12.length : Int) < (open_2.1.records.length : Int))))) (ht 156 rfl) (ht 163 rfl) ?_)
                     exact Goes.same hi rfl
                    refine Dw_opB (decide ((v_12.length : Int) < (open_2.1.records.length : Int))) (fun ρ466 w467 g hle hi ht => ?_) (fun hg469 => ?_) (fun hg469 => ?_)
                    ·
                     obtain ⟨-, hst, -⟩ := hle
                     refine StepOp_plain (op_move (v := (Value.bool (decide ((v_12.length : Int) < (open_2.1.records.length : Int))))) (ht 164 rfl) ?_)
                     exact Goes.same hi rfl
                    ·
                     replace hm := bif_t hm hg469
                     refine Dw_skip (fun _ _ _ ht => wanted_x rfl (ht 165 rfl) rfl) ?_
                     refine Dw_skip (fun _ _ _ ht => wanted_x rfl (ht 165 rfl) rfl) ?_
                     refine Dw_skip (fun _ _ _ ht => wanted_x rfl (ht 165 rfl) rfl) ?_
                     refine Dw_skip (fun _ _ _ ht => wanted_x rfl (ht 165 rfl) rfl) ?_
                     refine Dw_skip (fun _ _ _ ht => wanted_x rfl (ht 165 rfl) rfl) ?_
                     refine Dw_skip (fun _ _ _ ht => wanted_x rfl (ht 165 rfl) rfl) ?_
                     refine Dw_skip (fun _ _ _ ht => wanted_x rfl (ht 165 rfl) rfl) ?_
                     refine Dw_skip (fun _ _ _ ht => wanted_x rfl (ht 165 rfl) rfl) ?_
                     refine Dw_nil fun w474 g475 hl476 hi477 => ?_
                     obtain ⟨-, hst478, -⟩ := hl476
                     obtain ⟨hs480, p479⟩ := Step.nx hi477
                     rintro _ rfl
                     rintro _ rfl
                     rintro _ rfl
                     rintro _ rfl
                     rintro _ rfl
                     rintro _ rfl
                     rintro _ rfl
                     rintro _ rfl
                     rintro _ rfl
                     rintro _ rfl
                     rintro _ rfl
                     rintro _ rfl
                     rintro _ rfl
                     rintro _ rfl
                     rintro _ rfl
                     rintro _ rfl
                     rintro _ rfl
                     rintro _ rfl
                     rintro _ rfl
                     rintro _ rfl
                     rintro _ rfl
                     rintro _ rfl
                     rintro _ rfl
                     rintro _ rfl
                     rintro _ rfl
                     rintro _ rfl
                     rintro _ rfl
                     rintro _ rfl
                     rintro _ rfl
                     rintro _ rfl
                     rintro _ rfl
                     rintro _ rfl
                     rintro _ rfl
                     have p481 : Step (ks [(some b283, Obj.cells [(Value.slice a_y281_records open_2.1.records.length c_y281_records), (Value.int .i64 open_2.1.many), (Value.int .i64 open_2.1.synced)].toArray 52), (some b212, Obj.cells [(Value.slice a_y205_sectors sync_1.2.1.sectors.length c_y205_sectors), (Value.slice a_y205_pending sync_1.2.1.pending.length c_y205_pending), (Value.int .i64 sync_1.2.1.left), (Value.bool sync_1.2.1.stopped)].toArray 25), (some b207, Obj.cells [(Value.slice a_y204_records sync_1.1.records.length c_y204_records), (Value.int .i64 sync_1.1.many), (Value.int .i64 sync_1.1.synced)].toArray 52), (some b106, Obj.cells [(Value.slice a_y127 v_12.length c_y127), (Value.int .i64 v_13), (Value.int .i64 v_14)].toArray 52), (some b76, Obj.cells [(Value.slice a_y75_records ((script.getD v_1.toNat default).records).length c_y75_records), (Value.bool ((script.getD v_1.toNat default).stop)), (Value.int .u8 (((script.getD v_1.toNat default).left).toNat : Int))].toArray 70), (some b25, Obj.cells [(Value.slice a_y179 v_15.length c_y179), (Value.slice a_y180 v_16.length c_y180), (Value.int .i64 v_17), (Value.bool v_18)].toArray 25)] O) w288 (ks [(some b283, Obj.cells [(Value.slice a_y281_records open_2.1.records.length c_y281_records), (Value.int .i64 open_2.1.many), (Value.int .i64 open_2.1.synced)].toArray 52), (some b212, Obj.cells [(Value.slice a_y205_sectors sync_1.2.1.sectors.length c_y205_sectors), (Value.slice a_y205_pending sync_1.2.1.pending.length c_y205_pending), (Value.int .i64 sync_1.2.1.left), (Value.bool sync_1.2.1.stopped)].toArray 25), (some b207, Obj.cells [(Value.slice a_y204_records sync_1.1.records.length c_y204_records), (Value.int .i64 sync_1.1.many), (Value.int .i64 sync_1.1.synced)].toArray 52), (some b106, Obj.cells [(Value.slice a_y127 v_12.length c_y127), (Value.int .i64 v_13), (Value.int .i64 v_14)].toArray 52), (some b76, Obj.cells [(Value.slice a_y75_records ((script.getD v_1.toNat default).records).length c_y75_records), (Value.bool ((script.getD v_1.toNat default).stop)), (Value.int .u8 (((script.getD v_1.toNat default).left).toNat : Int))].toArray 70), (some b25, Obj.cells [(Value.slice a_y179 v_15.length c_y179), (Value.slice a_y180 v_16.length c_y180), (Value.int .i64 v_17), (Value.bool v_18)].toArray 25)] O) w474 := hst478.trans p479
                     replace f_script := f_script.step p481; replace f_y37 := f_y37.step p481; replace f_y75_records := f_y75_records.step p481; replace f_y127 := f_y127.step p481; replace f_y179 := f_y179.step p481; replace f_y180 := f_y180.step p481; replace f_y204_records := f_y204_records.step p481; replace f_y205_sectors := f_y205_sectors.step p481; replace f_y205_pending := f_y205_pending.step p481; replace f_y281_records := f_y281_records.step p481; replace ch53 := ch53.trans p481; replace ch69 := ch69.trans p481; replace ch140 := ch140.trans p481; replace ch318 := ch318.trans p481; clear p481 hs290
                     iterate 2 refine Rg_opx rfl (asB_ne rfl rfl) rfl ?_
                     refine Rg_op rfl (op_pick_t (v := (Value.bool true)) rfl rfl ?_)
                     refine Rg_nil ?_
                     exact hK295 _ _ ⟨true, _, rfl, ⟨(by repeat (first | with_reducible exact Out.refl _ _ | refine Out.upd ?_ rfl | refine Out.updL ?_ rfl | refine Out.mix' ?_ rfl | exact Out.refl _ _)), rfl, rfl, trivial⟩, ch318, hs480, hm⟩
                    ·
                     replace hm := bif_f hm hg469
                     refine Dw_eq (Value.pointer (some ⟨b283, 0, none⟩)) (fun ρ482 w483 g hle hi ht => ?_) ?_
                     ·
                      obtain ⟨-, hst, -⟩ := hle
                      refine StepOp_g rfl (ht 165 rfl) (op_fieldAddr ty52 rfl ty22 (by decide) (ht 19 rfl) (rfl : _ = (⟨_, 0, none⟩ : Addr)) ?_)
                      exact Goes.same hi rfl
                     refine Dw_eq (Value.slice a_y281_records open_2.1.records.length c_y281_records) (fun ρ485 w486 g hle hi ht => ?_) ?_
                     ·
                      obtain ⟨-, hst, -⟩ := hle
                      have hsn := (Step.nx hi).1
                      refine StepOp_g rfl (ht 165 rfl) (op_load (cs := [(Value.slice a_y281_records open_2.1.records.length c_y281_records), (Value.int .i64 open_2.1.many), (Value.int .i64 open_2.1.synced)]) (i := 0) ty22 hsn (ht 166 rfl) rfl rfl ?_)
                      exact Goes.same hi rfl
                     refine Dw_eq (Value.pointer (some ⟨b106, 0, none⟩)) (fun ρ488 w489 g hle hi ht => ?_) ?_
                     ·
                      obtain ⟨-, hst, -⟩ := hle
                      refine StepOp_g rfl (ht 165 rfl) (op_fieldAddr ty52 rfl ty22 (by decide) (ht 10 rfl) (rfl : _ = (⟨_, 0, none⟩ : Addr)) ?_)
                      exact Goes.same hi rfl
                     refine Dw_eq (Value.slice a_y127 v_12.length c_y127) (fun ρ491 w492 g hle hi ht => ?_) ?_
                     ·
                      obtain ⟨-, hst, -⟩ := hle
                      have hsn := (Step.nx hi).1
                      refine StepOp_g rfl (ht 165 rfl) (op_load (cs := [(Value.slice a_y127 v_12.length c_y127), (Value.int .i64 v_13), (Value.int .i64 v_14)]) (i := 3) ty22 hsn (ht 168 rfl) rfl rfl ?_)
                      exact Goes.same hi rfl
                     refine Dw_eq (Value.pointer (some ⟨b283, 0, none⟩)) (fun ρ494 w495 g hle hi ht => ?_) ?_
                     ·
                      obtain ⟨-, hst, -⟩ := hle
                      refine StepOp_g rfl (ht 165 rfl) (op_fieldAddr ty52 rfl ty22 (by decide) (ht 19 rfl) (rfl : _ = (⟨_, 0, none⟩ : Addr)) ?_)
                      exact Goes.same hi rfl
                     refine Dw_eq (Value.slice a_y281_records open_2.1.records.length c_y281_records) (fun ρ497 w498 g hle hi ht => ?_) ?_
                     ·
                      obtain ⟨-, hst, -⟩ := hle
                      have hsn := (Step.nx hi).1
                      refine StepOp_g rfl (ht 165 rfl) (op_load (cs := [(Value.slice a_y281_records open_2.1.records.length c_y281_records), (Value.int .i64 open_2.1.many), (Value.int .i64 open_2.1.synced)]) (i := 0) ty22 hsn (ht 170 rfl) rfl rfl ?_)
                      exact Goes.same hi rfl
                     refine Dw_eq (Value.int .i64 (open_2.1.records.length : Int)) (fun ρ500 w501 g hle hi ht => ?_) ?_
                     ·
                      obtain ⟨-, hst, -⟩ := hle
                      refine StepOp_g rfl (ht 165 rfl) (op_len Try.underlying22 (ht 171 rfl) ?_)
                      exact Goes.same hi rfl
                     replace hm := ck_some hm; obtain ⟨hc506, hm⟩ := hm
                     refine Dw_op (VD O [(some b283, Obj.cells [(Value.slice a_y281_records open_2.1.records.length c_y281_records), (Value.int .i64 open_2.1.many), (Value.int .i64 open_2.1.synced)].toArray 52), (some b212, Obj.cells [(Value.slice a_y205_sectors sync_1.2.1.sectors.length c_y205_sectors), (Value.slice a_y205_pending sync_1.2.1.pending.length c_y205_pending), (Value.int .i64 sync_1.2.1.left), (Value.bool sync_1.2.1.stopped)].toArray 25), (some b207, Obj.cells [(Value.slice a_y204_records sync_1.1.records.length c_y204_records), (Value.int .i64 sync_1.1.many), (Value.int .i64 sync_1.1.synced)].toArray 52), (some b106, Obj.cells [(Value.slice a_y127 v_12.length c_y127), (Value.int .i64 v_13), (Value.int .i64 v_14)].toArray 52), (some b76, Obj.cells [(Value.slice a_y75_records ((script.getD v_1.toNat default).records).length c_y75_records), (Value.bool ((script.getD v_1.toNat default).stop)), (Value.int .u8 (((script.getD v_1.toNat default).left).toNat : Int))].toArray 70), (some b25, Obj.cells [(Value.slice a_y179 v_15.length c_y179), (Value.slice a_y180 v_16.length c_y180), (Value.int .i64 v_17), (Value.bool v_18)].toArray 25)] (vC (rSl (rSl rU8))) ((v_12.drop 0).take (open_2.1.records.length - 0))) (VD.stab _ _) (fun ρ503 w504 g hle hi ht => ?_) ?_
                     ·
                      obtain ⟨-, hst, -⟩ := hle
                      replace f_y127 := f_y127.step hst
                      refine StepOp_g rfl (ht 165 rfl) (op_slice (q := (rSl rU8)) (l := 0) (h := open_2.1.records.length) (m := c_y127) ty22 ty41 (ht 169 rfl) f_y127 rfl rfl (bndI (ht 172 rfl) (by omega)) rfl (by decide) (by omega) (by omega) (by have h_ : v_12.length ≤ c_y127 := f_y127.le; omega) (by have h_ : v_12.length ≤ c_y127 := f_y127.le; omega) ?_)
                      intro a507 f508
                      exact Goes.same hi (show Vr.vd (vC (rSl (rSl rU8))) _ _ _ _ from (mkC (mk_sl f508)))
                     refine Dw_nil fun w513 g514 hl515 hi516 => ?_
                     obtain ⟨-, hst517, -⟩ := hl515
                     obtain ⟨hs519, p518⟩ := Step.nx hi516
                     rintro v520 h521
                     replace h521 : Vr.vd (vC (rSl (rSl rU8))) _ _ _ _ := h521
                     obtain ⟨a_y522, c_y522, rfl, f_y522⟩ := un_sl h521
                     rintro _ rfl
                     rintro _ rfl
                     rintro _ rfl
                     rintro _ rfl
                     rintro _ rfl
                     rintro _ rfl
                     rintro _ rfl
                     rintro _ rfl
                     rintro _ rfl
                     rintro _ rfl
                     rintro _ rfl
                     rintro _ rfl
                     rintro _ rfl
                     rintro _ rfl
                     rintro _ rfl
                     rintro _ rfl
                     rintro _ rfl
                     rintro _ rfl
                     rintro _ rfl
                     rintro _ rfl
                     rintro _ rfl
                     rintro _ rfl
                     rintro _ rfl
                     rintro _ rfl
                     rintro _ rfl
                     rintro _ rfl
                     rintro _ rfl
                     rintro _ rfl
                     rintro _ rfl
                     rintro _ rfl
                     rintro _ rfl
                     rintro _ rfl
                     have p523 : Step (ks [(some b283, Obj.cells [(Value.slice a_y281_records open_2.1.records.length c_y281_records), (Value.int .i64 open_2.1.many), (Value.int .i64 open_2.1.synced)].toArray 52), (some b212, Obj.cells [(Value.slice a_y205_sectors sync_1.2.1.sectors.length c_y205_sectors), (Value.slice a_y205_pending sync_1.2.1.pending.length c_y205_pending), (Value.int .i64 sync_1.2.1.left), (Value.bool sync_1.2.1.stopped)].toArray 25), (some b207, Obj.cells [(Value.slice a_y204_records sync_1.1.records.length c_y204_records), (Value.int .i64 sync_1.1.many), (Value.int .i64 sync_1.1.synced)].toArray 52), (some b106, Obj.cells [(Value.slice a_y127 v_12.length c_y127), (Value.int .i64 v_13), (Value.int .i64 v_14)].toArray 52), (some b76, Obj.cells [(Value.slice a_y75_records ((script.getD v_1.toNat default).records).length c_y75_records), (Value.bool ((script.getD v_1.toNat default).stop)), (Value.int .u8 (((script.getD v_1.toNat default).left).toNat : Int))].toArray 70), (some b25, Obj.cells [(Value.slice a_y179 v_15.length c_y179), (Value.slice a_y180 v_16.length c_y180), (Value.int .i64 v_17), (Value.bool v_18)].toArray 25)] O) w288 (ks [(some b283, Obj.cells [(Value.slice a_y281_records open_2.1.records.length c_y281_records), (Value.int .i64 open_2.1.many), (Value.int .i64 open_2.1.synced)].toArray 52), (some b212, Obj.cells [(Value.slice a_y205_sectors sync_1.2.1.sectors.length c_y205_sectors), (Value.slice a_y205_pending sync_1.2.1.pending.length c_y205_pending), (Value.int .i64 sync_1.2.1.left), (Value.bool sync_1.2.1.stopped)].toArray 25), (some b207, Obj.cells [(Value.slice a_y204_records sync_1.1.records.length c_y204_records), (Value.int .i64 sync_1.1.many), (Value.int .i64 sync_1.1.synced)].toArray 52), (some b106, Obj.cells [(Value.slice a_y127 v_12.length c_y127), (Value.int .i64 v_13), (Value.int .i64 v_14)].toArray 52), (some b76, Obj.cells [(Value.slice a_y75_records ((script.getD v_1.toNat default).records).length c_y75_records), (Value.bool ((script.getD v_1.toNat default).stop)), (Value.int .u8 (((script.getD v_1.toNat default).left).toNat : Int))].toArray 70), (some b25, Obj.cells [(Value.slice a_y179 v_15.length c_y179), (Value.slice a_y180 v_16.length c_y180), (Value.int .i64 v_17), (Value.bool v_18)].toArray 25)] O) w513 := hst517.trans p518
                     replace f_y522 := f_y522.step p518; replace f_script := f_script.step p523; replace f_y37 := f_y37.step p523; replace f_y75_records := f_y75_records.step p523; replace f_y127 := f_y127.step p523; replace f_y179 := f_y179.step p523; replace f_y180 := f_y180.step p523; replace f_y204_records := f_y204_records.step p523; replace f_y205_sectors := f_y205_sectors.step p523; replace f_y205_pending := f_y205_pending.step p523; replace f_y281_records := f_y281_records.step p523; replace ch53 := ch53.trans p523; replace ch69 := ch69.trans p523; replace ch140 := ch140.trans p523; replace ch318 := ch318.trans p523; clear p523 hs290
                     replace hm := bd hm; obtain ⟨samerecords_2, hv524, hm⟩ := hm
                     refine Rg_opg rfl rfl rfl (op_call Try.call37 (c37_overflightref45_SameRecords (a := open_2.1.records) (b := ((v_12.drop 0).take (open_2.1.records.length - 0))) hs519.ltw f_y281_records f_y522 hv524) rfl ?_)
                     rintro v525 w526 ⟨hx527, h528⟩
                     have hs529 := hs519.call hx527
                     have p530 := Step.ext (O := ks [(some b283, Obj.cells [(Value.slice a_y281_records open_2.1.records.length c_y281_records), (Value.int .i64 open_2.1.many), (Value.int .i64 open_2.1.synced)].toArray 52), (some b212, Obj.cells [(Value.slice a_y205_sectors sync_1.2.1.sectors.length c_y205_sectors), (Value.slice a_y205_pending sync_1.2.1.pending.length c_y205_pending), (Value.int .i64 sync_1.2.1.left), (Value.bool sync_1.2.1.stopped)].toArray 25), (some b207, Obj.cells [(Value.slice a_y204_records sync_1.1.records.length c_y204_records), (Value.int .i64 sync_1.1.many), (Value.int .i64 sync_1.1.synced)].toArray 52), (some b106, Obj.cells [(Value.slice a_y127 v_12.length c_y127), (Value.int .i64 v_13), (Value.int .i64 v_14)].toArray 52), (some b76, Obj.cells [(Value.slice a_y75_records ((script.getD v_1.toNat default).records).length c_y75_records), (Value.bool ((script.getD v_1.toNat default).stop)), (Value.int .u8 (((script.getD v_1.toNat default).left).toNat : Int))].toArray 70), (some b25, Obj.cells [(Value.slice a_y179 v_15.length c_y179), (Value.slice a_y180 v_16.length c_y180), (Value.int .i64 v_17), (Value.bool v_18)].toArray 25)] O) hx527
                     clear hx527
                     replace f_script := f_script.step p530; replace f_y37 := f_y37.step p530; replace f_y75_records := f_y75_records.step p530; replace f_y127 := f_y127.step p530; replace f_y179 := f_y179.step p530; replace f_y180 := f_y180.step p530; replace f_y204_records := f_y204_records.step p530; replace f_y205_sectors := f_y205_sectors.step p530; replace f_y205_pending := f_y205_pending.step p530; replace f_y281_records := f_y281_records.step p530; replace f_y522 := f_y522.step p530; replace ch53 := ch53.trans p530; replace ch69 := ch69.trans p530; replace ch140 := ch140.trans p530; replace ch318 := ch318.trans p530; clear p530 hs519
                     obtain rfl := h528
                     refine Rg_opg rfl rfl rfl (op_not rfl ?_)
                     refine Rg_op rfl (op_pick_f (v := (Value.bool (!samerecords_2))) rfl rfl ?_)
                     refine Rg_nil ?_
                     exact hK295 _ _ ⟨(!samerecords_2), _, rfl, ⟨(by repeat (first | with_reducible exact Out.refl _ _ | refine Out.upd ?_ rfl | refine Out.updL ?_ rfl | refine Out.mix' ?_ rfl | exact Out.refl _ _)), rfl, rfl, trivial⟩, ch318, hs529, hm⟩
               ·
                replace hm := bif_f hm hc261
                refine Wp_seq ?_
                clear f_script f_y37
                refine Wp_region ?_
                refine Rg_op rfl (op_assign (v := (Value.bool false)) rfl ?_)
                refine Rg_nil ?_
                refine Wp_ret ?_
                have hz := step_all hs222
                replace f_y75_records := f_y75_records.step hz; replace f_y127 := f_y127.step hz; replace f_y179 := f_y179.step hz; replace f_y180 := f_y180.step hz; replace f_y204_records := f_y204_records.step hz; replace f_y205_sectors := f_y205_sectors.step hz; replace f_y205_pending := f_y205_pending.step hz
                refine ⟨_, (show Closes [] _ _ from rfl), [(Value.bool false)], ⟨rfl, trivial⟩, hs222.ext, ?_⟩
                exact Vr.eq (a := vB) (x := false) rfl (Option.some.inj hm)
             ·
              intro K185 hK185
              have ch532 := Step.refl (ks [(some b106, Obj.cells [(Value.slice a_y127 v_12.length c_y127), (Value.int .i64 v_13), (Value.int .i64 v_14)].toArray 52), (some b76, Obj.cells [(Value.slice a_y75_records ((script.getD v_1.toNat default).records).length c_y75_records), (Value.bool ((script.getD v_1.toNat default).stop)), (Value.int .u8 (((script.getD v_1.toNat default).left).toNat : Int))].toArray 70), (some b25, Obj.cells [(Value.slice a_y39 v_2.length c_y39), (Value.slice a_y40 v_3.length c_y40), (Value.int .i64 v_4), (Value.bool v_5)].toArray 25)] O) w135
              refine Wp_seq ?_
              refine Wp_region ?_
              refine Rg_op rfl (op_fieldAddr ty70 rfl ty4 (by decide) rfl (rfl : _ = (⟨_, 1, none⟩ : Addr)) ?_)
              refine Rg_op rfl (op_load (cs := [(Value.slice a_y75_records ((script.getD v_1.toNat default).records).length c_y75_records), (Value.bool ((script.getD v_1.toNat default).stop)), (Value.int .u8 (((script.getD v_1.toNat default).left).toNat : Int))]) (i := 1) ty4 hs136 rfl rfl rfl ?_)
              refine Rg_nil ?_
              refine Wp_cond rfl (fun hc533 => ?_) (fun hc533 => ?_)
              ·
               replace hm := bif_t hm hc533
               refine Wp_seq ?_
               refine Wp_region ?_
               refine Rg_op rfl (op_loadA (cs := [(Value.slice a_y39 v_2.length c_y39), (Value.slice a_y40 v_3.length c_y40), (Value.int .i64 v_4), (Value.bool v_5)]) (vs := [(Value.slice a_y39 v_2.length c_y39), (Value.slice a_y40 v_3.length c_y40), (Value.int .i64 v_4), (Value.bool v_5)]) (i := 2) ty25 hs136 rfl rfl rfl rfl ?_)
               refine Rg_op rfl (op_fieldAddr ty70 rfl ty5 (by decide) rfl (rfl : _ = (⟨_, 2, none⟩ : Addr)) ?_)
               refine Rg_op rfl (op_load (cs := [(Value.slice a_y75_records ((script.getD v_1.toNat default).records).length c_y75_records), (Value.bool ((script.getD v_1.toNat default).stop)), (Value.int .u8 (((script.getD v_1.toNat default).left).toNat : Int))]) (i := 1) ty5 hs136 rfl rfl rfl ?_)
               refine Rg_op rfl (run1_u8 (e := ((((script.getD v_1.toNat default).left).toNat : Int).tmod 40)) (inK_tmod (inK_u8 ((script.getD v_1.toNat default).left))) (fun _ hk => op_rem rfl rfl (by decide) hk) ?_)
               refine Rg_op rfl (op_conv_u8 Try.underlying5 Try.underlying3 rfl (by decide) ?_)
               replace hm := bd hm; obtain ⟨stop_1, hv534, hm⟩ := hm
               refine Rg_op rfl (op_call Try.call22 (c22_disk_Stop (d := (⟨v_2, v_3, v_4, v_5⟩ : XDisk)) (left := ((UInt8.ofNat ((((script.getD v_1.toNat default).left).toNat : Int).tmod 40).toNat).toNat : Int)) hs136.ltw f_y39 f_y40 r_y41 (inK_ofu8 .i64 (by decide) (UInt8.ofNat ((((script.getD v_1.toNat default).left).toNat : Int).tmod 40).toNat)) hv534) rfl ?_)
               rintro v535 w536 ⟨hx537, h538⟩
               have hs539 := hs136.call hx537
               have p540 := Step.ext (O := ks [(some b106, Obj.cells [(Value.slice a_y127 v_12.length c_y127), (Value.int .i64 v_13), (Value.int .i64 v_14)].toArray 52), (some b76, Obj.cells [(Value.slice a_y75_records ((script.getD v_1.toNat default).records).length c_y75_records), (Value.bool ((script.getD v_1.toNat default).stop)), (Value.int .u8 (((script.getD v_1.toNat default).left).toNat : Int))].toArray 70), (some b25, Obj.cells [(Value.slice a_y39 v_2.length c_y39), (Value.slice a_y40 v_3.length c_y40), (Value.int .i64 v_4), (Value.bool v_5)].toArray 25)] O) hx537
               clear hx537
               replace f_script := f_script.step p540; replace f_y37 := f_y37.step p540; replace f_y39 := f_y39.step p540; replace f_y40 := f_y40.step p540; replace f_y75_records := f_y75_records.step p540; replace f_y127 := f_y127.step p540; replace ch53 := ch53.trans p540; replace ch69 := ch69.trans p540; replace ch140 := ch140.trans p540; replace ch532 := ch532.trans p540; clear p540 hs136
               obtain ⟨v541, v542, rfl, h543, h544⟩ := h538
               obtain ⟨_, rfl, ⟨_, _, rfl, ⟨a_y545_sectors, c_y545_sectors, rfl, f_y545_sectors⟩, ⟨_, _, rfl, ⟨a_y545_pending, c_y545_pending, rfl, f_y545_pending⟩, ⟨_, _, rfl, ⟨rfl, r_y545_left⟩, rfl⟩⟩⟩⟩ := h543
               obtain ⟨rfl, r_y546⟩ := h544
               refine Rg_op rfl (op_move (v := (Value.tuple [(Value.agg [(Value.slice a_y545_sectors stop_1.1.sectors.length c_y545_sectors), (Value.slice a_y545_pending stop_1.1.pending.length c_y545_pending), (Value.int .i64 stop_1.1.left), (Value.bool stop_1.1.stopped)].toArray), (Value.int .i64 stop_1.2)].toArray)) rfl ?_)
               refine Rg_op rfl (op_extract (v := (Value.agg [(Value.slice a_y545_sectors stop_1.1.sectors.length c_y545_sectors), (Value.slice a_y545_pending stop_1.1.pending.length c_y545_pending), (Value.int .i64 stop_1.1.left), (Value.bool stop_1.1.stopped)].toArray)) rfl rfl ?_)
               refine Rg_op rfl (op_extract (v := (Value.int .i64 stop_1.2)) rfl rfl ?_)
               refine Rg_op_ (op_store (cs := [(Value.slice a_y39 v_2.length c_y39), (Value.slice a_y40 v_3.length c_y40), (Value.int .i64 v_4), (Value.bool v_5)]) (vs := [(Value.slice a_y545_sectors stop_1.1.sectors.length c_y545_sectors), (Value.slice a_y545_pending stop_1.1.pending.length c_y545_pending), (Value.int .i64 stop_1.1.left), (Value.bool stop_1.1.stopped)]) (cs' := [(Value.slice a_y545_sectors stop_1.1.sectors.length c_y545_sectors), (Value.slice a_y545_pending stop_1.1.pending.length c_y545_pending), (Value.int .i64 stop_1.1.left), (Value.bool stop_1.1.stopped)]) (bs' := [(some b106, Obj.cells [(Value.slice a_y127 v_12.length c_y127), (Value.int .i64 v_13), (Value.int .i64 v_14)].toArray 52), (some b76, Obj.cells [(Value.slice a_y75_records ((script.getD v_1.toNat default).records).length c_y75_records), (Value.bool ((script.getD v_1.toNat default).stop)), (Value.int .u8 (((script.getD v_1.toNat default).left).toNat : Int))].toArray 70), (some b25, Obj.cells [(Value.slice a_y545_sectors stop_1.1.sectors.length c_y545_sectors), (Value.slice a_y545_pending stop_1.1.pending.length c_y545_pending), (Value.int .i64 stop_1.1.left), (Value.bool stop_1.1.stopped)].toArray 25)]) (i := 2) ty25 hs539 rfl rfl rfl rfl rfl (le_lit rfl) rfl rfl rfl ?_)
               intro w547 p548 hs549
               replace f_script := f_script.step p548; replace f_y37 := f_y37.step p548; replace f_y39 := f_y39.step p548; replace f_y40 := f_y40.step p548; replace f_y75_records := f_y75_records.step p548; replace f_y127 := f_y127.step p548; replace f_y545_sectors := f_y545_sectors.step p548; replace f_y545_pending := f_y545_pending.step p548; replace ch53 := ch53.trans p548; replace ch69 := ch69.trans p548; replace ch140 := ch140.trans p548; replace ch532 := ch532.trans p548; clear p548 hs539
               refine Rg_op rfl (op_assign (v := (Value.int .i64 stop_1.2)) rfl ?_)
               refine Rg_nil ?_
               refine Wp_seq ?_
               clear f_y39 f_y40
               refine Wp_region ?_
               refine Rg_op rfl (op_move (v := (Value.int .i64 stop_1.2)) rfl ?_)
               refine Rg_op rfl (op_neq rfl rfl ?_)
               refine Rg_nil ?_
               refine Wp_cond rfl (fun hc550 => ?_) (fun hc550 => ?_)
               ·
                replace hm := bif_t hm hc550
                refine Wp_seq ?_
                clear f_script f_y37
                refine Wp_region ?_
                refine Rg_op rfl (op_assign (v := (Value.bool false)) rfl ?_)
                refine Rg_nil ?_
                refine Wp_ret ?_
                have hz := step_all hs549
                replace f_y75_records := f_y75_records.step hz; replace f_y127 := f_y127.step hz; replace f_y545_sectors := f_y545_sectors.step hz; replace f_y545_pending := f_y545_pending.step hz
                refine ⟨_, (show Closes [] _ _ from rfl), [(Value.bool false)], ⟨rfl, trivial⟩, hs549.ext, ?_⟩
                exact Vr.eq (a := vB) (x := false) rfl (Option.some.inj hm)
               ·
                replace hm := bif_f hm hc550
                refine Wp_skip ?_
                exact hK185 _ _ ⟨stop_1.1.sectors, stop_1.1.pending, stop_1.1.left, stop_1.1.stopped, a_y545_sectors, c_y545_sectors, a_y545_pending, c_y545_pending, _, rfl, ⟨(by repeat (first | with_reducible exact Out.refl _ _ | refine Out.upd ?_ rfl | refine Out.updL ?_ rfl | refine Out.mix' ?_ rfl | exact Out.refl _ _)), rfl, trivial⟩, ch532, hs549, f_y545_sectors, f_y545_pending, r_y545_left, hm⟩
              ·
               replace hm := bif_f hm hc533
               refine Wp_skip ?_
               exact hK185 _ _ ⟨v_2, v_3, v_4, v_5, a_y39, c_y39, a_y40, c_y40, _, rfl, ⟨(by repeat (first | with_reducible exact Out.refl _ _ | refine Out.upd ?_ rfl | refine Out.updL ?_ rfl | refine Out.mix' ?_ rfl | exact Out.refl _ _)), rfl, trivial⟩, ch532, hs136, f_y39, f_y40, r_y41, hm⟩
        ·
         intro K118 hK118
         have ch551 := Step.refl (ks [(some b106, Obj.cells [(Value.slice a_y104_records open_1.1.records.length c_y104_records), (Value.int .i64 open_1.1.many), (Value.int .i64 open_1.1.synced)].toArray 52), (some b76, Obj.cells [(Value.slice a_y75_records ((script.getD v_1.toNat default).records).length c_y75_records), (Value.bool ((script.getD v_1.toNat default).stop)), (Value.int .u8 (((script.getD v_1.toNat default).left).toNat : Int))].toArray 70), (some b25, Obj.cells [(Value.slice a_y39 v_2.length c_y39), (Value.slice a_y40 v_3.length c_y40), (Value.int .i64 v_4), (Value.bool v_5)].toArray 25)] O) w111
         refine Wp_region ?_
         refine Rg_op rfl (op_move (v := (Value.int .i64 open_1.2)) rfl ?_)
         refine Rg_op rfl (op_neq rfl rfl ?_)
         refine Rg_op rfl (op_move (v := (Value.bool (decide (open_1.2 ≠ 0)))) rfl ?_)
         refine Rg_case (fun hg552 => ?_) (fun hg552 => ?_)
         ·
          replace hm := bif_t hm hg552
          iterate 6 refine Rg_opx rfl (asB_ne rfl rfl) rfl ?_
          refine Rg_op rfl (op_pick_t (v := (Value.bool true)) rfl rfl ?_)
          refine Rg_op rfl (op_move (v := (Value.bool true)) rfl ?_)
          iterate 5 refine Rg_opx rfl (asB_ne rfl rfl) rfl ?_
          refine Rg_op rfl (op_pick_t (v := (Value.bool true)) rfl rfl ?_)
          refine Rg_nil ?_
          exact hK118 _ _ ⟨true, _, rfl, ⟨(by repeat (first | with_reducible exact Out.refl _ _ | refine Out.upd ?_ rfl | refine Out.updL ?_ rfl | refine Out.mix' ?_ rfl | exact Out.refl _ _)), rfl, rfl, trivial⟩, ch551, hs113, hm⟩
         ·
          replace hm := bif_f hm hg552
          refine Rg_opg rfl rfl rfl (op_fieldAddr ty52 rfl ty3 (by decide) rfl (rfl : _ = (⟨_, 2, none⟩ : Addr)) ?_)
          refine Rg_opg rfl rfl rfl (op_load (cs := [(Value.slice a_y104_records open_1.1.records.length c_y104_records), (Value.int .i64 open_1.1.many), (Value.int .i64 open_1.1.synced)]) (i := 0) ty3 hs113 rfl rfl rfl ?_)
          refine Rg_opg rfl rfl rfl (op_fieldAddr ty52 rfl ty22 (by decide) rfl (rfl : _ = (⟨_, 0, none⟩ : Addr)) ?_)
          refine Rg_opg rfl rfl rfl (op_load (cs := [(Value.slice a_y104_records open_1.1.records.length c_y104_records), (Value.int .i64 open_1.1.many), (Value.int .i64 open_1.1.synced)]) (i := 0) ty22 hs113 rfl rfl rfl ?_)
          refine Rg_opg rfl rfl rfl (op_len Try.underlying22 rfl ?_)
          have rl553 := inK_len f_y104_records
          refine Rg_opg rfl rfl rfl (op_neq rfl rfl ?_)
          refine Rg_op rfl (op_pick_f (v := (Value.bool (decide (open_1.1.synced ≠ (open_1.1.records.length : Int))))) rfl rfl ?_)
          refine Rg_op rfl (op_move (v := (Value.bool (decide (open_1.1.synced ≠ (open_1.1.records.length : Int))))) rfl ?_)
          refine Rg_case (fun hg554 => ?_) (fun hg554 => ?_)
          ·
           replace hm := bif_t hm hg554
           iterate 5 refine Rg_opx rfl (asB_ne rfl rfl) rfl ?_
           refine Rg_op rfl (op_pick_t (v := (Value.bool true)) rfl rfl ?_)
           refine Rg_nil ?_
           exact hK118 _ _ ⟨true, _, rfl, ⟨(by repeat (first | with_reducible exact Out.refl _ _ | refine Out.upd ?_ rfl | refine Out.updL ?_ rfl | refine Out.mix' ?_ rfl | exact Out.refl _ _)), rfl, rfl, trivial⟩, ch551, hs113, hm⟩
          ·
           replace hm := bif_f hm hg554
           refine Rg_opg rfl rfl rfl (op_fieldAddr ty52 rfl ty22 (by decide) rfl (rfl : _ = (⟨_, 0, none⟩ : Addr)) ?_)
           refine Rg_opg rfl rfl rfl (op_load (cs := [(Value.slice a_y104_records open_1.1.records.length c_y104_records), (Value.int .i64 open_1.1.many), (Value.int .i64 open_1.1.synced)]) (i := 0) ty22 hs113 rfl rfl rfl ?_)
           refine Rg_opg rfl rfl rfl (op_move (v := (Value.slice a_y37 kept_1.length c_y37)) rfl ?_)
           replace hm := bd hm; obtain ⟨samerecords_3, hv555, hm⟩ := hm
           refine Rg_opg rfl rfl rfl (op_call Try.call37 (c37_overflightref45_SameRecords (a := open_1.1.records) (b := kept_1) hs113.ltw f_y104_records f_y37 hv555) rfl ?_)
           rintro v556 w557 ⟨hx558, h559⟩
           have hs560 := hs113.call hx558
           have p561 := Step.ext (O := ks [(some b106, Obj.cells [(Value.slice a_y104_records open_1.1.records.length c_y104_records), (Value.int .i64 open_1.1.many), (Value.int .i64 open_1.1.synced)].toArray 52), (some b76, Obj.cells [(Value.slice a_y75_records ((script.getD v_1.toNat default).records).length c_y75_records), (Value.bool ((script.getD v_1.toNat default).stop)), (Value.int .u8 (((script.getD v_1.toNat default).left).toNat : Int))].toArray 70), (some b25, Obj.cells [(Value.slice a_y39 v_2.length c_y39), (Value.slice a_y40 v_3.length c_y40), (Value.int .i64 v_4), (Value.bool v_5)].toArray 25)] O) hx558
           clear hx558
           replace f_script := f_script.step p561; replace f_y37 := f_y37.step p561; replace f_y39 := f_y39.step p561; replace f_y40 := f_y40.step p561; replace f_y75_records := f_y75_records.step p561; replace f_y104_records := f_y104_records.step p561; replace ch53 := ch53.trans p561; replace ch69 := ch69.trans p561; replace ch551 := ch551.trans p561; clear p561 hs113
           obtain rfl := h559
           refine Rg_opg rfl rfl rfl (op_not rfl ?_)
           refine Rg_op rfl (op_pick_f (v := (Value.bool (!samerecords_3))) rfl rfl ?_)
           refine Rg_nil ?_
           exact hK118 _ _ ⟨(!samerecords_3), _, rfl, ⟨(by repeat (first | with_reducible exact Out.refl _ _ | refine Out.upd ?_ rfl | refine Out.updL ?_ rfl | refine Out.mix' ?_ rfl | exact Out.refl _ _)), rfl, rfl, trivial⟩, ch551, hs560, hm⟩
     ·
      replace hm := bif_f hm hc54
      refine Wp_exit ?_
      refine Wp_seq ?_
      clear f_script
      refine Wp_region ?_
      refine Rg_op rfl (op_loadA (cs := [(Value.slice a_y39 v_2.length c_y39), (Value.slice a_y40 v_3.length c_y40), (Value.int .i64 v_4), (Value.bool v_5)]) (vs := [(Value.slice a_y39 v_2.length c_y39), (Value.slice a_y40 v_3.length c_y40), (Value.int .i64 v_4), (Value.bool v_5)]) (i := 0) ty25 hs49 rfl rfl rfl rfl ?_)
      replace hm := bd hm; obtain ⟨open_3, hv563, hm⟩ := hm
      refine Rg_op rfl (op_call Try.call38 (c38_journal_Open (d := (⟨v_2, v_3, v_4, v_5⟩ : XDisk)) hs49.ltw f_y39 f_y40 r_y41 hv563) rfl ?_)
      rintro v564 w565 ⟨hx566, h567⟩
      have hs568 := hs49.call hx566
      have p569 := Step.ext (O := ks [(some b25, Obj.cells [(Value.slice a_y39 v_2.length c_y39), (Value.slice a_y40 v_3.length c_y40), (Value.int .i64 v_4), (Value.bool v_5)].toArray 25)] O) hx566
      clear hx566
      replace f_y37 := f_y37.step p569; replace f_y39 := f_y39.step p569; replace f_y40 := f_y40.step p569; replace ch53 := ch53.trans p569; clear p569 hs49
      obtain ⟨v570, v571, rfl, h572, h573⟩ := h567
      obtain ⟨_, rfl, ⟨_, _, rfl, ⟨a_y574_records, c_y574_records, rfl, f_y574_records⟩, ⟨_, _, rfl, ⟨rfl, r_y574_many⟩, ⟨rfl, r_y574_synced⟩⟩⟩⟩ := h572
      obtain ⟨rfl, r_y575⟩ := h573
      refine Rg_op rfl (op_move (v := (Value.tuple [(Value.agg [(Value.slice a_y574_records open_3.1.records.length c_y574_records), (Value.int .i64 open_3.1.many), (Value.int .i64 open_3.1.synced)].toArray), (Value.int .i64 open_3.2)].toArray)) rfl ?_)
      refine Rg_op rfl (op_extract (v := (Value.agg [(Value.slice a_y574_records open_3.1.records.length c_y574_records), (Value.int .i64 open_3.1.many), (Value.int .i64 open_3.1.synced)].toArray)) rfl rfl ?_)
      refine Rg_op rfl (op_extract (v := (Value.int .i64 open_3.2)) rfl rfl ?_)
      refine Rg_op rfl (op_alloc ty52 hs568 ?_)
      intro b576 w577 _ p578 hs579
      replace f_y37 := f_y37.step p578; replace f_y39 := f_y39.step p578; replace f_y40 := f_y40.step p578; replace f_y574_records := f_y574_records.step p578; replace ch53 := ch53.trans p578; clear p578 hs568
      refine Rg_op_ (op_store (cs := [(Value.slice none 0 0), (Value.int .i64 0), (Value.int .i64 0)]) (vs := [(Value.slice a_y574_records open_3.1.records.length c_y574_records), (Value.int .i64 open_3.1.many), (Value.int .i64 open_3.1.synced)]) (cs' := [(Value.slice a_y574_records open_3.1.records.length c_y574_records), (Value.int .i64 open_3.1.many), (Value.int .i64 open_3.1.synced)]) (bs' := [(some b576, Obj.cells [(Value.slice a_y574_records open_3.1.records.length c_y574_records), (Value.int .i64 open_3.1.many), (Value.int .i64 open_3.1.synced)].toArray 52), (some b25, Obj.cells [(Value.slice a_y39 v_2.length c_y39), (Value.slice a_y40 v_3.length c_y40), (Value.int .i64 v_4), (Value.bool v_5)].toArray 25)]) (i := 0) ty52 hs579 rfl rfl rfl rfl rfl (le_lit rfl) rfl rfl rfl ?_)
      intro w581 p582 hs583
      replace f_y37 := f_y37.step p582; replace f_y39 := f_y39.step p582; replace f_y40 := f_y40.step p582; replace f_y574_records := f_y574_records.step p582; replace ch53 := ch53.trans p582; clear p582 hs579
      refine Rg_op rfl (op_assign (v := (Value.int .i64 open_3.2)) rfl ?_)
      refine Rg_nil ?_
      refine Wp_seq ?_
      obtain ⟨hs584, p585⟩ := hs583.sub (bs' := [(some b576, Obj.cells [(Value.slice a_y574_records open_3.1.records.length c_y574_records), (Value.int .i64 open_3.1.many), (Value.int .i64 open_3.1.synced)].toArray 52)]) (.cons_cons _ (.cons _ List.Sublist.slnil))
      clear f_y39 f_y40
      replace f_y37 := f_y37.step p585; replace f_y574_records := f_y574_records.step p585; replace ch53 := ch53.trans p585; clear p585 hs583
      refine Wp_region ?_
      refine Rg_op rfl (op_move (v := (Value.int .i64 open_3.2)) rfl ?_)
      refine Rg_op rfl (op_eql rfl rfl ?_)
      refine Rg_op rfl (op_move (v := (Value.bool (decide (open_3.2 = 0)))) rfl ?_)
      refine Rg_case (fun hg586 => ?_) (fun hg586 => ?_)
      ·
       replace hm := bif_t hm hg586
       refine Rg_opg rfl rfl rfl (op_fieldAddr ty52 rfl ty22 (by decide) rfl (rfl : _ = (⟨_, 0, none⟩ : Addr)) ?_)
       refine Rg_opg rfl rfl rfl (op_load (cs := [(Value.slice a_y574_records open_3.1.records.length c_y574_records), (Value.int .i64 open_3.1.many), (Value.int .i64 open_3.1.synced)]) (i := 0) ty22 hs584 rfl rfl rfl ?_)
       refine Rg_opg rfl rfl rfl (op_move (v := (Value.slice a_y37 kept_1.length c_y37)) rfl ?_)
       replace hm := bd hm; obtain ⟨samerecords_4, hv587, hm⟩ := hm
       refine Rg_opg rfl rfl rfl (op_call Try.call37 (c37_overflightref45_SameRecords (a := open_3.1.records) (b := kept_1) hs584.ltw f_y574_records f_y37 hv587) rfl ?_)
       rintro v588 w589 ⟨hx590, h591⟩
       have hs592 := hs584.call hx590
       have p593 := Step.ext (O := ks [(some b576, Obj.cells [(Value.slice a_y574_records open_3.1.records.length c_y574_records), (Value.int .i64 open_3.1.many), (Value.int .i64 open_3.1.synced)].toArray 52)] O) hx590
       clear hx590
       replace f_y37 := f_y37.step p593; replace f_y574_records := f_y574_records.step p593; replace ch53 := ch53.trans p593; clear p593 hs584
       obtain rfl := h591
       refine Rg_op rfl (op_pick_t (v := (Value.bool samerecords_4)) rfl rfl ?_)
       refine Rg_op rfl (op_assign (v := (Value.bool samerecords_4)) rfl ?_)
       refine Rg_nil ?_
       refine Wp_ret ?_
       have hz := step_all hs592
       replace f_y37 := f_y37.step hz; replace f_y574_records := f_y574_records.step hz
       refine ⟨_, (show Closes [] _ _ from rfl), [(Value.bool samerecords_4)], ⟨rfl, trivial⟩, hs592.ext, ?_⟩
       exact Vr.eq (a := vB) (x := samerecords_4) rfl (Option.some.inj hm)
      ·
       replace hm := bif_f hm hg586
       iterate 4 refine Rg_opx rfl (asB_ne rfl rfl) rfl ?_
       refine Rg_op rfl (op_pick_f (v := (Value.bool false)) rfl rfl ?_)
       refine Rg_op rfl (op_assign (v := (Value.bool false)) rfl ?_)
       refine Rg_nil ?_
       refine Wp_ret ?_
       have hz := step_all hs584
       replace f_y37 := f_y37.step hz; replace f_y574_records := f_y574_records.step hz
       refine ⟨_, (show Closes [] _ _ from rfl), [(Value.bool false)], ⟨rfl, trivial⟩, hs584.ext, ?_⟩
       exact Vr.eq (a := vB) (x := false) rfl (Option.some.inj hm)

end Go.Fx



/- What the models of functions compute: loops over lists, checks, meetings. No program in sight. -/
set_option linter.unusedSimpArgs false
set_option linter.unusedVariables false
namespace Go.Fx
open Go Go.RowKit

section
variable {R α σ : Type}
@[simp] theorem jn_eq {κ : Type _} (k : κ) (f : κ → Option R) : jn k f = f k := rfl
theorem ck_eq {c : Prop} [Decidable c] {m : Option R} (h : c) : ck c m = m := if_pos h
@[simp] theorem ck_True {m : Option R} : ck True m = m := if_pos trivial
theorem wrapN {i : Nat} (h : i < 9223372036854775808) : IntKind.i64.wrap (i : Int) = (i : Int) := wrap_i64 (by omega) (by omega)
theorem wrapS {i : Nat} (h : i + 1 < 9223372036854775808) : IntKind.i64.wrap ((i : Int) + 1) = (i : Int) + 1 := wrap_i64 (by omega) (by omega)
/-- a loop that goes up an index over a list: L fuel index state -/
theorem up_list {L : Nat → Int → σ → Option R} (I : Nat → σ → Prop) (F : Nat → List α → σ → Option R) (l : List α) (hl : l.length < 9223372036854775807)
    (hE : ∀ n s, I l.length s → L (n + 1) (l.length : Nat) s = F l.length [] s)
    (hS : ∀ n (i : Nat) s x t, i < l.length → l[i]? = some x → IntKind.i64.wrap ((i : Int) + 1) = (i : Int) + 1 → I i s →
      (∀ s, I (i + 1) s → L n ((i : Int) + 1) s = F (i + 1) t s) → L (n + 1) (i : Int) s = F i (x :: t) s) :
    ∀ (fuel : Nat) s, l.length < fuel → I 0 s → L fuel 0 s = F 0 l s := by
  have main : ∀ (t : List α) (i fuel : Nat) s, l.drop i = t → i ≤ l.length → l.length - i < fuel → I i s → L fuel (i : Int) s = F i t s := by
    intro t
    induction t with
    | nil =>
      intro i fuel s hd hi hf hI
      have : i = l.length := by have := congrArg List.length hd; simp at this; omega
      subst this
      obtain ⟨n, rfl⟩ : ∃ n, fuel = n + 1 := ⟨fuel - 1, by omega⟩
      exact hE n s hI
    | cons x t ih =>
      intro i fuel s hd hi hf hI
      have hlt : i < l.length := by have := congrArg List.length hd; simp at this; omega
      obtain ⟨n, rfl⟩ : ∃ n, fuel = n + 1 := ⟨fuel - 1, by omega⟩
      have hx : l[i]? = some x := by rw [← List.head?_drop, hd]; rfl
      refine hS n i s x t hlt hx (wrapS (by omega)) hI fun s' hI' => (ih (i + 1) n s' ?_ (by omega) (by omega) hI')
      rw [← List.drop_drop, hd]; rfl
  intro fuel s hf hI
  exact main l 0 fuel s rfl (by omega) (by omega) hI

theorem getD_of {l : List α} {i : Nat} {x d : α} (h : l[i]? = some x) : l.getD i d = x := by simp [List.getD, h]

/-- a loop that goes up an index over a list, no state -/
theorem up_list0 {B : (Int → Option R) → Int → Option R} (F : List α → Option R) (l : List α) (hl : l.length < 9223372036854775807)
    (hE : ∀ sf, B sf (l.length : Nat) = F [])
    (hS : ∀ sf (i : Nat) x t, i < l.length → l[i]? = some x → IntKind.i64.wrap ((i : Int) + 1) = (i : Int) + 1 →
      sf ((i : Int) + 1) = F t → B sf (i : Int) = F (x :: t))
    {fuel : Nat} (hf : l.length < fuel) : loop1 B fuel 0 = F l := by
  refine up_list (L := fun n i (_ : Unit) => loop1 B n i) (fun _ _ => True) (fun _ t _ => F t) l hl ?_ ?_ fuel () hf trivial
  · intro n _ _; show loop1 B (n + 1) _ = _; rw [loop1_succ]; exact hE _
  · intro n i _ x t h1 h2 h3 _ ih; show loop1 B (n + 1) _ = _; rw [loop1_succ]; exact hS _ i x t h1 h2 h3 (ih () trivial)
/-- a state first, then the index -/
theorem up_listB {B : (σ → Int → Option R) → σ → Int → Option R} (I : Nat → σ → Prop) (F : Nat → List α → σ → Option R) (l : List α) (hl : l.length < 9223372036854775807)
    (hE : ∀ sf s, I l.length s → B sf s (l.length : Nat) = F l.length [] s)
    (hS : ∀ sf (i : Nat) s x t, i < l.length → l[i]? = some x → IntKind.i64.wrap ((i : Int) + 1) = (i : Int) + 1 → I i s →
      (∀ s, I (i + 1) s → sf s ((i : Int) + 1) = F (i + 1) t s) → B sf s (i : Int) = F i (x :: t) s)
    {fuel : Nat} {s : σ} (hf : l.length < fuel) (hI : I 0 s) : loop2 B fuel s 0 = F 0 l s := by
  refine up_list (L := fun n i s => loop2 B n s i) I F l hl ?_ ?_ fuel s hf hI
  · intro n s h; show loop2 B (n + 1) _ _ = _; rw [loop2_succ]; exact hE _ _ h
  · intro n i s x t h1 h2 h3 h4 ih; show loop2 B (n + 1) _ _ = _; rw [loop2_succ]; exact hS _ i s x t h1 h2 h3 h4 ih

/-- the same, where the answer needs the index -/
theorem up_listI {B : (Int → Option R) → Int → Option R} (F : Nat → List α → Option R) (l : List α) (hl : l.length < 9223372036854775807)
    (hE : ∀ sf, B sf (l.length : Nat) = F l.length [])
    (hS : ∀ sf (i : Nat) x t, i < l.length → l[i]? = some x → IntKind.i64.wrap ((i : Int) + 1) = (i : Int) + 1 →
      sf ((i : Int) + 1) = F (i + 1) t → B sf (i : Int) = F i (x :: t))
    {fuel : Nat} (hf : l.length < fuel) : loop1 B fuel 0 = F 0 l := by
  refine up_list (L := fun n i (_ : Unit) => loop1 B n i) (fun _ _ => True) (fun i t _ => F i t) l hl ?_ ?_ fuel () hf trivial
  · intro n _ _; show loop1 B (n + 1) _ = _; rw [loop1_succ]; exact hE _
  · intro n i _ x t h1 h2 h3 _ ih; show loop1 B (n + 1) _ = _; rw [loop1_succ]; exact hS _ i x t h1 h2 h3 (ih () trivial)
end
end Go.Fx



set_option linter.unusedVariables false
set_option linter.unusedSimpArgs false
set_option maxRecDepth 100000
set_option maxHeartbeats 0
namespace Go.Fx
open Go Go.RowKit Go.Proofs
end Go.Fx



set_option linter.unusedVariables false
set_option linter.unusedSimpArgs false
set_option maxRecDepth 100000
set_option maxHeartbeats 0
namespace Go.Fx
open Go Go.RowKit Go.Proofs
end Go.Fx



set_option linter.unusedVariables false
set_option linter.unusedSimpArgs false
set_option maxRecDepth 100000
set_option maxHeartbeats 0
namespace Go.Fx
open Go Go.RowKit Go.Proofs
end Go.Fx



set_option linter.unusedVariables false
set_option linter.unusedSimpArgs false
set_option maxRecDepth 100000
set_option maxHeartbeats 0
namespace Go.Fx
open Go Go.RowKit Go.Proofs
end Go.Fx



set_option linter.unusedVariables false
set_option linter.unusedSimpArgs false
set_option maxRecDepth 100000
set_option maxHeartbeats 0
namespace Go.Fx
open Go Go.RowKit Go.Proofs
end Go.Fx



set_option linter.unusedVariables false
set_option linter.unusedSimpArgs false
set_option maxRecDepth 100000
set_option maxHeartbeats 0
namespace Go.Fx
open Go Go.RowKit Go.Proofs
end Go.Fx



/- Chapter 45: what Check, Room and Append compute. -/
set_option linter.unusedSimpArgs false
set_option linter.unusedVariables false
namespace Go.Fx
open Go Go.RowKit
theorem ipos {l n : Nat} (h : n < l) : ((n : Int) < (l : Int)) := by omega
theorem sane45 : m28_overflightlaw45_sane = some true := by kernel_rfl
/-- sectors of a record of so many bytes -/
def secI (n : Int) : Int := max 1 (IntKind.wrap .i64 ((IntKind.wrap .i64 ((IntKind.wrap .i64 (n + 112)) - 1)).tdiv 112))
def usedF : Int → List (List UInt8) → Int
  | s, [] => s
  | s, x :: t => usedF (IntKind.wrap .i64 (s + secI (x.length : Int))) t
theorem m54_eq (b : List UInt8) : m54_journal_sectors b = some (secI (b.length : Int)) := rfl
theorem m55_eq (l : List (List UInt8)) (hl : l.length < 9223372036854775807) : m55_journal_used l = some (usedF 0 l) := by
  unfold m55_journal_used
  refine up_listB (B := m55_journal_used_B0 l) (σ := Int) (fun _ _ => True) (fun _ t s => some (usedF s t)) l hl ?_ ?_ (by omega) trivial
  · intro sf s _; unfold m55_journal_used_B0
    rw [decide_eq_false (Int.lt_irrefl _)]; rfl
  · intro sf i s x t h1 h2 h3 _ ih
    unfold m55_journal_used_B0
    have g1 : l.getD (i : Int).toNat default = x := getD_of h2
    rw [decide_eq_true (ipos h1), cond_true, ck_eq (by omega), g1, m54_eq, Option.bind_some, h3, ih _ trivial]; rfl
/-- what Check looks for -/
def badJ (l : XJournal) : Bool := decide (l.many < 1) || (decide (4096 < l.many) || (decide (l.synced < 0) || (decide ((l.records.length : Int) < l.synced) || decide (l.many < usedF 0 l.records))))
theorem m32_eq (l : XJournal) (hl : l.records.length < 9223372036854775807) : m32_journal_Check l = some (bif badJ l then 1 else 0) := by
  unfold m32_journal_Check badJ
  simp only [jn_eq]
  rw [m55_eq _ hl, Option.bind_some]
  cases decide (l.many < 1) <;> cases decide (4096 < l.many) <;> cases decide (l.synced < 0) <;> cases decide ((l.records.length : Int) < l.synced) <;> cases decide (l.many < usedF 0 l.records) <;> rfl
def appJ (l : XJournal) (b : List UInt8) : XJournal × Int :=
  bif badJ l then (⟨[], 0, 0⟩, 1) else bif decide ((IntKind.wrap .i64 (l.many - usedF 0 l.records)) < secI (b.length : Int)) then (⟨[], 0, 0⟩, 2) else (⟨l.records ++ [b], l.many, l.synced⟩, 0)
theorem m56_eq (s : List (List UInt8)) : m56_slices_Clipbyte_byte_ s = some s := by
  unfold m56_slices_Clipbyte_byte_
  rw [ck_eq (by omega), List.drop_zero, Nat.sub_zero, List.take_length]
theorem m52_eq (s : List UInt8) (h : s.length ≤ 140737488351232) : m52_slices_Clonebyte_byte_ s = some s := by
  unfold m52_slices_Clonebyte_byte_
  rw [ck_eq (by simp; omega)]; rfl
theorem m30_eq (l : XJournal) (b : List UInt8) (hl : l.records.length * 24 ≤ 140737488351232) (hb : b.length ≤ 140737488351232) : m30_journal_Append l b = some (appJ l b) := by
  unfold m30_journal_Append appJ
  rw [m32_eq l (by omega), m54_eq, m55_eq _ (by omega), m56_eq, m52_eq b hb]
  cases badJ l
  · simp only [Option.bind_some, cond_false, ne_eq, not_true_eq_false, decide_false]
    cases decide ((IntKind.wrap .i64 (l.many - usedF 0 l.records)) < secI (b.length : Int))
    · rw [cond_false, cond_false, ck_eq (by simp; omega)]
    · rfl
  · rfl
theorem m37_eq (a b : List (List UInt8)) (ha : a.length < 9223372036854775807) : m37_overflightref45_SameRecords a b = some (decide (a = b)) := by
  unfold m37_overflightref45_SameRecords
  by_cases hl : a.length = b.length
  · rw [decide_eq_false (show ¬ ((a.length : Int) ≠ b.length) by omega), cond_false]
    refine (up_listI (B := m37_overflightref45_SameRecords_B0 a b) (fun i t => some (decide (t = b.drop i))) a ha ?_ ?_ (by omega)).trans (by simp)
    · intro sf; unfold m37_overflightref45_SameRecords_B0
      rw [decide_eq_false (Int.lt_irrefl _), cond_false, hl, List.drop_length]; rfl
    · intro sf i x t h1 h2 h3 ih
      obtain ⟨_, rfl⟩ := List.getElem?_eq_some_iff.1 h2
      unfold m37_overflightref45_SameRecords_B0
      have g1 : a.getD (i : Int).toNat default = a[i] := by simp [h1]
      have hb' : i < b.length := by omega
      have g2 : b.getD (i : Int).toNat default = b[i] := by simp [hb']
      rw [decide_eq_true (ipos h1), cond_true, ck_eq (by omega), ck_eq (by omega), g1, g2, h3, ih, List.drop_eq_getElem_cons hb']
      by_cases e : a[i] = b[i]
      · rw [decide_eq_false (fun h => h e), cond_false, e]
        congr 1
        rw [Bool.eq_iff_iff, decide_eq_true_iff, decide_eq_true_iff]
        constructor
        · rintro rfl; rfl
        · intro h; exact (List.cons.inj h).2
      · rw [decide_eq_true e, cond_true, decide_eq_false]
        intro h; exact e (List.cons.inj h).1
  · rw [decide_eq_true (show (a.length : Int) ≠ b.length by omega), cond_true, decide_eq_false (fun e => hl (by rw [e]))]
def sumF : Int → List (List UInt8) → Int
  | s, [] => s
  | s, x :: t => sumF (IntKind.wrap .i64 (s + IntKind.wrap .i64 (1 + (x.length : Int)))) t
def fewJ (d : XDisk) (records : List (List UInt8)) : Bool := decide ((d.sectors.length : Int) ≤ 40) && (decide ((d.pending.length : Int) ≤ 40) && decide (sumF 0 records ≤ 4000))
theorem m29_eq (d : XDisk) (l : List (List UInt8)) (hl : l.length < 9223372036854775807) : m29_overflightlaw45_few d l = some (fewJ d l) := by
  unfold m29_overflightlaw45_few fewJ
  refine up_listB (B := m29_overflightlaw45_few_B0 d l) (σ := Int) (fun _ _ => True) (fun _ t s => some (decide ((d.sectors.length : Int) ≤ 40) && (decide ((d.pending.length : Int) ≤ 40) && decide (sumF s t ≤ 4000)))) l hl ?_ ?_ (by omega) trivial
  · intro sf s _; unfold m29_overflightlaw45_few_B0
    rw [decide_eq_false (Int.lt_irrefl _), cond_false]
    cases decide ((d.sectors.length : Int) ≤ 40) <;> cases decide ((d.pending.length : Int) ≤ 40) <;> rfl
  · intro sf i s x t h1 h2 h3 _ ih
    unfold m29_overflightlaw45_few_B0
    have g1 : l.getD (i : Int).toNat default = x := getD_of h2
    rw [decide_eq_true (ipos h1), cond_true, ck_eq (by omega), g1, h3, ih _ trivial]; rfl
end Go.Fx



set_option linter.unusedVariables false
set_option linter.unusedSimpArgs false
set_option maxRecDepth 100000
set_option maxHeartbeats 0
namespace Go.Fx
open Go Go.RowKit Go.Proofs
end Go.Fx



/- What the operations of the disk answer (chapter 45). -/
set_option linter.unusedSimpArgs false
set_option linter.unusedVariables false
namespace Go.Fx
open Go Go.RowKit
/-- the first index from i where g holds, or -1 -/
def fidx {α} (g : α → Bool) : Nat → List α → Int
  | _, [] => -1
  | i, x :: t => bif g x then (i : Int) else fidx g (i + 1) t
theorem fidx_any {α} (g : α → Bool) (l : List α) (i : Nat) : decide (0 ≤ fidx g i l) = l.any g := by
  induction l generalizing i with
  | nil => rfl
  | cons x t ih => cases h : g x <;> simp [fidx, h, ih]
theorem m44_eq (s : List XWrite) (f : XWrite → Option Bool) (g : XWrite → Bool) (hf : ∀ x, f x = some (g x)) (hl : s.length < 9223372036854775807) : m44_api_Write_ s f = some (s.any g) := by
  have : m65_api_Write_ s f = some (fidx g 0 s) := by
    unfold m65_api_Write_
    refine up_listI (fun i t => some (fidx g i t)) s hl ?_ ?_ (by omega)
    · intro sf; unfold m65_api_Write__B0; simp [fidx]
    · intro sf i x t h1 h2 h3 ih; unfold m65_api_Write__B0; obtain ⟨_, rfl⟩ := List.getElem?_eq_some_iff.1 h2; cases h : g s[i] <;> simp [h1, h3, ih, hf, h, fidx, ck_eq]
  unfold m44_api_Write_; rw [this]; simp [fidx_any]
theorem m45_eq (s : List (List UInt8)) (f : List UInt8 → Option Bool) (g : List UInt8 → Bool) (hf : ∀ x, f x = some (g x)) (hl : s.length < 9223372036854775807) : m45_slices_ContainsFuncbyte_byte_ s f = some (s.any g) := by
  have : m66_slices_IndexFuncbyte_byte_ s f = some (fidx g 0 s) := by
    unfold m66_slices_IndexFuncbyte_byte_
    refine up_listI (fun i t => some (fidx g i t)) s hl ?_ ?_ (by omega)
    · intro sf; unfold m66_slices_IndexFuncbyte_byte__B0; simp [fidx]
    · intro sf i x t h1 h2 h3 ih; unfold m66_slices_IndexFuncbyte_byte__B0; obtain ⟨_, rfl⟩ := List.getElem?_eq_some_iff.1 h2; cases h : g s[i] <;> simp [h1, h3, ih, hf, h, fidx, ck_eq]
  unfold m45_slices_ContainsFuncbyte_byte_; rw [this]; simp [fidx_any]
def secBad (b : List UInt8) : Bool := !decide (b.length = 128)
def wrBad (n : Nat) (w : XWrite) : Bool := decide (w.at_ < 0) || decide ((n : Int) ≤ w.at_) || !decide (w.data.length = 128)
/-- what Check answers -/
def chk (d : XDisk) : Bool := !(decide ((d.sectors.length : Int) < 1) || decide (4096 < (d.sectors.length : Int)) || decide (4096 < (d.pending.length : Int)) || decide (d.left < -1) || decide (65536 < d.left) || d.pending.any (wrBad d.sectors.length) || d.sectors.any secBad)
structure Few' (d : XDisk) : Prop where
  s : d.sectors.length < 9223372036854775807
  p : d.pending.length < 9223372036854775807
theorem m18_eq (d : XDisk) (h : Few' d) : m18_disk_Check d = some (bif chk d then 0 else 440) := by
  unfold m18_disk_Check
  rw [m44_eq _ _ (wrBad d.sectors.length) _ h.p, m45_eq _ _ secBad _ h.s]
  · unfold chk
    simp only [jn_eq, Option.bind_some]
    cases decide ((d.sectors.length : Int) < 1) <;> cases decide (4096 < (d.sectors.length : Int)) <;> cases decide (4096 < (d.pending.length : Int)) <;> cases decide (d.left < -1) <;> cases decide (65536 < d.left) <;> cases d.pending.any (wrBad d.sectors.length) <;> cases d.sectors.any secBad <;> rfl
  · intro x; simp [m46_disk_Check_2, m43_disk_isSector, secBad]; omega
  · intro w; simp only [m42_disk_Check_1, m43_disk_isSector, wrBad]
    by_cases h1 : w.at_ < 0 <;> by_cases h2 : (d.sectors.length : Int) ≤ w.at_ <;> by_cases h3 : w.data.length = 128 <;> simp [h1, h2, h3] <;> omega
theorem m47_eq (d : XDisk) (h : Few' d) : m47_disk_runs d = some (chk d && !d.stopped) := by
  unfold m47_disk_runs; rw [m18_eq d h]; cases chk d <;> simp
theorem m48_eq (d : XDisk) (a : Int) : m48_disk_has d a = some (decide (0 ≤ a) && decide (a < (d.sectors.length : Int))) := by
  unfold m48_disk_has; cases h : decide (0 ≤ a) <;> simp
/-- the bytes of a sector that begins with some bytes -/
def pad (b : List UInt8) : List UInt8 := b.take 128 ++ (List.replicate 128 (0 : UInt8)).drop b.length
def dsk0 : XDisk := ⟨[], [], 0, false⟩
theorem m23_eq (d : XDisk) (a : Int) (b : List UInt8) (h : Few' d) : m23_disk_Write d a b =
    some (bif (chk d && !d.stopped) && (decide (0 ≤ a) && decide (a < (d.sectors.length : Int))) then
      (bif decide (128 < b.length) then (dsk0, 1) else bif decide (d.pending.length = 4096) then (dsk0, 2) else (⟨d.sectors, d.pending ++ [⟨a, pad b⟩], d.left, d.stopped⟩, 0)) else (dsk0, 440)) := by
  unfold m23_disk_Write
  rw [m47_eq d h, m48_eq]
  cases hc : chk d && !d.stopped
  · simp [dsk0]
  cases ha : (decide (0 ≤ a) && decide (a < (d.sectors.length : Int)))
  · simp [dsk0]
  have hp : d.pending.length ≤ 4096 := by
    have : chk d = true := by revert hc; cases chk d <;> simp
    unfold chk at this; simp at this; omega
  have e1 : (128 < (b.length : Int)) = (128 < b.length) := by apply propext; omega
  have e2 : ((d.pending.length : Int) = 4096) = (d.pending.length = 4096) := by apply propext; omega
  have e3 : m50_api_Write_ d.pending = some d.pending := by unfold m50_api_Write_; rw [ck_eq (by simp; omega)]; simp
  have e4 : m49_api_Write_ d.pending = some d.pending := by unfold m49_api_Write_; rw [ck_eq (by simp)]; simp
  simp only [Option.bind_some, jn_eq, Bool.not_true, cond_false, e1, e2, e3, e4]
  cases decide (128 < b.length)
  · cases decide (d.pending.length = 4096)
    · simp only [cond_false]
      rw [ck_eq (by omega), ck_eq (by simp), ck_eq (by simp; omega)]; simp [pad]
    · simp [dsk0]
  · simp [dsk0]
/-- the sectors after some writes -/
def perf (s : List (List UInt8)) (l : List XWrite) : List (List UInt8) := l.foldl (fun s w => s.set w.at_.toNat w.data) s
theorem perf_len (l : List XWrite) (s : List (List UInt8)) : (perf s l).length = s.length := by
  induction l generalizing s with
  | nil => rfl
  | cons x t ih => show (perf (s.set _ _) t).length = _; rw [ih]; simp
theorem m51_eq (s : List (List UInt8)) (l : List XWrite) (hs : s.length ≤ 5000) (hl : l.length < 5000) (hw : ∀ w ∈ l, 0 ≤ w.at_ ∧ w.at_ < (s.length : Int)) : m51_disk_perform s l = some (perf s l) := by
  unfold m51_disk_perform
  have e : m67_slices_Clonebyte_byte_ s = some s := by unfold m67_slices_Clonebyte_byte_; rw [ck_eq (by simp; omega)]; simp
  rw [e]
  show loop2 _ _ s 0 = _
  refine up_listB (σ := List (List UInt8)) (fun i x => x.length = s.length) (fun _ t x => some (perf x t)) l (by omega) ?_ ?_ (by simp) rfl
  · intro sf x _; unfold m51_disk_perform_B0; simp [perf]
  · intro sf i x y t h1 h2 h3 hx ih; obtain ⟨_, rfl⟩ := List.getElem?_eq_some_iff.1 h2
    have hm := hw l[i] (List.getElem_mem _)
    have := ih (x.set l[i].at_.toNat l[i].data) (by simpa using hx)
    unfold m51_disk_perform_B0
    have c1 : (i : Int) < (l.length : Int) := by omega
    have g : l.getD (i : Int).toNat default = l[i] := by simp [h1]
    simp only [c1, decide_true, cond_true, g, h3]
    rw [ck_eq (by simp), ck_eq (by rw [hx]; exact hm), this]; rfl
theorem chk_props {d : XDisk} (hk : chk d = true) : 1 ≤ d.sectors.length ∧ d.sectors.length ≤ 4096 ∧ d.pending.length ≤ 4096 ∧ -1 ≤ d.left ∧ d.left ≤ 65536 ∧ (∀ w ∈ d.pending, 0 ≤ w.at_ ∧ w.at_ < (d.sectors.length : Int) ∧ w.data.length = 128) ∧ ∀ s ∈ d.sectors, s.length = 128 := by
  unfold chk at hk
  simp only [Bool.not_eq_true', Bool.or_eq_false_iff, decide_eq_false_iff_not, List.any_eq_false] at hk
  obtain ⟨⟨⟨⟨⟨⟨h1, h2⟩, h3⟩, h4⟩, h5⟩, h6⟩, h7⟩ := hk
  refine ⟨by omega, by omega, by omega, by omega, by omega, fun w hw => ?_, fun s hs => ?_⟩
  · have := h6 w hw; simp [wrBad] at this; omega
  · have := h7 s hs; simpa [secBad] using this
theorem perf_all (l : List XWrite) (s : List (List UInt8)) (hs : ∀ x ∈ s, x.length = 128) (hl : ∀ w ∈ l, w.data.length = 128) : ∀ x ∈ perf s l, x.length = 128 := by
  induction l generalizing s with
  | nil => exact hs
  | cons w t ih =>
    refine ih (s.set w.at_.toNat w.data) (fun x hx => ?_) (fun w hw => hl w (by simp [hw]))
    rcases List.mem_or_eq_of_mem_set hx with h | h
    · exact hs x h
    · subst h; exact hl w (by simp)
/-- the torn sector -/
def torn (s : List UInt8) (w : List UInt8) : List UInt8 := w.take 64 ++ s.drop (min w.length 64)
theorem m25_eq (d : XDisk) (h : Few' d) : m25_disk_Sync d = some (bif chk d && !d.stopped then
      (bif decide (0 ≤ d.left) && decide (d.left < (d.pending.length : Int)) then
        (⟨(perf d.sectors (d.pending.take d.left.toNat)).set (d.pending.getD d.left.toNat default).at_.toNat (torn ((perf d.sectors (d.pending.take d.left.toNat)).getD (d.pending.getD d.left.toNat default).at_.toNat default) (d.pending.getD d.left.toNat default).data), [], 0, true⟩, 440)
      else (⟨perf d.sectors d.pending, [], bif decide (0 ≤ d.left) then d.left - (d.pending.length : Int) else d.left, false⟩, 0)) else (dsk0, 440)) := by
  unfold m25_disk_Sync
  rw [m47_eq d h]
  cases hc : chk d && !d.stopped
  · simp [dsk0]
  have hk : chk d = true := by revert hc; cases chk d <;> simp
  obtain ⟨p1, p2, p3, p4, p5, p6, p7⟩ := chk_props hk
  have hst : d.stopped = false := by revert hc; cases d.stopped <;> simp
  simp only [Option.bind_some, jn_eq, Bool.not_true, cond_false, cond_true]
  cases hL : decide (0 ≤ d.left) && decide (d.left < (d.pending.length : Int))
  · have e : m51_disk_perform d.sectors d.pending = some (perf d.sectors d.pending) := m51_eq _ _ (by omega) (by omega) (fun w hw => ⟨(p6 w hw).1, (p6 w hw).2.1⟩)
    rw [e]
    cases h0 : decide (0 ≤ d.left)
    · simp
    · have h1 : decide (d.left < (d.pending.length : Int)) = false := by rw [h0] at hL; simpa using hL
      have w : IntKind.i64.wrap (d.left - (d.pending.length : Int)) = d.left - (d.pending.length : Int) := wrap_i64 (by omega) (by omega)
      simp [h1, w]
  · simp only [Bool.and_eq_true, decide_eq_true_eq] at hL
    obtain ⟨l0, l1⟩ := hL
    have hn : d.left.toNat < d.pending.length := by omega
    have hm := p6 _ (List.getElem_mem hn)
    have e : m51_disk_perform d.sectors (d.pending.take d.left.toNat) = some (perf d.sectors (d.pending.take d.left.toNat)) := m51_eq _ _ (by omega) (by simp; omega) (fun w hw => ⟨(p6 w (List.mem_of_mem_take hw)).1, (p6 w (List.mem_of_mem_take hw)).2.1⟩)
    have g : d.pending.getD d.left.toNat default = d.pending[d.left.toNat] := by simp [hn]
    simp only [l0, l1, decide_true, cond_true, g, List.drop_zero, Nat.sub_zero, e]
    have hlen : (perf d.sectors (d.pending.take d.left.toNat)).length = d.sectors.length := perf_len _ _
    have hi : d.pending[d.left.toNat].at_.toNat < (perf d.sectors (d.pending.take d.left.toNat)).length := by rw [hlen]; omega
    have h128 := perf_all (d.pending.take d.left.toNat) d.sectors p7 (fun w hw => (p6 w (List.mem_of_mem_take hw)).2.2) _ (List.getElem_mem hi)
    have g2 : (perf d.sectors (d.pending.take d.left.toNat)).getD d.pending[d.left.toNat].at_.toNat default = (perf d.sectors (d.pending.take d.left.toNat))[d.pending[d.left.toNat].at_.toNat] := by simp [hi]
    have e5 : ∀ x : List UInt8, x.length = 128 → m52_slices_Clonebyte_byte_ x = some x := fun x hx => by unfold m52_slices_Clonebyte_byte_; rw [ck_eq (by simp; omega)]; simp
    have hb : 0 ≤ d.pending[d.left.toNat].at_ ∧ d.pending[d.left.toNat].at_ < ((perf d.sectors (d.pending.take d.left.toNat)).length : Int) := by rw [hlen]; exact ⟨hm.1, hm.2.1⟩
    have hc2 : d.left ≤ (d.pending.length : Int) := by omega
    simp only [Option.bind_some, hc2, and_self, ck_True, hb, and_true, g2, e5 _ h128]
    rw [ck_eq (by omega), ck_eq (by omega)]
    simp [torn]
theorem pad_full {b : List UInt8} (h : b.length = 128) : pad b = b := by unfold pad; rw [List.take_of_length_le (by omega), List.drop_eq_nil_of_le (by simp; omega)]; simp
theorem chk_of {d : XDisk} (h1 : 1 ≤ d.sectors.length) (h2 : d.sectors.length ≤ 4096) (h3 : d.pending.length ≤ 4096) (h4 : -1 ≤ d.left) (h5 : d.left ≤ 65536) (h6 : ∀ w ∈ d.pending, 0 ≤ w.at_ ∧ w.at_ < (d.sectors.length : Int) ∧ w.data.length = 128) (h7 : ∀ s ∈ d.sectors, s.length = 128) : chk d = true := by
  unfold chk
  simp only [Bool.not_eq_true', Bool.or_eq_false_iff, decide_eq_false_iff_not, List.any_eq_false]
  refine ⟨⟨⟨⟨⟨⟨by omega, by omega⟩, by omega⟩, by omega⟩, by omega⟩, fun w hw => ?_⟩, fun s hs => ?_⟩
  · have := h6 w hw; simp [wrBad, this.2.2]; omega
  · simp [secBad, h7 s hs]
/-- a write -/
def wr (d : XDisk) (a : Int) (b : List UInt8) : XDisk := ⟨d.sectors, d.pending ++ [⟨a, pad b⟩], d.left, d.stopped⟩
theorem wr_ok {d : XDisk} {a : Int} {b : List UInt8} (hf : Few' d) (h : chk d = true) (hs : d.stopped = false) (h0 : 0 ≤ a) (h1 : a < (d.sectors.length : Int)) (hp : d.pending.length ≠ 4096) (hb : b.length ≤ 128) : m23_disk_Write d a b = some (wr d a b, 0) := by
  rw [m23_eq d a b hf]
  have e1 : decide (128 < b.length) = false := by simp; omega
  simp [h, hs, h0, h1, hp, e1, wr]
theorem chk_few {d : XDisk} (h : chk d = true) : Few' d := by
  obtain ⟨p1, p2, p3, p4, p5, p6, p7⟩ := chk_props h
  exact ⟨by omega, by omega⟩
/-- the disk after a sync that does not stop -/
def snc (d : XDisk) : XDisk := ⟨perf d.sectors d.pending, [], bif decide (0 ≤ d.left) then d.left - (d.pending.length : Int) else d.left, false⟩
/-- the disk after a sync that stops -/
def stp (d : XDisk) : XDisk := ⟨(perf d.sectors (d.pending.take d.left.toNat)).set (d.pending.getD d.left.toNat default).at_.toNat (torn ((perf d.sectors (d.pending.take d.left.toNat)).getD (d.pending.getD d.left.toNat default).at_.toNat default) (d.pending.getD d.left.toNat default).data), [], 0, true⟩
theorem sn_ok {d : XDisk} (h : chk d = true) (hs : d.stopped = false) : m25_disk_Sync d = some (bif decide (0 ≤ d.left) && decide (d.left < (d.pending.length : Int)) then (stp d, 440) else (snc d, 0)) := by
  rw [m25_eq d (chk_few h)]; simp [h, hs, stp, snc]
theorem m15_all : ∀ k : _root_.Fin 41, 1 ≤ k.val → m15_disk_New (k.val : Int) = some (⟨List.replicate k.val (List.replicate 128 0), [], -1, false⟩, 0) := by decide +kernel
theorem m15_ok {k : Nat} (h1 : 1 ≤ k) (h2 : k ≤ 40) : m15_disk_New (k : Int) = some (⟨List.replicate k (List.replicate 128 0), [], -1, false⟩, 0) := m15_all ⟨k, by omega⟩ h1
end Go.Fx



/- Check sums, sectors, and what good says of them. -/
set_option linter.unusedSimpArgs false
set_option linter.unusedVariables false
namespace Go.Fx
open Go Go.RowKit
/-- one bit of the check sum -/
def shN (n : Nat) : Nat := (n / 2) ^^^ (if n % 2 = 1 then 3988292384 else 0)
theorem shN_lt {n : Nat} (h : n < 4294967296) : shN n < 4294967296 := by
  unfold shN
  refine Nat.xor_lt_two_pow (n := 32) (by omega) (by split <;> decide)
def st8 (n : Nat) : Nat := shN (shN (shN (shN (shN (shN (shN (shN n)))))))
theorem st8_lt {n : Nat} (h : n < 4294967296) : st8 n < 4294967296 := shN_lt (shN_lt (shN_lt (shN_lt (shN_lt (shN_lt (shN_lt (shN_lt h)))))))
theorem u8lt (c : UInt8) : c.toNat < 256 := c.toNat_lt
theorem xorB_lt {n : Nat} (h : n < 4294967296) (c : UInt8) : n ^^^ c.toNat < 4294967296 :=
  Nat.xor_lt_two_pow (n := 32) (by omega) (by have := u8lt c; omega)
/-- one byte -/
def stB (n : Nat) (c : UInt8) : Nat := st8 (n ^^^ c.toNat)
theorem stB_lt {n : Nat} (h : n < 4294967296) (c : UInt8) : stB n c < 4294967296 := st8_lt (xorB_lt h c)
theorem fold_lt : ∀ (l : List UInt8) {n : Nat}, n < 4294967296 → l.foldl stB n < 4294967296
  | [], _, h => h
  | c :: t, _, h => fold_lt t (stB_lt h c)
def sumN (b : List UInt8) : Nat := 4294967295 ^^^ b.foldl stB 4294967295
theorem sumN_lt (b : List UInt8) : sumN b < 4294967296 := Nat.xor_lt_two_pow (n := 32) (by decide) (fold_lt b (by decide))
theorem sh_eq {n : Nat} (h : n < 4294967296) : Go.bits .xor .u32 ((n : Int) / 2 ^ min 1 (IntKind.bits .u32)) (IntKind.wrap .u32 (3988292384 * (Go.bits .and .u32 (n : Int) 1))) = (shN n : Int) := by
  have e1 : ((n : Int) / 2 ^ min 1 (IntKind.bits .u32)) = ((n / 2 : Nat) : Int) := by
    rw [show (2 : Int) ^ min 1 (IntKind.bits .u32) = 2 from rfl]; omega
  have e2 : Go.bits .and .u32 (n : Int) 1 = ((n % 2 : Nat) : Int) := by
    have := u32_and_nat n 1 h (by omega); rw [nat_mask1] at this; exact this
  rw [e1, e2, IntKind.wrap_u32']
  unfold shN
  by_cases h3 : n % 2 = 1
  · rw [if_pos h3, h3]; exact u32_xor_nat _ 3988292384 (by omega) (by decide)
  · rw [if_neg h3, show n % 2 = 0 by omega]; exact u32_xor_nat _ 0 (by omega) (by decide)
theorem m72_eq (b : List UInt8) (hl : b.length < 9223372036854775807) : m72_journal_sum b = some (sumN b : Int) := by
  unfold m72_journal_sum
  refine (up_listB (B := m72_journal_sum_B0 b) (σ := Int) (fun _ s => ∃ k : Nat, k < 4294967296 ∧ s = (k : Int)) (fun _ t s => some ((4294967295 ^^^ t.foldl stB s.toNat : Nat) : Int)) b hl ?_ ?_ (by omega) ⟨4294967295, by decide, rfl⟩).trans rfl
  · rintro sf s ⟨k, hk, rfl⟩
    unfold m72_journal_sum_B0
    rw [decide_eq_false (Int.lt_irrefl _), cond_false]
    exact congrArg some (u32_xor_nat 4294967295 k (by decide) hk)
  · rintro sf i s x t h1 h2 h3 ⟨k, hk, rfl⟩ ih
    unfold m72_journal_sum_B0
    have g1 : b.getD (i : Int).toNat default = x := getD_of h2
    rw [decide_eq_true (ipos h1), cond_true, ck_eq (by omega), g1]
    have e0 : Go.bits .xor .u32 (k : Int) (x.toNat : Int) = ((k ^^^ x.toNat : Nat) : Int) := u32_xor_nat _ _ hk (by have := u8lt x; omega)
    rw [e0]
    have one : ∀ (f n : Nat) (j : Int), n < 4294967296 → 0 ≤ j → j < 8 → loop2 (m72_journal_sum_B1 (i : Int) sf) (f + 1) (n : Int) j = loop2 (m72_journal_sum_B1 (i : Int) sf) f (shN n : Int) (j + 1) := by
      intro f n j hn h0 h8
      rw [loop2_succ]
      generalize loop2 (m72_journal_sum_B1 (i : Int) sf) f = L
      unfold m72_journal_sum_B1
      rw [decide_eq_true h8, cond_true, sh_eq hn, wrap_i64 (by omega) (by omega)]
    have l0 := xorB_lt hk x
    have l1 := shN_lt l0; have l2 := shN_lt l1; have l3 := shN_lt l2; have l4 := shN_lt l3; have l5 := shN_lt l4; have l6 := shN_lt l5; have l7 := shN_lt l6
    show loop2 (m72_journal_sum_B1 (i : Int) sf) 9 ((k ^^^ x.toNat : Nat) : Int) 0 = _
    rw [one 8 _ 0 l0 (by decide) (by decide), one 7 _ _ l1 (by decide) (by decide), one 6 _ _ l2 (by decide) (by decide), one 5 _ _ l3 (by decide) (by decide), one 4 _ _ l4 (by decide) (by decide), one 3 _ _ l5 (by decide) (by decide), one 2 _ _ l6 (by decide) (by decide), one 1 _ _ l7 (by decide) (by decide), loop2_succ]
    unfold m72_journal_sum_B1
    rw [decide_eq_false (by decide), cond_false, h3, ih _ ⟨_, shN_lt l7, rfl⟩]
    rfl
/-- bytes of a number -/
def bt (n : Nat) : UInt8 := UInt8.ofNat (n % 256)
theorem bt_toNat (n : Nat) : (bt n).toNat = n % 256 := by unfold bt; simp
def put4 (n : Nat) : List UInt8 := [bt (n / 16777216), bt (n / 65536), bt (n / 256), bt n]
def put2 (n : Nat) : List UInt8 := [bt (n / 256), bt n]
theorem wrap8 (n : Nat) : UInt8.ofNat (IntKind.wrap .u8 (n : Int)).toNat = bt n := by
  rw [IntKind.wrap_u8']; unfold bt; congr 1
theorem m71_4 {b : List UInt8} (hb : b.length = 4) (n : Nat) : m71_journal_put b (n : Int) = some (put4 n) := by
  obtain ⟨b0, b1, b2, b3, rfl⟩ : ∃ b0 b1 b2 b3, b = [b0, b1, b2, b3] := by
    match b, hb with
    | [b0, b1, b2, b3], _ => exact ⟨b0, b1, b2, b3, rfl⟩
  have : m71_journal_put [b0, b1, b2, b3] (n : Int) = some [UInt8.ofNat (IntKind.wrap .u8 ((n : Int) / 16777216)).toNat, UInt8.ofNat (IntKind.wrap .u8 ((n : Int) / 65536)).toNat, UInt8.ofNat (IntKind.wrap .u8 ((n : Int) / 256)).toNat, UInt8.ofNat (IntKind.wrap .u8 ((n : Int) / 1)).toNat] := by kernel_rfl
  rw [this, show ((n : Int) / 16777216) = ((n / 16777216 : Nat) : Int) by omega, show ((n : Int) / 65536) = ((n / 65536 : Nat) : Int) by omega, show ((n : Int) / 256) = ((n / 256 : Nat) : Int) by omega, show ((n : Int) / 1) = (n : Int) by omega, wrap8, wrap8, wrap8, wrap8]; rfl
theorem m71_2 {b : List UInt8} (hb : b.length = 2) (n : Nat) : m71_journal_put b (n : Int) = some (put2 n) := by
  obtain ⟨b0, b1, rfl⟩ : ∃ b0 b1, b = [b0, b1] := by
    match b, hb with
    | [b0, b1], _ => exact ⟨b0, b1, rfl⟩
  have : m71_journal_put [b0, b1] (n : Int) = some [UInt8.ofNat (IntKind.wrap .u8 ((n : Int) / 256)).toNat, UInt8.ofNat (IntKind.wrap .u8 ((n : Int) / 1)).toNat] := by kernel_rfl
  rw [this, show ((n : Int) / 256) = ((n / 256 : Nat) : Int) by omega, show ((n : Int) / 1) = (n : Int) by omega, wrap8, wrap8]; rfl
/-- a number of bytes -/
def getN (b : List UInt8) : Nat := b.foldl (fun n c => n * 256 + c.toNat) 0
theorem m60_eq (b : List UInt8) (hb : b.length ≤ 4) : m60_journal_get b = some (getN b : Int) ∧ getN b < 4294967296 := by
  have key : ∀ (t : List UInt8) (i n : Nat), n < 256 ^ i → t.foldl (fun n c => n * 256 + c.toNat) n < 256 ^ (i + t.length) := by
    intro t
    induction t with
    | nil => intro i n h; exact h
    | cons c t ih =>
      intro i n h
      have := ih (i + 1) (n * 256 + c.toNat) (by have := u8lt c; rw [Nat.pow_succ]; omega)
      rw [List.length_cons, show i + (t.length + 1) = i + 1 + t.length by omega]; exact this
  have lim : ∀ i : Nat, i ≤ 4 → 256 ^ i ≤ 4294967296 := fun i hi => Nat.le_trans (Nat.pow_le_pow_right (by decide) hi) (by decide)
  refine ⟨?_, Nat.lt_of_lt_of_le (by have := key b 0 0 (by decide); rwa [Nat.zero_add] at this) (lim _ hb)⟩
  unfold m60_journal_get
  refine (up_listB (B := m60_journal_get_B0 b) (σ := Int) (fun i s => ∃ k : Nat, k < 256 ^ i ∧ s = (k : Int)) (fun _ t s => some ((t.foldl (fun n c => n * 256 + c.toNat) s.toNat : Nat) : Int)) b (by omega) ?_ ?_ (by omega) ⟨0, by decide, rfl⟩).trans rfl
  · rintro sf s ⟨k, hk, rfl⟩
    unfold m60_journal_get_B0
    rw [decide_eq_false (Int.lt_irrefl _)]; rfl
  · rintro sf i s x t h1 h2 h3 ⟨k, hk, rfl⟩ ih
    unfold m60_journal_get_B0
    have g1 : b.getD (i : Int).toNat default = x := getD_of h2
    have hx := u8lt x
    have hk4 : k < 16777216 := Nat.lt_of_lt_of_le hk (Nat.le_trans (Nat.pow_le_pow_right (n := 256) (by decide) (show i ≤ 3 by omega)) (by decide))
    have e1 : IntKind.wrap .u64 ((k : Int) * 2 ^ min 8 (IntKind.bits .u64)) = ((k * 256 : Nat) : Int) := by
      rw [show (2 : Int) ^ min 8 (IntKind.bits .u64) = 256 from rfl, IntKind.wrap_u64]; omega
    have e2 : Go.bits .or .u64 ((k * 256 : Nat) : Int) (x.toNat : Int) = ((k * 256 + x.toNat : Nat) : Int) := by
      rw [u64_or_nat _ _ (by omega) (by omega), nat_join 8 _ _ (by omega) (by omega)]
    rw [decide_eq_true (ipos h1), cond_true, ck_eq (by omega), g1, e1, e2, h3, ih _ ⟨_, by rw [Nat.pow_succ]; omega, rfl⟩]; rfl
theorem get_put {n : Nat} (h : n < 4294967296) : getN (put4 n) = n := by
  simp only [getN, put4, List.foldl_cons, List.foldl_nil, bt_toNat]; omega
/-- what is summed up -/
def mid (num : Nat) (kind : UInt8) (b : List UInt8) : List UInt8 := put2 num ++ (kind :: bt b.length :: (b ++ List.replicate (112 - b.length) 0))
/-- a sector -/
def enc (g num : Nat) (kind : UInt8) (b : List UInt8) : List UInt8 := put4 g ++ (put4 (sumN (mid num kind b)) ++ (mid num kind b ++ put4 g))
theorem mid_len {num : Nat} {kind : UInt8} {b : List UInt8} (hb : b.length ≤ 112) : (mid num kind b).length = 116 := by simp [mid, put2]; omega
theorem enc_len {g num : Nat} {kind : UInt8} {b : List UInt8} (hb : b.length ≤ 112) : (enc g num kind b).length = 128 := by simp [enc, put4, mid_len hb]
theorem setw_at {α : Type} {A X B Y : List α} {l h : Nat} (hl : A.length = l) (hX : X.length + l = h) : setw (A ++ (X ++ B)) l h Y = A ++ (Y ++ B) := by
  subst hl
  have e : h = A.length + X.length := by omega
  subst e
  unfold setw
  rw [List.take_left, ← List.append_assoc A X B, ← List.length_append, List.drop_left, List.append_assoc]
theorem rep_split (n k : Nat) : List.replicate (n + k) (0 : UInt8) = List.replicate n 0 ++ List.replicate k 0 := by rw [List.replicate_append_replicate]
theorem mid_at {α : Type} {A X B : List α} {l k : Nat} (hl : A.length = l) (hX : X.length = k) : ((A ++ (X ++ B)).drop l).take k = X := by
  subst hl; subst hX; rw [List.drop_left, List.take_left]
theorem m63_eq {g num : Nat} {kind : UInt8} {b : List UInt8} (hn : num < 18446744073709551616) (hb : b.length ≤ 112) :
    m63_journal_encode (g : Int) (num : Int) kind b = some (enc g num kind b) := by
  have l4 : ∀ n, (put4 n).length = 4 := fun _ => rfl
  have l2 : ∀ n, (put2 n).length = 2 := fun _ => rfl
  obtain ⟨S1, hS1⟩ : ∃ S, S = setw (List.replicate 128 (0 : UInt8)) 0 4 (put4 g) := ⟨_, rfl⟩
  have e1 : S1 = (put4 g ++ List.replicate 4 0) ++ (List.replicate 2 0 ++ List.replicate 118 0) := by
    rw [hS1]
    have := setw_at (A := ([] : List UInt8)) (X := List.replicate 4 0) (B := List.replicate 124 0) (Y := put4 g) (l := 0) (h := 4) rfl rfl
    rw [show List.replicate 128 (0 : UInt8) = [] ++ (List.replicate 4 0 ++ List.replicate 124 0) from rfl, this]; rfl
  obtain ⟨S2, hS2⟩ : ∃ S, S = setw S1 8 10 (put2 num) := ⟨_, rfl⟩
  have e2 : S2 = (put4 g ++ List.replicate 4 0) ++ (put2 num ++ List.replicate 118 0) := by
    rw [hS2, e1]; exact setw_at rfl rfl
  obtain ⟨S4, hS4⟩ : ∃ S, S = (S2.set 10 kind).set 11 (bt b.length) := ⟨_, rfl⟩
  have e4 : S4 = (put4 g ++ (List.replicate 4 0 ++ (put2 num ++ [kind, bt b.length]))) ++ List.replicate 116 0 := by
    rw [hS4, e2]; rfl
  obtain ⟨S5, hS5⟩ : ∃ S, S = S4.take 12 ++ (b.take (128 - 12) ++ (S4.drop 12).drop (min b.length (128 - 12))) := ⟨_, rfl⟩
  have e5 : S5 = (put4 g ++ (List.replicate 4 0 ++ (mid num kind b))) ++ (List.replicate 4 0 ++ []) := by
    rw [hS5, e4]
    have h12 : (put4 g ++ (List.replicate 4 0 ++ (put2 num ++ [kind, bt b.length]))).length = 12 := rfl
    rw [List.take_left' h12, List.drop_left' h12, List.take_of_length_le (by omega), List.drop_replicate, show 116 - min b.length (128 - 12) = (112 - b.length) + 4 by omega, rep_split]
    simp [mid]
  obtain ⟨S6, hS6⟩ : ∃ S, S = setw S5 124 128 (put4 g) := ⟨_, rfl⟩
  have e6 : S6 = put4 g ++ (List.replicate 4 0 ++ (mid num kind b ++ put4 g)) := by
    rw [hS6, e5]; exact (setw_at (A := put4 g ++ (List.replicate 4 0 ++ mid num kind b)) (X := List.replicate 4 0) (B := []) (Y := put4 g) (by simp [l4, mid_len hb]) rfl).trans (by simp)
  have e6' : S6 = (put4 g ++ List.replicate 4 0) ++ (mid num kind b ++ put4 g) := by rw [e6]; simp
  obtain ⟨S7, hS7⟩ : ∃ S, S = setw S6 4 8 (put4 (sumN (mid num kind b))) := ⟨_, rfl⟩
  have e7 : S7 = enc g num kind b := by rw [hS7, e6]; exact setw_at (A := put4 g) (X := List.replicate 4 0) (B := mid num kind b ++ put4 g) (Y := put4 (sumN (mid num kind b))) rfl rfl
  have n1 : S1.length = 128 := by rw [e1]; rfl
  have n2 : S2.length = 128 := by rw [e2]; rfl
  have n4 : S4.length = 128 := by rw [e4]; rfl
  have n5 : S5.length = 128 := by rw [e5]; simp [l4, mid_len hb]
  have n6 : S6.length = 128 := by rw [e6]; simp [l4, mid_len hb]
  have w0 : IntKind.wrap .u64 (num : Int) = (num : Int) := by rw [IntKind.wrap_u64]; omega
  have w1 : UInt8.ofNat (IntKind.wrap .u8 (b.length : Int)).toNat = bt b.length := wrap8 _
  have t8 : (S6.drop 8).take (124 - 8) = mid num kind b := by rw [e6']; exact mid_at rfl (mid_len hb)
  have w2 : IntKind.wrap .u64 (sumN (mid num kind b) : Int) = (sumN (mid num kind b) : Int) := by have := sumN_lt (mid num kind b); rw [IntKind.wrap_u64]; omega
  unfold m63_journal_encode
  rw [ck_eq (by simp), m71_4 (by simp), Option.bind_some, ← hS1, ck_eq (by rw [n1]; decide), w0, m71_2 (by rw [List.length_take, List.length_drop, n1]; decide)]
  rw [Option.bind_some, ← hS2, w1, ← hS4, ← hS5]
  rw [ck_eq (by rw [n2]; decide), ck_eq (by rw [List.length_set, n2]; decide), ck_eq (by rw [n4]; decide), ck_eq (by decide), ck_eq (by rw [n5]; decide), m71_4 (by rw [List.length_take, List.length_drop, n5]; decide), Option.bind_some, ← hS6]
  rw [ck_eq (by rw [n6]; decide), ck_eq (by rw [n6]; decide), t8, m72_eq _ (by rw [mid_len hb]; decide), Option.bind_some, w2, m71_4 (by rw [List.length_take, List.length_drop, n6]; decide), Option.bind_some, ← hS7, e7, ck_eq (enc_len hb)]
end Go.Fx



/- Sectors: what good says, and that damage and tearing are noticed. -/
set_option linter.unusedSimpArgs false
set_option linter.unusedVariables false
namespace Go.Fx
open Go Go.RowKit
section
variable {g num : Nat} {kind : UInt8} {b : List UInt8}
theorem enc_take4 : (enc g num kind b).take 4 = put4 g := rfl
theorem enc_drop124 (hb : b.length ≤ 112) : (enc g num kind b).drop 124 = put4 g := by
  have : enc g num kind b = (put4 g ++ (put4 (sumN (mid num kind b)) ++ mid num kind b)) ++ put4 g := by simp [enc]
  rw [this]; exact List.drop_left' (by simp [put4, mid_len hb])
theorem enc_11 (hb : b.length ≤ 112) : ((enc g num kind b).getD 11 default).toNat = b.length := by
  have : (enc g num kind b).getD 11 default = bt b.length := rfl
  rw [this, bt_toNat]; omega
theorem enc_body : ((enc g num kind b).drop 12).take b.length = b := by
  have : (enc g num kind b).drop 12 = b ++ (List.replicate (112 - b.length) 0 ++ put4 g) := by
    show (b ++ List.replicate (112 - b.length) 0) ++ put4 g = _
    simp
  rw [this, List.take_left]
end
theorem getD_len {α : Type} {l : List α} {i : Nat} {d : α} (h : i < l.length) : l.getD i d = l[i] := by simp [h]
/-- what good answers -/
theorem m70_eq {s : List UInt8} (hs : s.length = 128) (num : Nat) (hn : num < 18446744073709551616) : ∃ r, m70_journal_good s (num : Int) = some r ∧
    (r = true → s = enc (getN (s.take 4)) num (s.getD 10 default) ((s.drop 12).take (s.getD 11 default).toNat) ∧ (s.getD 11 default).toNat ≤ 112) := by
  unfold m70_journal_good
  rw [ck_eq (by rw [hs]; decide)]
  simp only [jn_eq]
  obtain ⟨n, hN⟩ : ∃ n, n = (s.getD 11 default).toNat := ⟨_, rfl⟩
  by_cases c1 : (112 : Int) < ((s.getD 11 default).toNat : Int)
  · rw [decide_eq_true c1]; exact ⟨false, rfl, by simp⟩
  have hle : (s.getD 11 default).toNat ≤ 112 := by omega
  rw [decide_eq_false c1, cond_false]
  have hw : IntKind.wrap .i64 (12 + ((s.getD 11 default).toNat : Int)) = ((12 + (s.getD 11 default).toNat : Nat) : Int) := by rw [wrap_i64 (by omega) (by omega)]; omega
  have hbl : ((s.drop 12).take (s.getD 11 default).toNat).length ≤ 112 := by rw [List.length_take]; omega
  have h4 : ((s.drop 0).take (4 - 0)).length ≤ 4 := by simp; omega
  have c10 : (0 : Int) ≤ 10 ∧ 10 < (s.length : Int) := by rw [hs]; decide
  have c4 : (0 : Int) ≤ (4 : Int) ∧ (4 : Int) ≤ (s.length : Int) := by rw [hs]; decide
  have c12 : (0 : Int) ≤ 12 ∧ (12 : Int) ≤ ((12 + (s.getD 11 default).toNat : Nat) : Int) ∧ ((12 + (s.getD 11 default).toNat : Nat) : Int) ≤ (s.length : Int) := by rw [hs]; omega
  have htk : (s.drop 0).take (4 - 0) = s.take 4 := rfl
  have hT : (ck ((0 : Int) ≤ (4 : Int) ∧ (4 : Int) ≤ (s.length : Int)) <|
      (m60_journal_get ((s.drop 0).take (4 - 0))).bind fun get_1 =>
      bif (decide (0 < get_1)) then
        ck ((0 : Int) ≤ 10 ∧ 10 < (s.length : Int)) <|
        ck ((0 : Int) ≤ 12 ∧ (12 : Int) ≤ (IntKind.wrap .i64 (12 + ((s.getD 11 default).toNat : Int))) ∧ (IntKind.wrap .i64 (12 + ((s.getD 11 default).toNat : Int))) ≤ (s.length : Int)) <|
        (m63_journal_encode get_1 num (s.getD 10 default) ((s.drop 12).take ((IntKind.wrap .i64 (12 + ((s.getD 11 default).toNat : Int))).toNat - 12))).bind fun encode_1 =>
        (m62_bytes_Equal s encode_1).bind fun equal_1 =>
        some equal_1
      else
        some false) = some (decide (0 < getN (s.take 4)) && decide (s = enc (getN (s.take 4)) num (s.getD 10 default) ((s.drop 12).take (s.getD 11 default).toNat))) := by
    rw [ck_eq c4, (m60_eq _ h4).1, Option.bind_some, htk]
    by_cases c0 : 0 < getN (s.take 4)
    · rw [decide_eq_true (show (0 : Int) < (getN (s.take 4) : Int) by omega), decide_eq_true c0, cond_true, ck_eq c10, hw, ck_eq c12]
      rw [show ((12 + (s.getD 11 default).toNat : Nat) : Int).toNat - 12 = (s.getD 11 default).toNat by omega, m63_eq hn hbl]; rfl
    · rw [decide_eq_false (show ¬ (0 : Int) < (getN (s.take 4) : Int) by omega), decide_eq_false c0]; rfl
  rw [hT]
  simp only [ck_eq c10]
  have fin : ∀ v : Bool, ∃ r, (bif v then some false else some (decide (0 < getN (s.take 4)) && decide (s = enc (getN (s.take 4)) num (s.getD 10 default) ((s.drop 12).take (s.getD 11 default).toNat)))) = some r ∧
      (r = true → s = enc (getN (s.take 4)) num (s.getD 10 default) ((s.drop 12).take (s.getD 11 default).toNat) ∧ (s.getD 11 default).toNat ≤ 112) := by
    intro v
    cases v
    · exact ⟨_, rfl, fun h => by simp only [Bool.and_eq_true, decide_eq_true_eq] at h; exact ⟨h.2, hle⟩⟩
    · exact ⟨false, rfl, by simp⟩
  cases decide (3 < ((s.getD 10 default).toNat : Int))
  · rw [cond_false]
    cases decide (((UInt8.ofNat (Go.bits .and .u8 ((s.getD 10 default).toNat : Int) 2).toNat).toNat : Int) = 0)
    · rw [cond_false]
      cases decide (((UInt8.ofNat (Go.bits .and .u8 ((s.getD 10 default).toNat : Int) 1).toNat).toNat : Int) = 0)
      · exact fin false
      · exact fin _
    · rw [cond_true]
      cases decide (((s.getD 11 default).toNat : Int) < 112)
      · rw [cond_false]
        cases decide (((UInt8.ofNat (Go.bits .and .u8 ((s.getD 10 default).toNat : Int) 1).toNat).toNat : Int) = 0)
        · exact fin false
        · exact fin _
      · exact fin true
  · exact fin true
/-- a sector's kind: whether a record begins, whether one ends -/
def kd : Bool → Bool → UInt8
  | true, true => 3
  | true, false => 1
  | false, true => 2
  | false, false => 0
theorem m70_enc {g num : Nat} {f l : Bool} {b : List UInt8} (hg : 0 < g) (hg' : g < 4294967296) (hn : num < 18446744073709551616) (hb : b.length ≤ 112) (hl : l = false → b.length = 112) (hf : f = false → 0 < b.length) :
    m70_journal_good (enc g num (kd f l) b) (num : Int) = some true := by
  obtain ⟨s, hS⟩ : ∃ s, s = enc g num (kd f l) b := ⟨_, rfl⟩
  have hs : s.length = 128 := by rw [hS]; exact enc_len hb
  have h11 : (s.getD 11 default).toNat = b.length := by rw [hS]; exact enc_11 hb
  have h10 : s.getD 10 default = kd f l := by rw [hS]; rfl
  have ht : s.take 4 = put4 g := by rw [hS]; rfl
  have hbd : (s.drop 12).take b.length = b := by rw [hS]; exact enc_body
  rw [← hS]
  unfold m70_journal_good
  rw [ck_eq (by rw [hs]; decide)]
  simp only [jn_eq]
  have hw : IntKind.wrap .i64 (12 + (b.length : Int)) = ((12 + b.length : Nat) : Int) := by rw [wrap_i64 (by omega) (by omega)]; omega
  have c10 : (0 : Int) ≤ 10 ∧ 10 < (s.length : Int) := by rw [hs]; decide
  have c4 : (0 : Int) ≤ (4 : Int) ∧ (4 : Int) ≤ (s.length : Int) := by rw [hs]; decide
  have c12 : (0 : Int) ≤ 12 ∧ (12 : Int) ≤ ((12 + b.length : Nat) : Int) ∧ ((12 + b.length : Nat) : Int) ≤ (s.length : Int) := by rw [hs]; omega
  have htk : (s.drop 0).take (4 - 0) = put4 g := ht
  have hT : (ck ((0 : Int) ≤ (4 : Int) ∧ (4 : Int) ≤ (s.length : Int)) <|
      (m60_journal_get ((s.drop 0).take (4 - 0))).bind fun get_1 =>
      bif (decide (0 < get_1)) then
        ck ((0 : Int) ≤ 10 ∧ 10 < (s.length : Int)) <|
        ck ((0 : Int) ≤ 12 ∧ (12 : Int) ≤ (IntKind.wrap .i64 (12 + ((s.getD 11 default).toNat : Int))) ∧ (IntKind.wrap .i64 (12 + ((s.getD 11 default).toNat : Int))) ≤ (s.length : Int)) <|
        (m63_journal_encode get_1 num (s.getD 10 default) ((s.drop 12).take ((IntKind.wrap .i64 (12 + ((s.getD 11 default).toNat : Int))).toNat - 12))).bind fun encode_1 =>
        (m62_bytes_Equal s encode_1).bind fun equal_1 =>
        some equal_1
      else
        some false) = some true := by
    rw [ck_eq c4, htk, (m60_eq (put4 g) (Nat.le_refl 4)).1, Option.bind_some, get_put hg', decide_eq_true (show (0 : Int) < (g : Int) by omega), cond_true, ck_eq c10, h11, hw, ck_eq c12]
    rw [show ((12 + b.length : Nat) : Int).toNat - 12 = b.length by omega, h10, hbd, m63_eq hn hb, ← hS, Option.bind_some]
    unfold m62_bytes_Equal
    rw [decide_eq_true rfl]; rfl
  rw [hT]
  simp only [ck_eq c10]
  rw [h11, h10, decide_eq_false (show ¬ (112 : Int) < (b.length : Int) by omega)]
  cases f <;> cases l
  · rw [show decide ((b.length : Int) < 112) = false from decide_eq_false (by have := hl rfl; omega), show decide ((b.length : Int) = 0) = false from decide_eq_false (by have := hf rfl; omega)]; rfl
  · rw [show decide ((b.length : Int) = 0) = false from decide_eq_false (by have := hf rfl; omega)]; rfl
  · rw [show decide ((b.length : Int) < 112) = false from decide_eq_false (by have := hl rfl; omega)]; rfl
  · rfl
/-- a torn sector is bad -/
theorem bad_torn {g num : Nat} {kind : UInt8} {b old : List UInt8} (hn : num < 18446744073709551616) (hb : b.length ≤ 112) (hg : g < 4294967296) (ho : old.length = 128) (hg' : getN (old.drop 124) < g) : m70_journal_good (torn old (enc g num kind b)) (num : Int) = some false := by
  obtain ⟨T, hT⟩ : ∃ T, T = torn old (enc g num kind b) := ⟨_, rfl⟩
  have lE := enc_len (g := g) (num := num) (kind := kind) hb
  have t4 : T.take 4 = put4 g := by
    rw [hT]; unfold torn
    rw [List.take_append_of_le_length (by rw [List.length_take, lE]; decide), List.take_take]; rfl
  have t124 : T.drop 124 = old.drop 124 := by
    rw [hT]; unfold torn
    rw [List.drop_append, List.drop_eq_nil_of_le (by rw [List.length_take, lE]; decide), List.nil_append, List.length_take, List.drop_drop, lE, show min 128 64 + (124 - min 64 128) = 124 by decide]
  obtain ⟨r, h1, h2⟩ := m70_eq (s := T) (by rw [hT]; unfold torn; simp [lE, ho]) num hn
  rw [← hT]
  cases r
  · exact h1
  · exfalso
    obtain ⟨h3, h4⟩ := h2 rfl
    rw [t4, get_put hg] at h3
    have h5 : T.drop 124 = put4 g := by rw [h3]; exact enc_drop124 (by rw [List.length_take]; omega)
    rw [t124] at h5
    rw [h5, get_put hg] at hg'
    omega
/-- a sector of zeros is bad -/
theorem bad_zero (num : Nat) : m70_journal_good (List.replicate 128 0) (num : Int) = some false := by
  have : m70_journal_good (List.replicate 128 0) (num : Int) = some false := by kernel_rfl
  exact this
end Go.Fx



set_option linter.unusedVariables false
set_option linter.unusedSimpArgs false
set_option maxRecDepth 100000
set_option maxHeartbeats 0
namespace Go.Fx
open Go Go.RowKit Go.Proofs
end Go.Fx



/- JournalRoom, where what comes in is small. -/
set_option linter.unusedSimpArgs false
set_option linter.unusedVariables false
namespace Go.Fx
open Go Go.RowKit
/-- sectors of n bytes -/
def secN (n : Nat) : Nat := max 1 ((n + 111) / 112)
def usedN (l : List (List UInt8)) : Nat := (l.map fun b => secN b.length).sum
theorem usedN_app (l : List (List UInt8)) (b : List UInt8) : usedN (l ++ [b]) = usedN l + secN b.length := by simp [usedN]
theorem ones (b : List UInt8) : (b.map fun _ => 1).sum = b.length := by induction b <;> simp_all <;> omega
end Go.Fx



/- The records that are read off sectors. -/
set_option linter.unusedSimpArgs false
set_option linter.unusedVariables false
namespace Go.Fx
open Go Go.RowKit
/-- the sectors of a record -/
def pcs (g : Nat) : Nat → Bool → List UInt8 → Nat → List (List UInt8)
  | _, _, _, 0 => []
  | n, f, b, 1 => [enc g n (kd f true) b]
  | n, f, b, k + 2 => enc g n (kd f false) (b.take 112) :: pcs g (n + 1) false (b.drop 112) (k + 1)
theorem pcs_len (g : Nat) : ∀ (k n : Nat) (f : Bool) (b : List UInt8), (pcs g n f b k).length = k
  | 0, _, _, _ => rfl
  | 1, _, _, _ => rfl
  | k + 2, n, f, b => by show (pcs g (n + 1) false (b.drop 112) (k + 1)).length + 1 = _; rw [pcs_len g (k + 1)]
theorem secN_pos (n : Nat) : 1 ≤ secN n := by unfold secN; omega
theorem secN_one {n : Nat} (h : secN n = 1) : n ≤ 112 := by unfold secN at h; omega
theorem secN_two {n k : Nat} (h : secN n = k + 2) : 112 < n ∧ secN (n - 112) = k + 1 := by unfold secN at *; omega
section
variable {S : List (List UInt8)} {sf : Int → Int → Option (List (Int × List UInt8))}
theorem inner_bad {f n : Nat} {a last : Int} {acc : List UInt8} (hn : n < S.length) (hb : m70_journal_good S[n] (n : Int) = some false) :
    loop4 (m69_journal_records_1_B1 S sf) (f + 1) a last acc (n : Int) = some [] := by
  rw [loop4_succ]; unfold m69_journal_records_1_B1
  rw [decide_eq_true (ipos hn), cond_true, ck_eq (by omega)]
  simp only [jn_eq, Int.toNat_natCast, getD_len hn]
  rw [hb]; rfl
theorem kd1 (f l : Bool) : decide (((UInt8.ofNat (Go.bits .and .u8 ((kd f l).toNat : Int) 1).toNat).toNat : Int) ≠ 0) = f := by cases f <;> cases l <;> rfl
theorem kd2 (f l : Bool) : decide (((UInt8.ofNat (Go.bits .and .u8 ((kd f l).toNat : Int) 2).toNat).toNat : Int) ≠ 0) = l := by cases f <;> cases l <;> rfl
theorem inner_good {f a last n g : Nat} {fb l : Bool} {acc c : List UInt8} (hn : n < S.length) (hlim : S.length ≤ 5000) (hs : S[n] = enc g n (kd fb l) c) (hg : 0 < g) (hg' : g < 4294967296) (hc : c.length ≤ 112) (hl : l = false → c.length = 112) (hf : fb = false → 0 < c.length)
    (hfb : fb = decide (n = a)) (hat : a ≤ n) (h128 : ∀ s ∈ S, s.length = 128) (hh : getN ((S.getD a default).take 4) = g) (hlast : last ≤ g) (hacc : acc.length ≤ 1000000) :
    loop4 (m69_journal_records_1_B1 S sf) (f + 1) (a : Int) (last : Int) acc (n : Int) =
      bif l then yl ((n : Int) + 1, acc ++ c) (sf ((n : Int) + 1) (g : Int)) else loop4 (m69_journal_records_1_B1 S sf) f (a : Int) (last : Int) (acc ++ c) ((n : Int) + 1) := by
  rw [loop4_succ]
  generalize loop4 (m69_journal_records_1_B1 S sf) f = L
  unfold m69_journal_records_1_B1
  rw [decide_eq_true (ipos hn), cond_true, ck_eq (by omega)]
  have ha : a < S.length := by omega
  simp only [jn_eq, Int.toNat_natCast, getD_len hn]
  rw [getD_len ha] at hh
  have hal : (S.getD a default).length = 128 := by rw [getD_len ha]; exact h128 _ (List.getElem_mem ha)
  rw [hs, m70_enc hg hg' (by omega) hc hl hf, Option.bind_some]
  have l128 : (enc g n (kd fb l) c).length = 128 := enc_len hc
  have h11 : ((enc g n (kd fb l) c).getD 11 default).toNat = c.length := enc_11 hc
  have h10 : (enc g n (kd fb l) c).getD 10 default = kd fb l := rfl
  have hw : IntKind.wrap .i64 (12 + (c.length : Int)) = ((12 + c.length : Nat) : Int) := by rw [wrap_i64 (by omega) (by omega)]; omega
  have ht : ((enc g n (kd fb l) c).drop 0).take (4 - 0) = put4 g := rfl
  have hbody : ((enc g n (kd fb l) c).drop 12).take (((12 + c.length : Nat) : Int).toNat - 12) = c := by rw [show ((12 + c.length : Nat) : Int).toNat - 12 = c.length by omega]; exact enc_body
  have hwn : IntKind.wrap .i64 ((n : Int) + 1) = (n : Int) + 1 := wrapS (by omega)
  have c10 : (0 : Int) ≤ 10 ∧ 10 < ((enc g n (kd fb l) c).length : Int) := by rw [l128]; decide
  have c11 : (0 : Int) ≤ 11 ∧ 11 < ((enc g n (kd fb l) c).length : Int) := by rw [l128]; decide
  have c4 : (0 : Int) ≤ (4 : Int) ∧ (4 : Int) ≤ ((enc g n (kd fb l) c).length : Int) := by rw [l128]; decide
  have c4' : (0 : Int) ≤ (4 : Int) ∧ (4 : Int) ≤ ((S.getD a default).length : Int) := by rw [hal]; decide
  have ca : (0 : Int) ≤ (a : Int) ∧ (a : Int) < (S.length : Int) := by omega
  have c12 : (0 : Int) ≤ 12 ∧ (12 : Int) ≤ ((12 + c.length : Nat) : Int) ∧ ((12 + c.length : Nat) : Int) ≤ ((enc g n (kd fb l) c).length : Int) := by rw [l128]; omega
  have cc : (acc.length + c.length) * 1 ≤ 140737488355328 := by omega
  have e4 : m60_journal_get (put4 g) = some (g : Int) := by rw [(m60_eq (put4 g) (Nat.le_refl 4)).1, get_put hg']
  have hta : ((S.getD a default).drop 0).take (4 - 0) = (S[a]).take 4 := by rw [getD_len ha]; rfl
  have e5 : m60_journal_get (((S.getD a default).drop 0).take (4 - 0)) = some (g : Int) := by
    rw [hta, (m60_eq _ (by rw [List.length_take]; omega)).1, hh]
  have ebeq : (!(fb == decide ((n : Int) = (a : Int)))) = false := by
    have e : decide ((n : Int) = (a : Int)) = decide (n = a) := decide_eq_decide.2 (by omega)
    rw [hfb, e]; simp
  simp only [Bool.not_true, cond_false, ck_eq c10, ck_eq c11, ck_eq c4, ck_eq c4', ck_eq ca, h10, h11, hw, ht, hbody, kd1, kd2, e4, e5, Option.bind_some, ck_eq c12, ck_eq cc, ebeq, hwn, ne_eq, not_true_eq_false, decide_false]
  rw [decide_eq_false (show ¬ (g : Int) < (last : Int) by omega), cond_false]
theorem inner_rec {a last g : Nat} (hg : 0 < g) (hg' : g < 4294967296) (hlim : S.length ≤ 5000) (h128 : ∀ s ∈ S, s.length = 128) (hh : getN ((S.getD a default).take 4) = g) (hlast : last ≤ g) :
    ∀ (k f n : Nat) (fb : Bool) (b acc : List UInt8), k + 1 = secN b.length → (∀ j, j < k + 1 → S[n + j]? = (pcs g n fb b (k + 1))[j]?) → fb = decide (n = a) → (fb = false → 0 < b.length) → a ≤ n → k < f → acc.length + b.length ≤ 1000000 →
      loop4 (m69_journal_records_1_B1 S sf) f (a : Int) (last : Int) acc (n : Int) = yl (((n + (k + 1) : Nat) : Int), acc ++ b) (sf ((n + (k + 1) : Nat) : Int) (g : Int))
  | 0, f, n, fb, b, acc, hk, hp, hfb, hne, ha, hf, hacc => by
    obtain ⟨f, rfl⟩ : ∃ f', f = f' + 1 := ⟨f - 1, by omega⟩
    have h0 := hp 0 (by omega)
    obtain ⟨hn, hs⟩ := List.getElem?_eq_some_iff.1 (show S[n]? = some (enc g n (kd fb true) b) from h0)
    have hb := secN_one hk.symm
    rw [inner_good hn hlim hs hg hg' hb (by simp) hne hfb ha h128 hh hlast (by omega)]
    rfl
  | k + 1, f, n, fb, b, acc, hk, hp, hfb, hne, ha, hf, hacc => by
    obtain ⟨f, rfl⟩ : ∃ f', f = f' + 1 := ⟨f - 1, by omega⟩
    have h0 := hp 0 (by omega)
    obtain ⟨hn, hs⟩ := List.getElem?_eq_some_iff.1 (show S[n]? = some (enc g n (kd fb false) (b.take 112)) from h0)
    obtain ⟨hb, hk2⟩ := secN_two hk.symm
    have ht : (b.take 112).length = 112 := by rw [List.length_take]; omega
    rw [inner_good hn hlim hs hg hg' (by omega) (fun _ => ht) (fun _ => by omega) hfb ha h128 hh hlast (by omega), cond_false]
    have := inner_rec hg hg' hlim h128 hh hlast k f (n + 1) false (b.drop 112) (acc ++ b.take 112) (by rw [List.length_drop]; omega) (fun j hj => by have := hp (j + 1) (by omega); rw [show n + 1 + j = n + (j + 1) by omega, this]; rfl)
      (by rw [decide_eq_false]; omega) (fun _ => by rw [List.length_drop]; omega) (by omega) (by omega) (by simp only [List.length_append, List.length_drop, ht]; omega)
    rw [show (n : Int) + 1 = ((n + 1 : Nat) : Int) by omega, this, List.append_assoc, List.take_append_drop, show n + 1 + (k + 1) = n + (k + 1 + 1) by omega]
theorem inner_part {a last g : Nat} (hg : 0 < g) (hg' : g < 4294967296) (hlim : S.length ≤ 5000) (h128 : ∀ s ∈ S, s.length = 128) (hh : getN ((S.getD a default).take 4) = g) (hlast : last ≤ g) :
    ∀ (j k f n : Nat) (fb : Bool) (b acc : List UInt8), j < k → k = secN b.length → (∀ i, i < j → S[n + i]? = (pcs g n fb b k)[i]?) → (∃ s, S[n + j]? = some s ∧ m70_journal_good s ((n + j : Nat) : Int) = some false) → fb = decide (n = a) → (fb = false → 0 < b.length) → a ≤ n → j < f → acc.length + b.length ≤ 1000000 →
      loop4 (m69_journal_records_1_B1 S sf) f (a : Int) (last : Int) acc (n : Int) = some []
  | 0, k, f, n, fb, b, acc, hj, hk, hp, hbad, hfb, hne, ha, hf, hacc => by
    obtain ⟨f, rfl⟩ : ∃ f', f = f' + 1 := ⟨f - 1, by omega⟩
    obtain ⟨s, h1, h2⟩ := hbad
    obtain ⟨hn, hs⟩ := List.getElem?_eq_some_iff.1 (show S[n]? = some s from h1)
    exact inner_bad hn (by rw [hs]; exact h2)
  | j + 1, k, f, n, fb, b, acc, hj, hk, hp, hbad, hfb, hne, ha, hf, hacc => by
    obtain ⟨f, rfl⟩ : ∃ f', f = f' + 1 := ⟨f - 1, by omega⟩
    obtain ⟨k, rfl⟩ : ∃ k', k = k' + 2 := ⟨k - 2, by omega⟩
    have h0 := hp 0 (by omega)
    obtain ⟨hn, hs⟩ := List.getElem?_eq_some_iff.1 (show S[n]? = some (enc g n (kd fb false) (b.take 112)) from h0)
    obtain ⟨hb, hk2⟩ := secN_two hk.symm
    have ht : (b.take 112).length = 112 := by rw [List.length_take]; omega
    rw [inner_good hn hlim hs hg hg' (by omega) (fun _ => ht) (fun _ => by omega) hfb ha h128 hh hlast (by omega), cond_false, show (n : Int) + 1 = ((n + 1 : Nat) : Int) by omega]
    exact inner_part hg hg' hlim h128 hh hlast j (k + 1) f (n + 1) false (b.drop 112) (acc ++ b.take 112) (by omega) (by rw [List.length_drop]; omega) (fun i hi => by have := hp (i + 1) (by omega); rw [show n + 1 + i = n + (i + 1) by omega, this]; rfl)
      (by rw [show n + 1 + j = n + (j + 1) by omega]; exact hbad) (by rw [decide_eq_false]; omega) (fun _ => by rw [List.length_drop]; omega) (by omega) (by omega) (by simp only [List.length_append, List.length_drop, ht]; omega)
theorem inner_old {f a last : Nat} {acc : List UInt8} (ha : a < S.length) (hlim : S.length ≤ 5000) (h128 : ∀ s ∈ S, s.length = 128) (hold : getN ((S.getD a default).take 4) < last) :
    loop4 (m69_journal_records_1_B1 S sf) (f + 1) (a : Int) (last : Int) acc (a : Int) = some [] := by
  rw [loop4_succ]
  generalize loop4 (m69_journal_records_1_B1 S sf) f = L
  unfold m69_journal_records_1_B1
  rw [decide_eq_true (ipos ha), cond_true, ck_eq (by omega)]
  have hal : (S.getD a default).length = 128 := by rw [getD_len ha]; exact h128 _ (List.getElem_mem ha)
  simp only [jn_eq, Int.toNat_natCast]
  obtain ⟨r, h1, _⟩ := m70_eq hal a (by omega)
  rw [h1, Option.bind_some]
  cases r
  · rfl
  have c10 : (0 : Int) ≤ 10 ∧ 10 < ((S.getD a default).length : Int) := by rw [hal]; decide
  have c4 : (0 : Int) ≤ (4 : Int) ∧ (4 : Int) ≤ ((S.getD a default).length : Int) := by rw [hal]; decide
  have ca : (0 : Int) ≤ (a : Int) ∧ (a : Int) < (S.length : Int) := by omega
  have e5 : m60_journal_get (((S.getD a default).drop 0).take (4 - 0)) = some (getN ((S.getD a default).take 4) : Int) := by
    rw [(m60_eq _ (by rw [List.length_take]; omega)).1]; rfl
  simp only [Bool.not_true, cond_false, ck_eq c10, ck_eq c4, ck_eq ca, e5, Option.bind_some, ne_eq, not_true_eq_false, decide_false]
  rw [show decide ((getN ((S.getD a default).take 4) : Int) < (last : Int)) = true from decide_eq_true (by omega)]
  have key : ∀ q : Bool, (bif q then (some [] : Option (List (Int × List UInt8))) else some []) = some [] := by intro q; cases q <;> rfl
  exact key _
/-- nothing is read from here on -/
def Stops (S : List (List UInt8)) (u gl : Nat) : Prop := ∀ f, loop2 (m69_journal_records_1_B0 S) (f + 1) (u : Int) (gl : Int) = some []
theorem Stops.fin {gl : Nat} : Stops S S.length gl := by
  intro f
  rw [loop2_succ]; unfold m69_journal_records_1_B0
  rw [show ((S.length : Int) - (S.length : Int)).toNat + 1 = 0 + 1 by omega, loop4_succ]
  unfold m69_journal_records_1_B1
  rw [decide_eq_false (Int.lt_irrefl _)]; rfl
theorem Stops.old {u gl : Nat} (hu : u < S.length) (hlim : S.length ≤ 5000) (h128 : ∀ s ∈ S, s.length = 128) (hold : getN ((S.getD u default).take 4) < gl) : Stops S u gl := by
  intro f
  rw [loop2_succ]; unfold m69_journal_records_1_B0
  exact inner_old hu hlim h128 hold
theorem Stops.bad {u gl : Nat} {s : List UInt8} (hs : S[u]? = some s) (hb : m70_journal_good s (u : Int) = some false) : Stops S u gl := by
  intro f
  obtain ⟨hn, rfl⟩ := List.getElem?_eq_some_iff.1 hs
  rw [loop2_succ]; unfold m69_journal_records_1_B0
  exact inner_bad hn hb
theorem Stops.part {u gl g j : Nat} {b : List UInt8} (hg : 0 < g) (hg' : g < 4294967296) (hlim : S.length ≤ 5000) (h128 : ∀ s ∈ S, s.length = 128) (hlast : gl ≤ g) (hj : j < secN b.length) (hbl : b.length ≤ 1000000)
    (hp : ∀ i, i < j → S[u + i]? = (pcs g u true b (secN b.length))[i]?) (hbad : ∃ s, S[u + j]? = some s ∧ m70_journal_good s ((u + j : Nat) : Int) = some false) : Stops S u gl := by
  cases j with
  | zero => obtain ⟨s, h1, h2⟩ := hbad; exact Stops.bad h1 h2
  | succ j =>
    intro f
    rw [loop2_succ]; unfold m69_journal_records_1_B0
    obtain ⟨k, hk⟩ : ∃ k, secN b.length = k + 2 := ⟨secN b.length - 2, by omega⟩
    have h0 := hp 0 (by omega)
    rw [hk] at h0
    obtain ⟨hn, hs⟩ := List.getElem?_eq_some_iff.1 (show S[u]? = some (enc g u (kd true false) (b.take 112)) from h0)
    obtain ⟨s, h1, h2⟩ := hbad
    have hlt := (List.getElem?_eq_some_iff.1 h1).1
    exact inner_part hg hg' hlim h128 (by rw [getD_len hn, hs, enc_take4, get_put hg']) hlast (j + 1) _ _ u true b [] hj rfl hp ⟨s, h1, h2⟩ (by simp) (by simp) (Nat.le_refl _) (by omega) (by simpa using hbl)
end
/-- records that stand on sectors, from a sector on, none of an earlier generation; to what sector, and of what generation the last is -/
inductive Lay (S : List (List UInt8)) : Nat → Nat → List (List UInt8) → Nat → Nat → Prop
  | nil (a last : Nat) : Lay S a last [] a last
  | cons {a last g : Nat} {b : List UInt8} {bs : List (List UInt8)} {u gl : Nat} (hp : ∀ j, j < secN b.length → S[a + j]? = (pcs g a true b (secN b.length))[j]?) (hl : last ≤ g) (hg : 0 < g) (hg' : g < 4294967296) (t : Lay S (a + secN b.length) g bs u gl) : Lay S a last (b :: bs) u gl
section
variable {S S' : List (List UInt8)} {a last u gl : Nat} {bs : List (List UInt8)}
theorem pcs_head {g n k : Nat} {f : Bool} {b : List UInt8} : ∃ l c, (pcs g n f b (k + 1))[0]? = some (enc g n (kd f l) c) := by
  cases k with
  | zero => exact ⟨true, b, rfl⟩
  | succ k => exact ⟨false, b.take 112, rfl⟩
theorem Lay.use (h : Lay S a last bs u gl) : u = a + usedN bs := by
  induction h with
  | nil => simp [usedN]
  | cons hp hl hg hg' t ih => rw [ih]; simp [usedN]; omega
theorem Lay.lim (h : Lay S a last bs u gl) (ha : a ≤ S.length) : u ≤ S.length := by
  induction h with
  | nil => exact ha
  | @cons a last g b bs u gl hp hl hg hg' t ih =>
    refine ih ?_
    have hpos := secN_pos b.length
    have h1 := hp (secN b.length - 1) (by omega)
    have hlt : secN b.length - 1 < (pcs g a true b (secN b.length)).length := by rw [pcs_len]; omega
    rw [List.getElem?_eq_getElem hlt] at h1
    have := (List.getElem?_eq_some_iff.1 h1).1
    omega
theorem Lay.le (h : Lay S a last bs u gl) : a ≤ u ∧ bs.length ≤ u - a := by
  induction h with
  | nil => simp
  | @cons a last g b bs u gl hp hl hg hg' t ih => have := secN_pos b.length; simp only [List.length_cons]; omega
theorem Lay.congr (h : Lay S a last bs u gl) (hS : ∀ i, i < u → S'[i]? = S[i]?) : Lay S' a last bs u gl := by
  induction h with
  | nil => exact .nil _ _
  | @cons a last g b bs u gl hp hl hg hg' t ih =>
    exact .cons (fun j hj => by rw [hS _ (by have := t.le.1; omega)]; exact hp j hj) hl hg hg' (ih hS)
theorem Lay.append {bs' : List (List UInt8)} {u' gl' : Nat} (h : Lay S a last bs u gl) (h' : Lay S u gl bs' u' gl') : Lay S a last (bs ++ bs') u' gl' := by
  induction h with
  | nil => exact h'
  | cons hp hl hg hg' t ih => exact .cons hp hl hg hg' (ih h')
theorem Lay.gen {B : Nat} (h : Lay S a last bs u gl) (hl : last ≤ B) (hB : ∀ s ∈ S, getN (s.take 4) ≤ B) : gl ≤ B := by
  induction h with
  | nil => exact hl
  | @cons a last g b bs u gl hp hl' hg hg' t ih =>
    refine ih ?_
    obtain ⟨k, hk⟩ : ∃ k, secN b.length = k + 1 := ⟨secN b.length - 1, by have := secN_pos b.length; omega⟩
    have h1 := hp 0 (by omega)
    rw [hk] at h1
    obtain ⟨l, c, h2⟩ := pcs_head (g := g) (n := a) (k := k) (f := true) (b := b)
    rw [h2] at h1
    have := hB _ (List.mem_of_getElem? h1)
    rwa [enc_take4, get_put hg'] at this
theorem Lay.read (h : Lay S a last bs u gl) (hs : Stops S u gl) (hlim : S.length ≤ 5000) (h128 : ∀ s ∈ S, s.length = 128) : ∀ f, bs.length < f → ∃ ps, loop2 (m69_journal_records_1_B0 S) f (a : Int) (last : Int) = some ps ∧ ps.map Prod.snd = bs := by
  induction h with
  | nil => intro f hf; obtain ⟨f, rfl⟩ : ∃ f', f = f' + 1 := ⟨f - 1, by simp at hf; omega⟩; exact ⟨[], hs f, rfl⟩
  | @cons a last g b bs u gl hp hl hg hg' t ih =>
    intro f hf
    obtain ⟨f, rfl⟩ : ∃ f', f = f' + 1 := ⟨f - 1, by omega⟩
    obtain ⟨ps, h1, h2⟩ := ih hs f (by simp at hf; omega)
    obtain ⟨k, hk⟩ : ∃ k, secN b.length = k + 1 := ⟨secN b.length - 1, by have := secN_pos b.length; omega⟩
    have h0 := hp 0 (by omega)
    rw [hk] at h0
    obtain ⟨l, c, h3⟩ := pcs_head (g := g) (n := a) (k := k) (f := true) (b := b)
    rw [h3] at h0
    obtain ⟨hn, hs'⟩ := List.getElem?_eq_some_iff.1 (show S[a]? = some _ from h0)
    have hend : a + secN b.length ≤ S.length := by
      have h4 := hp (secN b.length - 1) (by omega)
      have hlt : secN b.length - 1 < (pcs g a true b (secN b.length)).length := by rw [pcs_len]; omega
      rw [List.getElem?_eq_getElem hlt] at h4
      have := (List.getElem?_eq_some_iff.1 h4).1
      omega
    have hbl : b.length ≤ 1000000 := by unfold secN at hend; omega
    rw [hk] at hp
    have := inner_rec (sf := loop2 (m69_journal_records_1_B0 S) f) hg hg' hlim h128 (by rw [getD_len hn, hs', enc_take4, get_put hg']) hl k (((S.length : Int) - (a : Int)).toNat + 1) a true b [] hk.symm hp (by simp) (by simp) (Nat.le_refl _) (by omega) (by simpa using hbl)
    refine ⟨(((a + (k + 1) : Nat) : Int), b) :: ps, ?_, by simp [h2]⟩
    rw [loop2_succ]
    unfold m69_journal_records_1_B0
    refine this.trans ?_
    rw [← hk, h1]; rfl
end
theorem open_rng : ∀ (ps : List (Int × List UInt8)) (acc : List (List UInt8)) (K : List (List UInt8) → Option (XJournal × Int)), acc.length + ps.length ≤ 5000 → rng1 m38_journal_Open_B0 K ps acc = K (acc ++ ps.map Prod.snd)
  | [], acc, K, _ => by rw [rng1_nil]; simp
  | p :: ps, acc, K, h => by
    rw [rng1_cons]
    simp only [List.length_cons] at h
    show ck _ _ = _
    rw [ck_eq (by simp; omega), open_rng ps (acc ++ [p.2]) K (by simp; omega)]; simp
theorem open_eq {d : XDisk} {bs : List (List UInt8)} {u gl : Nat} (hk : chk d = true) (hst : d.stopped = false) (hpn : d.pending = []) (h : Lay d.sectors 0 0 bs u gl) (hs : Stops d.sectors u gl) : m38_journal_Open d = some (⟨bs, (d.sectors.length : Int), (bs.length : Int)⟩, 0) := by
  obtain ⟨p1, p2, p3, p4, p5, p6, p7⟩ := chk_props hk
  have hu := h.lim (by omega)
  have hb := h.le.2
  obtain ⟨ps, h1, h2⟩ := h.read hs (by omega) p7 1000000 (by omega)
  have hpl : ps.length = bs.length := by rw [← h2]; simp
  unfold m38_journal_Open
  rw [m18_eq d (chk_few hk), hk, hst, hpn]
  have hm : m59_journal_records d.sectors = some ps := by
    unfold m59_journal_records m69_journal_records_1
    have h1' : loop2 (m69_journal_records_1_B0 d.sectors) 1000000 0 0 = some ps := h1
    rw [h1']; rfl
  rw [hm]
  simp only [Option.bind_some, jn_eq]
  rw [open_rng ps [] _ (by simp; omega), List.nil_append, h2]
  rfl
end Go.Fx



/- What a sync writes, and how the sectors read behind it. -/
set_option linter.unusedSimpArgs false
set_option linter.unusedVariables false
namespace Go.Fx
open Go Go.RowKit
/-- the generation that comes -/
def genS (G : Nat) : List (List UInt8) → Nat
  | [] => G
  | s :: t => genS (max (max G (getN (s.take 4) + 1)) (getN (s.drop 124) + 1)) t
theorem genS_ge : ∀ (S : List (List UInt8)) (G : Nat), G ≤ genS G S ∧ ∀ s ∈ S, getN (s.take 4) < genS G S ∧ getN (s.drop 124) < genS G S
  | [], G => ⟨Nat.le_refl _, fun _ h => by cases h⟩
  | s :: t, G => by
    obtain ⟨h1, h2⟩ := genS_ge t (max (max G (getN (s.take 4) + 1)) (getN (s.drop 124) + 1))
    refine ⟨?_, fun x hx => ?_⟩
    · show G ≤ genS _ t; omega
    · rcases List.mem_cons.1 hx with rfl | hx
      · show _ < genS _ t ∧ _ < genS _ t; omega
      · exact h2 x hx
theorem genS_le {B : Nat} : ∀ (S : List (List UInt8)) (G : Nat), G ≤ B + 1 → (∀ s ∈ S, getN (s.take 4) ≤ B ∧ getN (s.drop 124) ≤ B) → genS G S ≤ B + 1
  | [], G, h, _ => h
  | s :: t, G, h, hs => genS_le t _ (by have := hs s (by simp); omega) fun x hx => hs x (by simp [hx])
/-- writes one behind the other -/
def wrs : Nat → List (List UInt8) → List XWrite
  | _, [] => []
  | n, s :: t => ⟨(n : Int), s⟩ :: wrs (n + 1) t
theorem wrs_len : ∀ (l : List (List UInt8)) (n : Nat), (wrs n l).length = l.length
  | [], _ => rfl
  | _ :: t, n => by simp [wrs, wrs_len t]
theorem wrs_app : ∀ (l m : List (List UInt8)) (n : Nat), wrs n (l ++ m) = wrs n l ++ wrs (n + l.length) m
  | [], _, _ => by simp [wrs]
  | s :: t, m, n => by
    show _ :: wrs (n + 1) (t ++ m) = _
    rw [wrs_app t m (n + 1), List.length_cons, show n + 1 + t.length = n + (t.length + 1) by omega]; rfl
theorem wrs_take : ∀ (l : List (List UInt8)) (n j : Nat), (wrs n l).take j = wrs n (l.take j)
  | [], _, _ => by simp [wrs]
  | s :: t, n, 0 => by simp [wrs]
  | s :: t, n, j + 1 => by simp [wrs, wrs_take t (n + 1) j]
theorem wrs_get : ∀ (l : List (List UInt8)) (n j : Nat) (h : j < l.length), (wrs n l)[j]? = some ⟨((n + j : Nat) : Int), l[j]⟩
  | s :: t, n, 0, h => rfl
  | s :: t, n, j + 1, h => by
    show (wrs (n + 1) t)[j]? = _
    rw [wrs_get t (n + 1) j (by simpa using h), show n + 1 + j = n + (j + 1) by omega]; rfl
theorem wrs_mem {l : List (List UInt8)} {n : Nat} {w : XWrite} (h : w ∈ wrs n l) : (n : Int) ≤ w.at_ ∧ w.at_ < (n : Int) + l.length ∧ w.data ∈ l := by
  induction l generalizing n with
  | nil => cases h
  | cons s t ih =>
    rcases List.mem_cons.1 h with rfl | h
    · simp; omega
    · obtain ⟨h1, h2, h3⟩ := ih h
      simp only [List.length_cons, List.mem_cons]
      exact ⟨by omega, by omega, .inr h3⟩
theorem perf_wrs : ∀ (l : List (List UInt8)) (S : List (List UInt8)) (n i : Nat), n + l.length ≤ S.length → (perf S (wrs n l))[i]? = if n ≤ i ∧ i < n + l.length then l[i - n]? else S[i]?
  | [], S, n, i, h => by rw [if_neg (by rw [List.length_nil]; omega)]; rfl
  | s :: t, S, n, i, h => by
    simp only [List.length_cons] at h
    show (perf (S.set (n : Int).toNat s) (wrs (n + 1) t))[i]? = _
    rw [perf_wrs t _ (n + 1) i (by simp; omega), Int.toNat_natCast]
    simp only [List.length_cons]
    by_cases h1 : n + 1 ≤ i ∧ i < n + 1 + t.length
    · rw [if_pos h1, if_pos (by omega), show i - n = (i - (n + 1)) + 1 by omega]; rfl
    · rw [if_neg h1]
      by_cases h2 : i = n
      · subst h2; rw [if_pos (by omega), List.getElem?_set_self (by omega), Nat.sub_self]; rfl
      · rw [if_neg (by omega), List.getElem?_set_ne (fun e => h2 e.symm)]
/-- the sectors of further records -/
def news (g : Nat) : Nat → List (List UInt8) → List (List UInt8)
  | _, [] => []
  | n, b :: bs => pcs g n true b (secN b.length) ++ news g (n + secN b.length) bs
theorem news_len (g : Nat) : ∀ (bs : List (List UInt8)) (n : Nat), (news g n bs).length = usedN bs
  | [], _ => rfl
  | b :: bs, n => by
    show (pcs g n true b (secN b.length) ++ news g (n + secN b.length) bs).length = _
    rw [List.length_append, pcs_len, news_len g bs]; simp [usedN]
theorem pcs_mem {g : Nat} : ∀ (k n : Nat) (f : Bool) (b s : List UInt8), k = secN b.length → s ∈ pcs g n f b k → ∃ m kk c, s = enc g m kk c ∧ c.length ≤ 112
  | 0, _, _, _, _, _, h => by cases h
  | 1, n, f, b, s, hk, h => by
    rcases List.mem_singleton.1 h with rfl
    exact ⟨n, _, b, rfl, secN_one hk.symm⟩
  | k + 2, n, f, b, s, hk, h => by
    rcases List.mem_cons.1 h with rfl | h
    · exact ⟨n, _, b.take 112, rfl, by rw [List.length_take]; omega⟩
    · exact pcs_mem (k + 1) (n + 1) false (b.drop 112) s (by rw [List.length_drop]; exact (secN_two hk.symm).2.symm) h
theorem pcs_at {g : Nat} : ∀ (k n : Nat) (f : Bool) (b : List UInt8) (j : Nat) (h : j < (pcs g n f b k).length), k = secN b.length → ∃ kk c, (pcs g n f b k)[j] = enc g (n + j) kk c ∧ c.length ≤ 112
  | 0, _, _, _, j, h, _ => by exact absurd h (Nat.not_lt_zero _)
  | 1, n, f, b, 0, h, hk => ⟨_, b, rfl, secN_one hk.symm⟩
  | 1, n, f, b, j + 1, h, hk => by exact absurd h (by show ¬ j + 1 < 1; omega)
  | k + 2, n, f, b, 0, h, hk => ⟨_, b.take 112, rfl, by rw [List.length_take]; omega⟩
  | k + 2, n, f, b, j + 1, h, hk => by
    have hj : j < (pcs g (n + 1) false (b.drop 112) (k + 1)).length := by simpa [pcs] using h
    obtain ⟨kk, c, h1, h2⟩ := pcs_at (k + 1) (n + 1) false (b.drop 112) j hj (by rw [List.length_drop]; exact (secN_two hk.symm).2.symm)
    exact ⟨kk, c, by show (pcs g (n + 1) false (b.drop 112) (k + 1))[j] = _; rw [h1, show n + 1 + j = n + (j + 1) by omega], h2⟩
theorem news_at {g : Nat} : ∀ (bs : List (List UInt8)) (n j : Nat) (h : j < (news g n bs).length), ∃ kk c, (news g n bs)[j] = enc g (n + j) kk c ∧ c.length ≤ 112
  | [], _, j, h => by exact absurd h (Nat.not_lt_zero _)
  | b :: bs, n, j, h => by
    simp only [news]
    by_cases hj : j < (pcs g n true b (secN b.length)).length
    · rw [List.getElem_append_left hj]; exact pcs_at _ n true b j hj rfl
    · rw [List.getElem_append_right (by omega)]
      obtain ⟨kk, c, h1, h2⟩ := news_at (g := g) bs (n + secN b.length) (j - (pcs g n true b (secN b.length)).length) (by simp only [news, List.length_append] at h; omega)
      rw [pcs_len] at hj
      refine ⟨kk, c, h1.trans ?_, h2⟩
      rw [pcs_len, show n + secN b.length + (j - secN b.length) = n + j by omega]
theorem news_mem {g n : Nat} {bs : List (List UInt8)} {s : List UInt8} (h : s ∈ news g n bs) : ∃ m kk c, s = enc g m kk c ∧ c.length ≤ 112 := by
  obtain ⟨j, hj, rfl⟩ := List.getElem_of_mem h
  obtain ⟨kk, c, h1, h2⟩ := news_at bs n j hj
  exact ⟨_, kk, c, h1, h2⟩
/-- where all of it stands -/
theorem lay_news {S : List (List UInt8)} {g : Nat} (hg : 0 < g) (hg' : g < 4294967296) : ∀ (bs : List (List UInt8)) (u last : Nat), last ≤ g → (∀ j, j < usedN bs → S[u + j]? = (news g u bs)[j]?) →
    ∃ gl, Lay S u last bs (u + usedN bs) gl ∧ (bs = [] ∧ gl = last ∨ gl = g)
  | [], u, last, hl, _ => ⟨last, by simpa [usedN] using Lay.nil u last, .inl ⟨rfl, rfl⟩⟩
  | b :: bs, u, last, hl, hS => by
    have hu : usedN (b :: bs) = secN b.length + usedN bs := by simp [usedN]
    rw [hu] at hS ⊢
    obtain ⟨gl, h1, h2⟩ := lay_news hg hg' bs (u + secN b.length) g (Nat.le_refl _) fun j hj => by
      have := hS (secN b.length + j) (by omega)
      rw [show u + secN b.length + j = u + (secN b.length + j) by omega, this]
      simp only [news]
      rw [List.getElem?_append_right (by rw [pcs_len]; omega), pcs_len, Nat.add_sub_cancel_left]
    refine ⟨gl, .cons (fun j hj => ?_) hl hg hg' (by rw [← Nat.add_assoc]; exact h1), .inr (h2.elim (fun h => h.2) id)⟩
    rw [hS j (by omega)]
    simp only [news]
    rw [List.getElem?_append_left (by rw [pcs_len]; exact hj)]
/-- where only the first J sectors stand, and then a bad one -/
theorem lay_part {S : List (List UInt8)} {g : Nat} (hg : 0 < g) (hg' : g < 4294967296) (hlim : S.length ≤ 5000) (h128 : ∀ s ∈ S, s.length = 128) : ∀ (bs : List (List UInt8)) (u last J : Nat), last ≤ g → J < usedN bs → (∀ b ∈ bs, b.length ≤ 1000000) → (∀ j, j < J → S[u + j]? = (news g u bs)[j]?) →
    (∃ s, S[u + J]? = some s ∧ m70_journal_good s ((u + J : Nat) : Int) = some false) → ∃ i gl, (i < bs.length ∧ usedN (bs.take i) ≤ J ∧ J < usedN (bs.take (i + 1))) ∧ Lay S u last (bs.take i) (u + usedN (bs.take i)) gl ∧ Stops S (u + usedN (bs.take i)) gl
  | [], u, last, J, hl, hJ, _, _, _ => by simp [usedN] at hJ
  | b :: bs, u, last, J, hl, hJ, hbl, hS, hbad => by
    have hu : usedN (b :: bs) = secN b.length + usedN bs := by simp [usedN]
    rw [hu] at hJ
    by_cases hj : J < secN b.length
    · refine ⟨0, last, ⟨by simp, by simp [usedN], by simpa [usedN] using hj⟩, by simpa [usedN] using Lay.nil u last, ?_⟩
      have : Stops S u last := Stops.part hg hg' hlim h128 hl hj (hbl b (by simp)) (fun i hi => by
        rw [hS i hi]; simp only [news]; rw [List.getElem?_append_left (by rw [pcs_len]; omega)]) hbad
      simpa [usedN] using this
    · obtain ⟨i, gl, h1, h2, h3⟩ := lay_part hg hg' hlim h128 bs (u + secN b.length) g (J - secN b.length) (Nat.le_refl _) (by omega) (fun x hx => hbl x (by simp [hx])) (fun j hj' => by
        have := hS (secN b.length + j) (by omega)
        rw [show u + secN b.length + j = u + (secN b.length + j) by omega, this]
        simp only [news]
        rw [List.getElem?_append_right (by rw [pcs_len]; omega), pcs_len, Nat.add_sub_cancel_left]) (by rw [show u + secN b.length + (J - secN b.length) = u + J by omega]; exact hbad)
      have e : usedN ((b :: bs).take (i + 1)) = secN b.length + usedN (bs.take i) := by simp [usedN]
      have e' : usedN ((b :: bs).take (i + 1 + 1)) = secN b.length + usedN (bs.take (i + 1)) := by simp [usedN]
      refine ⟨i + 1, gl, ⟨by simp; omega, by omega, by omega⟩, ?_, ?_⟩
      · rw [e, ← Nat.add_assoc]
        refine .cons (fun j hj' => ?_) hl hg hg' h2
        rw [hS j (by omega)]; simp only [news]; rw [List.getElem?_append_left (by rw [pcs_len]; exact hj')]
      · rw [e, ← Nat.add_assoc]; exact h3
/-- sectors that bear these records -/
structure Jd (S : List (List UInt8)) (recs : List (List UInt8)) (B : Nat) : Prop where
  one : 1 ≤ S.length
  len : S.length ≤ 40
  all : ∀ s ∈ S, s.length = 128
  gens : ∀ s ∈ S, getN (s.take 4) ≤ B ∧ getN (s.drop 124) ≤ B
  lay : ∃ gl, Lay S 0 0 recs (usedN recs) gl ∧ Stops S (usedN recs) gl
theorem Jd.start {m : Nat} (h1 : 1 ≤ m) (h2 : m ≤ 40) : Jd (List.replicate m (List.replicate 128 0)) [] 0 := by
  refine ⟨by simpa using h1, by simpa using h2, fun s hs => ?_, fun s hs => ?_, 0, Lay.nil 0 0, ?_⟩
  · rw [List.eq_of_mem_replicate hs]; rfl
  · rw [List.eq_of_mem_replicate hs]; decide
  · refine Stops.bad (s := List.replicate 128 0) ?_ (bad_zero 0)
    show (List.replicate m _)[0]? = _
    rw [List.getElem?_replicate, if_pos (by omega)]
theorem Jd.fits {S recs : List (List UInt8)} {B : Nat} (h : Jd S recs B) : usedN recs ≤ S.length := by
  obtain ⟨gl, h1, _⟩ := h.lay; exact h1.lim (Nat.zero_le _)
theorem usedN_two (a b : List (List UInt8)) : usedN (a ++ b) = usedN a + usedN b := by simp [usedN]
theorem usedN_big {l : List (List UInt8)} {b : List UInt8} (h : b ∈ l) : secN b.length ≤ usedN l := by
  induction l with
  | nil => cases h
  | cons x t ih =>
    rw [show usedN (x :: t) = secN x.length + usedN t by simp [usedN]]
    rcases List.mem_cons.1 h with rfl | h
    · omega
    · have := ih h; omega
section
variable {S kept new : List (List UInt8)} {B : Nat}
theorem Jd.sync (h : Jd S kept B) (hB : B + 1 < 4294967296) (hfit : usedN kept + usedN new ≤ S.length) (hne : new ≠ []) :
    Jd (perf S (wrs (usedN kept) (news (genS 1 S) (usedN kept) new))) (kept ++ new) (B + 1) := by
  obtain ⟨G, hG⟩ : ∃ G, G = genS 1 S := ⟨_, rfl⟩
  rw [← hG]
  obtain ⟨g1, g2⟩ := genS_ge S 1
  rw [← hG] at g1 g2
  have g3 : G ≤ B + 1 := by rw [hG]; exact genS_le S 1 (by omega) h.gens
  have hN := news_len G new (usedN kept)
  have hlen : (perf S (wrs (usedN kept) (news G (usedN kept) new))).length = S.length := perf_len _ _
  have hget : ∀ i, (perf S (wrs (usedN kept) (news G (usedN kept) new)))[i]? = if usedN kept ≤ i ∧ i < usedN kept + usedN new then (news G (usedN kept) new)[i - usedN kept]? else S[i]? := fun i => by rw [perf_wrs _ _ _ _ (by omega), hN]
  have hall : ∀ s ∈ perf S (wrs (usedN kept) (news G (usedN kept) new)), s.length = 128 ∧ getN (s.take 4) ≤ B + 1 ∧ getN (s.drop 124) ≤ B + 1 := by
    intro s hs
    obtain ⟨i, hi⟩ := List.mem_iff_getElem?.1 hs
    rw [hget] at hi
    split at hi
    · obtain ⟨m, kk, c, rfl, hc⟩ := news_mem (List.mem_of_getElem? hi)
      refine ⟨enc_len hc, ?_, ?_⟩
      · rw [enc_take4, get_put (by omega)]; exact g3
      · rw [enc_drop124 hc, get_put (by omega)]; exact g3
    · have hm := List.mem_of_getElem? hi
      have := h.gens s hm
      exact ⟨h.all s hm, by omega, by omega⟩
  obtain ⟨gl, l1, l2⟩ := h.lay
  have hgl : gl ≤ B := l1.gen (Nat.zero_le _) fun s hs => (h.gens s hs).1
  have hgl' : gl ≤ G := l1.gen (Nat.zero_le _) fun s hs => Nat.le_of_lt (g2 s hs).1
  obtain ⟨gl2, n1, n2⟩ := lay_news (S := perf S (wrs (usedN kept) (news G (usedN kept) new))) (g := G) (by omega) (by omega) new (usedN kept) gl hgl' fun j hj => by
    rw [hget, if_pos (by omega), Nat.add_sub_cancel_left]
  have n3 : gl2 = G := n2.elim (fun e => absurd e.1 hne) id
  subst n3
  refine ⟨by rw [hlen]; exact h.one, by rw [hlen]; exact h.len, fun s hs => (hall s hs).1, fun s hs => (hall s hs).2, gl2, ?_, ?_⟩
  · rw [usedN_two]
    refine Lay.append (l1.congr fun i hi => by rw [hget, if_neg (by omega)]) n1
  · rw [usedN_two]
    by_cases he : usedN kept + usedN new = S.length
    · rw [he, ← hlen]; exact Stops.fin
    · have hlt : usedN kept + usedN new < S.length := by omega
      refine Stops.old (by rw [hlen]; exact hlt) (by rw [hlen]; have := h.len; omega) (fun s hs => (hall s hs).1) ?_
      have e : (perf S (wrs (usedN kept) (news gl2 (usedN kept) new))).getD (usedN kept + usedN new) default = S[usedN kept + usedN new] := by
        rw [List.getD_eq_getElem?_getD, hget, if_neg (by omega), List.getElem?_eq_getElem hlt]; rfl
      rw [e]; exact (g2 _ (List.getElem_mem hlt)).1
theorem Jd.tear {J : Nat} (h : Jd S kept B) (hB : B + 1 < 4294967296) (hfit : usedN kept + usedN new ≤ S.length) (hJ : J < usedN new) :
    ∃ i, i ≤ new.length ∧ Jd ((perf S (wrs (usedN kept) ((news (genS 1 S) (usedN kept) new).take J))).set (usedN kept + J) (torn (S.getD (usedN kept + J) default) ((news (genS 1 S) (usedN kept) new).getD J default))) (kept ++ new.take i) (B + 1) := by
  obtain ⟨G, hG⟩ : ∃ G, G = genS 1 S := ⟨_, rfl⟩
  rw [← hG]
  obtain ⟨g1, g2⟩ := genS_ge S 1
  rw [← hG] at g1 g2
  have g3 : G ≤ B + 1 := by rw [hG]; exact genS_le S 1 (by omega) h.gens
  have hN := news_len G new (usedN kept)
  have hlt : usedN kept + J < S.length := by omega
  have hlim := h.len
  rw [getD_len hlt, getD_len (show J < (news G (usedN kept) new).length by omega)]
  obtain ⟨kk, c, hc1, hc2⟩ := news_at (g := G) new (usedN kept) J (by omega)
  have ho := h.all _ (List.getElem_mem hlt)
  have hbad := bad_torn (g := G) (num := usedN kept + J) (kind := kk) (b := c) (old := S[usedN kept + J]) (by omega) hc2 (by omega) ho (g2 _ (List.getElem_mem hlt)).2
  rw [← hc1] at hbad
  obtain ⟨T, hT⟩ : ∃ T, T = torn S[usedN kept + J] (news G (usedN kept) new)[J] := ⟨_, rfl⟩
  rw [← hT] at hbad ⊢
  have t128 : T.length = 128 := by rw [hT, hc1]; unfold torn; simp [enc_len hc2, ho]
  have t4 : getN (T.take 4) = G := by
    have : T.take 4 = put4 G := by
      rw [hT, hc1]; unfold torn
      rw [List.take_append_of_le_length (by rw [List.length_take, enc_len hc2]; decide), List.take_take]; rfl
    rw [this, get_put (by omega)]
  have t124 : T.drop 124 = S[usedN kept + J].drop 124 := by
    rw [hT, hc1]; unfold torn
    rw [List.drop_append, List.drop_eq_nil_of_le (by rw [List.length_take, enc_len hc2]; decide), List.nil_append, List.length_take, List.drop_drop, enc_len hc2, show min 128 64 + (124 - min 64 128) = 124 by decide]
  obtain ⟨S', hS'⟩ : ∃ S', S' = (perf S (wrs (usedN kept) ((news G (usedN kept) new).take J))).set (usedN kept + J) T := ⟨_, rfl⟩
  rw [← hS']
  have hlen : S'.length = S.length := by rw [hS']; simp [perf_len]
  have hget : ∀ i, S'[i]? = if i = usedN kept + J then some T else if usedN kept ≤ i ∧ i < usedN kept + J then (news G (usedN kept) new)[i - usedN kept]? else S[i]? := fun i => by
    rw [hS']
    by_cases hi : i = usedN kept + J
    · subst hi; rw [if_pos rfl, List.getElem?_set_self (by rw [perf_len]; exact hlt)]
    · rw [if_neg hi, List.getElem?_set_ne (fun e => hi e.symm), perf_wrs _ _ _ _ (by rw [List.length_take]; omega), List.length_take, Nat.min_eq_left (by omega)]
      split
      · rw [List.getElem?_take, if_pos (by omega)]
      · rfl
  have hall : ∀ s ∈ S', s.length = 128 ∧ getN (s.take 4) ≤ B + 1 ∧ getN (s.drop 124) ≤ B + 1 := by
    intro s hs
    obtain ⟨i, hi⟩ := List.mem_iff_getElem?.1 hs
    rw [hget] at hi
    split at hi
    · cases hi
      refine ⟨t128, by omega, ?_⟩
      rw [t124]; have := (h.gens _ (List.getElem_mem hlt)).2; omega
    · split at hi
      · obtain ⟨m, kk, c, rfl, hc⟩ := news_mem (List.mem_of_getElem? hi)
        refine ⟨enc_len hc, ?_, ?_⟩
        · rw [enc_take4, get_put (by omega)]; exact g3
        · rw [enc_drop124 hc, get_put (by omega)]; exact g3
      · have hm := List.mem_of_getElem? hi
        have := h.gens s hm
        exact ⟨h.all s hm, by omega, by omega⟩
  obtain ⟨gl, l1, l2⟩ := h.lay
  have hgl' : gl ≤ G := l1.gen (Nat.zero_le _) fun s hs => Nat.le_of_lt (g2 s hs).1
  obtain ⟨i, gl2, i1, i2, i3⟩ := lay_part (S := S') (g := G) (by omega) (by omega) (by omega) (fun s hs => (hall s hs).1) new (usedN kept) gl J hgl' hJ (fun b hb => by have := usedN_big hb; unfold secN at this; omega) (fun j hj => by
    rw [hget, if_neg (by omega), if_pos (by omega), Nat.add_sub_cancel_left]) ⟨T, by rw [hget, if_pos rfl], hbad⟩
  refine ⟨i, by omega, by rw [hlen]; exact h.one, by rw [hlen]; exact h.len, fun s hs => (hall s hs).1, fun s hs => (hall s hs).2, gl2, ?_, ?_⟩
  · rw [usedN_two]; exact Lay.append (l1.congr fun i hi => by rw [hget, if_neg (by omega), if_neg (by omega)]) i2
  · rw [usedN_two]; exact i3
end
end Go.Fx


