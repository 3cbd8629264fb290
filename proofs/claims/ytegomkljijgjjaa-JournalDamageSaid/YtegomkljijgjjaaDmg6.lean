/- Part 6 of the proof: the law JournalDamage holds for every list of records and every change of one byte. -/
import Derived.Test.YtegomkljijgjjaaDmg5
import Derived.Laws.BitsAllLaws
set_option linter.unusedVariables false
set_option linter.unusedSimpArgs false
set_option maxRecDepth 100000
set_option maxHeartbeats 0
namespace Go.Fx
open Go Go.RowKit Go.Proofs
def m10_overflightlaw45_JournalDamage_B1 (sector : Int) (ends_1 : List Int) (k284 : Int → Option Bool) (sf440 : Int → Option Bool) (want_2 : Int) : Option Bool :=
 jn (fun (v_9 : Bool) =>
  bif v_9 then
   sf440 (IntKind.wrap .i64 (want_2 + 1))
  else
   k284 want_2)
 (fun k452 =>
  bif (decide (want_2 < (ends_1.length : Int))) then
   ck ((0 : Int) ≤ want_2 ∧ want_2 < (ends_1.length : Int)) <|
   k452 (decide ((ends_1.getD want_2.toNat default) ≤ (IntKind.wrap .i64 ((IntKind.wrap .u64 sector).tmod (IntKind.wrap .u64 (ends_1.getD (IntKind.wrap .i64 ((ends_1.length : Int) - 1)).toNat default))))))
  else
   k452 false)

def m10_overflightlaw45_JournalDamage_B2 (sector : Int) (ends_1 : List Int) (k698 : Int → Option Bool) (sf854 : Int → Option Bool) (want_4 : Int) : Option Bool :=
 jn (fun (v_13 : Bool) =>
  bif v_13 then
   sf854 (IntKind.wrap .i64 (want_4 + 1))
  else
   k698 want_4)
 (fun k866 =>
  bif (decide (want_4 < (ends_1.length : Int))) then
   ck ((0 : Int) ≤ want_4 ∧ want_4 < (ends_1.length : Int)) <|
   k866 (decide ((ends_1.getD want_4.toNat default) ≤ (IntKind.wrap .i64 ((IntKind.wrap .u64 sector).tmod (IntKind.wrap .u64 (ends_1.getD (IntKind.wrap .i64 ((ends_1.length : Int) - 1)).toNat default))))))
  else
   k866 false)

def m10_overflightlaw45_JournalDamage_B0 (records : List (List UInt8)) (sector : Int) (at_ : Int) (by_ : UInt8) (new_1 : XDisk × Int) (sf76 : (List Int) → Int → (List (List UInt8)) → Int → Int → Option Bool) (ends_1 : List Int) (v_2 : Int) (v_3 : List (List UInt8)) (v_4 : Int) (v_5 : Int) : Option Bool :=
 bif (decide (v_2 < (records.length : Int))) then
  ck ((0 : Int) ≤ v_2 ∧ v_2 < (records.length : Int)) <|
  (m30_journal_Append (⟨v_3, v_4, v_5⟩ : XJournal) (records.getD v_2.toNat default)).bind fun append_1 =>
  bif (decide (append_1.2 ≠ 0)) then
   (m39_journal_Sync (⟨v_3, v_4, v_5⟩ : XJournal) new_1.1).bind fun sync_1 =>
   jn (fun (v_6 : Bool) =>
    bif v_6 then
     some (decide (sync_1.2.2 = 0))
    else
     ck ((0 : Int) ≤ (IntKind.wrap .i64 ((ends_1.length : Int) - 1)) ∧ (IntKind.wrap .i64 ((ends_1.length : Int) - 1)) < (ends_1.length : Int)) <|
     ck (((IntKind.wrap .u64 (ends_1.getD (IntKind.wrap .i64 ((ends_1.length : Int) - 1)).toNat default)) : Int) ≠ 0) <|
     jn (fun (v_7 : Bool) =>
      bif v_7 then
       some false
      else
       ck ((0 : Int) ≤ (IntKind.wrap .i64 ((IntKind.wrap .u64 sector).tmod (IntKind.wrap .u64 (ends_1.getD (IntKind.wrap .i64 ((ends_1.length : Int) - 1)).toNat default)))) ∧ (IntKind.wrap .i64 ((IntKind.wrap .u64 sector).tmod (IntKind.wrap .u64 (ends_1.getD (IntKind.wrap .i64 ((ends_1.length : Int) - 1)).toNat default)))) < (sync_1.2.1.sectors.length : Int)) <|
       ck ((([] : List UInt8).length + (sync_1.2.1.sectors.getD (IntKind.wrap .i64 ((IntKind.wrap .u64 sector).tmod (IntKind.wrap .u64 (ends_1.getD (IntKind.wrap .i64 ((ends_1.length : Int) - 1)).toNat default)))).toNat default).length) * 1 ≤ 140737488355328) <|
       ck ((0 : Int) ≤ ((IntKind.wrap .u64 at_).tmod 128) ∧ ((IntKind.wrap .u64 at_).tmod 128) < ((([] : List UInt8) ++ (sync_1.2.1.sectors.getD (IntKind.wrap .i64 ((IntKind.wrap .u64 sector).tmod (IntKind.wrap .u64 (ends_1.getD (IntKind.wrap .i64 ((ends_1.length : Int) - 1)).toNat default)))).toNat default)).length : Int)) <|
       ck ((0 : Int) ≤ ((IntKind.wrap .u64 at_).tmod 128) ∧ ((IntKind.wrap .u64 at_).tmod 128) < ((([] : List UInt8) ++ (sync_1.2.1.sectors.getD (IntKind.wrap .i64 ((IntKind.wrap .u64 sector).tmod (IntKind.wrap .u64 (ends_1.getD (IntKind.wrap .i64 ((ends_1.length : Int) - 1)).toNat default)))).toNat default)).length : Int)) <|
       (m23_disk_Write sync_1.2.1 (IntKind.wrap .i64 ((IntKind.wrap .u64 sector).tmod (IntKind.wrap .u64 (ends_1.getD (IntKind.wrap .i64 ((ends_1.length : Int) - 1)).toNat default)))) ((([] : List UInt8) ++ (sync_1.2.1.sectors.getD (IntKind.wrap .i64 ((IntKind.wrap .u64 sector).tmod (IntKind.wrap .u64 (ends_1.getD (IntKind.wrap .i64 ((ends_1.length : Int) - 1)).toNat default)))).toNat default)).set ((IntKind.wrap .u64 at_).tmod 128).toNat (UInt8.ofNat (Go.bits .xor .u8 (((([] : List UInt8) ++ (sync_1.2.1.sectors.getD (IntKind.wrap .i64 ((IntKind.wrap .u64 sector).tmod (IntKind.wrap .u64 (ends_1.getD (IntKind.wrap .i64 ((ends_1.length : Int) - 1)).toNat default)))).toNat default)).getD ((IntKind.wrap .u64 at_).tmod 128).toNat default).toNat : Int) (by_.toNat : Int)).toNat))).bind fun write_1 =>
       (m25_disk_Sync write_1.1).bind fun sync_2 =>
       (m38_journal_Open sync_2.1).bind fun open_2 =>
       jn (fun (want_1 : Int) =>
        jn (fun (v_8 : Bool) =>
         some v_8)
        (fun k294 =>
         bif (decide (write_1.2 = 0)) then
          bif (decide (sync_2.2 = 0)) then
           bif (decide (open_2.2 = 0)) then
            ck ((0 : Int) ≤ want_1 ∧ want_1 ≤ (v_3.length : Int)) <|
            (m37_overflightref45_SameRecords open_2.1.records ((v_3.drop 0).take (want_1.toNat - 0))).bind fun samerecords_1 =>
            k294 samerecords_1
           else
            k294 false
          else
           k294 false
         else
          k294 false))
       (fun k284 =>
        loop1 (m10_overflightlaw45_JournalDamage_B1 sector ends_1 k284) (1000000) 0))
     (fun k175 =>
      bif (decide ((sync_1.2.1.sectors.length : Int) ≤ (IntKind.wrap .i64 ((IntKind.wrap .u64 sector).tmod (IntKind.wrap .u64 (ends_1.getD (IntKind.wrap .i64 ((ends_1.length : Int) - 1)).toNat default)))))) then
       k175 true
      else
       bif (decide ((v_3.length : Int) < (ends_1.length : Int))) then
        k175 true
       else
        ck ((0 : Int) ≤ (IntKind.wrap .i64 ((IntKind.wrap .u64 sector).tmod (IntKind.wrap .u64 (ends_1.getD (IntKind.wrap .i64 ((ends_1.length : Int) - 1)).toNat default)))) ∧ (IntKind.wrap .i64 ((IntKind.wrap .u64 sector).tmod (IntKind.wrap .u64 (ends_1.getD (IntKind.wrap .i64 ((ends_1.length : Int) - 1)).toNat default)))) < (sync_1.2.1.sectors.length : Int)) <|
        k175 (decide (((sync_1.2.1.sectors.getD (IntKind.wrap .i64 ((IntKind.wrap .u64 sector).tmod (IntKind.wrap .u64 (ends_1.getD (IntKind.wrap .i64 ((ends_1.length : Int) - 1)).toNat default)))).toNat default).length : Int) ≠ 128))))
   (fun k153 =>
    bif (decide (sync_1.2.2 ≠ 0)) then
     k153 true
    else
     k153 (decide ((ends_1.length : Int) = 0)))
  else
   bif (decide (0 < (ends_1.length : Int))) then
    ck ((0 : Int) ≤ (IntKind.wrap .i64 ((ends_1.length : Int) - 1)) ∧ (IntKind.wrap .i64 ((ends_1.length : Int) - 1)) < (ends_1.length : Int)) <|
    ck ((ends_1.length + [(IntKind.wrap .i64 ((max 1 (IntKind.wrap .i64 ((IntKind.wrap .i64 (((records.getD v_2.toNat default).length : Int) + 111)).tdiv 112))) + (ends_1.getD (IntKind.wrap .i64 ((ends_1.length : Int) - 1)).toNat default)))].length) * 8 ≤ 140737488355328) <|
    sf76 (ends_1 ++ [(IntKind.wrap .i64 ((max 1 (IntKind.wrap .i64 ((IntKind.wrap .i64 (((records.getD v_2.toNat default).length : Int) + 111)).tdiv 112))) + (ends_1.getD (IntKind.wrap .i64 ((ends_1.length : Int) - 1)).toNat default)))]) (IntKind.wrap .i64 (v_2 + 1)) append_1.1.records append_1.1.many append_1.1.synced
   else
    ck ((ends_1.length + [(max 1 (IntKind.wrap .i64 ((IntKind.wrap .i64 (((records.getD v_2.toNat default).length : Int) + 111)).tdiv 112)))].length) * 8 ≤ 140737488355328) <|
    sf76 (ends_1 ++ [(max 1 (IntKind.wrap .i64 ((IntKind.wrap .i64 (((records.getD v_2.toNat default).length : Int) + 111)).tdiv 112)))]) (IntKind.wrap .i64 (v_2 + 1)) append_1.1.records append_1.1.many append_1.1.synced
 else
  (m39_journal_Sync (⟨v_3, v_4, v_5⟩ : XJournal) new_1.1).bind fun sync_3 =>
  jn (fun (v_10 : Bool) =>
   bif v_10 then
    some (decide (sync_3.2.2 = 0))
   else
    ck ((0 : Int) ≤ (IntKind.wrap .i64 ((ends_1.length : Int) - 1)) ∧ (IntKind.wrap .i64 ((ends_1.length : Int) - 1)) < (ends_1.length : Int)) <|
    ck (((IntKind.wrap .u64 (ends_1.getD (IntKind.wrap .i64 ((ends_1.length : Int) - 1)).toNat default)) : Int) ≠ 0) <|
    jn (fun (v_11 : Bool) =>
     bif v_11 then
      some false
     else
      ck ((0 : Int) ≤ (IntKind.wrap .i64 ((IntKind.wrap .u64 sector).tmod (IntKind.wrap .u64 (ends_1.getD (IntKind.wrap .i64 ((ends_1.length : Int) - 1)).toNat default)))) ∧ (IntKind.wrap .i64 ((IntKind.wrap .u64 sector).tmod (IntKind.wrap .u64 (ends_1.getD (IntKind.wrap .i64 ((ends_1.length : Int) - 1)).toNat default)))) < (sync_3.2.1.sectors.length : Int)) <|
      ck ((([] : List UInt8).length + (sync_3.2.1.sectors.getD (IntKind.wrap .i64 ((IntKind.wrap .u64 sector).tmod (IntKind.wrap .u64 (ends_1.getD (IntKind.wrap .i64 ((ends_1.length : Int) - 1)).toNat default)))).toNat default).length) * 1 ≤ 140737488355328) <|
      ck ((0 : Int) ≤ ((IntKind.wrap .u64 at_).tmod 128) ∧ ((IntKind.wrap .u64 at_).tmod 128) < ((([] : List UInt8) ++ (sync_3.2.1.sectors.getD (IntKind.wrap .i64 ((IntKind.wrap .u64 sector).tmod (IntKind.wrap .u64 (ends_1.getD (IntKind.wrap .i64 ((ends_1.length : Int) - 1)).toNat default)))).toNat default)).length : Int)) <|
      ck ((0 : Int) ≤ ((IntKind.wrap .u64 at_).tmod 128) ∧ ((IntKind.wrap .u64 at_).tmod 128) < ((([] : List UInt8) ++ (sync_3.2.1.sectors.getD (IntKind.wrap .i64 ((IntKind.wrap .u64 sector).tmod (IntKind.wrap .u64 (ends_1.getD (IntKind.wrap .i64 ((ends_1.length : Int) - 1)).toNat default)))).toNat default)).length : Int)) <|
      (m23_disk_Write sync_3.2.1 (IntKind.wrap .i64 ((IntKind.wrap .u64 sector).tmod (IntKind.wrap .u64 (ends_1.getD (IntKind.wrap .i64 ((ends_1.length : Int) - 1)).toNat default)))) ((([] : List UInt8) ++ (sync_3.2.1.sectors.getD (IntKind.wrap .i64 ((IntKind.wrap .u64 sector).tmod (IntKind.wrap .u64 (ends_1.getD (IntKind.wrap .i64 ((ends_1.length : Int) - 1)).toNat default)))).toNat default)).set ((IntKind.wrap .u64 at_).tmod 128).toNat (UInt8.ofNat (Go.bits .xor .u8 (((([] : List UInt8) ++ (sync_3.2.1.sectors.getD (IntKind.wrap .i64 ((IntKind.wrap .u64 sector).tmod (IntKind.wrap .u64 (ends_1.getD (IntKind.wrap .i64 ((ends_1.length : Int) - 1)).toNat default)))).toNat default)).getD ((IntKind.wrap .u64 at_).tmod 128).toNat default).toNat : Int) (by_.toNat : Int)).toNat))).bind fun write_2 =>
      (m25_disk_Sync write_2.1).bind fun sync_4 =>
      (m38_journal_Open sync_4.1).bind fun open_3 =>
      jn (fun (want_3 : Int) =>
       jn (fun (v_12 : Bool) =>
        some v_12)
       (fun k708 =>
        bif (decide (write_2.2 = 0)) then
         bif (decide (sync_4.2 = 0)) then
          bif (decide (open_3.2 = 0)) then
           ck ((0 : Int) ≤ want_3 ∧ want_3 ≤ (v_3.length : Int)) <|
           (m37_overflightref45_SameRecords open_3.1.records ((v_3.drop 0).take (want_3.toNat - 0))).bind fun samerecords_2 =>
           k708 samerecords_2
          else
           k708 false
         else
          k708 false
        else
         k708 false))
      (fun k698 =>
       loop1 (m10_overflightlaw45_JournalDamage_B2 sector ends_1 k698) (1000000) 0))
    (fun k589 =>
     bif (decide ((sync_3.2.1.sectors.length : Int) ≤ (IntKind.wrap .i64 ((IntKind.wrap .u64 sector).tmod (IntKind.wrap .u64 (ends_1.getD (IntKind.wrap .i64 ((ends_1.length : Int) - 1)).toNat default)))))) then
      k589 true
     else
      bif (decide ((v_3.length : Int) < (ends_1.length : Int))) then
       k589 true
      else
       ck ((0 : Int) ≤ (IntKind.wrap .i64 ((IntKind.wrap .u64 sector).tmod (IntKind.wrap .u64 (ends_1.getD (IntKind.wrap .i64 ((ends_1.length : Int) - 1)).toNat default)))) ∧ (IntKind.wrap .i64 ((IntKind.wrap .u64 sector).tmod (IntKind.wrap .u64 (ends_1.getD (IntKind.wrap .i64 ((ends_1.length : Int) - 1)).toNat default)))) < (sync_3.2.1.sectors.length : Int)) <|
       k589 (decide (((sync_3.2.1.sectors.getD (IntKind.wrap .i64 ((IntKind.wrap .u64 sector).tmod (IntKind.wrap .u64 (ends_1.getD (IntKind.wrap .i64 ((ends_1.length : Int) - 1)).toNat default)))).toNat default).length : Int) ≠ 128))))
  (fun k567 =>
   bif (decide (sync_3.2.2 ≠ 0)) then
    k567 true
   else
    k567 (decide ((ends_1.length : Int) = 0)))

def m10_overflightlaw45_JournalDamage (records : List (List UInt8)) (sector : Int) (at_ : Int) (by_ : UInt8) : Option Bool :=
 (m28_overflightlaw45_sane).bind fun sane_1 =>
 bif (!sane_1) then
  some false
 else
  (m15_disk_New 40).bind fun new_1 =>
  jn (fun (v_1 : Bool) =>
   bif v_1 then
    some (decide (new_1.2 = 0))
   else
    (m38_journal_Open new_1.1).bind fun open_1 =>
    bif (decide (open_1.2 ≠ 0)) then
     some false
    else
     loop5 (m10_overflightlaw45_JournalDamage_B0 records sector at_ by_ new_1) (((records.length : Int) - 0).toNat + 1) ([] : List Int) 0 open_1.1.records open_1.1.many open_1.1.synced)
  (fun k33 =>
   bif (decide (new_1.2 ≠ 0)) then
    k33 true
   else
    (m29_overflightlaw45_few new_1.1 records).bind fun few_1 =>
    bif (!few_1) then
     k33 true
    else
     bif (decide ((records.length : Int) = 0)) then
      k33 true
     else
      k33 (decide ((by_.toNat : Int) = 0)))

theorem c10_overflightlaw45_JournalDamage {w : World} {O : List Nat} {records : List (List UInt8)} {sector : Int} {at_ : Int} {by_ : UInt8} {a_records : Option Addr} {c_records : Nat} (hO : ∀ k ∈ O, k < w.heap.size) (f_records : SlR (rSl rU8) w O a_records c_records records) (r_sector : InK .i64 sector) (r_at_ : InK .i64 at_) {x : Bool} (hm : m10_overflightlaw45_JournalDamage records sector at_ by_ = some x) :
  Ok Try.prog 10 [(Value.slice a_records records.length c_records), (Value.int .i64 sector), (Value.int .i64 at_), (Value.int .u8 (by_.toNat : Int))] w O vB x := by
 unfold m10_overflightlaw45_JournalDamage at hm
 refine Fn_of_Wp (n := 211) (xs := [.tmp 8]) Try.func10 rfl Try.ntmps10 Try.results10 rfl ?_
 have hs := St.start hO
 refine Wp_seq ?_
 refine Wp_region ?_
 refine Rg_op rfl (op_assign (v := (Value.bool false)) rfl ?_)
 refine Rg_nil ?_
 refine Wp_seq ?_
 refine Wp_seq ?_
 refine Wp_region ?_
 replace hm := bd hm; obtain ⟨sane_1, hv1, hm⟩ := hm
 refine Rg_op rfl (op_call Try.call28 (c28_overflightlaw45_sane  hs.ltw  hv1) rfl ?_)
 rintro v2 w3 ⟨hx4, h5⟩
 have hs6 := hs.call hx4
 have p7 := Step.ext (O := ks [] O) hx4
 clear hx4
 replace f_records := f_records.step p7; clear p7
 obtain rfl := h5
 refine Rg_op rfl (op_not rfl ?_)
 refine Rg_nil ?_
 refine Wp_cond rfl (fun hc9 => ?_) (fun hc9 => ?_)
 ·
  replace hm := bif_t hm hc9
  refine Wp_seq ?_
  clear f_records
  refine Wp_region ?_
  refine Rg_op rfl (op_assign (v := (Value.bool false)) rfl ?_)
  refine Rg_nil ?_
  refine Wp_ret ?_
  have hz := step_all hs6
  refine ⟨_, (show Closes [] _ _ from rfl), [(Value.bool false)], ⟨rfl, trivial⟩, hs6.ext, ?_⟩
  exact Vr.eq (a := vB) (x := false) rfl (Option.some.inj hm)
 ·
  replace hm := bif_f hm hc9
  refine Wp_skip ?_
  refine Wp_seq ?_
  refine Wp_region ?_
  replace hm := bd hm; obtain ⟨new_1, hv10, hm⟩ := hm
  refine Rg_op rfl (op_call Try.call15 (c15_disk_New (sectors := 40) hs6.ltw (show InK .i64 40 from by decide) hv10) rfl ?_)
  rintro v11 w12 ⟨hx13, h14⟩
  have hs15 := hs6.call hx13
  have p16 := Step.ext (O := ks [] O) hx13
  clear hx13
  replace f_records := f_records.step p16; clear p16 hs6
  obtain ⟨v17, v18, rfl, h19, h20⟩ := h14
  obtain ⟨_, rfl, ⟨_, _, rfl, ⟨a_y21_sectors, c_y21_sectors, rfl, f_y21_sectors⟩, ⟨_, _, rfl, ⟨a_y21_pending, c_y21_pending, rfl, f_y21_pending⟩, ⟨_, _, rfl, ⟨rfl, r_y21_left⟩, rfl⟩⟩⟩⟩ := h19
  obtain ⟨rfl, r_y22⟩ := h20
  refine Rg_op rfl (op_move (v := (Value.tuple [(Value.agg [(Value.slice a_y21_sectors new_1.1.sectors.length c_y21_sectors), (Value.slice a_y21_pending new_1.1.pending.length c_y21_pending), (Value.int .i64 new_1.1.left), (Value.bool new_1.1.stopped)].toArray), (Value.int .i64 new_1.2)].toArray)) rfl ?_)
  refine Rg_op rfl (op_extract (v := (Value.agg [(Value.slice a_y21_sectors new_1.1.sectors.length c_y21_sectors), (Value.slice a_y21_pending new_1.1.pending.length c_y21_pending), (Value.int .i64 new_1.1.left), (Value.bool new_1.1.stopped)].toArray)) rfl rfl ?_)
  refine Rg_op rfl (op_extract (v := (Value.int .i64 new_1.2)) rfl rfl ?_)
  refine Rg_op rfl (op_alloc ty25 hs15 ?_)
  intro b23 w24 _ p25 hs26
  replace f_records := f_records.step p25; replace f_y21_sectors := f_y21_sectors.step p25; replace f_y21_pending := f_y21_pending.step p25; clear p25 hs15
  refine Rg_op_ (op_store (cs := [(Value.slice none 0 0), (Value.slice none 0 0), (Value.int .i64 0), (Value.bool false)]) (vs := [(Value.slice a_y21_sectors new_1.1.sectors.length c_y21_sectors), (Value.slice a_y21_pending new_1.1.pending.length c_y21_pending), (Value.int .i64 new_1.1.left), (Value.bool new_1.1.stopped)]) (cs' := [(Value.slice a_y21_sectors new_1.1.sectors.length c_y21_sectors), (Value.slice a_y21_pending new_1.1.pending.length c_y21_pending), (Value.int .i64 new_1.1.left), (Value.bool new_1.1.stopped)]) (bs' := [(some b23, Obj.cells [(Value.slice a_y21_sectors new_1.1.sectors.length c_y21_sectors), (Value.slice a_y21_pending new_1.1.pending.length c_y21_pending), (Value.int .i64 new_1.1.left), (Value.bool new_1.1.stopped)].toArray 25)]) (i := 0) ty25 hs26 rfl rfl rfl rfl rfl (le_lit rfl) rfl rfl rfl ?_)
  intro w28 p29 hs30
  replace f_records := f_records.step p29; replace f_y21_sectors := f_y21_sectors.step p29; replace f_y21_pending := f_y21_pending.step p29; clear p29 hs26
  refine Rg_op rfl (op_assign (v := (Value.int .i64 new_1.2)) rfl ?_)
  refine Rg_nil ?_
  refine Wp_seq ?_
  refine Wp_reset [] [(0, (Value.slice a_records records.length c_records)), (1, (Value.int .i64 sector)), (2, (Value.int .i64 at_)), (3, (Value.int .u8 (by_.toNat : Int))), (9, (Value.pointer (some ⟨b23, 0, none⟩))), (10, (Value.int .i64 new_1.2))] rfl ⟨rfl, rfl, rfl, rfl, rfl, rfl, trivial⟩ fun ξ31 => ?_
  replace hm := jn_elim hm; obtain ⟨k33, hk34, hm⟩ := hm
  refine Wp_seqJ [34, 35, 36, 37, 38, 39, 40, 41, 42, 43, 44, 45, 46, 47, 48, 49, 50] (fun fr w' => ∃ (v_1 : Bool) (Ebs : Ents), Ebs = [(some b23, Obj.cells [(Value.slice a_y21_sectors new_1.1.sectors.length c_y21_sectors), (Value.slice a_y21_pending new_1.1.pending.length c_y21_pending), (Value.int .i64 new_1.1.left), (Value.bool new_1.1.stopped)].toArray 25)] ∧ fr [] [(50, (Value.bool v_1))] ∧ Step (ks [(some b23, Obj.cells [(Value.slice a_y21_sectors new_1.1.sectors.length c_y21_sectors), (Value.slice a_y21_pending new_1.1.pending.length c_y21_pending), (Value.int .i64 new_1.1.left), (Value.bool new_1.1.stopped)].toArray 25)] O) w28 (ks Ebs O) w' ∧ St ⟨w, [], []⟩ O w' Ebs ∧ k33 v_1 = some x) ?_ ?_
  ·
   rintro ρ40 w36 ⟨v_1, Ebs, hEbs, hfr39, hst38, hs37, hm⟩
   replace hm := jnE1 hk34 hm
   subst hEbs; rw [hfr39.eq]; clear hfr39
   replace f_records := f_records.step hst38; replace f_y21_sectors := f_y21_sectors.step hst38; replace f_y21_pending := f_y21_pending.step hst38; clear hst38 hs30
   refine Wp_cond rfl (fun hc41 => ?_) (fun hc41 => ?_)
   ·
    replace hm := bif_t hm hc41
    refine Wp_seq ?_
    obtain ⟨hs42, p43⟩ := hs37.sub (bs' := []) (.cons _ List.Sublist.slnil)
    clear f_records f_y21_sectors f_y21_pending
    clear p43 hs37
    refine Wp_region ?_
    refine Rg_op rfl (op_move (v := (Value.int .i64 new_1.2)) rfl ?_)
    refine Rg_op rfl (op_eql rfl rfl ?_)
    refine Rg_op rfl (op_assign (v := (Value.bool (decide (new_1.2 = 0)))) rfl ?_)
    refine Rg_nil ?_
    refine Wp_ret ?_
    have hz := step_all hs42
    refine ⟨_, (show Closes [] _ _ from rfl), [(Value.bool (decide (new_1.2 = 0)))], ⟨rfl, trivial⟩, hs42.ext, ?_⟩
    exact Vr.eq (a := vB) (x := (decide (new_1.2 = 0))) rfl (Option.some.inj hm)
   ·
    replace hm := bif_f hm hc41
    refine Wp_skip ?_
    refine Wp_seq ?_
    refine Wp_region ?_
    refine Rg_op rfl (op_loadA (cs := [(Value.slice a_y21_sectors new_1.1.sectors.length c_y21_sectors), (Value.slice a_y21_pending new_1.1.pending.length c_y21_pending), (Value.int .i64 new_1.1.left), (Value.bool new_1.1.stopped)]) (vs := [(Value.slice a_y21_sectors new_1.1.sectors.length c_y21_sectors), (Value.slice a_y21_pending new_1.1.pending.length c_y21_pending), (Value.int .i64 new_1.1.left), (Value.bool new_1.1.stopped)]) (i := 0) ty25 hs37 rfl rfl rfl rfl ?_)
    replace hm := bd hm; obtain ⟨open_1, hv44, hm⟩ := hm
    refine Rg_op rfl (op_call Try.call38 (c38_journal_Open (d := new_1.1) hs37.ltw f_y21_sectors f_y21_pending r_y21_left hv44) rfl ?_)
    rintro v45 w46 ⟨hx47, h48⟩
    have hs49 := hs37.call hx47
    have p50 := Step.ext (O := ks [(some b23, Obj.cells [(Value.slice a_y21_sectors new_1.1.sectors.length c_y21_sectors), (Value.slice a_y21_pending new_1.1.pending.length c_y21_pending), (Value.int .i64 new_1.1.left), (Value.bool new_1.1.stopped)].toArray 25)] O) hx47
    clear hx47
    replace f_records := f_records.step p50; replace f_y21_sectors := f_y21_sectors.step p50; replace f_y21_pending := f_y21_pending.step p50; clear p50 hs37
    obtain ⟨v51, v52, rfl, h53, h54⟩ := h48
    obtain ⟨_, rfl, ⟨_, _, rfl, ⟨a_y55_records, c_y55_records, rfl, f_y55_records⟩, ⟨_, _, rfl, ⟨rfl, r_y55_many⟩, ⟨rfl, r_y55_synced⟩⟩⟩⟩ := h53
    obtain ⟨rfl, r_y56⟩ := h54
    refine Rg_op rfl (op_move (v := (Value.tuple [(Value.agg [(Value.slice a_y55_records open_1.1.records.length c_y55_records), (Value.int .i64 open_1.1.many), (Value.int .i64 open_1.1.synced)].toArray), (Value.int .i64 open_1.2)].toArray)) rfl ?_)
    refine Rg_op rfl (op_extract (v := (Value.agg [(Value.slice a_y55_records open_1.1.records.length c_y55_records), (Value.int .i64 open_1.1.many), (Value.int .i64 open_1.1.synced)].toArray)) rfl rfl ?_)
    refine Rg_op rfl (op_extract (v := (Value.int .i64 open_1.2)) rfl rfl ?_)
    refine Rg_op rfl (op_alloc ty52 hs49 ?_)
    intro b57 w58 _ p59 hs60
    replace f_records := f_records.step p59; replace f_y21_sectors := f_y21_sectors.step p59; replace f_y21_pending := f_y21_pending.step p59; replace f_y55_records := f_y55_records.step p59; clear p59 hs49
    refine Rg_op_ (op_store (cs := [(Value.slice none 0 0), (Value.int .i64 0), (Value.int .i64 0)]) (vs := [(Value.slice a_y55_records open_1.1.records.length c_y55_records), (Value.int .i64 open_1.1.many), (Value.int .i64 open_1.1.synced)]) (cs' := [(Value.slice a_y55_records open_1.1.records.length c_y55_records), (Value.int .i64 open_1.1.many), (Value.int .i64 open_1.1.synced)]) (bs' := [(some b57, Obj.cells [(Value.slice a_y55_records open_1.1.records.length c_y55_records), (Value.int .i64 open_1.1.many), (Value.int .i64 open_1.1.synced)].toArray 52), (some b23, Obj.cells [(Value.slice a_y21_sectors new_1.1.sectors.length c_y21_sectors), (Value.slice a_y21_pending new_1.1.pending.length c_y21_pending), (Value.int .i64 new_1.1.left), (Value.bool new_1.1.stopped)].toArray 25)]) (i := 0) ty52 hs60 rfl rfl rfl rfl rfl (le_lit rfl) rfl rfl rfl ?_)
    intro w62 p63 hs64
    replace f_records := f_records.step p63; replace f_y21_sectors := f_y21_sectors.step p63; replace f_y21_pending := f_y21_pending.step p63; replace f_y55_records := f_y55_records.step p63; clear p63 hs60
    refine Rg_op rfl (op_assign (v := (Value.int .i64 open_1.2)) rfl ?_)
    refine Rg_nil ?_
    refine Wp_seq ?_
    refine Wp_seq ?_
    refine Wp_region ?_
    refine Rg_op rfl (op_move (v := (Value.int .i64 open_1.2)) rfl ?_)
    refine Rg_op rfl (op_neq rfl rfl ?_)
    refine Rg_nil ?_
    refine Wp_cond rfl (fun hc65 => ?_) (fun hc65 => ?_)
    ·
     replace hm := bif_t hm hc65
     refine Wp_seq ?_
     obtain ⟨hs66, p67⟩ := hs64.sub (bs' := []) (.cons _ (.cons _ List.Sublist.slnil))
     clear f_records f_y21_sectors f_y21_pending f_y55_records
     clear p67 hs64
     refine Wp_region ?_
     refine Rg_op rfl (op_assign (v := (Value.bool false)) rfl ?_)
     refine Rg_nil ?_
     refine Wp_ret ?_
     have hz := step_all hs66
     refine ⟨_, (show Closes [] _ _ from rfl), [(Value.bool false)], ⟨rfl, trivial⟩, hs66.ext, ?_⟩
     exact Vr.eq (a := vB) (x := false) rfl (Option.some.inj hm)
    ·
     replace hm := bif_f hm hc65
     refine Wp_skip ?_
     refine Wp_seq ?_
     refine Wp_region ?_
     refine Rg_op rfl (op_assign (v := (Value.slice none 0 0)) rfl ?_)
     refine Rg_nil ?_
     refine Wp_seq ?_
     refine Wp_seq ?_
     refine Wp_region ?_
     refine Rg_op rfl (op_move (v := (Value.slice a_records records.length c_records)) rfl ?_)
     refine Rg_op rfl (op_len Try.underlying22 rfl ?_)
     have rl68 := inK_len f_records
     refine Rg_op rfl (op_move (v := (Value.int .i64 0)) rfl ?_)
     refine Rg_nil ?_
     refine Wp_block ?_
     refine Wp_reset [] [(1, (Value.int .i64 sector)), (2, (Value.int .i64 at_)), (3, (Value.int .u8 (by_.toNat : Int))), (9, (Value.pointer (some ⟨b23, 0, none⟩))), (11, (Value.pointer (some ⟨b57, 0, none⟩))), (13, (Value.slice none 0 0)), (60, (Value.slice a_records records.length c_records)), (61, (Value.int .i64 (records.length : Int))), (62, (Value.int .i64 0))] rfl ⟨rfl, rfl, rfl, rfl, rfl, rfl, rfl, rfl, rfl, trivial⟩ fun ξ75 => ?_
     have hs80 := hs64.ghost (Obj.cells #[] 3)
     refine Wp_loopM [13, 15, 16, 17, 18, 62, 63, 64, 65, 66, 67, 68, 69, 70, 71, 72, 73, 74, 75, 76, 77, 78, 79, 80, 81, 82, 83, 84, 85, 86, 87, 88, 89, 90, 91, 92, 93, 94, 95] (fun m fr w' => ∃ (ends_1 : List Int) (v_2 : Int) (v_3 : List (List UInt8)) (v_4 : Int) (v_5 : Int) (a_g70 : Option Addr) (c_g70 : Nat) (k_g70 : Option Nat) (o_g70 : Obj) (a_y72 : Option Addr) (c_y72 : Nat) (Ebs : Ents), Ebs = [(k_g70, o_g70), (some b57, Obj.cells [(Value.slice a_y72 v_3.length c_y72), (Value.int .i64 v_4), (Value.int .i64 v_5)].toArray 52), (some b23, Obj.cells [(Value.slice a_y21_sectors new_1.1.sectors.length c_y21_sectors), (Value.slice a_y21_pending new_1.1.pending.length c_y21_pending), (Value.int .i64 new_1.1.left), (Value.bool new_1.1.stopped)].toArray 25)] ∧ fr [] [(13, (Value.slice a_g70 ends_1.length c_g70)), (62, (Value.int .i64 v_2))] ∧ Step (ks [(none, (Obj.cells #[] 3)), (some b57, Obj.cells [(Value.slice a_y55_records open_1.1.records.length c_y55_records), (Value.int .i64 open_1.1.many), (Value.int .i64 open_1.1.synced)].toArray 52), (some b23, Obj.cells [(Value.slice a_y21_sectors new_1.1.sectors.length c_y21_sectors), (Value.slice a_y21_pending new_1.1.pending.length c_y21_pending), (Value.int .i64 new_1.1.left), (Value.bool new_1.1.stopped)].toArray 25)] O) w62 (ks Ebs O) w' ∧ St ⟨w, [], []⟩ O w' Ebs ∧ Gs (rInt .i64) 3 w' (ks Ebs O) a_g70 c_g70 ends_1 k_g70 o_g70 ∧ InK .i64 v_2 ∧ SlR (rSl rU8) w' (ks Ebs O) a_y72 c_y72 v_3 ∧ InK .i64 v_4 ∧ InK .i64 v_5 ∧ loop5 (m10_overflightlaw45_JournalDamage_B0 records sector at_ by_ new_1) m ends_1 v_2 v_3 v_4 v_5 = some x) (((records.length : Int) - 0).toNat + 1) ⟨([] : List Int), 0, open_1.1.records, open_1.1.many, open_1.1.synced, none, 0, none, (Obj.cells #[] 3), a_y55_records, c_y55_records, _, rfl, ⟨Out.refl _ _, rfl, rfl, rfl, trivial⟩, Step.refl _ _, hs80, Gs.nil_, (show InK .i64 0 from by decide), f_y55_records, r_y55_many, r_y55_synced, hm⟩ ?_ ?_
     · rintro _ _ ⟨_, _, _, _, _, _, _, _, _, _, _, _, _, _, _, _, _, _, _, _, _, hm⟩; exact loop5_z hm
     ·
      rintro m79 K78 hK78 ρ86 w82 ⟨ends_1, v_2, v_3, v_4, v_5, a_g70, c_g70, k_g70, o_g70, a_y72, c_y72, Ebs, hEbs, hfr85, hst84, hs83, f_g70, r_y71, f_y72, r_y73, r_y74, hm⟩
      obtain ⟨sf76, hsf77, hm⟩ := loop5_s hm; unfold m10_overflightlaw45_JournalDamage_B0 at hm
      subst hEbs; rw [hfr85.eq]; clear hfr85
      replace f_records := f_records.step hst84; replace f_y21_sectors := f_y21_sectors.step hst84; replace f_y21_pending := f_y21_pending.step hst84; replace f_y55_records := f_y55_records.step hst84
      have ch87 := hst84
      refine Wp_seq ?_
      clear f_y55_records
      refine Wp_region ?_
      refine Rg_op rfl (op_lss rfl rfl ?_)
      refine Rg_nil ?_
      refine Wp_seq ?_
      refine Wp_cond rfl (fun hc88 => ?_) (fun hc88 => ?_)
      ·
       replace hm := bif_t hm hc88
       refine Wp_skip ?_
       refine Wp_seq ?_
       refine Wp_block ?_
       refine Wp_seq ?_
       refine Wp_region ?_
       replace hm := ck_some hm; obtain ⟨hc89, hm⟩ := hm
       refine Rg_op rfl (op_indexAddr (q := (rSl rU8)) ty22 ty41 rfl rfl f_records rfl hc89.1 hc89.2 ?_)
       intro p90 f91
       refine Rg_op rfl (op_loadP ty41 rfl f91 rfl ?_)
       intro v92 h93
       obtain ⟨a_y94, c_y94, rfl, f_y94⟩ := un_sl h93
       refine Rg_op rfl (op_assign (v := (Value.slice a_y94 (records.getD v_2.toNat default).length c_y94)) rfl ?_)
       refine Rg_nil ?_
       refine Wp_seq ?_
       clear f91
       refine Wp_region ?_
       refine Rg_op rfl (op_loadA (cs := [(Value.slice a_y72 v_3.length c_y72), (Value.int .i64 v_4), (Value.int .i64 v_5)]) (vs := [(Value.slice a_y72 v_3.length c_y72), (Value.int .i64 v_4), (Value.int .i64 v_5)]) (i := 1) ty52 hs83 rfl rfl rfl rfl ?_)
       refine Rg_op rfl (op_move (v := (Value.slice a_y94 (records.getD v_2.toNat default).length c_y94)) rfl ?_)
       replace hm := bd hm; obtain ⟨append_1, hv95, hm⟩ := hm
       refine Rg_op rfl (op_call Try.call30 (c30_journal_Append (l := (⟨v_3, v_4, v_5⟩ : XJournal)) (b := (records.getD v_2.toNat default)) hs83.ltw f_y72 r_y73 r_y74 f_y94 hv95) rfl ?_)
       rintro v96 w97 ⟨hx98, h99⟩
       have hs100 := hs83.call hx98
       have p101 := Step.ext (O := ks [(k_g70, o_g70), (some b57, Obj.cells [(Value.slice a_y72 v_3.length c_y72), (Value.int .i64 v_4), (Value.int .i64 v_5)].toArray 52), (some b23, Obj.cells [(Value.slice a_y21_sectors new_1.1.sectors.length c_y21_sectors), (Value.slice a_y21_pending new_1.1.pending.length c_y21_pending), (Value.int .i64 new_1.1.left), (Value.bool new_1.1.stopped)].toArray 25)] O) hx98
       clear hx98
       replace f_records := f_records.step p101; replace f_y21_sectors := f_y21_sectors.step p101; replace f_y21_pending := f_y21_pending.step p101; replace f_g70 := f_g70.step p101; replace f_y72 := f_y72.step p101; replace f_y94 := f_y94.step p101; replace ch87 := ch87.trans p101; clear p101 hs83
       obtain ⟨v102, v103, rfl, h104, h105⟩ := h99
       obtain ⟨_, rfl, ⟨_, _, rfl, ⟨a_y106_records, c_y106_records, rfl, f_y106_records⟩, ⟨_, _, rfl, ⟨rfl, r_y106_many⟩, ⟨rfl, r_y106_synced⟩⟩⟩⟩ := h104
       obtain ⟨rfl, r_y107⟩ := h105
       refine Rg_op rfl (op_move (v := (Value.tuple [(Value.agg [(Value.slice a_y106_records append_1.1.records.length c_y106_records), (Value.int .i64 append_1.1.many), (Value.int .i64 append_1.1.synced)].toArray), (Value.int .i64 append_1.2)].toArray)) rfl ?_)
       refine Rg_op rfl (op_extract (v := (Value.agg [(Value.slice a_y106_records append_1.1.records.length c_y106_records), (Value.int .i64 append_1.1.many), (Value.int .i64 append_1.1.synced)].toArray)) rfl rfl ?_)
       refine Rg_op rfl (op_extract (v := (Value.int .i64 append_1.2)) rfl rfl ?_)
       refine Rg_op rfl (op_alloc ty52 hs100 ?_)
       intro b108 w109 _ p110 hs111
       replace f_records := f_records.step p110; replace f_y21_sectors := f_y21_sectors.step p110; replace f_y21_pending := f_y21_pending.step p110; replace f_g70 := f_g70.step p110; replace f_y72 := f_y72.step p110; replace f_y94 := f_y94.step p110; replace f_y106_records := f_y106_records.step p110; replace ch87 := ch87.trans p110; clear p110 hs100
       refine Rg_op_ (op_store (cs := [(Value.slice none 0 0), (Value.int .i64 0), (Value.int .i64 0)]) (vs := [(Value.slice a_y106_records append_1.1.records.length c_y106_records), (Value.int .i64 append_1.1.many), (Value.int .i64 append_1.1.synced)]) (cs' := [(Value.slice a_y106_records append_1.1.records.length c_y106_records), (Value.int .i64 append_1.1.many), (Value.int .i64 append_1.1.synced)]) (bs' := [(some b108, Obj.cells [(Value.slice a_y106_records append_1.1.records.length c_y106_records), (Value.int .i64 append_1.1.many), (Value.int .i64 append_1.1.synced)].toArray 52), (k_g70, o_g70), (some b57, Obj.cells [(Value.slice a_y72 v_3.length c_y72), (Value.int .i64 v_4), (Value.int .i64 v_5)].toArray 52), (some b23, Obj.cells [(Value.slice a_y21_sectors new_1.1.sectors.length c_y21_sectors), (Value.slice a_y21_pending new_1.1.pending.length c_y21_pending), (Value.int .i64 new_1.1.left), (Value.bool new_1.1.stopped)].toArray 25)]) (i := 0) ty52 hs111 rfl rfl rfl rfl rfl (le_lit rfl) rfl rfl rfl ?_)
       intro w113 p114 hs115
       replace f_records := f_records.step p114; replace f_y21_sectors := f_y21_sectors.step p114; replace f_y21_pending := f_y21_pending.step p114; replace f_g70 := f_g70.step p114; replace f_y72 := f_y72.step p114; replace f_y94 := f_y94.step p114; replace f_y106_records := f_y106_records.step p114; replace ch87 := ch87.trans p114; clear p114 hs111
       refine Rg_op rfl (op_assign (v := (Value.int .i64 append_1.2)) rfl ?_)
       refine Rg_nil ?_
       refine Wp_seq ?_
       refine Wp_seq ?_
       refine Wp_region ?_
       refine Rg_op rfl (op_move (v := (Value.int .i64 append_1.2)) rfl ?_)
       refine Rg_op rfl (op_neq rfl rfl ?_)
       refine Rg_nil ?_
       refine Wp_cond rfl (fun hc116 => ?_) (fun hc116 => ?_)
       ·
        replace hm := bif_t hm hc116
        refine Wp_exit ?_
        refine Wp_seq ?_
        obtain ⟨hs117, p118⟩ := hs115.sub (bs' := [(k_g70, o_g70), (some b57, Obj.cells [(Value.slice a_y72 v_3.length c_y72), (Value.int .i64 v_4), (Value.int .i64 v_5)].toArray 52), (some b23, Obj.cells [(Value.slice a_y21_sectors new_1.1.sectors.length c_y21_sectors), (Value.slice a_y21_pending new_1.1.pending.length c_y21_pending), (Value.int .i64 new_1.1.left), (Value.bool new_1.1.stopped)].toArray 25)]) (.cons _ (.cons_cons _ (.cons_cons _ (.cons_cons _ List.Sublist.slnil))))
        clear f_records f_y94 f_y106_records
        replace f_y21_sectors := f_y21_sectors.step p118; replace f_y21_pending := f_y21_pending.step p118; replace f_g70 := f_g70.step p118; replace f_y72 := f_y72.step p118; replace ch87 := ch87.trans p118; clear p118 hs115
        refine Wp_region ?_
        refine Rg_op rfl (op_loadA (cs := [(Value.slice a_y72 v_3.length c_y72), (Value.int .i64 v_4), (Value.int .i64 v_5)]) (vs := [(Value.slice a_y72 v_3.length c_y72), (Value.int .i64 v_4), (Value.int .i64 v_5)]) (i := 1) ty52 hs117 rfl rfl rfl rfl ?_)
        refine Rg_op rfl (op_loadA (cs := [(Value.slice a_y21_sectors new_1.1.sectors.length c_y21_sectors), (Value.slice a_y21_pending new_1.1.pending.length c_y21_pending), (Value.int .i64 new_1.1.left), (Value.bool new_1.1.stopped)]) (vs := [(Value.slice a_y21_sectors new_1.1.sectors.length c_y21_sectors), (Value.slice a_y21_pending new_1.1.pending.length c_y21_pending), (Value.int .i64 new_1.1.left), (Value.bool new_1.1.stopped)]) (i := 2) ty25 hs117 rfl rfl rfl rfl ?_)
        replace hm := bd hm; obtain ⟨sync_1, hv119, hm⟩ := hm
        refine Rg_op rfl (op_call Try.call39 (c39_journal_Sync (l := (⟨v_3, v_4, v_5⟩ : XJournal)) (d := new_1.1) hs117.ltw f_y72 r_y73 r_y74 f_y21_sectors f_y21_pending r_y21_left hv119) rfl ?_)
        rintro v120 w121 ⟨hx122, h123⟩
        have hs124 := hs117.call hx122
        have p125 := Step.ext (O := ks [(k_g70, o_g70), (some b57, Obj.cells [(Value.slice a_y72 v_3.length c_y72), (Value.int .i64 v_4), (Value.int .i64 v_5)].toArray 52), (some b23, Obj.cells [(Value.slice a_y21_sectors new_1.1.sectors.length c_y21_sectors), (Value.slice a_y21_pending new_1.1.pending.length c_y21_pending), (Value.int .i64 new_1.1.left), (Value.bool new_1.1.stopped)].toArray 25)] O) hx122
        clear hx122
        replace f_y21_sectors := f_y21_sectors.step p125; replace f_y21_pending := f_y21_pending.step p125; replace f_g70 := f_g70.step p125; replace f_y72 := f_y72.step p125; replace ch87 := ch87.trans p125; clear p125 hs117
        obtain ⟨v126, v127, v128, rfl, h129, h130, h131⟩ := h123
        obtain ⟨_, rfl, ⟨_, _, rfl, ⟨a_y132_records, c_y132_records, rfl, f_y132_records⟩, ⟨_, _, rfl, ⟨rfl, r_y132_many⟩, ⟨rfl, r_y132_synced⟩⟩⟩⟩ := h129
        obtain ⟨_, rfl, ⟨_, _, rfl, ⟨a_y133_sectors, c_y133_sectors, rfl, f_y133_sectors⟩, ⟨_, _, rfl, ⟨a_y133_pending, c_y133_pending, rfl, f_y133_pending⟩, ⟨_, _, rfl, ⟨rfl, r_y133_left⟩, rfl⟩⟩⟩⟩ := h130
        obtain ⟨rfl, r_y134⟩ := h131
        refine Rg_op rfl (op_move (v := (Value.tuple [(Value.agg [(Value.slice a_y132_records sync_1.1.records.length c_y132_records), (Value.int .i64 sync_1.1.many), (Value.int .i64 sync_1.1.synced)].toArray), (Value.agg [(Value.slice a_y133_sectors sync_1.2.1.sectors.length c_y133_sectors), (Value.slice a_y133_pending sync_1.2.1.pending.length c_y133_pending), (Value.int .i64 sync_1.2.1.left), (Value.bool sync_1.2.1.stopped)].toArray), (Value.int .i64 sync_1.2.2)].toArray)) rfl ?_)
        refine Rg_op rfl (op_extract (v := (Value.agg [(Value.slice a_y132_records sync_1.1.records.length c_y132_records), (Value.int .i64 sync_1.1.many), (Value.int .i64 sync_1.1.synced)].toArray)) rfl rfl ?_)
        refine Rg_op rfl (op_extract (v := (Value.agg [(Value.slice a_y133_sectors sync_1.2.1.sectors.length c_y133_sectors), (Value.slice a_y133_pending sync_1.2.1.pending.length c_y133_pending), (Value.int .i64 sync_1.2.1.left), (Value.bool sync_1.2.1.stopped)].toArray)) rfl rfl ?_)
        refine Rg_op rfl (op_extract (v := (Value.int .i64 sync_1.2.2)) rfl rfl ?_)
        refine Rg_op rfl (op_alloc ty52 hs124 ?_)
        intro b135 w136 _ p137 hs138
        replace f_y21_sectors := f_y21_sectors.step p137; replace f_y21_pending := f_y21_pending.step p137; replace f_g70 := f_g70.step p137; replace f_y72 := f_y72.step p137; replace f_y132_records := f_y132_records.step p137; replace f_y133_sectors := f_y133_sectors.step p137; replace f_y133_pending := f_y133_pending.step p137; replace ch87 := ch87.trans p137; clear p137 hs124
        refine Rg_op rfl (op_alloc ty25 hs138 ?_)
        intro b140 w141 _ p142 hs143
        replace f_y21_sectors := f_y21_sectors.step p142; replace f_y21_pending := f_y21_pending.step p142; replace f_g70 := f_g70.step p142; replace f_y72 := f_y72.step p142; replace f_y132_records := f_y132_records.step p142; replace f_y133_sectors := f_y133_sectors.step p142; replace f_y133_pending := f_y133_pending.step p142; replace ch87 := ch87.trans p142; clear p142 hs138
        refine Rg_op_ (op_store (cs := [(Value.slice none 0 0), (Value.int .i64 0), (Value.int .i64 0)]) (vs := [(Value.slice a_y132_records sync_1.1.records.length c_y132_records), (Value.int .i64 sync_1.1.many), (Value.int .i64 sync_1.1.synced)]) (cs' := [(Value.slice a_y132_records sync_1.1.records.length c_y132_records), (Value.int .i64 sync_1.1.many), (Value.int .i64 sync_1.1.synced)]) (bs' := [(some b140, Obj.cells [(Value.slice none 0 0), (Value.slice none 0 0), (Value.int .i64 0), (Value.bool false)].toArray 25), (some b135, Obj.cells [(Value.slice a_y132_records sync_1.1.records.length c_y132_records), (Value.int .i64 sync_1.1.many), (Value.int .i64 sync_1.1.synced)].toArray 52), (k_g70, o_g70), (some b57, Obj.cells [(Value.slice a_y72 v_3.length c_y72), (Value.int .i64 v_4), (Value.int .i64 v_5)].toArray 52), (some b23, Obj.cells [(Value.slice a_y21_sectors new_1.1.sectors.length c_y21_sectors), (Value.slice a_y21_pending new_1.1.pending.length c_y21_pending), (Value.int .i64 new_1.1.left), (Value.bool new_1.1.stopped)].toArray 25)]) (i := 1) ty52 hs143 rfl rfl rfl rfl rfl (le_lit rfl) rfl rfl rfl ?_)
        intro w145 p146 hs147
        replace f_y21_sectors := f_y21_sectors.step p146; replace f_y21_pending := f_y21_pending.step p146; replace f_g70 := f_g70.step p146; replace f_y72 := f_y72.step p146; replace f_y132_records := f_y132_records.step p146; replace f_y133_sectors := f_y133_sectors.step p146; replace f_y133_pending := f_y133_pending.step p146; replace ch87 := ch87.trans p146; clear p146 hs143
        refine Rg_op_ (op_store (cs := [(Value.slice none 0 0), (Value.slice none 0 0), (Value.int .i64 0), (Value.bool false)]) (vs := [(Value.slice a_y133_sectors sync_1.2.1.sectors.length c_y133_sectors), (Value.slice a_y133_pending sync_1.2.1.pending.length c_y133_pending), (Value.int .i64 sync_1.2.1.left), (Value.bool sync_1.2.1.stopped)]) (cs' := [(Value.slice a_y133_sectors sync_1.2.1.sectors.length c_y133_sectors), (Value.slice a_y133_pending sync_1.2.1.pending.length c_y133_pending), (Value.int .i64 sync_1.2.1.left), (Value.bool sync_1.2.1.stopped)]) (bs' := [(some b140, Obj.cells [(Value.slice a_y133_sectors sync_1.2.1.sectors.length c_y133_sectors), (Value.slice a_y133_pending sync_1.2.1.pending.length c_y133_pending), (Value.int .i64 sync_1.2.1.left), (Value.bool sync_1.2.1.stopped)].toArray 25), (some b135, Obj.cells [(Value.slice a_y132_records sync_1.1.records.length c_y132_records), (Value.int .i64 sync_1.1.many), (Value.int .i64 sync_1.1.synced)].toArray 52), (k_g70, o_g70), (some b57, Obj.cells [(Value.slice a_y72 v_3.length c_y72), (Value.int .i64 v_4), (Value.int .i64 v_5)].toArray 52), (some b23, Obj.cells [(Value.slice a_y21_sectors new_1.1.sectors.length c_y21_sectors), (Value.slice a_y21_pending new_1.1.pending.length c_y21_pending), (Value.int .i64 new_1.1.left), (Value.bool new_1.1.stopped)].toArray 25)]) (i := 0) ty25 hs147 rfl rfl rfl rfl rfl (le_lit rfl) rfl rfl rfl ?_)
        intro w148 p149 hs150
        replace f_y21_sectors := f_y21_sectors.step p149; replace f_y21_pending := f_y21_pending.step p149; replace f_g70 := f_g70.step p149; replace f_y72 := f_y72.step p149; replace f_y132_records := f_y132_records.step p149; replace f_y133_sectors := f_y133_sectors.step p149; replace f_y133_pending := f_y133_pending.step p149; replace ch87 := ch87.trans p149; clear p149 hs147
        refine Rg_op rfl (op_assign (v := (Value.int .i64 sync_1.2.2)) rfl ?_)
        refine Rg_nil ?_
        refine Wp_seq ?_
        refine Wp_reset [] [(1, (Value.int .i64 sector)), (2, (Value.int .i64 at_)), (3, (Value.int .u8 (by_.toNat : Int))), (11, (Value.pointer (some ⟨b57, 0, none⟩))), (13, (Value.slice a_g70 ends_1.length c_g70)), (20, (Value.pointer (some ⟨b140, 0, none⟩))), (21, (Value.int .i64 sync_1.2.2))] rfl ⟨rfl, rfl, rfl, rfl, rfl, rfl, rfl, trivial⟩ fun ξ151 => ?_
        replace hm := jn_elim hm; obtain ⟨k153, hk154, hm⟩ := hm
        refine Wp_seqJ [103, 104, 105, 106, 107, 108, 109] (fun fr w' => ∃ (v_6 : Bool) (Ebs : Ents), Ebs = [(some b140, Obj.cells [(Value.slice a_y133_sectors sync_1.2.1.sectors.length c_y133_sectors), (Value.slice a_y133_pending sync_1.2.1.pending.length c_y133_pending), (Value.int .i64 sync_1.2.1.left), (Value.bool sync_1.2.1.stopped)].toArray 25), (some b135, Obj.cells [(Value.slice a_y132_records sync_1.1.records.length c_y132_records), (Value.int .i64 sync_1.1.many), (Value.int .i64 sync_1.1.synced)].toArray 52), (k_g70, o_g70), (some b57, Obj.cells [(Value.slice a_y72 v_3.length c_y72), (Value.int .i64 v_4), (Value.int .i64 v_5)].toArray 52), (some b23, Obj.cells [(Value.slice a_y21_sectors new_1.1.sectors.length c_y21_sectors), (Value.slice a_y21_pending new_1.1.pending.length c_y21_pending), (Value.int .i64 new_1.1.left), (Value.bool new_1.1.stopped)].toArray 25)] ∧ fr [] [(109, (Value.bool v_6))] ∧ Step (ks [(some b140, Obj.cells [(Value.slice a_y133_sectors sync_1.2.1.sectors.length c_y133_sectors), (Value.slice a_y133_pending sync_1.2.1.pending.length c_y133_pending), (Value.int .i64 sync_1.2.1.left), (Value.bool sync_1.2.1.stopped)].toArray 25), (some b135, Obj.cells [(Value.slice a_y132_records sync_1.1.records.length c_y132_records), (Value.int .i64 sync_1.1.many), (Value.int .i64 sync_1.1.synced)].toArray 52), (k_g70, o_g70), (some b57, Obj.cells [(Value.slice a_y72 v_3.length c_y72), (Value.int .i64 v_4), (Value.int .i64 v_5)].toArray 52), (some b23, Obj.cells [(Value.slice a_y21_sectors new_1.1.sectors.length c_y21_sectors), (Value.slice a_y21_pending new_1.1.pending.length c_y21_pending), (Value.int .i64 new_1.1.left), (Value.bool new_1.1.stopped)].toArray 25)] O) w148 (ks Ebs O) w' ∧ St ⟨w, [], []⟩ O w' Ebs ∧ k153 v_6 = some x) ?_ ?_
        ·
         rintro ρ160 w156 ⟨v_6, Ebs, hEbs, hfr159, hst158, hs157, hm⟩
         replace hm := jnE1 hk154 hm
         subst hEbs; rw [hfr159.eq]; clear hfr159
         replace f_y21_sectors := f_y21_sectors.step hst158; replace f_y21_pending := f_y21_pending.step hst158; replace f_g70 := f_g70.step hst158; replace f_y72 := f_y72.step hst158; replace f_y132_records := f_y132_records.step hst158; replace f_y133_sectors := f_y133_sectors.step hst158; replace f_y133_pending := f_y133_pending.step hst158; replace ch87 := ch87.trans hst158; clear hst158 hs150
         refine Wp_cond rfl (fun hc161 => ?_) (fun hc161 => ?_)
         ·
          replace hm := bif_t hm hc161
          refine Wp_seq ?_
          obtain ⟨hs162, p163⟩ := hs157.sub (bs' := []) (.cons _ (.cons _ (.cons _ (.cons _ (.cons _ List.Sublist.slnil)))))
          clear f_y21_sectors f_y21_pending f_g70 f_y72 f_y132_records f_y133_sectors f_y133_pending
          replace ch87 := ch87.trans p163; clear p163 hs157
          refine Wp_region ?_
          refine Rg_op rfl (op_move (v := (Value.int .i64 sync_1.2.2)) rfl ?_)
          refine Rg_op rfl (op_eql rfl rfl ?_)
          refine Rg_op rfl (op_assign (v := (Value.bool (decide (sync_1.2.2 = 0)))) rfl ?_)
          refine Rg_nil ?_
          refine Wp_ret ?_
          have hz := step_all hs162
          refine ⟨_, (show Closes [] _ _ from rfl), [(Value.bool (decide (sync_1.2.2 = 0)))], ⟨rfl, trivial⟩, hs162.ext, ?_⟩
          exact Vr.eq (a := vB) (x := (decide (sync_1.2.2 = 0))) rfl (Option.some.inj hm)
         ·
          replace hm := bif_f hm hc161
          refine Wp_skip ?_
          refine Wp_seq ?_
          obtain ⟨hs164, p165⟩ := hs157.sub (bs' := [(some b140, Obj.cells [(Value.slice a_y133_sectors sync_1.2.1.sectors.length c_y133_sectors), (Value.slice a_y133_pending sync_1.2.1.pending.length c_y133_pending), (Value.int .i64 sync_1.2.1.left), (Value.bool sync_1.2.1.stopped)].toArray 25), (k_g70, o_g70), (some b57, Obj.cells [(Value.slice a_y72 v_3.length c_y72), (Value.int .i64 v_4), (Value.int .i64 v_5)].toArray 52)]) (.cons_cons _ (.cons _ (.cons_cons _ (.cons_cons _ (.cons _ List.Sublist.slnil)))))
          clear f_y21_sectors f_y21_pending f_y132_records
          replace f_g70 := f_g70.step p165; replace f_y72 := f_y72.step p165; replace f_y133_sectors := f_y133_sectors.step p165; replace f_y133_pending := f_y133_pending.step p165; replace ch87 := ch87.trans p165; clear p165 hs157
          refine Wp_region ?_
          refine Rg_op rfl (op_move (v := (Value.int .i64 sector)) rfl ?_)
          refine Rg_op rfl (op_conv Try.underlying3 Try.underlying65 rfl ?_)
          refine Rg_op rfl (op_move (v := (Value.slice a_g70 ends_1.length c_g70)) rfl ?_)
          refine Rg_op rfl (op_move (v := (Value.slice a_g70 ends_1.length c_g70)) rfl ?_)
          refine Rg_op rfl (op_len Try.underlying62 rfl ?_)
          have rl166 := inK_lenG f_g70
          refine Rg_op rfl (op_subw rfl rfl ?_)
          replace hm := ck_some hm; obtain ⟨hc167, hm⟩ := hm
          refine Rg_op rfl (op_indexAddrG ty62 ty3 rfl rfl f_g70 hc167 ?_)
          rintro b168 rfl rfl
          refine Rg_op rfl (op_loadG (m := (IntKind.wrap .i64 ((ends_1.length : Int) - 1))) (i := 1) ty3 rfl hs164 rfl rfl f_g70 hc167 ?_)
          intro v169 h170
          obtain ⟨rfl, r_y171⟩ := un_int h170
          refine Rg_op rfl (op_conv Try.underlying3 Try.underlying65 rfl ?_)
          replace hm := ck_some hm; obtain ⟨hc172, hm⟩ := hm
          refine Rg_op rfl (op_rem rfl rfl hc172 ?_)
          refine Rg_op rfl (op_conv Try.underlying65 Try.underlying3 rfl ?_)
          refine Rg_op rfl (op_assign (v := (Value.int .i64 (IntKind.wrap .i64 ((IntKind.wrap .u64 sector).tmod (IntKind.wrap .u64 (ends_1.getD (IntKind.wrap .i64 ((ends_1.length : Int) - 1)).toNat default)))))) rfl ?_)
          refine Rg_nil ?_
          refine Wp_seq ?_
          refine Wp_reset [] [(2, (Value.int .i64 at_)), (3, (Value.int .u8 (by_.toNat : Int))), (11, (Value.pointer (some ⟨b57, 0, none⟩))), (13, (Value.slice (some ⟨b168, 0, none⟩) ends_1.length c_g70)), (20, (Value.pointer (some ⟨b140, 0, none⟩))), (22, (Value.int .i64 (IntKind.wrap .i64 ((IntKind.wrap .u64 sector).tmod (IntKind.wrap .u64 (ends_1.getD (IntKind.wrap .i64 ((ends_1.length : Int) - 1)).toNat default))))))] rfl ⟨rfl, rfl, rfl, rfl, rfl, rfl, trivial⟩ fun ξ173 => ?_
          replace hm := jn_elim hm; obtain ⟨k175, hk176, hm⟩ := hm
          refine Wp_seqJ [123, 124, 125, 126, 127, 128, 129, 130, 131, 132, 133, 134, 135, 136, 137, 138, 139, 140, 141, 142, 143, 144] (fun fr w' => ∃ (v_7 : Bool) (Ebs : Ents), Ebs = [(some b140, Obj.cells [(Value.slice a_y133_sectors sync_1.2.1.sectors.length c_y133_sectors), (Value.slice a_y133_pending sync_1.2.1.pending.length c_y133_pending), (Value.int .i64 sync_1.2.1.left), (Value.bool sync_1.2.1.stopped)].toArray 25), (some b168, o_g70), (some b57, Obj.cells [(Value.slice a_y72 v_3.length c_y72), (Value.int .i64 v_4), (Value.int .i64 v_5)].toArray 52)] ∧ fr [] [(144, (Value.bool v_7))] ∧ Step (ks [(some b140, Obj.cells [(Value.slice a_y133_sectors sync_1.2.1.sectors.length c_y133_sectors), (Value.slice a_y133_pending sync_1.2.1.pending.length c_y133_pending), (Value.int .i64 sync_1.2.1.left), (Value.bool sync_1.2.1.stopped)].toArray 25), (some b168, o_g70), (some b57, Obj.cells [(Value.slice a_y72 v_3.length c_y72), (Value.int .i64 v_4), (Value.int .i64 v_5)].toArray 52)] O) w156 (ks Ebs O) w' ∧ St ⟨w, [], []⟩ O w' Ebs ∧ k175 v_7 = some x) ?_ ?_
          ·
           rintro ρ182 w178 ⟨v_7, Ebs, hEbs, hfr181, hst180, hs179, hm⟩
           replace hm := jnE1 hk176 hm
           subst hEbs; rw [hfr181.eq]; clear hfr181
           replace f_g70 := f_g70.step hst180; replace f_y72 := f_y72.step hst180; replace f_y133_sectors := f_y133_sectors.step hst180; replace f_y133_pending := f_y133_pending.step hst180; replace ch87 := ch87.trans hst180; clear hst180 hs164
           refine Wp_cond rfl (fun hc183 => ?_) (fun hc183 => ?_)
           ·
            replace hm := bif_t hm hc183
            refine Wp_seq ?_
            obtain ⟨hs184, p185⟩ := hs179.sub (bs' := []) (.cons _ (.cons _ (.cons _ List.Sublist.slnil)))
            clear f_g70 f_y72 f_y133_sectors f_y133_pending
            replace ch87 := ch87.trans p185; clear p185 hs179
            refine Wp_region ?_
            refine Rg_op rfl (op_assign (v := (Value.bool false)) rfl ?_)
            refine Rg_nil ?_
            refine Wp_ret ?_
            have hz := step_all hs184
            refine ⟨_, (show Closes [] _ _ from rfl), [(Value.bool false)], ⟨rfl, trivial⟩, hs184.ext, ?_⟩
            exact Vr.eq (a := vB) (x := false) rfl (Option.some.inj hm)
           ·
            replace hm := bif_f hm hc183
            refine Wp_skip ?_
            refine Wp_seq ?_
            refine Wp_region ?_
            refine Rg_op rfl (op_buildSlice (cs := []) (parts := []) ty41 ty5 hs179 (by decide) rfl ?_)
            intro b186 w187 hx190 p188 hs189
            replace f_g70 := f_g70.step p188; replace f_y72 := f_y72.step p188; replace f_y133_sectors := f_y133_sectors.step p188; replace f_y133_pending := f_y133_pending.step p188; replace ch87 := ch87.trans p188; clear p188 hs179
            refine Rg_op rfl (op_fieldAddr ty25 rfl ty22 (by decide) rfl (rfl : _ = (⟨_, 0, none⟩ : Addr)) ?_)
            refine Rg_op rfl (op_load (cs := [(Value.slice a_y133_sectors sync_1.2.1.sectors.length c_y133_sectors), (Value.slice a_y133_pending sync_1.2.1.pending.length c_y133_pending), (Value.int .i64 sync_1.2.1.left), (Value.bool sync_1.2.1.stopped)]) (i := 1) ty22 hs189 rfl rfl rfl ?_)
            refine Rg_op rfl (op_move (v := (Value.int .i64 (IntKind.wrap .i64 ((IntKind.wrap .u64 sector).tmod (IntKind.wrap .u64 (ends_1.getD (IntKind.wrap .i64 ((ends_1.length : Int) - 1)).toNat default)))))) rfl ?_)
            replace hm := ck_some hm; obtain ⟨hc192, hm⟩ := hm
            refine Rg_op rfl (op_indexAddr (q := (rSl rU8)) ty22 ty41 rfl rfl f_y133_sectors rfl hc192.1 hc192.2 ?_)
            intro p193 f194
            refine Rg_op rfl (op_loadP ty41 rfl f194 rfl ?_)
            intro v195 h196
            obtain ⟨a_y197, c_y197, rfl, f_y197⟩ := un_sl h196
            have f198 := Gs.of_cells (p := rU8) (e := 5) (bl := b186) (c := 0) (w := w187) (O := ks [(some b186, Obj.cells [].toArray 5), (some b140, Obj.cells [(Value.slice a_y133_sectors sync_1.2.1.sectors.length c_y133_sectors), (Value.slice a_y133_pending sync_1.2.1.pending.length c_y133_pending), (Value.int .i64 sync_1.2.1.left), (Value.bool sync_1.2.1.stopped)].toArray 25), (some b168, o_g70), (some b57, Obj.cells [(Value.slice a_y72 v_3.length c_y72), (Value.int .i64 v_4), (Value.int .i64 v_5)].toArray 52)] O) (show Els rU8 _ _ [] [] from Els.nil) rfl (le_lit rfl)
            replace hm := ck_some hm; obtain ⟨hc199, hm⟩ := hm
            obtain ⟨ns200, he201, hr202⟩ := f_y197.src
            refine Rg_op rfl (op_append (q := rU8) (i := 0) (xs := ([] : List UInt8)) (ys := (sync_1.2.1.sectors.getD (IntKind.wrap .i64 ((IntKind.wrap .u64 sector).tmod (IntKind.wrap .u64 (ends_1.getD (IntKind.wrap .i64 ((ends_1.length : Int) - 1)).toNat default)))).toNat default)) (news := ns200) ty41 ty5 rfl (by decide) hs189 rfl rfl f198 rfl hr202 he201 hc199 (by have := hc199; simp only [maxLen]; omega) ?_)
            intro a206 c207 k208 o209 w203 p204 hs205 f210
            replace f_g70 := f_g70.step p204; replace f_y72 := f_y72.step p204; replace f_y133_sectors := f_y133_sectors.step p204; replace f_y133_pending := f_y133_pending.step p204; replace f194 := f194.step p204; replace f_y197 := f_y197.step p204; replace ch87 := ch87.trans p204; clear p204 hs189
            refine Rg_op rfl (op_assign (v := (Value.slice a206 (([] : List UInt8) ++ (sync_1.2.1.sectors.getD (IntKind.wrap .i64 ((IntKind.wrap .u64 sector).tmod (IntKind.wrap .u64 (ends_1.getD (IntKind.wrap .i64 ((ends_1.length : Int) - 1)).toNat default)))).toNat default)).length c207)) rfl ?_)
            refine Rg_nil ?_
            refine Wp_seq ?_
            clear f194 f_y197
            refine Wp_region ?_
            refine Rg_op rfl (op_move (v := (Value.slice a206 (([] : List UInt8) ++ (sync_1.2.1.sectors.getD (IntKind.wrap .i64 ((IntKind.wrap .u64 sector).tmod (IntKind.wrap .u64 (ends_1.getD (IntKind.wrap .i64 ((ends_1.length : Int) - 1)).toNat default)))).toNat default)).length c207)) rfl ?_)
            refine Rg_op rfl (op_move (v := (Value.int .i64 at_)) rfl ?_)
            refine Rg_op rfl (op_conv Try.underlying3 Try.underlying65 rfl ?_)
            refine Rg_op rfl (op_rem rfl rfl (by decide) ?_)
            replace hm := ck_some hm; obtain ⟨hc211, hm⟩ := hm
            refine Rg_op rfl (op_indexAddrG ty41 ty5 rfl rfl f210 hc211 ?_)
            rintro b212 rfl rfl
            refine Rg_op rfl (op_loadG (m := ((IntKind.wrap .u64 at_).tmod 128)) (i := 0) ty5 rfl hs205 rfl rfl f210 hc211 ?_)
            intro v213 h214
            obtain rfl := un_u8 h214
            refine Rg_op rfl (op_move (v := (Value.int .u8 (by_.toNat : Int))) rfl ?_)
            refine Rg_op rfl (run1_u8 (e := (Go.bits .xor .u8 (((([] : List UInt8) ++ (sync_1.2.1.sectors.getD (IntKind.wrap .i64 ((IntKind.wrap .u64 sector).tmod (IntKind.wrap .u64 (ends_1.getD (IntKind.wrap .i64 ((ends_1.length : Int) - 1)).toNat default)))).toNat default)).getD ((IntKind.wrap .u64 at_).tmod 128).toNat default).toNat : Int) (by_.toNat : Int))) (inK_bits .xor .u8 _ _) (fun _ hk => op_xor rfl rfl hk) ?_)
            replace hm := ck_some hm; obtain ⟨hc216, hm⟩ := hm
            refine Rg_op rfl (op_indexAddrG ty41 ty5 rfl rfl f210 hc216 ?_)
            rintro _ ⟨⟩ -
            refine Rg_op_ (op_storeG (vs := [(Value.int .u8 ((UInt8.ofNat (Go.bits .xor .u8 (((([] : List UInt8) ++ (sync_1.2.1.sectors.getD (IntKind.wrap .i64 ((IntKind.wrap .u64 sector).tmod (IntKind.wrap .u64 (ends_1.getD (IntKind.wrap .i64 ((ends_1.length : Int) - 1)).toNat default)))).toNat default)).getD ((IntKind.wrap .u64 at_).tmod 128).toNat default).toNat : Int) (by_.toNat : Int)).toNat).toNat : Int))]) (i := 0) (m := ((IntKind.wrap .u64 at_).tmod 128)) ty5 rfl hs205 rfl rfl rfl rfl f210 hc216 mkU8 ?_)
            intro w218 o221 p219 hs220 f222
            replace f_g70 := f_g70.step p219; replace f_y72 := f_y72.step p219; replace f_y133_sectors := f_y133_sectors.step p219; replace f_y133_pending := f_y133_pending.step p219; replace ch87 := ch87.trans p219; clear p219 hs205
            refine Rg_nil ?_
            refine Wp_seq ?_
            refine Wp_region ?_
            refine Rg_op rfl (op_loadA (cs := [(Value.slice a_y133_sectors sync_1.2.1.sectors.length c_y133_sectors), (Value.slice a_y133_pending sync_1.2.1.pending.length c_y133_pending), (Value.int .i64 sync_1.2.1.left), (Value.bool sync_1.2.1.stopped)]) (vs := [(Value.slice a_y133_sectors sync_1.2.1.sectors.length c_y133_sectors), (Value.slice a_y133_pending sync_1.2.1.pending.length c_y133_pending), (Value.int .i64 sync_1.2.1.left), (Value.bool sync_1.2.1.stopped)]) (i := 1) ty25 hs220 rfl rfl rfl rfl ?_)
            refine Rg_op rfl (op_move (v := (Value.int .i64 (IntKind.wrap .i64 ((IntKind.wrap .u64 sector).tmod (IntKind.wrap .u64 (ends_1.getD (IntKind.wrap .i64 ((ends_1.length : Int) - 1)).toNat default)))))) rfl ?_)
            refine Rg_op rfl (op_move (v := (Value.slice (some ⟨b212, 0, none⟩) ((([] : List UInt8) ++ (sync_1.2.1.sectors.getD (IntKind.wrap .i64 ((IntKind.wrap .u64 sector).tmod (IntKind.wrap .u64 (ends_1.getD (IntKind.wrap .i64 ((ends_1.length : Int) - 1)).toNat default)))).toNat default)).set ((IntKind.wrap .u64 at_).tmod 128).toNat (UInt8.ofNat (Go.bits .xor .u8 (((([] : List UInt8) ++ (sync_1.2.1.sectors.getD (IntKind.wrap .i64 ((IntKind.wrap .u64 sector).tmod (IntKind.wrap .u64 (ends_1.getD (IntKind.wrap .i64 ((ends_1.length : Int) - 1)).toNat default)))).toNat default)).getD ((IntKind.wrap .u64 at_).tmod 128).toNat default).toNat : Int) (by_.toNat : Int)).toNat)).length c207)) (eqlen rfl (show (([] : List UInt8) ++ (sync_1.2.1.sectors.getD (IntKind.wrap .i64 ((IntKind.wrap .u64 sector).tmod (IntKind.wrap .u64 (ends_1.getD (IntKind.wrap .i64 ((ends_1.length : Int) - 1)).toNat default)))).toNat default)).length = ((([] : List UInt8) ++ (sync_1.2.1.sectors.getD (IntKind.wrap .i64 ((IntKind.wrap .u64 sector).tmod (IntKind.wrap .u64 (ends_1.getD (IntKind.wrap .i64 ((ends_1.length : Int) - 1)).toNat default)))).toNat default)).set ((IntKind.wrap .u64 at_).tmod 128).toNat (UInt8.ofNat (Go.bits .xor .u8 (((([] : List UInt8) ++ (sync_1.2.1.sectors.getD (IntKind.wrap .i64 ((IntKind.wrap .u64 sector).tmod (IntKind.wrap .u64 (ends_1.getD (IntKind.wrap .i64 ((ends_1.length : Int) - 1)).toNat default)))).toNat default)).getD ((IntKind.wrap .u64 at_).tmod 128).toNat default).toNat : Int) (by_.toNat : Int)).toNat)).length from by first | (simp; done) | (simp; omega))) ?_)
            obtain ⟨hs224, p225, f223⟩ := Gs.publish (i := 0) hs220 rfl f222
            replace f_g70 := f_g70.step p225; replace f_y72 := f_y72.step p225; replace f_y133_sectors := f_y133_sectors.step p225; replace f_y133_pending := f_y133_pending.step p225; replace ch87 := ch87.trans p225; clear p225 hs220
            replace hm := bd hm; obtain ⟨write_1, hv226, hm⟩ := hm
            refine Rg_op rfl (op_call Try.call23 (c23_disk_Write (d := sync_1.2.1) (at_ := (IntKind.wrap .i64 ((IntKind.wrap .u64 sector).tmod (IntKind.wrap .u64 (ends_1.getD (IntKind.wrap .i64 ((ends_1.length : Int) - 1)).toNat default))))) (b := ((([] : List UInt8) ++ (sync_1.2.1.sectors.getD (IntKind.wrap .i64 ((IntKind.wrap .u64 sector).tmod (IntKind.wrap .u64 (ends_1.getD (IntKind.wrap .i64 ((ends_1.length : Int) - 1)).toNat default)))).toNat default)).set ((IntKind.wrap .u64 at_).tmod 128).toNat (UInt8.ofNat (Go.bits .xor .u8 (((([] : List UInt8) ++ (sync_1.2.1.sectors.getD (IntKind.wrap .i64 ((IntKind.wrap .u64 sector).tmod (IntKind.wrap .u64 (ends_1.getD (IntKind.wrap .i64 ((ends_1.length : Int) - 1)).toNat default)))).toNat default)).getD ((IntKind.wrap .u64 at_).tmod 128).toNat default).toNat : Int) (by_.toNat : Int)).toNat))) hs224.ltw f_y133_sectors f_y133_pending r_y133_left (inK_wrap .i64 _) f223 hv226) rfl ?_)
            rintro v227 w228 ⟨hx229, h230⟩
            have hs231 := hs224.call hx229
            have p232 := Step.ext (O := ks [(some b140, Obj.cells [(Value.slice a_y133_sectors sync_1.2.1.sectors.length c_y133_sectors), (Value.slice a_y133_pending sync_1.2.1.pending.length c_y133_pending), (Value.int .i64 sync_1.2.1.left), (Value.bool sync_1.2.1.stopped)].toArray 25), (some b168, o_g70), (some b57, Obj.cells [(Value.slice a_y72 v_3.length c_y72), (Value.int .i64 v_4), (Value.int .i64 v_5)].toArray 52)] O) hx229
            clear hx229
            replace f_g70 := f_g70.step p232; replace f_y72 := f_y72.step p232; replace f_y133_sectors := f_y133_sectors.step p232; replace f_y133_pending := f_y133_pending.step p232; replace f223 := f223.step p232; replace ch87 := ch87.trans p232; clear p232 hs224
            obtain ⟨v233, v234, rfl, h235, h236⟩ := h230
            obtain ⟨_, rfl, ⟨_, _, rfl, ⟨a_y237_sectors, c_y237_sectors, rfl, f_y237_sectors⟩, ⟨_, _, rfl, ⟨a_y237_pending, c_y237_pending, rfl, f_y237_pending⟩, ⟨_, _, rfl, ⟨rfl, r_y237_left⟩, rfl⟩⟩⟩⟩ := h235
            obtain ⟨rfl, r_y238⟩ := h236
            refine Rg_op rfl (op_move (v := (Value.tuple [(Value.agg [(Value.slice a_y237_sectors write_1.1.sectors.length c_y237_sectors), (Value.slice a_y237_pending write_1.1.pending.length c_y237_pending), (Value.int .i64 write_1.1.left), (Value.bool write_1.1.stopped)].toArray), (Value.int .i64 write_1.2)].toArray)) rfl ?_)
            refine Rg_op rfl (op_extract (v := (Value.agg [(Value.slice a_y237_sectors write_1.1.sectors.length c_y237_sectors), (Value.slice a_y237_pending write_1.1.pending.length c_y237_pending), (Value.int .i64 write_1.1.left), (Value.bool write_1.1.stopped)].toArray)) rfl rfl ?_)
            refine Rg_op rfl (op_extract (v := (Value.int .i64 write_1.2)) rfl rfl ?_)
            refine Rg_op_ (op_store (cs := [(Value.slice a_y133_sectors sync_1.2.1.sectors.length c_y133_sectors), (Value.slice a_y133_pending sync_1.2.1.pending.length c_y133_pending), (Value.int .i64 sync_1.2.1.left), (Value.bool sync_1.2.1.stopped)]) (vs := [(Value.slice a_y237_sectors write_1.1.sectors.length c_y237_sectors), (Value.slice a_y237_pending write_1.1.pending.length c_y237_pending), (Value.int .i64 write_1.1.left), (Value.bool write_1.1.stopped)]) (cs' := [(Value.slice a_y237_sectors write_1.1.sectors.length c_y237_sectors), (Value.slice a_y237_pending write_1.1.pending.length c_y237_pending), (Value.int .i64 write_1.1.left), (Value.bool write_1.1.stopped)]) (bs' := [(some b140, Obj.cells [(Value.slice a_y237_sectors write_1.1.sectors.length c_y237_sectors), (Value.slice a_y237_pending write_1.1.pending.length c_y237_pending), (Value.int .i64 write_1.1.left), (Value.bool write_1.1.stopped)].toArray 25), (some b168, o_g70), (some b57, Obj.cells [(Value.slice a_y72 v_3.length c_y72), (Value.int .i64 v_4), (Value.int .i64 v_5)].toArray 52)]) (i := 0) ty25 hs231 rfl rfl rfl rfl rfl (le_lit rfl) rfl rfl rfl ?_)
            intro w239 p240 hs241
            replace f_g70 := f_g70.step p240; replace f_y72 := f_y72.step p240; replace f_y133_sectors := f_y133_sectors.step p240; replace f_y133_pending := f_y133_pending.step p240; replace f223 := f223.step p240; replace f_y237_sectors := f_y237_sectors.step p240; replace f_y237_pending := f_y237_pending.step p240; replace ch87 := ch87.trans p240; clear p240 hs231
            refine Rg_op rfl (op_assign (v := (Value.int .i64 write_1.2)) rfl ?_)
            refine Rg_nil ?_
            refine Wp_seq ?_
            clear f_y133_sectors f_y133_pending f223
            refine Wp_reset [] [(11, (Value.pointer (some ⟨b57, 0, none⟩))), (13, (Value.slice (some ⟨b168, 0, none⟩) ends_1.length c_g70)), (20, (Value.pointer (some ⟨b140, 0, none⟩))), (21, (Value.int .i64 write_1.2)), (22, (Value.int .i64 (IntKind.wrap .i64 ((IntKind.wrap .u64 sector).tmod (IntKind.wrap .u64 (ends_1.getD (IntKind.wrap .i64 ((ends_1.length : Int) - 1)).toNat default))))))] rfl ⟨rfl, rfl, rfl, rfl, rfl, trivial⟩ fun ξ242 => ?_
            refine Wp_region ?_
            refine Rg_op rfl (op_loadA (cs := [(Value.slice a_y237_sectors write_1.1.sectors.length c_y237_sectors), (Value.slice a_y237_pending write_1.1.pending.length c_y237_pending), (Value.int .i64 write_1.1.left), (Value.bool write_1.1.stopped)]) (vs := [(Value.slice a_y237_sectors write_1.1.sectors.length c_y237_sectors), (Value.slice a_y237_pending write_1.1.pending.length c_y237_pending), (Value.int .i64 write_1.1.left), (Value.bool write_1.1.stopped)]) (i := 0) ty25 hs241 rfl rfl rfl rfl ?_)
            replace hm := bd hm; obtain ⟨sync_2, hv243, hm⟩ := hm
            refine Rg_op rfl (op_call Try.call25 (c25_disk_Sync (d := write_1.1) hs241.ltw f_y237_sectors f_y237_pending r_y237_left hv243) rfl ?_)
            rintro v244 w245 ⟨hx246, h247⟩
            have hs248 := hs241.call hx246
            have p249 := Step.ext (O := ks [(some b140, Obj.cells [(Value.slice a_y237_sectors write_1.1.sectors.length c_y237_sectors), (Value.slice a_y237_pending write_1.1.pending.length c_y237_pending), (Value.int .i64 write_1.1.left), (Value.bool write_1.1.stopped)].toArray 25), (some b168, o_g70), (some b57, Obj.cells [(Value.slice a_y72 v_3.length c_y72), (Value.int .i64 v_4), (Value.int .i64 v_5)].toArray 52)] O) hx246
            clear hx246
            replace f_g70 := f_g70.step p249; replace f_y72 := f_y72.step p249; replace f_y237_sectors := f_y237_sectors.step p249; replace f_y237_pending := f_y237_pending.step p249; replace ch87 := ch87.trans p249; clear p249 hs241
            obtain ⟨v250, v251, rfl, h252, h253⟩ := h247
            obtain ⟨_, rfl, ⟨_, _, rfl, ⟨a_y254_sectors, c_y254_sectors, rfl, f_y254_sectors⟩, ⟨_, _, rfl, ⟨a_y254_pending, c_y254_pending, rfl, f_y254_pending⟩, ⟨_, _, rfl, ⟨rfl, r_y254_left⟩, rfl⟩⟩⟩⟩ := h252
            obtain ⟨rfl, r_y255⟩ := h253
            refine Rg_op rfl (op_move (v := (Value.tuple [(Value.agg [(Value.slice a_y254_sectors sync_2.1.sectors.length c_y254_sectors), (Value.slice a_y254_pending sync_2.1.pending.length c_y254_pending), (Value.int .i64 sync_2.1.left), (Value.bool sync_2.1.stopped)].toArray), (Value.int .i64 sync_2.2)].toArray)) rfl ?_)
            refine Rg_op rfl (op_extract (v := (Value.agg [(Value.slice a_y254_sectors sync_2.1.sectors.length c_y254_sectors), (Value.slice a_y254_pending sync_2.1.pending.length c_y254_pending), (Value.int .i64 sync_2.1.left), (Value.bool sync_2.1.stopped)].toArray)) rfl rfl ?_)
            refine Rg_op rfl (op_extract (v := (Value.int .i64 sync_2.2)) rfl rfl ?_)
            refine Rg_op_ (op_store (cs := [(Value.slice a_y237_sectors write_1.1.sectors.length c_y237_sectors), (Value.slice a_y237_pending write_1.1.pending.length c_y237_pending), (Value.int .i64 write_1.1.left), (Value.bool write_1.1.stopped)]) (vs := [(Value.slice a_y254_sectors sync_2.1.sectors.length c_y254_sectors), (Value.slice a_y254_pending sync_2.1.pending.length c_y254_pending), (Value.int .i64 sync_2.1.left), (Value.bool sync_2.1.stopped)]) (cs' := [(Value.slice a_y254_sectors sync_2.1.sectors.length c_y254_sectors), (Value.slice a_y254_pending sync_2.1.pending.length c_y254_pending), (Value.int .i64 sync_2.1.left), (Value.bool sync_2.1.stopped)]) (bs' := [(some b140, Obj.cells [(Value.slice a_y254_sectors sync_2.1.sectors.length c_y254_sectors), (Value.slice a_y254_pending sync_2.1.pending.length c_y254_pending), (Value.int .i64 sync_2.1.left), (Value.bool sync_2.1.stopped)].toArray 25), (some b168, o_g70), (some b57, Obj.cells [(Value.slice a_y72 v_3.length c_y72), (Value.int .i64 v_4), (Value.int .i64 v_5)].toArray 52)]) (i := 0) ty25 hs248 rfl rfl rfl rfl rfl (le_lit rfl) rfl rfl rfl ?_)
            intro w256 p257 hs258
            replace f_g70 := f_g70.step p257; replace f_y72 := f_y72.step p257; replace f_y237_sectors := f_y237_sectors.step p257; replace f_y237_pending := f_y237_pending.step p257; replace f_y254_sectors := f_y254_sectors.step p257; replace f_y254_pending := f_y254_pending.step p257; replace ch87 := ch87.trans p257; clear p257 hs248
            refine Rg_op rfl (op_assign (v := (Value.int .i64 sync_2.2)) rfl ?_)
            refine Rg_nil ?_
            refine Wp_seq ?_
            clear f_y237_sectors f_y237_pending
            refine Wp_region ?_
            refine Rg_op rfl (op_loadA (cs := [(Value.slice a_y254_sectors sync_2.1.sectors.length c_y254_sectors), (Value.slice a_y254_pending sync_2.1.pending.length c_y254_pending), (Value.int .i64 sync_2.1.left), (Value.bool sync_2.1.stopped)]) (vs := [(Value.slice a_y254_sectors sync_2.1.sectors.length c_y254_sectors), (Value.slice a_y254_pending sync_2.1.pending.length c_y254_pending), (Value.int .i64 sync_2.1.left), (Value.bool sync_2.1.stopped)]) (i := 0) ty25 hs258 rfl rfl rfl rfl ?_)
            replace hm := bd hm; obtain ⟨open_2, hv259, hm⟩ := hm
            refine Rg_op rfl (op_call Try.call38 (c38_journal_Open (d := sync_2.1) hs258.ltw f_y254_sectors f_y254_pending r_y254_left hv259) rfl ?_)
            rintro v260 w261 ⟨hx262, h263⟩
            have hs264 := hs258.call hx262
            have p265 := Step.ext (O := ks [(some b140, Obj.cells [(Value.slice a_y254_sectors sync_2.1.sectors.length c_y254_sectors), (Value.slice a_y254_pending sync_2.1.pending.length c_y254_pending), (Value.int .i64 sync_2.1.left), (Value.bool sync_2.1.stopped)].toArray 25), (some b168, o_g70), (some b57, Obj.cells [(Value.slice a_y72 v_3.length c_y72), (Value.int .i64 v_4), (Value.int .i64 v_5)].toArray 52)] O) hx262
            clear hx262
            replace f_g70 := f_g70.step p265; replace f_y72 := f_y72.step p265; replace f_y254_sectors := f_y254_sectors.step p265; replace f_y254_pending := f_y254_pending.step p265; replace ch87 := ch87.trans p265; clear p265 hs258
            obtain ⟨v266, v267, rfl, h268, h269⟩ := h263
            obtain ⟨_, rfl, ⟨_, _, rfl, ⟨a_y270_records, c_y270_records, rfl, f_y270_records⟩, ⟨_, _, rfl, ⟨rfl, r_y270_many⟩, ⟨rfl, r_y270_synced⟩⟩⟩⟩ := h268
            obtain ⟨rfl, r_y271⟩ := h269
            refine Rg_op rfl (op_move (v := (Value.tuple [(Value.agg [(Value.slice a_y270_records open_2.1.records.length c_y270_records), (Value.int .i64 open_2.1.many), (Value.int .i64 open_2.1.synced)].toArray), (Value.int .i64 open_2.2)].toArray)) rfl ?_)
            refine Rg_op rfl (op_extract (v := (Value.agg [(Value.slice a_y270_records open_2.1.records.length c_y270_records), (Value.int .i64 open_2.1.many), (Value.int .i64 open_2.1.synced)].toArray)) rfl rfl ?_)
            refine Rg_op rfl (op_extract (v := (Value.int .i64 open_2.2)) rfl rfl ?_)
            refine Rg_op rfl (op_alloc ty52 hs264 ?_)
            intro b272 w273 _ p274 hs275
            replace f_g70 := f_g70.step p274; replace f_y72 := f_y72.step p274; replace f_y254_sectors := f_y254_sectors.step p274; replace f_y254_pending := f_y254_pending.step p274; replace f_y270_records := f_y270_records.step p274; replace ch87 := ch87.trans p274; clear p274 hs264
            refine Rg_op_ (op_store (cs := [(Value.slice none 0 0), (Value.int .i64 0), (Value.int .i64 0)]) (vs := [(Value.slice a_y270_records open_2.1.records.length c_y270_records), (Value.int .i64 open_2.1.many), (Value.int .i64 open_2.1.synced)]) (cs' := [(Value.slice a_y270_records open_2.1.records.length c_y270_records), (Value.int .i64 open_2.1.many), (Value.int .i64 open_2.1.synced)]) (bs' := [(some b272, Obj.cells [(Value.slice a_y270_records open_2.1.records.length c_y270_records), (Value.int .i64 open_2.1.many), (Value.int .i64 open_2.1.synced)].toArray 52), (some b140, Obj.cells [(Value.slice a_y254_sectors sync_2.1.sectors.length c_y254_sectors), (Value.slice a_y254_pending sync_2.1.pending.length c_y254_pending), (Value.int .i64 sync_2.1.left), (Value.bool sync_2.1.stopped)].toArray 25), (some b168, o_g70), (some b57, Obj.cells [(Value.slice a_y72 v_3.length c_y72), (Value.int .i64 v_4), (Value.int .i64 v_5)].toArray 52)]) (i := 0) ty52 hs275 rfl rfl rfl rfl rfl (le_lit rfl) rfl rfl rfl ?_)
            intro w277 p278 hs279
            replace f_g70 := f_g70.step p278; replace f_y72 := f_y72.step p278; replace f_y254_sectors := f_y254_sectors.step p278; replace f_y254_pending := f_y254_pending.step p278; replace f_y270_records := f_y270_records.step p278; replace ch87 := ch87.trans p278; clear p278 hs275
            refine Rg_op rfl (op_assign (v := (Value.int .i64 open_2.2)) rfl ?_)
            refine Rg_nil ?_
            refine Wp_seq ?_
            obtain ⟨hs280, p281⟩ := hs279.sub (bs' := [(some b272, Obj.cells [(Value.slice a_y270_records open_2.1.records.length c_y270_records), (Value.int .i64 open_2.1.many), (Value.int .i64 open_2.1.synced)].toArray 52), (some b168, o_g70), (some b57, Obj.cells [(Value.slice a_y72 v_3.length c_y72), (Value.int .i64 v_4), (Value.int .i64 v_5)].toArray 52)]) (.cons_cons _ (.cons _ (.cons_cons _ (.cons_cons _ List.Sublist.slnil))))
            clear f_y254_sectors f_y254_pending
            replace f_g70 := f_g70.step p281; replace f_y72 := f_y72.step p281; replace f_y270_records := f_y270_records.step p281; replace ch87 := ch87.trans p281; clear p281 hs279
            refine Wp_region ?_
            refine Rg_op rfl (op_assign (v := (Value.int .i64 0)) rfl ?_)
            refine Rg_nil ?_
            refine Wp_reset [] [(11, (Value.pointer (some ⟨b57, 0, none⟩))), (13, (Value.slice (some ⟨b168, 0, none⟩) ends_1.length c_g70)), (21, (Value.int .i64 write_1.2)), (22, (Value.int .i64 (IntKind.wrap .i64 ((IntKind.wrap .u64 sector).tmod (IntKind.wrap .u64 (ends_1.getD (IntKind.wrap .i64 ((ends_1.length : Int) - 1)).toNat default)))))), (24, (Value.int .i64 sync_2.2)), (25, (Value.pointer (some ⟨b272, 0, none⟩))), (26, (Value.int .i64 open_2.2)), (27, (Value.int .i64 0))] rfl ⟨rfl, rfl, rfl, rfl, rfl, rfl, rfl, rfl, trivial⟩ fun ξ282 => ?_
            replace hm := jn_elim hm; obtain ⟨k284, hk285, hm⟩ := hm
            refine Wp_seqJ [27, 178, 179, 180, 181, 182, 183, 184, 185, 186, 187, 188, 189, 190, 191] (fun fr w' => ∃ (want_1 : Int) (Ebs : Ents), Ebs = [(some b272, Obj.cells [(Value.slice a_y270_records open_2.1.records.length c_y270_records), (Value.int .i64 open_2.1.many), (Value.int .i64 open_2.1.synced)].toArray 52), (some b168, o_g70), (some b57, Obj.cells [(Value.slice a_y72 v_3.length c_y72), (Value.int .i64 v_4), (Value.int .i64 v_5)].toArray 52)] ∧ fr [] [(27, (Value.int .i64 want_1))] ∧ Step (ks [(some b272, Obj.cells [(Value.slice a_y270_records open_2.1.records.length c_y270_records), (Value.int .i64 open_2.1.many), (Value.int .i64 open_2.1.synced)].toArray 52), (some b168, o_g70), (some b57, Obj.cells [(Value.slice a_y72 v_3.length c_y72), (Value.int .i64 v_4), (Value.int .i64 v_5)].toArray 52)] O) w277 (ks Ebs O) w' ∧ St ⟨w, [], []⟩ O w' Ebs ∧ InK .i64 want_1 ∧ k284 want_1 = some x) ?_ ?_
            ·
             rintro ρ291 w287 ⟨want_1, Ebs, hEbs, hfr290, hst289, hs288, r_y283, hm⟩
             replace hm := jnE1 hk285 hm
             subst hEbs; rw [hfr290.eq]; clear hfr290
             replace f_g70 := f_g70.step hst289; replace f_y72 := f_y72.step hst289; replace f_y270_records := f_y270_records.step hst289; replace ch87 := ch87.trans hst289; clear hst289 hs280
             refine Wp_reset [] [(11, (Value.pointer (some ⟨b57, 0, none⟩))), (21, (Value.int .i64 write_1.2)), (24, (Value.int .i64 sync_2.2)), (25, (Value.pointer (some ⟨b272, 0, none⟩))), (26, (Value.int .i64 open_2.2)), (27, (Value.int .i64 want_1))] rfl ⟨rfl, rfl, rfl, rfl, rfl, rfl, trivial⟩ fun ξ292 => ?_
             replace hm := jn_elim hm; obtain ⟨k294, hk295, hm⟩ := hm
             refine Wp_seqJ [8, 192, 193, 194, 195, 196, 197, 198, 199, 200, 201, 202, 203, 204, 205, 206, 207, 208, 209, 210] (fun fr w' => ∃ (v_8 : Bool) (Ebs : Ents), Ebs = [(some b272, Obj.cells [(Value.slice a_y270_records open_2.1.records.length c_y270_records), (Value.int .i64 open_2.1.many), (Value.int .i64 open_2.1.synced)].toArray 52), (some b168, o_g70), (some b57, Obj.cells [(Value.slice a_y72 v_3.length c_y72), (Value.int .i64 v_4), (Value.int .i64 v_5)].toArray 52)] ∧ fr [] [(8, (Value.bool v_8))] ∧ Step (ks [(some b272, Obj.cells [(Value.slice a_y270_records open_2.1.records.length c_y270_records), (Value.int .i64 open_2.1.many), (Value.int .i64 open_2.1.synced)].toArray 52), (some b168, o_g70), (some b57, Obj.cells [(Value.slice a_y72 v_3.length c_y72), (Value.int .i64 v_4), (Value.int .i64 v_5)].toArray 52)] O) w287 (ks Ebs O) w' ∧ St ⟨w, [], []⟩ O w' Ebs ∧ k294 v_8 = some x) ?_ ?_
             ·
              rintro ρ301 w297 ⟨v_8, Ebs, hEbs, hfr300, hst299, hs298, hm⟩
              replace hm := jnE1 hk295 hm
              subst hEbs; rw [hfr300.eq]; clear hfr300
              replace f_g70 := f_g70.step hst299; replace f_y72 := f_y72.step hst299; replace f_y270_records := f_y270_records.step hst299; replace ch87 := ch87.trans hst299; clear hst299 hs288
              refine Wp_ret ?_
              have hz := step_all hs298
              replace f_g70 := f_g70.step hz; replace f_y72 := f_y72.step hz; replace f_y270_records := f_y270_records.step hz
              refine ⟨_, (show Closes [] _ _ from rfl), [(Value.bool v_8)], ⟨rfl, trivial⟩, hs298.ext, ?_⟩
              exact Vr.eq (a := vB) (x := v_8) rfl (Option.some.inj hm)
             ·
              intro K296 hK296
              have ch302 := Step.refl (ks [(some b272, Obj.cells [(Value.slice a_y270_records open_2.1.records.length c_y270_records), (Value.int .i64 open_2.1.many), (Value.int .i64 open_2.1.synced)].toArray 52), (some b168, o_g70), (some b57, Obj.cells [(Value.slice a_y72 v_3.length c_y72), (Value.int .i64 v_4), (Value.int .i64 v_5)].toArray 52)] O) w287
              clear f_g70
              refine Wp_drawR (g0 := []) (m := 17) (fl := []) (TS_inv hs288) rfl (.inl rfl) rfl (by decide +kernel) ?_  -- 35
              refine Dw_eq (Value.int .i64 write_1.2) (fun ρ303 w304 g hle hi ht => ?_) ?_
              ·
               obtain ⟨-, hst, -⟩ := hle
               refine StepOp_plain (op_move (v := (Value.int .i64 write_1.2)) (ht 21 rfl) ?_)
               exact Goes.same hi rfl
              refine Dw_eq (Value.bool (decide (write_1.2 = 0))) (fun ρ306 w307 g hle hi ht => ?_) ?_
              ·
               obtain ⟨-, hst, -⟩ := hle
               refine StepOp_plain (op_eql (ht 192 rfl) rfl ?_)
               exact Goes.same hi rfl
              refine Dw_opB (decide (write_1.2 = 0)) (fun ρ309 w310 g hle hi ht => ?_) (fun hg312 => ?_) (fun hg312 => ?_)
              ·
               obtain ⟨-, hst, -⟩ := hle
               refine StepOp_plain (op_move (v := (Value.bool (decide (write_1.2 = 0)))) (ht 193 rfl) ?_)
               exact Goes.same hi rfl
              ·
               replace hm := bif_t hm hg312
               refine Dw_eq (Value.int .i64 sync_2.2) (fun ρ313 w314 g hle hi ht => ?_) ?_
               ·
                obtain ⟨-, hst, -⟩ := hle
                refine StepOp_g rfl (ht 194 rfl) (op_move (v := (Value.int .i64 sync_2.2)) (ht 24 rfl) ?_)
                exact Goes.same hi rfl
               refine Dw_eq (Value.bool (decide (sync_2.2 = 0))) (fun ρ316 w317 g hle hi ht => ?_) ?_
               ·
                obtain ⟨-, hst, -⟩ := hle
                refine StepOp_g rfl (ht 194 rfl) (op_eql (ht 195 rfl) rfl ?_)
                exact Goes.same hi rfl
               refine Dw_eq (Value.bool (decide (sync_2.2 = 0))) (fun ρ319 w320 g hle hi ht => ?_) ?_
               ·
                obtain ⟨-, hst, -⟩ := hle
                refine StepOp_plain (op_pick_t (v := (Value.bool (decide (sync_2.2 = 0)))) (ht 194 rfl) (ht 196 rfl) ?_)
                exact Goes.same hi rfl
               refine Dw_opB (decide (sync_2.2 = 0)) (fun ρ322 w323 g hle hi ht => ?_) (fun hg325 => ?_) (fun hg325 => ?_)
               ·
                obtain ⟨-, hst, -⟩ := hle
                refine StepOp_plain (op_move (v := (Value.bool (decide (sync_2.2 = 0)))) (ht 197 rfl) ?_)
                exact Goes.same hi rfl
               ·
                replace hm := bif_t hm hg325
                refine Dw_eq (Value.int .i64 open_2.2) (fun ρ326 w327 g hle hi ht => ?_) ?_
                ·
                 obtain ⟨-, hst, -⟩ := hle
                 refine StepOp_g rfl (ht 198 rfl) (op_move (v := (Value.int .i64 open_2.2)) (ht 26 rfl) ?_)
                 exact Goes.same hi rfl
                refine Dw_eq (Value.bool (decide (open_2.2 = 0))) (fun ρ329 w330 g hle hi ht => ?_) ?_
                ·
                 obtain ⟨-, hst, -⟩ := hle
                 refine StepOp_g rfl (ht 198 rfl) (op_eql (ht 199 rfl) rfl ?_)
                 exact Goes.same hi rfl
                refine Dw_eq (Value.bool (decide (open_2.2 = 0))) (fun ρ332 w333 g hle hi ht => ?_) ?_
                ·
                 obtain ⟨-, hst, -⟩ := hle
                 refine StepOp_plain (op_pick_t (v := (Value.bool (decide (open_2.2 = 0)))) (ht 198 rfl) (ht 200 rfl) ?_)
                 exact Goes.same hi rfl
                refine Dw_opB (decide (open_2.2 = 0)) (fun ρ335 w336 g hle hi ht => ?_) (fun hg338 => ?_) (fun hg338 => ?_)
                ·
                 obtain ⟨-, hst, -⟩ := hle
                 refine StepOp_plain (op_move (v := (Value.bool (decide (open_2.2 = 0)))) (ht 201 rfl) ?_)
                 exact Goes.same hi rfl
                ·
                 replace hm := bif_t hm hg338
                 refine Dw_eq (Value.pointer (some ⟨b272, 0, none⟩)) (fun ρ339 w340 g hle hi ht => ?_) ?_
                 ·
                  obtain ⟨-, hst, -⟩ := hle
                  refine StepOp_g rfl (ht 202 rfl) (op_fieldAddr ty52 rfl ty22 (by decide) (ht 25 rfl) (rfl : _ = (⟨_, 0, none⟩ : Addr)) ?_)
                  exact Goes.same hi rfl
                 refine Dw_eq (Value.slice a_y270_records open_2.1.records.length c_y270_records) (fun ρ342 w343 g hle hi ht => ?_) ?_
                 ·
                  obtain ⟨-, hst, -⟩ := hle
                  have hsn := (Step.nx hi).1
                  refine StepOp_g rfl (ht 202 rfl) (op_load (cs := [(Value.slice a_y270_records open_2.1.records.length c_y270_records), (Value.int .i64 open_2.1.many), (Value.int .i64 open_2.1.synced)]) (i := 0) ty22 hsn (ht 203 rfl) rfl rfl ?_)
                  exact Goes.same hi rfl
                 refine Dw_eq (Value.pointer (some ⟨b57, 0, none⟩)) (fun ρ345 w346 g hle hi ht => ?_) ?_
                 ·
                  obtain ⟨-, hst, -⟩ := hle
                  refine StepOp_g rfl (ht 202 rfl) (op_fieldAddr ty52 rfl ty22 (by decide) (ht 11 rfl) (rfl : _ = (⟨_, 0, none⟩ : Addr)) ?_)
                  exact Goes.same hi rfl
                 refine Dw_eq (Value.slice a_y72 v_3.length c_y72) (fun ρ348 w349 g hle hi ht => ?_) ?_
                 ·
                  obtain ⟨-, hst, -⟩ := hle
                  have hsn := (Step.nx hi).1
                  refine StepOp_g rfl (ht 202 rfl) (op_load (cs := [(Value.slice a_y72 v_3.length c_y72), (Value.int .i64 v_4), (Value.int .i64 v_5)]) (i := 2) ty22 hsn (ht 205 rfl) rfl rfl ?_)
                  exact Goes.same hi rfl
                 refine Dw_eq (Value.int .i64 want_1) (fun ρ351 w352 g hle hi ht => ?_) ?_
                 ·
                  obtain ⟨-, hst, -⟩ := hle
                  refine StepOp_g rfl (ht 202 rfl) (op_move (v := (Value.int .i64 want_1)) (ht 27 rfl) ?_)
                  exact Goes.same hi rfl
                 replace hm := ck_some hm; obtain ⟨hc357, hm⟩ := hm
                 refine Dw_op (VD O [(some b272, Obj.cells [(Value.slice a_y270_records open_2.1.records.length c_y270_records), (Value.int .i64 open_2.1.many), (Value.int .i64 open_2.1.synced)].toArray 52), (some b168, o_g70), (some b57, Obj.cells [(Value.slice a_y72 v_3.length c_y72), (Value.int .i64 v_4), (Value.int .i64 v_5)].toArray 52)] (vC (rSl (rSl rU8))) ((v_3.drop 0).take (want_1.toNat - 0))) (VD.stab _ _) (fun ρ354 w355 g hle hi ht => ?_) ?_
                 ·
                  obtain ⟨-, hst, -⟩ := hle
                  replace f_y72 := f_y72.step hst
                  refine StepOp_g rfl (ht 202 rfl) (op_slice (q := (rSl rU8)) (l := 0) (h := want_1.toNat) (m := c_y72) ty22 ty41 (ht 206 rfl) f_y72 rfl rfl (bndI (ht 207 rfl) (by omega)) rfl (by decide) (by omega) (by omega) (by have h_ : v_3.length ≤ c_y72 := f_y72.le; omega) (by have h_ : v_3.length ≤ c_y72 := f_y72.le; omega) ?_)
                  intro a358 f359
                  exact Goes.same hi (show Vr.vd (vC (rSl (rSl rU8))) _ _ _ _ from (mkC (mk_sl f359)))
                 refine Dw_nil fun w364 g365 hl366 hi367 => ?_
                 obtain ⟨-, hst368, -⟩ := hl366
                 obtain ⟨hs370, p369⟩ := Step.nx hi367
                 rintro v371 h372
                 replace h372 : Vr.vd (vC (rSl (rSl rU8))) _ _ _ _ := h372
                 obtain ⟨a_y373, c_y373, rfl, f_y373⟩ := un_sl h372
                 rintro _ rfl
                 rintro _ rfl
                 rintro _ rfl
                 rintro _ rfl
                 rintro _ rfl
                 rintro _ rfl
                 rintro _ rfl
                 rintro _ rfl
                 rintro _ rfl
                 rintro _ rfl
                 rintro _ rfl
                 rintro _ rfl
                 rintro _ rfl
                 rintro _ rfl
                 rintro _ rfl
                 rintro _ rfl
                 have p374 : Step (ks [(some b272, Obj.cells [(Value.slice a_y270_records open_2.1.records.length c_y270_records), (Value.int .i64 open_2.1.many), (Value.int .i64 open_2.1.synced)].toArray 52), (some b168, o_g70), (some b57, Obj.cells [(Value.slice a_y72 v_3.length c_y72), (Value.int .i64 v_4), (Value.int .i64 v_5)].toArray 52)] O) w287 (ks [(some b272, Obj.cells [(Value.slice a_y270_records open_2.1.records.length c_y270_records), (Value.int .i64 open_2.1.many), (Value.int .i64 open_2.1.synced)].toArray 52), (some b168, o_g70), (some b57, Obj.cells [(Value.slice a_y72 v_3.length c_y72), (Value.int .i64 v_4), (Value.int .i64 v_5)].toArray 52)] O) w364 := hst368.trans p369
                 replace f_y373 := f_y373.step p369; replace f_y72 := f_y72.step p374; replace f_y270_records := f_y270_records.step p374; replace ch87 := ch87.trans p374; replace ch302 := ch302.trans p374; clear p374 hs288
                 replace hm := bd hm; obtain ⟨samerecords_1, hv375, hm⟩ := hm
                 refine Rg_opg rfl rfl rfl (op_call Try.call37 (c37_overflightref45_SameRecords (a := open_2.1.records) (b := ((v_3.drop 0).take (want_1.toNat - 0))) hs370.ltw f_y270_records f_y373 hv375) rfl ?_)
                 rintro v376 w377 ⟨hx378, h379⟩
                 have hs380 := hs370.call hx378
                 have p381 := Step.ext (O := ks [(some b272, Obj.cells [(Value.slice a_y270_records open_2.1.records.length c_y270_records), (Value.int .i64 open_2.1.many), (Value.int .i64 open_2.1.synced)].toArray 52), (some b168, o_g70), (some b57, Obj.cells [(Value.slice a_y72 v_3.length c_y72), (Value.int .i64 v_4), (Value.int .i64 v_5)].toArray 52)] O) hx378
                 clear hx378
                 replace f_y72 := f_y72.step p381; replace f_y270_records := f_y270_records.step p381; replace f_y373 := f_y373.step p381; replace ch87 := ch87.trans p381; replace ch302 := ch302.trans p381; clear p381 hs370
                 obtain rfl := h379
                 refine Rg_op rfl (op_pick_t (v := (Value.bool samerecords_1)) rfl rfl ?_)
                 refine Rg_op rfl (op_assign (v := (Value.bool samerecords_1)) rfl ?_)
                 refine Rg_nil ?_
                 exact hK296 _ _ ⟨samerecords_1, _, rfl, ⟨(by repeat (first | with_reducible exact Out.refl _ _ | refine Out.upd ?_ rfl | refine Out.updL ?_ rfl | refine Out.mix' ?_ rfl | exact Out.refl _ _)), rfl, rfl, trivial⟩, ch302, hs380, hm⟩
                ·
                 replace hm := bif_f hm hg338
                 refine Dw_skip (fun _ _ _ ht => wanted_x rfl (ht 202 rfl) rfl) ?_
                 refine Dw_skip (fun _ _ _ ht => wanted_x rfl (ht 202 rfl) rfl) ?_
                 refine Dw_skip (fun _ _ _ ht => wanted_x rfl (ht 202 rfl) rfl) ?_
                 refine Dw_skip (fun _ _ _ ht => wanted_x rfl (ht 202 rfl) rfl) ?_
                 refine Dw_skip (fun _ _ _ ht => wanted_x rfl (ht 202 rfl) rfl) ?_
                 refine Dw_skip (fun _ _ _ ht => wanted_x rfl (ht 202 rfl) rfl) ?_
                 refine Dw_nil fun w387 g388 hl389 hi390 => ?_
                 obtain ⟨-, hst391, -⟩ := hl389
                 obtain ⟨hs393, p392⟩ := Step.nx hi390
                 rintro _ rfl
                 rintro _ rfl
                 rintro _ rfl
                 rintro _ rfl
                 rintro _ rfl
                 rintro _ rfl
                 rintro _ rfl
                 rintro _ rfl
                 rintro _ rfl
                 rintro _ rfl
                 rintro _ rfl
                 rintro _ rfl
                 rintro _ rfl
                 rintro _ rfl
                 rintro _ rfl
                 rintro _ rfl
                 rintro _ rfl
                 have p394 : Step (ks [(some b272, Obj.cells [(Value.slice a_y270_records open_2.1.records.length c_y270_records), (Value.int .i64 open_2.1.many), (Value.int .i64 open_2.1.synced)].toArray 52), (some b168, o_g70), (some b57, Obj.cells [(Value.slice a_y72 v_3.length c_y72), (Value.int .i64 v_4), (Value.int .i64 v_5)].toArray 52)] O) w287 (ks [(some b272, Obj.cells [(Value.slice a_y270_records open_2.1.records.length c_y270_records), (Value.int .i64 open_2.1.many), (Value.int .i64 open_2.1.synced)].toArray 52), (some b168, o_g70), (some b57, Obj.cells [(Value.slice a_y72 v_3.length c_y72), (Value.int .i64 v_4), (Value.int .i64 v_5)].toArray 52)] O) w387 := hst391.trans p392
                 replace f_y72 := f_y72.step p394; replace f_y270_records := f_y270_records.step p394; replace ch87 := ch87.trans p394; replace ch302 := ch302.trans p394; clear p394 hs288
                 refine Rg_opx rfl (asB_ne rfl rfl) rfl ?_
                 refine Rg_op rfl (op_pick_f (v := (Value.bool false)) rfl rfl ?_)
                 refine Rg_op rfl (op_assign (v := (Value.bool false)) rfl ?_)
                 refine Rg_nil ?_
                 exact hK296 _ _ ⟨false, _, rfl, ⟨(by repeat (first | with_reducible exact Out.refl _ _ | refine Out.upd ?_ rfl | refine Out.updL ?_ rfl | refine Out.mix' ?_ rfl | exact Out.refl _ _)), rfl, rfl, trivial⟩, ch302, hs393, hm⟩
               ·
                replace hm := bif_f hm hg325
                refine Dw_skip (fun _ _ _ ht => wanted_x rfl (ht 198 rfl) rfl) ?_
                refine Dw_skip (fun _ _ _ ht => wanted_x rfl (ht 198 rfl) rfl) ?_
                refine Dw_eq (Value.bool false) (fun ρ395 w396 g hle hi ht => ?_) ?_
                ·
                 obtain ⟨-, hst, -⟩ := hle
                 refine StepOp_plain (op_pick_f (v := (Value.bool false)) (ht 198 rfl) rfl ?_)
                 exact Goes.same hi rfl
                refine Dw_eq (Value.bool false) (fun ρ398 w399 g hle hi ht => ?_) ?_
                ·
                 obtain ⟨-, hst, -⟩ := hle
                 refine StepOp_plain (op_move (v := (Value.bool false)) (ht 201 rfl) ?_)
                 exact Goes.same hi rfl
                refine Dw_skip (fun _ _ _ ht => wanted_x rfl (ht 202 rfl) rfl) ?_
                refine Dw_skip (fun _ _ _ ht => wanted_x rfl (ht 202 rfl) rfl) ?_
                refine Dw_skip (fun _ _ _ ht => wanted_x rfl (ht 202 rfl) rfl) ?_
                refine Dw_skip (fun _ _ _ ht => wanted_x rfl (ht 202 rfl) rfl) ?_
                refine Dw_skip (fun _ _ _ ht => wanted_x rfl (ht 202 rfl) rfl) ?_
                refine Dw_skip (fun _ _ _ ht => wanted_x rfl (ht 202 rfl) rfl) ?_
                refine Dw_nil fun w405 g406 hl407 hi408 => ?_
                obtain ⟨-, hst409, -⟩ := hl407
                obtain ⟨hs411, p410⟩ := Step.nx hi408
                rintro _ rfl
                rintro _ rfl
                rintro _ rfl
                rintro _ rfl
                rintro _ rfl
                rintro _ rfl
                rintro _ rfl
                rintro _ rfl
                rintro _ rfl
                rintro _ rfl
                rintro _ rfl
                rintro _ rfl
                rintro _ rfl
                rintro _ rfl
                rintro _ rfl
                rintro _ rfl
                rintro _ rfl
                have p412 : Step (ks [(some b272, Obj.cells [(Value.slice a_y270_records open_2.1.records.length c_y270_records), (Value.int .i64 open_2.1.many), (Value.int .i64 open_2.1.synced)].toArray 52), (some b168, o_g70), (some b57, Obj.cells [(Value.slice a_y72 v_3.length c_y72), (Value.int .i64 v_4), (Value.int .i64 v_5)].toArray 52)] O) w287 (ks [(some b272, Obj.cells [(Value.slice a_y270_records open_2.1.records.length c_y270_records), (Value.int .i64 open_2.1.many), (Value.int .i64 open_2.1.synced)].toArray 52), (some b168, o_g70), (some b57, Obj.cells [(Value.slice a_y72 v_3.length c_y72), (Value.int .i64 v_4), (Value.int .i64 v_5)].toArray 52)] O) w405 := hst409.trans p410
                replace f_y72 := f_y72.step p412; replace f_y270_records := f_y270_records.step p412; replace ch87 := ch87.trans p412; replace ch302 := ch302.trans p412; clear p412 hs288
                refine Rg_opx rfl (asB_ne rfl rfl) rfl ?_
                refine Rg_op rfl (op_pick_f (v := (Value.bool false)) rfl rfl ?_)
                refine Rg_op rfl (op_assign (v := (Value.bool false)) rfl ?_)
                refine Rg_nil ?_
                exact hK296 _ _ ⟨false, _, rfl, ⟨(by repeat (first | with_reducible exact Out.refl _ _ | refine Out.upd ?_ rfl | refine Out.updL ?_ rfl | refine Out.mix' ?_ rfl | exact Out.refl _ _)), rfl, rfl, trivial⟩, ch302, hs411, hm⟩
              ·
               replace hm := bif_f hm hg312
               refine Dw_skip (fun _ _ _ ht => wanted_x rfl (ht 194 rfl) rfl) ?_
               refine Dw_skip (fun _ _ _ ht => wanted_x rfl (ht 194 rfl) rfl) ?_
               refine Dw_eq (Value.bool false) (fun ρ413 w414 g hle hi ht => ?_) ?_
               ·
                obtain ⟨-, hst, -⟩ := hle
                refine StepOp_plain (op_pick_f (v := (Value.bool false)) (ht 194 rfl) rfl ?_)
                exact Goes.same hi rfl
               refine Dw_eq (Value.bool false) (fun ρ416 w417 g hle hi ht => ?_) ?_
               ·
                obtain ⟨-, hst, -⟩ := hle
                refine StepOp_plain (op_move (v := (Value.bool false)) (ht 197 rfl) ?_)
                exact Goes.same hi rfl
               refine Dw_skip (fun _ _ _ ht => wanted_x rfl (ht 198 rfl) rfl) ?_
               refine Dw_skip (fun _ _ _ ht => wanted_x rfl (ht 198 rfl) rfl) ?_
               refine Dw_eq (Value.bool false) (fun ρ419 w420 g hle hi ht => ?_) ?_
               ·
                obtain ⟨-, hst, -⟩ := hle
                refine StepOp_plain (op_pick_f (v := (Value.bool false)) (ht 198 rfl) rfl ?_)
                exact Goes.same hi rfl
               refine Dw_eq (Value.bool false) (fun ρ422 w423 g hle hi ht => ?_) ?_
               ·
                obtain ⟨-, hst, -⟩ := hle
                refine StepOp_plain (op_move (v := (Value.bool false)) (ht 201 rfl) ?_)
                exact Goes.same hi rfl
               refine Dw_skip (fun _ _ _ ht => wanted_x rfl (ht 202 rfl) rfl) ?_
               refine Dw_skip (fun _ _ _ ht => wanted_x rfl (ht 202 rfl) rfl) ?_
               refine Dw_skip (fun _ _ _ ht => wanted_x rfl (ht 202 rfl) rfl) ?_
               refine Dw_skip (fun _ _ _ ht => wanted_x rfl (ht 202 rfl) rfl) ?_
               refine Dw_skip (fun _ _ _ ht => wanted_x rfl (ht 202 rfl) rfl) ?_
               refine Dw_skip (fun _ _ _ ht => wanted_x rfl (ht 202 rfl) rfl) ?_
               refine Dw_nil fun w429 g430 hl431 hi432 => ?_
               obtain ⟨-, hst433, -⟩ := hl431
               obtain ⟨hs435, p434⟩ := Step.nx hi432
               rintro _ rfl
               rintro _ rfl
               rintro _ rfl
               rintro _ rfl
               rintro _ rfl
               rintro _ rfl
               rintro _ rfl
               rintro _ rfl
               rintro _ rfl
               rintro _ rfl
               rintro _ rfl
               rintro _ rfl
               rintro _ rfl
               rintro _ rfl
               rintro _ rfl
               rintro _ rfl
               rintro _ rfl
               have p436 : Step (ks [(some b272, Obj.cells [(Value.slice a_y270_records open_2.1.records.length c_y270_records), (Value.int .i64 open_2.1.many), (Value.int .i64 open_2.1.synced)].toArray 52), (some b168, o_g70), (some b57, Obj.cells [(Value.slice a_y72 v_3.length c_y72), (Value.int .i64 v_4), (Value.int .i64 v_5)].toArray 52)] O) w287 (ks [(some b272, Obj.cells [(Value.slice a_y270_records open_2.1.records.length c_y270_records), (Value.int .i64 open_2.1.many), (Value.int .i64 open_2.1.synced)].toArray 52), (some b168, o_g70), (some b57, Obj.cells [(Value.slice a_y72 v_3.length c_y72), (Value.int .i64 v_4), (Value.int .i64 v_5)].toArray 52)] O) w429 := hst433.trans p434
               replace f_y72 := f_y72.step p436; replace f_y270_records := f_y270_records.step p436; replace ch87 := ch87.trans p436; replace ch302 := ch302.trans p436; clear p436 hs288
               refine Rg_opx rfl (asB_ne rfl rfl) rfl ?_
               refine Rg_op rfl (op_pick_f (v := (Value.bool false)) rfl rfl ?_)
               refine Rg_op rfl (op_assign (v := (Value.bool false)) rfl ?_)
               refine Rg_nil ?_
               exact hK296 _ _ ⟨false, _, rfl, ⟨(by repeat (first | with_reducible exact Out.refl _ _ | refine Out.upd ?_ rfl | refine Out.updL ?_ rfl | refine Out.mix' ?_ rfl | exact Out.refl _ _)), rfl, rfl, trivial⟩, ch302, hs435, hm⟩
            ·
             intro K286 hK286
             have ch437 := Step.refl (ks [(some b272, Obj.cells [(Value.slice a_y270_records open_2.1.records.length c_y270_records), (Value.int .i64 open_2.1.many), (Value.int .i64 open_2.1.synced)].toArray 52), (some b168, o_g70), (some b57, Obj.cells [(Value.slice a_y72 v_3.length c_y72), (Value.int .i64 v_4), (Value.int .i64 v_5)].toArray 52)] O) w277
             refine Wp_block ?_
             refine Wp_reset2 [27, 178, 179, 180, 181, 182, 183, 184, 185, 186, 187, 188, 189, 190, 191] [] (updL ⟨ξ282, []⟩ [(11, (Value.pointer (some ⟨b57, 0, none⟩))), (13, (Value.slice (some ⟨b168, 0, none⟩) ends_1.length c_g70)), (21, (Value.int .i64 write_1.2)), (22, (Value.int .i64 (IntKind.wrap .i64 ((IntKind.wrap .u64 sector).tmod (IntKind.wrap .u64 (ends_1.getD (IntKind.wrap .i64 ((ends_1.length : Int) - 1)).toNat default)))))), (24, (Value.int .i64 sync_2.2)), (25, (Value.pointer (some ⟨b272, 0, none⟩))), (26, (Value.int .i64 open_2.2)), (27, (Value.int .i64 0))]) [(27, (Value.int .i64 0))] (by repeat (first | with_reducible exact Out.refl _ _ | refine Out.upd ?_ rfl | refine Out.updL ?_ rfl | refine Out.mix' ?_ rfl | exact Out.refl _ _)) rfl ⟨rfl, trivial⟩ fun ξ439 => ?_
             refine Wp_loopM [27, 178, 179, 180, 181, 182, 183, 184, 185, 186, 187, 188, 189, 190, 191] (fun m fr w' => ∃ (want_2 : Int) (Ebs : Ents), Ebs = [(some b272, Obj.cells [(Value.slice a_y270_records open_2.1.records.length c_y270_records), (Value.int .i64 open_2.1.many), (Value.int .i64 open_2.1.synced)].toArray 52), (some b168, o_g70), (some b57, Obj.cells [(Value.slice a_y72 v_3.length c_y72), (Value.int .i64 v_4), (Value.int .i64 v_5)].toArray 52)] ∧ fr [] [(27, (Value.int .i64 want_2))] ∧ Step (ks [(some b272, Obj.cells [(Value.slice a_y270_records open_2.1.records.length c_y270_records), (Value.int .i64 open_2.1.many), (Value.int .i64 open_2.1.synced)].toArray 52), (some b168, o_g70), (some b57, Obj.cells [(Value.slice a_y72 v_3.length c_y72), (Value.int .i64 v_4), (Value.int .i64 v_5)].toArray 52)] O) w277 (ks Ebs O) w' ∧ St ⟨w, [], []⟩ O w' Ebs ∧ InK .i64 want_2 ∧ loop1 (m10_overflightlaw45_JournalDamage_B1 sector ends_1 k284) m want_2 = some x) (1000000) ⟨0, _, rfl, ⟨Out.refl _ _, rfl, rfl, trivial⟩, Step.refl _ _, hs280, (show InK .i64 0 from by decide), hm⟩ ?_ ?_
             · rintro _ _ ⟨_, _, _, _, _, _, _, hm⟩; exact loop1_z hm
             ·
              rintro m443 K442 hK442 ρ448 w444 ⟨want_2, Ebs, hEbs, hfr447, hst446, hs445, r_y438, hm⟩
              obtain ⟨sf440, hsf441, hm⟩ := loop1_s hm; unfold m10_overflightlaw45_JournalDamage_B1 at hm
              subst hEbs; rw [hfr447.eq]; clear hfr447
              replace f_g70 := f_g70.step hst446; replace f_y72 := f_y72.step hst446; replace f_y270_records := f_y270_records.step hst446; replace ch87 := ch87.trans hst446; replace ch437 := ch437.trans hst446
              have ch449 := hst446
              refine Wp_seq ?_
              refine Wp_reset2 [27, 178, 179, 180, 181, 182, 183, 184, 185, 186, 187, 188, 189, 190, 191] [] (updL (mix [27, 178, 179, 180, 181, 182, 183, 184, 185, 186, 187, 188, 189, 190, 191] [] ξ439 (updL ⟨ξ282, []⟩ [(11, (Value.pointer (some ⟨b57, 0, none⟩))), (13, (Value.slice (some ⟨b168, 0, none⟩) ends_1.length c_g70)), (21, (Value.int .i64 write_1.2)), (22, (Value.int .i64 (IntKind.wrap .i64 ((IntKind.wrap .u64 sector).tmod (IntKind.wrap .u64 (ends_1.getD (IntKind.wrap .i64 ((ends_1.length : Int) - 1)).toNat default)))))), (24, (Value.int .i64 sync_2.2)), (25, (Value.pointer (some ⟨b272, 0, none⟩))), (26, (Value.int .i64 open_2.2)), (27, (Value.int .i64 0))])) [(27, (Value.int .i64 0))]) [(27, (Value.int .i64 want_2))] (by repeat (first | with_reducible exact Out.refl _ _ | refine Out.upd ?_ rfl | refine Out.updL ?_ rfl | refine Out.mix' ?_ rfl | exact Out.refl _ _)) rfl ⟨rfl, trivial⟩ fun ξ450 => ?_
              replace hm := jn_elim hm; obtain ⟨k452, hk453, hm⟩ := hm
              refine Wp_seqJ [178, 179, 180, 181, 182, 183, 184, 185, 186, 187, 188, 189] (fun fr w' => ∃ (v_9 : Bool) (Ebs : Ents), Ebs = [(some b272, Obj.cells [(Value.slice a_y270_records open_2.1.records.length c_y270_records), (Value.int .i64 open_2.1.many), (Value.int .i64 open_2.1.synced)].toArray 52), (some b168, o_g70), (some b57, Obj.cells [(Value.slice a_y72 v_3.length c_y72), (Value.int .i64 v_4), (Value.int .i64 v_5)].toArray 52)] ∧ fr [] [(189, (Value.bool v_9))] ∧ Step (ks [(some b272, Obj.cells [(Value.slice a_y270_records open_2.1.records.length c_y270_records), (Value.int .i64 open_2.1.many), (Value.int .i64 open_2.1.synced)].toArray 52), (some b168, o_g70), (some b57, Obj.cells [(Value.slice a_y72 v_3.length c_y72), (Value.int .i64 v_4), (Value.int .i64 v_5)].toArray 52)] O) w444 (ks Ebs O) w' ∧ St ⟨w, [], []⟩ O w' Ebs ∧ k452 v_9 = some x) ?_ ?_
              ·
               rintro ρ459 w455 ⟨v_9, Ebs, hEbs, hfr458, hst457, hs456, hm⟩
               replace hm := jnE1 hk453 hm
               subst hEbs; rw [hfr458.eq]; clear hfr458
               replace f_g70 := f_g70.step hst457; replace f_y72 := f_y72.step hst457; replace f_y270_records := f_y270_records.step hst457; replace ch87 := ch87.trans hst457; replace ch437 := ch437.trans hst457; replace ch449 := ch449.trans hst457; clear hst457 hs445
               refine Wp_cond rfl (fun hc460 => ?_) (fun hc460 => ?_)
               ·
                replace hm := bif_t hm hc460
                refine Wp_skip ?_
                refine Wp_block ?_
                refine Wp_region ?_
                refine Rg_op rfl (op_move (v := (Value.int .i64 want_2)) rfl ?_)
                refine Rg_op rfl (op_addw rfl rfl ?_)
                refine Rg_op rfl (op_assign (v := (Value.int .i64 (IntKind.wrap .i64 (want_2 + 1)))) rfl ?_)
                refine Rg_nil ?_
                exact hK442 _ _ ⟨(IntKind.wrap .i64 (want_2 + 1)), _, rfl, ⟨(by repeat (first | with_reducible exact Out.refl _ _ | refine Out.upd ?_ rfl | refine Out.updL ?_ rfl | refine Out.mix' ?_ rfl | exact Out.refl _ _)), rfl, rfl, trivial⟩, ch449, hs456, (inK_wrap .i64 _), jnE1 hsf441 hm⟩
               ·
                replace hm := bif_f hm hc460
                refine Wp_exit ?_
                exact hK286 _ _ ⟨want_2, _, rfl, ⟨(by repeat (first | with_reducible exact Out.refl _ _ | refine Out.upd ?_ rfl | refine Out.updL ?_ rfl | refine Out.mix' ?_ rfl | exact Out.refl _ _)), rfl, rfl, trivial⟩, ch437, hs456, r_y438, hm⟩
              ·
               intro K454 hK454
               have ch461 := Step.refl (ks [(some b272, Obj.cells [(Value.slice a_y270_records open_2.1.records.length c_y270_records), (Value.int .i64 open_2.1.many), (Value.int .i64 open_2.1.synced)].toArray 52), (some b168, o_g70), (some b57, Obj.cells [(Value.slice a_y72 v_3.length c_y72), (Value.int .i64 v_4), (Value.int .i64 v_5)].toArray 52)] O) w444
               refine Wp_region ?_
               refine Rg_op rfl (op_move (v := (Value.int .i64 want_2)) rfl ?_)
               refine Rg_op rfl (op_move (v := (Value.slice (some ⟨b168, 0, none⟩) ends_1.length c_g70)) rfl ?_)
               refine Rg_op rfl (op_len Try.underlying62 rfl ?_)
               have rl462 := inK_lenG f_g70
               refine Rg_op rfl (op_lss rfl rfl ?_)
               refine Rg_op rfl (op_move (v := (Value.bool (decide (want_2 < (ends_1.length : Int))))) rfl ?_)
               refine Rg_case (fun hg463 => ?_) (fun hg463 => ?_)
               ·
                replace hm := bif_t hm hg463
                refine Rg_opg rfl rfl rfl (op_move (v := (Value.slice (some ⟨b168, 0, none⟩) ends_1.length c_g70)) rfl ?_)
                refine Rg_opg rfl rfl rfl (op_move (v := (Value.int .i64 want_2)) rfl ?_)
                replace hm := ck_some hm; obtain ⟨hc464, hm⟩ := hm
                refine Rg_opg rfl rfl rfl (op_indexAddrG ty62 ty3 rfl rfl f_g70 hc464 ?_)
                rintro _ ⟨⟩ -
                refine Rg_opg rfl rfl rfl (op_loadG (m := want_2) (i := 1) ty3 rfl hs445 rfl rfl f_g70 hc464 ?_)
                intro v466 h467
                obtain ⟨rfl, r_y468⟩ := un_int h467
                refine Rg_opg rfl rfl rfl (op_move (v := (Value.int .i64 (IntKind.wrap .i64 ((IntKind.wrap .u64 sector).tmod (IntKind.wrap .u64 (ends_1.getD (IntKind.wrap .i64 ((ends_1.length : Int) - 1)).toNat default)))))) rfl ?_)
                refine Rg_opg rfl rfl rfl (op_leq rfl rfl ?_)
                refine Rg_op rfl (op_pick_t (v := (Value.bool (decide ((ends_1.getD want_2.toNat default) ≤ (IntKind.wrap .i64 ((IntKind.wrap .u64 sector).tmod (IntKind.wrap .u64 (ends_1.getD (IntKind.wrap .i64 ((ends_1.length : Int) - 1)).toNat default)))))))) rfl rfl ?_)
                refine Rg_nil ?_
                exact hK454 _ _ ⟨(decide ((ends_1.getD want_2.toNat default) ≤ (IntKind.wrap .i64 ((IntKind.wrap .u64 sector).tmod (IntKind.wrap .u64 (ends_1.getD (IntKind.wrap .i64 ((ends_1.length : Int) - 1)).toNat default)))))), _, rfl, ⟨(by repeat (first | with_reducible exact Out.refl _ _ | refine Out.upd ?_ rfl | refine Out.updL ?_ rfl | refine Out.mix' ?_ rfl | exact Out.refl _ _)), rfl, rfl, trivial⟩, ch461, hs445, hm⟩
               ·
                replace hm := bif_f hm hg463
                iterate 6 refine Rg_opx rfl (asB_ne rfl rfl) rfl ?_
                refine Rg_op rfl (op_pick_f (v := (Value.bool false)) rfl rfl ?_)
                refine Rg_nil ?_
                exact hK454 _ _ ⟨false, _, rfl, ⟨(by repeat (first | with_reducible exact Out.refl _ _ | refine Out.upd ?_ rfl | refine Out.updL ?_ rfl | refine Out.mix' ?_ rfl | exact Out.refl _ _)), rfl, rfl, trivial⟩, ch461, hs445, hm⟩
          ·
           intro K177 hK177
           have ch469 := Step.refl (ks [(some b140, Obj.cells [(Value.slice a_y133_sectors sync_1.2.1.sectors.length c_y133_sectors), (Value.slice a_y133_pending sync_1.2.1.pending.length c_y133_pending), (Value.int .i64 sync_1.2.1.left), (Value.bool sync_1.2.1.stopped)].toArray 25), (some b168, o_g70), (some b57, Obj.cells [(Value.slice a_y72 v_3.length c_y72), (Value.int .i64 v_4), (Value.int .i64 v_5)].toArray 52)] O) w156
           refine Wp_region ?_
           refine Rg_op rfl (op_move (v := (Value.int .i64 (IntKind.wrap .i64 ((IntKind.wrap .u64 sector).tmod (IntKind.wrap .u64 (ends_1.getD (IntKind.wrap .i64 ((ends_1.length : Int) - 1)).toNat default)))))) rfl ?_)
           refine Rg_op rfl (op_fieldAddr ty25 rfl ty22 (by decide) rfl (rfl : _ = (⟨_, 0, none⟩ : Addr)) ?_)
           refine Rg_op rfl (op_load (cs := [(Value.slice a_y133_sectors sync_1.2.1.sectors.length c_y133_sectors), (Value.slice a_y133_pending sync_1.2.1.pending.length c_y133_pending), (Value.int .i64 sync_1.2.1.left), (Value.bool sync_1.2.1.stopped)]) (i := 0) ty22 hs164 rfl rfl rfl ?_)
           refine Rg_op rfl (op_len Try.underlying22 rfl ?_)
           have rl470 := inK_len f_y133_sectors
           refine Rg_op rfl (op_geq rfl rfl ?_)
           refine Rg_op rfl (op_move (v := (Value.bool (decide ((sync_1.2.1.sectors.length : Int) ≤ (IntKind.wrap .i64 ((IntKind.wrap .u64 sector).tmod (IntKind.wrap .u64 (ends_1.getD (IntKind.wrap .i64 ((ends_1.length : Int) - 1)).toNat default)))))))) rfl ?_)
           refine Rg_case (fun hg471 => ?_) (fun hg471 => ?_)
           ·
            replace hm := bif_t hm hg471
            iterate 6 refine Rg_opx rfl (asB_ne rfl rfl) rfl ?_
            refine Rg_op rfl (op_pick_t (v := (Value.bool true)) rfl rfl ?_)
            refine Rg_op rfl (op_move (v := (Value.bool true)) rfl ?_)
            iterate 7 refine Rg_opx rfl (asB_ne rfl rfl) rfl ?_
            refine Rg_op rfl (op_pick_t (v := (Value.bool true)) rfl rfl ?_)
            refine Rg_nil ?_
            exact hK177 _ _ ⟨true, _, rfl, ⟨(by repeat (first | with_reducible exact Out.refl _ _ | refine Out.upd ?_ rfl | refine Out.updL ?_ rfl | refine Out.mix' ?_ rfl | exact Out.refl _ _)), rfl, rfl, trivial⟩, ch469, hs164, hm⟩
           ·
            replace hm := bif_f hm hg471
            refine Rg_opg rfl rfl rfl (op_move (v := (Value.slice (some ⟨b168, 0, none⟩) ends_1.length c_g70)) rfl ?_)
            refine Rg_opg rfl rfl rfl (op_len Try.underlying62 rfl ?_)
            have rl472 := inK_lenG f_g70
            refine Rg_opg rfl rfl rfl (op_fieldAddr ty52 rfl ty22 (by decide) rfl (rfl : _ = (⟨_, 0, none⟩ : Addr)) ?_)
            refine Rg_opg rfl rfl rfl (op_load (cs := [(Value.slice a_y72 v_3.length c_y72), (Value.int .i64 v_4), (Value.int .i64 v_5)]) (i := 2) ty22 hs164 rfl rfl rfl ?_)
            refine Rg_opg rfl rfl rfl (op_len Try.underlying22 rfl ?_)
            have rl473 := inK_len f_y72
            refine Rg_opg rfl rfl rfl (op_gtr rfl rfl ?_)
            refine Rg_op rfl (op_pick_f (v := (Value.bool (decide ((v_3.length : Int) < (ends_1.length : Int))))) rfl rfl ?_)
            refine Rg_op rfl (op_move (v := (Value.bool (decide ((v_3.length : Int) < (ends_1.length : Int))))) rfl ?_)
            refine Rg_case (fun hg474 => ?_) (fun hg474 => ?_)
            ·
             replace hm := bif_t hm hg474
             iterate 7 refine Rg_opx rfl (asB_ne rfl rfl) rfl ?_
             refine Rg_op rfl (op_pick_t (v := (Value.bool true)) rfl rfl ?_)
             refine Rg_nil ?_
             exact hK177 _ _ ⟨true, _, rfl, ⟨(by repeat (first | with_reducible exact Out.refl _ _ | refine Out.upd ?_ rfl | refine Out.updL ?_ rfl | refine Out.mix' ?_ rfl | exact Out.refl _ _)), rfl, rfl, trivial⟩, ch469, hs164, hm⟩
            ·
             replace hm := bif_f hm hg474
             refine Rg_opg rfl rfl rfl (op_fieldAddr ty25 rfl ty22 (by decide) rfl (rfl : _ = (⟨_, 0, none⟩ : Addr)) ?_)
             refine Rg_opg rfl rfl rfl (op_load (cs := [(Value.slice a_y133_sectors sync_1.2.1.sectors.length c_y133_sectors), (Value.slice a_y133_pending sync_1.2.1.pending.length c_y133_pending), (Value.int .i64 sync_1.2.1.left), (Value.bool sync_1.2.1.stopped)]) (i := 0) ty22 hs164 rfl rfl rfl ?_)
             refine Rg_opg rfl rfl rfl (op_move (v := (Value.int .i64 (IntKind.wrap .i64 ((IntKind.wrap .u64 sector).tmod (IntKind.wrap .u64 (ends_1.getD (IntKind.wrap .i64 ((ends_1.length : Int) - 1)).toNat default)))))) rfl ?_)
             replace hm := ck_some hm; obtain ⟨hc475, hm⟩ := hm
             refine Rg_opg rfl rfl rfl (op_indexAddr (q := (rSl rU8)) ty22 ty41 rfl rfl f_y133_sectors rfl hc475.1 hc475.2 ?_)
             intro p476 f477
             refine Rg_opg rfl rfl rfl (op_loadP ty41 rfl f477 rfl ?_)
             intro v478 h479
             obtain ⟨a_y480, c_y480, rfl, f_y480⟩ := un_sl h479
             refine Rg_opg rfl rfl rfl (op_len Try.underlying41 rfl ?_)
             have rl481 := inK_len f_y480
             refine Rg_opg rfl rfl rfl (op_neq rfl rfl ?_)
             refine Rg_op rfl (op_pick_f (v := (Value.bool (decide (((sync_1.2.1.sectors.getD (IntKind.wrap .i64 ((IntKind.wrap .u64 sector).tmod (IntKind.wrap .u64 (ends_1.getD (IntKind.wrap .i64 ((ends_1.length : Int) - 1)).toNat default)))).toNat default).length : Int) ≠ 128)))) rfl rfl ?_)
             refine Rg_nil ?_
             exact hK177 _ _ ⟨(decide (((sync_1.2.1.sectors.getD (IntKind.wrap .i64 ((IntKind.wrap .u64 sector).tmod (IntKind.wrap .u64 (ends_1.getD (IntKind.wrap .i64 ((ends_1.length : Int) - 1)).toNat default)))).toNat default).length : Int) ≠ 128)), _, rfl, ⟨(by repeat (first | with_reducible exact Out.refl _ _ | refine Out.upd ?_ rfl | refine Out.updL ?_ rfl | refine Out.mix' ?_ rfl | exact Out.refl _ _)), rfl, rfl, trivial⟩, ch469, hs164, hm⟩
        ·
         intro K155 hK155
         have ch482 := Step.refl (ks [(some b140, Obj.cells [(Value.slice a_y133_sectors sync_1.2.1.sectors.length c_y133_sectors), (Value.slice a_y133_pending sync_1.2.1.pending.length c_y133_pending), (Value.int .i64 sync_1.2.1.left), (Value.bool sync_1.2.1.stopped)].toArray 25), (some b135, Obj.cells [(Value.slice a_y132_records sync_1.1.records.length c_y132_records), (Value.int .i64 sync_1.1.many), (Value.int .i64 sync_1.1.synced)].toArray 52), (k_g70, o_g70), (some b57, Obj.cells [(Value.slice a_y72 v_3.length c_y72), (Value.int .i64 v_4), (Value.int .i64 v_5)].toArray 52), (some b23, Obj.cells [(Value.slice a_y21_sectors new_1.1.sectors.length c_y21_sectors), (Value.slice a_y21_pending new_1.1.pending.length c_y21_pending), (Value.int .i64 new_1.1.left), (Value.bool new_1.1.stopped)].toArray 25)] O) w148
         refine Wp_region ?_
         refine Rg_op rfl (op_move (v := (Value.int .i64 sync_1.2.2)) rfl ?_)
         refine Rg_op rfl (op_neq rfl rfl ?_)
         refine Rg_op rfl (op_move (v := (Value.bool (decide (sync_1.2.2 ≠ 0)))) rfl ?_)
         refine Rg_case (fun hg483 => ?_) (fun hg483 => ?_)
         ·
          replace hm := bif_t hm hg483
          iterate 3 refine Rg_opx rfl (asB_ne rfl rfl) rfl ?_
          refine Rg_op rfl (op_pick_t (v := (Value.bool true)) rfl rfl ?_)
          refine Rg_nil ?_
          exact hK155 _ _ ⟨true, _, rfl, ⟨(by repeat (first | with_reducible exact Out.refl _ _ | refine Out.upd ?_ rfl | refine Out.updL ?_ rfl | refine Out.mix' ?_ rfl | exact Out.refl _ _)), rfl, rfl, trivial⟩, ch482, hs150, hm⟩
         ·
          replace hm := bif_f hm hg483
          refine Rg_opg rfl rfl rfl (op_move (v := (Value.slice a_g70 ends_1.length c_g70)) rfl ?_)
          refine Rg_opg rfl rfl rfl (op_len Try.underlying62 rfl ?_)
          have rl484 := inK_lenG f_g70
          refine Rg_opg rfl rfl rfl (op_eql rfl rfl ?_)
          refine Rg_op rfl (op_pick_f (v := (Value.bool (decide ((ends_1.length : Int) = 0)))) rfl rfl ?_)
          refine Rg_nil ?_
          exact hK155 _ _ ⟨(decide ((ends_1.length : Int) = 0)), _, rfl, ⟨(by repeat (first | with_reducible exact Out.refl _ _ | refine Out.upd ?_ rfl | refine Out.updL ?_ rfl | refine Out.mix' ?_ rfl | exact Out.refl _ _)), rfl, rfl, trivial⟩, ch482, hs150, hm⟩
       ·
        replace hm := bif_f hm hc116
        refine Wp_skip ?_
        refine Wp_seq ?_
        refine Wp_region ?_
        refine Rg_op rfl (op_loadA (cs := [(Value.slice a_y106_records append_1.1.records.length c_y106_records), (Value.int .i64 append_1.1.many), (Value.int .i64 append_1.1.synced)]) (vs := [(Value.slice a_y106_records append_1.1.records.length c_y106_records), (Value.int .i64 append_1.1.many), (Value.int .i64 append_1.1.synced)]) (i := 0) ty52 hs115 rfl rfl rfl rfl ?_)
        refine Rg_op_ (op_store (cs := [(Value.slice a_y72 v_3.length c_y72), (Value.int .i64 v_4), (Value.int .i64 v_5)]) (vs := [(Value.slice a_y106_records append_1.1.records.length c_y106_records), (Value.int .i64 append_1.1.many), (Value.int .i64 append_1.1.synced)]) (cs' := [(Value.slice a_y106_records append_1.1.records.length c_y106_records), (Value.int .i64 append_1.1.many), (Value.int .i64 append_1.1.synced)]) (bs' := [(some b108, Obj.cells [(Value.slice a_y106_records append_1.1.records.length c_y106_records), (Value.int .i64 append_1.1.many), (Value.int .i64 append_1.1.synced)].toArray 52), (k_g70, o_g70), (some b57, Obj.cells [(Value.slice a_y106_records append_1.1.records.length c_y106_records), (Value.int .i64 append_1.1.many), (Value.int .i64 append_1.1.synced)].toArray 52), (some b23, Obj.cells [(Value.slice a_y21_sectors new_1.1.sectors.length c_y21_sectors), (Value.slice a_y21_pending new_1.1.pending.length c_y21_pending), (Value.int .i64 new_1.1.left), (Value.bool new_1.1.stopped)].toArray 25)]) (i := 2) ty52 hs115 rfl rfl rfl rfl rfl (le_lit rfl) rfl rfl rfl ?_)
        intro w485 p486 hs487
        replace f_records := f_records.step p486; replace f_y21_sectors := f_y21_sectors.step p486; replace f_y21_pending := f_y21_pending.step p486; replace f_g70 := f_g70.step p486; replace f_y72 := f_y72.step p486; replace f_y94 := f_y94.step p486; replace f_y106_records := f_y106_records.step p486; replace ch87 := ch87.trans p486; clear p486 hs115
        refine Rg_nil ?_
        refine Wp_seq ?_
        clear f_y72
        refine Wp_region ?_
        refine Rg_op rfl (op_move (v := (Value.slice a_y94 (records.getD v_2.toNat default).length c_y94)) rfl ?_)
        refine Rg_op rfl (op_len Try.underlying41 rfl ?_)
        have rl488 := inK_len f_y94
        refine Rg_op rfl (op_addw rfl rfl ?_)
        refine Rg_op rfl (op_quo rfl rfl (by decide) ?_)
        refine Rg_op rfl (op_max rfl rfl ?_)
        refine Rg_op rfl (op_assign (v := (Value.int .i64 (max 1 (IntKind.wrap .i64 ((IntKind.wrap .i64 (((records.getD v_2.toNat default).length : Int) + 111)).tdiv 112))))) rfl ?_)
        refine Rg_nil ?_
        refine Wp_seq ?_
        refine Wp_seq ?_
        clear f_y94
        refine Wp_region ?_
        refine Rg_op rfl (op_move (v := (Value.slice a_g70 ends_1.length c_g70)) rfl ?_)
        refine Rg_op rfl (op_len Try.underlying62 rfl ?_)
        have rl489 := inK_lenG f_g70
        refine Rg_op rfl (op_gtr rfl rfl ?_)
        refine Rg_nil ?_
        refine Wp_cond rfl (fun hc490 => ?_) (fun hc490 => ?_)
        ·
         replace hm := bif_t hm hc490
         refine Wp_reset2 [13, 15, 16, 17, 18, 62, 63, 64, 65, 66, 67, 68, 69, 70, 71, 72, 73, 74, 75, 76, 77, 78, 79, 80, 81, 82, 83, 84, 85, 86, 87, 88, 89, 90, 91, 92, 93, 94, 95] [] (updL ⟨ξ75, []⟩ [(1, (Value.int .i64 sector)), (2, (Value.int .i64 at_)), (3, (Value.int .u8 (by_.toNat : Int))), (9, (Value.pointer (some ⟨b23, 0, none⟩))), (11, (Value.pointer (some ⟨b57, 0, none⟩))), (13, (Value.slice none 0 0)), (60, (Value.slice a_records records.length c_records)), (61, (Value.int .i64 (records.length : Int))), (62, (Value.int .i64 0))]) [(13, (Value.slice a_g70 ends_1.length c_g70)), (18, (Value.int .i64 (max 1 (IntKind.wrap .i64 ((IntKind.wrap .i64 (((records.getD v_2.toNat default).length : Int) + 111)).tdiv 112))))), (62, (Value.int .i64 v_2))] (by repeat (first | with_reducible exact Out.refl _ _ | refine Out.upd ?_ rfl | refine Out.updL ?_ rfl | refine Out.mix' ?_ rfl | exact Out.refl _ _)) rfl ⟨rfl, rfl, rfl, trivial⟩ fun ξ491 => ?_
         refine Wp_region ?_
         refine Rg_op rfl (op_move (v := (Value.int .i64 (max 1 (IntKind.wrap .i64 ((IntKind.wrap .i64 (((records.getD v_2.toNat default).length : Int) + 111)).tdiv 112))))) rfl ?_)
         refine Rg_op rfl (op_move (v := (Value.slice a_g70 ends_1.length c_g70)) rfl ?_)
         refine Rg_op rfl (op_move (v := (Value.slice a_g70 ends_1.length c_g70)) rfl ?_)
         refine Rg_op rfl (op_len Try.underlying62 rfl ?_)
         have rl492 := inK_lenG f_g70
         refine Rg_op rfl (op_subw rfl rfl ?_)
         replace hm := ck_some hm; obtain ⟨hc493, hm⟩ := hm
         refine Rg_op rfl (op_indexAddrG ty62 ty3 rfl rfl f_g70 hc493 ?_)
         rintro b494 rfl rfl
         refine Rg_op rfl (op_loadG (m := (IntKind.wrap .i64 ((ends_1.length : Int) - 1))) (i := 1) ty3 rfl hs487 rfl rfl f_g70 hc493 ?_)
         intro v495 h496
         obtain ⟨rfl, r_y497⟩ := un_int h496
         refine Rg_op rfl (op_addw rfl rfl ?_)
         refine Rg_op rfl (op_assign (v := (Value.int .i64 (IntKind.wrap .i64 ((max 1 (IntKind.wrap .i64 ((IntKind.wrap .i64 (((records.getD v_2.toNat default).length : Int) + 111)).tdiv 112))) + (ends_1.getD (IntKind.wrap .i64 ((ends_1.length : Int) - 1)).toNat default))))) rfl ?_)
         refine Rg_nil ?_
         refine Wp_region ?_
         refine Rg_op rfl (op_move (v := (Value.slice (some ⟨b494, 0, none⟩) ends_1.length c_g70)) rfl ?_)
         refine Rg_op rfl (op_move (v := (Value.int .i64 (IntKind.wrap .i64 ((max 1 (IntKind.wrap .i64 ((IntKind.wrap .i64 (((records.getD v_2.toNat default).length : Int) + 111)).tdiv 112))) + (ends_1.getD (IntKind.wrap .i64 ((ends_1.length : Int) - 1)).toNat default))))) rfl ?_)
         refine Rg_op rfl (op_buildSlice (cs := [(Value.int .i64 (IntKind.wrap .i64 ((max 1 (IntKind.wrap .i64 ((IntKind.wrap .i64 (((records.getD v_2.toNat default).length : Int) + 111)).tdiv 112))) + (ends_1.getD (IntKind.wrap .i64 ((ends_1.length : Int) - 1)).toNat default))))]) (parts := [(0, .tmp 92)]) ty62 ty3 hs487 (by decide) rfl ?_)
         intro b498 w499 hx502 p500 hs501
         replace f_records := f_records.step p500; replace f_y21_sectors := f_y21_sectors.step p500; replace f_y21_pending := f_y21_pending.step p500; replace f_g70 := f_g70.step p500; replace f_y106_records := f_y106_records.step p500; replace ch87 := ch87.trans p500; clear p500 hs487
         replace hm := ck_some hm; obtain ⟨hc504, hm⟩ := hm
         refine Rg_op rfl (op_append (q := (rInt .i64)) (i := 2) (xs := ends_1) (ys := [(IntKind.wrap .i64 ((max 1 (IntKind.wrap .i64 ((IntKind.wrap .i64 (((records.getD v_2.toNat default).length : Int) + 111)).tdiv 112))) + (ends_1.getD (IntKind.wrap .i64 ((ends_1.length : Int) - 1)).toNat default)))]) (news := [(Value.int .i64 (IntKind.wrap .i64 ((max 1 (IntKind.wrap .i64 ((IntKind.wrap .i64 (((records.getD v_2.toNat default).length : Int) + 111)).tdiv 112))) + (ends_1.getD (IntKind.wrap .i64 ((ends_1.length : Int) - 1)).toNat default))))]) ty62 ty3 rfl (by decide) hs501 rfl rfl f_g70 rfl (Src.owned' (len := 1) (hs501.get (i := 0) rfl) rfl) (show Els (rInt .i64) _ _ [(Value.int .i64 (IntKind.wrap .i64 ((max 1 (IntKind.wrap .i64 ((IntKind.wrap .i64 (((records.getD v_2.toNat default).length : Int) + 111)).tdiv 112))) + (ends_1.getD (IntKind.wrap .i64 ((ends_1.length : Int) - 1)).toNat default))))] [(IntKind.wrap .i64 ((max 1 (IntKind.wrap .i64 ((IntKind.wrap .i64 (((records.getD v_2.toNat default).length : Int) + 111)).tdiv 112))) + (ends_1.getD (IntKind.wrap .i64 ((ends_1.length : Int) - 1)).toNat default)))] from ⟨_, _, rfl, (mk_int (inK_wrap .i64 _)), Els.nil⟩) hc504 (by have := hc504; simp only [maxLen]; omega) ?_)
         intro a508 c509 k510 o511 w505 p506 hs507 f512
         replace f_records := f_records.step p506; replace f_y21_sectors := f_y21_sectors.step p506; replace f_y21_pending := f_y21_pending.step p506; replace f_y106_records := f_y106_records.step p506; replace ch87 := ch87.trans p506; clear p506 hs501
         have hs513 := hs507.drop 0
         replace f_records := f_records.step (hs507.dropS 0)
         replace f_y21_sectors := f_y21_sectors.step (hs507.dropS 0)
         replace f_y21_pending := f_y21_pending.step (hs507.dropS 0)
         replace f_y106_records := f_y106_records.step (hs507.dropS 0)
         replace f512 := f512.step (hs507.dropS 0)
         replace ch87 := ch87.trans (hs507.dropS 0); clear hs507
         refine Rg_op rfl (op_assign (v := (Value.slice a508 (ends_1 ++ [(IntKind.wrap .i64 ((max 1 (IntKind.wrap .i64 ((IntKind.wrap .i64 (((records.getD v_2.toNat default).length : Int) + 111)).tdiv 112))) + (ends_1.getD (IntKind.wrap .i64 ((ends_1.length : Int) - 1)).toNat default)))]).length c509)) rfl ?_)
         refine Rg_nil ?_
         refine Wp_region ?_
         refine Rg_op rfl (op_addw rfl rfl ?_)
         refine Rg_op rfl (op_move (v := (Value.int .i64 (IntKind.wrap .i64 (v_2 + 1)))) rfl ?_)
         refine Rg_nil ?_
         have hs514 := hs513.drop 0
         replace f_records := f_records.step (hs513.dropS 0)
         replace f_y21_sectors := f_y21_sectors.step (hs513.dropS 0)
         replace f_y21_pending := f_y21_pending.step (hs513.dropS 0)
         replace f_y106_records := f_y106_records.step (hs513.dropS 0)
         replace f512 := f512.step (hs513.dropS 0)
         replace ch87 := ch87.trans (hs513.dropS 0); clear hs513
         exact hK78 _ _ ⟨(ends_1 ++ [(IntKind.wrap .i64 ((max 1 (IntKind.wrap .i64 ((IntKind.wrap .i64 (((records.getD v_2.toNat default).length : Int) + 111)).tdiv 112))) + (ends_1.getD (IntKind.wrap .i64 ((ends_1.length : Int) - 1)).toNat default)))]), (IntKind.wrap .i64 (v_2 + 1)), append_1.1.records, append_1.1.many, append_1.1.synced, a508, c509, k510, o511, a_y106_records, c_y106_records, _, rfl, ⟨(by repeat (first | with_reducible exact Out.refl _ _ | refine Out.upd ?_ rfl | refine Out.updL ?_ rfl | refine Out.mix' ?_ rfl | exact Out.refl _ _)), rfl, rfl, rfl, trivial⟩, ch87, hs514, f512, (inK_wrap .i64 _), f_y106_records, r_y106_many, r_y106_synced, jnE5 hsf77 hm⟩
        ·
         replace hm := bif_f hm hc490
         refine Wp_skip ?_
         refine Wp_reset2 [13, 15, 16, 17, 18, 62, 63, 64, 65, 66, 67, 68, 69, 70, 71, 72, 73, 74, 75, 76, 77, 78, 79, 80, 81, 82, 83, 84, 85, 86, 87, 88, 89, 90, 91, 92, 93, 94, 95] [] (updL ⟨ξ75, []⟩ [(1, (Value.int .i64 sector)), (2, (Value.int .i64 at_)), (3, (Value.int .u8 (by_.toNat : Int))), (9, (Value.pointer (some ⟨b23, 0, none⟩))), (11, (Value.pointer (some ⟨b57, 0, none⟩))), (13, (Value.slice none 0 0)), (60, (Value.slice a_records records.length c_records)), (61, (Value.int .i64 (records.length : Int))), (62, (Value.int .i64 0))]) [(13, (Value.slice a_g70 ends_1.length c_g70)), (18, (Value.int .i64 (max 1 (IntKind.wrap .i64 ((IntKind.wrap .i64 (((records.getD v_2.toNat default).length : Int) + 111)).tdiv 112))))), (62, (Value.int .i64 v_2))] (by repeat (first | with_reducible exact Out.refl _ _ | refine Out.upd ?_ rfl | refine Out.updL ?_ rfl | refine Out.mix' ?_ rfl | exact Out.refl _ _)) rfl ⟨rfl, rfl, rfl, trivial⟩ fun ξ515 => ?_
         refine Wp_region ?_
         refine Rg_op rfl (op_move (v := (Value.slice a_g70 ends_1.length c_g70)) rfl ?_)
         refine Rg_op rfl (op_move (v := (Value.int .i64 (max 1 (IntKind.wrap .i64 ((IntKind.wrap .i64 (((records.getD v_2.toNat default).length : Int) + 111)).tdiv 112))))) rfl ?_)
         refine Rg_op rfl (op_buildSlice (cs := [(Value.int .i64 (max 1 (IntKind.wrap .i64 ((IntKind.wrap .i64 (((records.getD v_2.toNat default).length : Int) + 111)).tdiv 112))))]) (parts := [(0, .tmp 92)]) ty62 ty3 hs487 (by decide) rfl ?_)
         intro b516 w517 hx520 p518 hs519
         replace f_records := f_records.step p518; replace f_y21_sectors := f_y21_sectors.step p518; replace f_y21_pending := f_y21_pending.step p518; replace f_g70 := f_g70.step p518; replace f_y106_records := f_y106_records.step p518; replace ch87 := ch87.trans p518; clear p518 hs487
         replace hm := ck_some hm; obtain ⟨hc522, hm⟩ := hm
         refine Rg_op rfl (op_append (q := (rInt .i64)) (i := 2) (xs := ends_1) (ys := [(max 1 (IntKind.wrap .i64 ((IntKind.wrap .i64 (((records.getD v_2.toNat default).length : Int) + 111)).tdiv 112)))]) (news := [(Value.int .i64 (max 1 (IntKind.wrap .i64 ((IntKind.wrap .i64 (((records.getD v_2.toNat default).length : Int) + 111)).tdiv 112))))]) ty62 ty3 rfl (by decide) hs519 rfl rfl f_g70 rfl (Src.owned' (len := 1) (hs519.get (i := 0) rfl) rfl) (show Els (rInt .i64) _ _ [(Value.int .i64 (max 1 (IntKind.wrap .i64 ((IntKind.wrap .i64 (((records.getD v_2.toNat default).length : Int) + 111)).tdiv 112))))] [(max 1 (IntKind.wrap .i64 ((IntKind.wrap .i64 (((records.getD v_2.toNat default).length : Int) + 111)).tdiv 112)))] from ⟨_, _, rfl, (mk_int (inK_max (show InK .i64 1 from by decide) (inK_wrap .i64 _))), Els.nil⟩) hc522 (by have := hc522; simp only [maxLen]; omega) ?_)
         intro a526 c527 k528 o529 w523 p524 hs525 f530
         replace f_records := f_records.step p524; replace f_y21_sectors := f_y21_sectors.step p524; replace f_y21_pending := f_y21_pending.step p524; replace f_y106_records := f_y106_records.step p524; replace ch87 := ch87.trans p524; clear p524 hs519
         have hs531 := hs525.drop 0
         replace f_records := f_records.step (hs525.dropS 0)
         replace f_y21_sectors := f_y21_sectors.step (hs525.dropS 0)
         replace f_y21_pending := f_y21_pending.step (hs525.dropS 0)
         replace f_y106_records := f_y106_records.step (hs525.dropS 0)
         replace f530 := f530.step (hs525.dropS 0)
         replace ch87 := ch87.trans (hs525.dropS 0); clear hs525
         refine Rg_op rfl (op_assign (v := (Value.slice a526 (ends_1 ++ [(max 1 (IntKind.wrap .i64 ((IntKind.wrap .i64 (((records.getD v_2.toNat default).length : Int) + 111)).tdiv 112)))]).length c527)) rfl ?_)
         refine Rg_nil ?_
         refine Wp_region ?_
         refine Rg_op rfl (op_addw rfl rfl ?_)
         refine Rg_op rfl (op_move (v := (Value.int .i64 (IntKind.wrap .i64 (v_2 + 1)))) rfl ?_)
         refine Rg_nil ?_
         have hs532 := hs531.drop 0
         replace f_records := f_records.step (hs531.dropS 0)
         replace f_y21_sectors := f_y21_sectors.step (hs531.dropS 0)
         replace f_y21_pending := f_y21_pending.step (hs531.dropS 0)
         replace f_y106_records := f_y106_records.step (hs531.dropS 0)
         replace f530 := f530.step (hs531.dropS 0)
         replace ch87 := ch87.trans (hs531.dropS 0); clear hs531
         exact hK78 _ _ ⟨(ends_1 ++ [(max 1 (IntKind.wrap .i64 ((IntKind.wrap .i64 (((records.getD v_2.toNat default).length : Int) + 111)).tdiv 112)))]), (IntKind.wrap .i64 (v_2 + 1)), append_1.1.records, append_1.1.many, append_1.1.synced, a526, c527, k528, o529, a_y106_records, c_y106_records, _, rfl, ⟨(by repeat (first | with_reducible exact Out.refl _ _ | refine Out.upd ?_ rfl | refine Out.updL ?_ rfl | refine Out.mix' ?_ rfl | exact Out.refl _ _)), rfl, rfl, rfl, trivial⟩, ch87, hs532, f530, (inK_wrap .i64 _), f_y106_records, r_y106_many, r_y106_synced, jnE5 hsf77 hm⟩
      ·
       replace hm := bif_f hm hc88
       refine Wp_exit ?_
       refine Wp_seq ?_
       clear f_records
       refine Wp_region ?_
       refine Rg_op rfl (op_loadA (cs := [(Value.slice a_y72 v_3.length c_y72), (Value.int .i64 v_4), (Value.int .i64 v_5)]) (vs := [(Value.slice a_y72 v_3.length c_y72), (Value.int .i64 v_4), (Value.int .i64 v_5)]) (i := 1) ty52 hs83 rfl rfl rfl rfl ?_)
       refine Rg_op rfl (op_loadA (cs := [(Value.slice a_y21_sectors new_1.1.sectors.length c_y21_sectors), (Value.slice a_y21_pending new_1.1.pending.length c_y21_pending), (Value.int .i64 new_1.1.left), (Value.bool new_1.1.stopped)]) (vs := [(Value.slice a_y21_sectors new_1.1.sectors.length c_y21_sectors), (Value.slice a_y21_pending new_1.1.pending.length c_y21_pending), (Value.int .i64 new_1.1.left), (Value.bool new_1.1.stopped)]) (i := 2) ty25 hs83 rfl rfl rfl rfl ?_)
       replace hm := bd hm; obtain ⟨sync_3, hv533, hm⟩ := hm
       refine Rg_op rfl (op_call Try.call39 (c39_journal_Sync (l := (⟨v_3, v_4, v_5⟩ : XJournal)) (d := new_1.1) hs83.ltw f_y72 r_y73 r_y74 f_y21_sectors f_y21_pending r_y21_left hv533) rfl ?_)
       rintro v534 w535 ⟨hx536, h537⟩
       have hs538 := hs83.call hx536
       have p539 := Step.ext (O := ks [(k_g70, o_g70), (some b57, Obj.cells [(Value.slice a_y72 v_3.length c_y72), (Value.int .i64 v_4), (Value.int .i64 v_5)].toArray 52), (some b23, Obj.cells [(Value.slice a_y21_sectors new_1.1.sectors.length c_y21_sectors), (Value.slice a_y21_pending new_1.1.pending.length c_y21_pending), (Value.int .i64 new_1.1.left), (Value.bool new_1.1.stopped)].toArray 25)] O) hx536
       clear hx536
       replace f_y21_sectors := f_y21_sectors.step p539; replace f_y21_pending := f_y21_pending.step p539; replace f_g70 := f_g70.step p539; replace f_y72 := f_y72.step p539; replace ch87 := ch87.trans p539; clear p539 hs83
       obtain ⟨v540, v541, v542, rfl, h543, h544, h545⟩ := h537
       obtain ⟨_, rfl, ⟨_, _, rfl, ⟨a_y546_records, c_y546_records, rfl, f_y546_records⟩, ⟨_, _, rfl, ⟨rfl, r_y546_many⟩, ⟨rfl, r_y546_synced⟩⟩⟩⟩ := h543
       obtain ⟨_, rfl, ⟨_, _, rfl, ⟨a_y547_sectors, c_y547_sectors, rfl, f_y547_sectors⟩, ⟨_, _, rfl, ⟨a_y547_pending, c_y547_pending, rfl, f_y547_pending⟩, ⟨_, _, rfl, ⟨rfl, r_y547_left⟩, rfl⟩⟩⟩⟩ := h544
       obtain ⟨rfl, r_y548⟩ := h545
       refine Rg_op rfl (op_move (v := (Value.tuple [(Value.agg [(Value.slice a_y546_records sync_3.1.records.length c_y546_records), (Value.int .i64 sync_3.1.many), (Value.int .i64 sync_3.1.synced)].toArray), (Value.agg [(Value.slice a_y547_sectors sync_3.2.1.sectors.length c_y547_sectors), (Value.slice a_y547_pending sync_3.2.1.pending.length c_y547_pending), (Value.int .i64 sync_3.2.1.left), (Value.bool sync_3.2.1.stopped)].toArray), (Value.int .i64 sync_3.2.2)].toArray)) rfl ?_)
       refine Rg_op rfl (op_extract (v := (Value.agg [(Value.slice a_y546_records sync_3.1.records.length c_y546_records), (Value.int .i64 sync_3.1.many), (Value.int .i64 sync_3.1.synced)].toArray)) rfl rfl ?_)
       refine Rg_op rfl (op_extract (v := (Value.agg [(Value.slice a_y547_sectors sync_3.2.1.sectors.length c_y547_sectors), (Value.slice a_y547_pending sync_3.2.1.pending.length c_y547_pending), (Value.int .i64 sync_3.2.1.left), (Value.bool sync_3.2.1.stopped)].toArray)) rfl rfl ?_)
       refine Rg_op rfl (op_extract (v := (Value.int .i64 sync_3.2.2)) rfl rfl ?_)
       refine Rg_op rfl (op_alloc ty52 hs538 ?_)
       intro b549 w550 _ p551 hs552
       replace f_y21_sectors := f_y21_sectors.step p551; replace f_y21_pending := f_y21_pending.step p551; replace f_g70 := f_g70.step p551; replace f_y72 := f_y72.step p551; replace f_y546_records := f_y546_records.step p551; replace f_y547_sectors := f_y547_sectors.step p551; replace f_y547_pending := f_y547_pending.step p551; replace ch87 := ch87.trans p551; clear p551 hs538
       refine Rg_op rfl (op_alloc ty25 hs552 ?_)
       intro b554 w555 _ p556 hs557
       replace f_y21_sectors := f_y21_sectors.step p556; replace f_y21_pending := f_y21_pending.step p556; replace f_g70 := f_g70.step p556; replace f_y72 := f_y72.step p556; replace f_y546_records := f_y546_records.step p556; replace f_y547_sectors := f_y547_sectors.step p556; replace f_y547_pending := f_y547_pending.step p556; replace ch87 := ch87.trans p556; clear p556 hs552
       refine Rg_op_ (op_store (cs := [(Value.slice none 0 0), (Value.int .i64 0), (Value.int .i64 0)]) (vs := [(Value.slice a_y546_records sync_3.1.records.length c_y546_records), (Value.int .i64 sync_3.1.many), (Value.int .i64 sync_3.1.synced)]) (cs' := [(Value.slice a_y546_records sync_3.1.records.length c_y546_records), (Value.int .i64 sync_3.1.many), (Value.int .i64 sync_3.1.synced)]) (bs' := [(some b554, Obj.cells [(Value.slice none 0 0), (Value.slice none 0 0), (Value.int .i64 0), (Value.bool false)].toArray 25), (some b549, Obj.cells [(Value.slice a_y546_records sync_3.1.records.length c_y546_records), (Value.int .i64 sync_3.1.many), (Value.int .i64 sync_3.1.synced)].toArray 52), (k_g70, o_g70), (some b57, Obj.cells [(Value.slice a_y72 v_3.length c_y72), (Value.int .i64 v_4), (Value.int .i64 v_5)].toArray 52), (some b23, Obj.cells [(Value.slice a_y21_sectors new_1.1.sectors.length c_y21_sectors), (Value.slice a_y21_pending new_1.1.pending.length c_y21_pending), (Value.int .i64 new_1.1.left), (Value.bool new_1.1.stopped)].toArray 25)]) (i := 1) ty52 hs557 rfl rfl rfl rfl rfl (le_lit rfl) rfl rfl rfl ?_)
       intro w559 p560 hs561
       replace f_y21_sectors := f_y21_sectors.step p560; replace f_y21_pending := f_y21_pending.step p560; replace f_g70 := f_g70.step p560; replace f_y72 := f_y72.step p560; replace f_y546_records := f_y546_records.step p560; replace f_y547_sectors := f_y547_sectors.step p560; replace f_y547_pending := f_y547_pending.step p560; replace ch87 := ch87.trans p560; clear p560 hs557
       refine Rg_op_ (op_store (cs := [(Value.slice none 0 0), (Value.slice none 0 0), (Value.int .i64 0), (Value.bool false)]) (vs := [(Value.slice a_y547_sectors sync_3.2.1.sectors.length c_y547_sectors), (Value.slice a_y547_pending sync_3.2.1.pending.length c_y547_pending), (Value.int .i64 sync_3.2.1.left), (Value.bool sync_3.2.1.stopped)]) (cs' := [(Value.slice a_y547_sectors sync_3.2.1.sectors.length c_y547_sectors), (Value.slice a_y547_pending sync_3.2.1.pending.length c_y547_pending), (Value.int .i64 sync_3.2.1.left), (Value.bool sync_3.2.1.stopped)]) (bs' := [(some b554, Obj.cells [(Value.slice a_y547_sectors sync_3.2.1.sectors.length c_y547_sectors), (Value.slice a_y547_pending sync_3.2.1.pending.length c_y547_pending), (Value.int .i64 sync_3.2.1.left), (Value.bool sync_3.2.1.stopped)].toArray 25), (some b549, Obj.cells [(Value.slice a_y546_records sync_3.1.records.length c_y546_records), (Value.int .i64 sync_3.1.many), (Value.int .i64 sync_3.1.synced)].toArray 52), (k_g70, o_g70), (some b57, Obj.cells [(Value.slice a_y72 v_3.length c_y72), (Value.int .i64 v_4), (Value.int .i64 v_5)].toArray 52), (some b23, Obj.cells [(Value.slice a_y21_sectors new_1.1.sectors.length c_y21_sectors), (Value.slice a_y21_pending new_1.1.pending.length c_y21_pending), (Value.int .i64 new_1.1.left), (Value.bool new_1.1.stopped)].toArray 25)]) (i := 0) ty25 hs561 rfl rfl rfl rfl rfl (le_lit rfl) rfl rfl rfl ?_)
       intro w562 p563 hs564
       replace f_y21_sectors := f_y21_sectors.step p563; replace f_y21_pending := f_y21_pending.step p563; replace f_g70 := f_g70.step p563; replace f_y72 := f_y72.step p563; replace f_y546_records := f_y546_records.step p563; replace f_y547_sectors := f_y547_sectors.step p563; replace f_y547_pending := f_y547_pending.step p563; replace ch87 := ch87.trans p563; clear p563 hs561
       refine Rg_op rfl (op_assign (v := (Value.int .i64 sync_3.2.2)) rfl ?_)
       refine Rg_nil ?_
       refine Wp_seq ?_
       refine Wp_reset [] [(1, (Value.int .i64 sector)), (2, (Value.int .i64 at_)), (3, (Value.int .u8 (by_.toNat : Int))), (11, (Value.pointer (some ⟨b57, 0, none⟩))), (13, (Value.slice a_g70 ends_1.length c_g70)), (20, (Value.pointer (some ⟨b554, 0, none⟩))), (21, (Value.int .i64 sync_3.2.2))] rfl ⟨rfl, rfl, rfl, rfl, rfl, rfl, rfl, trivial⟩ fun ξ565 => ?_
       replace hm := jn_elim hm; obtain ⟨k567, hk568, hm⟩ := hm
       refine Wp_seqJ [103, 104, 105, 106, 107, 108, 109] (fun fr w' => ∃ (v_10 : Bool) (Ebs : Ents), Ebs = [(some b554, Obj.cells [(Value.slice a_y547_sectors sync_3.2.1.sectors.length c_y547_sectors), (Value.slice a_y547_pending sync_3.2.1.pending.length c_y547_pending), (Value.int .i64 sync_3.2.1.left), (Value.bool sync_3.2.1.stopped)].toArray 25), (some b549, Obj.cells [(Value.slice a_y546_records sync_3.1.records.length c_y546_records), (Value.int .i64 sync_3.1.many), (Value.int .i64 sync_3.1.synced)].toArray 52), (k_g70, o_g70), (some b57, Obj.cells [(Value.slice a_y72 v_3.length c_y72), (Value.int .i64 v_4), (Value.int .i64 v_5)].toArray 52), (some b23, Obj.cells [(Value.slice a_y21_sectors new_1.1.sectors.length c_y21_sectors), (Value.slice a_y21_pending new_1.1.pending.length c_y21_pending), (Value.int .i64 new_1.1.left), (Value.bool new_1.1.stopped)].toArray 25)] ∧ fr [] [(109, (Value.bool v_10))] ∧ Step (ks [(some b554, Obj.cells [(Value.slice a_y547_sectors sync_3.2.1.sectors.length c_y547_sectors), (Value.slice a_y547_pending sync_3.2.1.pending.length c_y547_pending), (Value.int .i64 sync_3.2.1.left), (Value.bool sync_3.2.1.stopped)].toArray 25), (some b549, Obj.cells [(Value.slice a_y546_records sync_3.1.records.length c_y546_records), (Value.int .i64 sync_3.1.many), (Value.int .i64 sync_3.1.synced)].toArray 52), (k_g70, o_g70), (some b57, Obj.cells [(Value.slice a_y72 v_3.length c_y72), (Value.int .i64 v_4), (Value.int .i64 v_5)].toArray 52), (some b23, Obj.cells [(Value.slice a_y21_sectors new_1.1.sectors.length c_y21_sectors), (Value.slice a_y21_pending new_1.1.pending.length c_y21_pending), (Value.int .i64 new_1.1.left), (Value.bool new_1.1.stopped)].toArray 25)] O) w562 (ks Ebs O) w' ∧ St ⟨w, [], []⟩ O w' Ebs ∧ k567 v_10 = some x) ?_ ?_
       ·
        rintro ρ574 w570 ⟨v_10, Ebs, hEbs, hfr573, hst572, hs571, hm⟩
        replace hm := jnE1 hk568 hm
        subst hEbs; rw [hfr573.eq]; clear hfr573
        replace f_y21_sectors := f_y21_sectors.step hst572; replace f_y21_pending := f_y21_pending.step hst572; replace f_g70 := f_g70.step hst572; replace f_y72 := f_y72.step hst572; replace f_y546_records := f_y546_records.step hst572; replace f_y547_sectors := f_y547_sectors.step hst572; replace f_y547_pending := f_y547_pending.step hst572; replace ch87 := ch87.trans hst572; clear hst572 hs564
        refine Wp_cond rfl (fun hc575 => ?_) (fun hc575 => ?_)
        ·
         replace hm := bif_t hm hc575
         refine Wp_seq ?_
         obtain ⟨hs576, p577⟩ := hs571.sub (bs' := []) (.cons _ (.cons _ (.cons _ (.cons _ (.cons _ List.Sublist.slnil)))))
         clear f_y21_sectors f_y21_pending f_g70 f_y72 f_y546_records f_y547_sectors f_y547_pending
         replace ch87 := ch87.trans p577; clear p577 hs571
         refine Wp_region ?_
         refine Rg_op rfl (op_move (v := (Value.int .i64 sync_3.2.2)) rfl ?_)
         refine Rg_op rfl (op_eql rfl rfl ?_)
         refine Rg_op rfl (op_assign (v := (Value.bool (decide (sync_3.2.2 = 0)))) rfl ?_)
         refine Rg_nil ?_
         refine Wp_ret ?_
         have hz := step_all hs576
         refine ⟨_, (show Closes [] _ _ from rfl), [(Value.bool (decide (sync_3.2.2 = 0)))], ⟨rfl, trivial⟩, hs576.ext, ?_⟩
         exact Vr.eq (a := vB) (x := (decide (sync_3.2.2 = 0))) rfl (Option.some.inj hm)
        ·
         replace hm := bif_f hm hc575
         refine Wp_skip ?_
         refine Wp_seq ?_
         obtain ⟨hs578, p579⟩ := hs571.sub (bs' := [(some b554, Obj.cells [(Value.slice a_y547_sectors sync_3.2.1.sectors.length c_y547_sectors), (Value.slice a_y547_pending sync_3.2.1.pending.length c_y547_pending), (Value.int .i64 sync_3.2.1.left), (Value.bool sync_3.2.1.stopped)].toArray 25), (k_g70, o_g70), (some b57, Obj.cells [(Value.slice a_y72 v_3.length c_y72), (Value.int .i64 v_4), (Value.int .i64 v_5)].toArray 52)]) (.cons_cons _ (.cons _ (.cons_cons _ (.cons_cons _ (.cons _ List.Sublist.slnil)))))
         clear f_y21_sectors f_y21_pending f_y546_records
         replace f_g70 := f_g70.step p579; replace f_y72 := f_y72.step p579; replace f_y547_sectors := f_y547_sectors.step p579; replace f_y547_pending := f_y547_pending.step p579; replace ch87 := ch87.trans p579; clear p579 hs571
         refine Wp_region ?_
         refine Rg_op rfl (op_move (v := (Value.int .i64 sector)) rfl ?_)
         refine Rg_op rfl (op_conv Try.underlying3 Try.underlying65 rfl ?_)
         refine Rg_op rfl (op_move (v := (Value.slice a_g70 ends_1.length c_g70)) rfl ?_)
         refine Rg_op rfl (op_move (v := (Value.slice a_g70 ends_1.length c_g70)) rfl ?_)
         refine Rg_op rfl (op_len Try.underlying62 rfl ?_)
         have rl580 := inK_lenG f_g70
         refine Rg_op rfl (op_subw rfl rfl ?_)
         replace hm := ck_some hm; obtain ⟨hc581, hm⟩ := hm
         refine Rg_op rfl (op_indexAddrG ty62 ty3 rfl rfl f_g70 hc581 ?_)
         rintro b582 rfl rfl
         refine Rg_op rfl (op_loadG (m := (IntKind.wrap .i64 ((ends_1.length : Int) - 1))) (i := 1) ty3 rfl hs578 rfl rfl f_g70 hc581 ?_)
         intro v583 h584
         obtain ⟨rfl, r_y585⟩ := un_int h584
         refine Rg_op rfl (op_conv Try.underlying3 Try.underlying65 rfl ?_)
         replace hm := ck_some hm; obtain ⟨hc586, hm⟩ := hm
         refine Rg_op rfl (op_rem rfl rfl hc586 ?_)
         refine Rg_op rfl (op_conv Try.underlying65 Try.underlying3 rfl ?_)
         refine Rg_op rfl (op_assign (v := (Value.int .i64 (IntKind.wrap .i64 ((IntKind.wrap .u64 sector).tmod (IntKind.wrap .u64 (ends_1.getD (IntKind.wrap .i64 ((ends_1.length : Int) - 1)).toNat default)))))) rfl ?_)
         refine Rg_nil ?_
         refine Wp_seq ?_
         refine Wp_reset [] [(2, (Value.int .i64 at_)), (3, (Value.int .u8 (by_.toNat : Int))), (11, (Value.pointer (some ⟨b57, 0, none⟩))), (13, (Value.slice (some ⟨b582, 0, none⟩) ends_1.length c_g70)), (20, (Value.pointer (some ⟨b554, 0, none⟩))), (22, (Value.int .i64 (IntKind.wrap .i64 ((IntKind.wrap .u64 sector).tmod (IntKind.wrap .u64 (ends_1.getD (IntKind.wrap .i64 ((ends_1.length : Int) - 1)).toNat default))))))] rfl ⟨rfl, rfl, rfl, rfl, rfl, rfl, trivial⟩ fun ξ587 => ?_
         replace hm := jn_elim hm; obtain ⟨k589, hk590, hm⟩ := hm
         refine Wp_seqJ [123, 124, 125, 126, 127, 128, 129, 130, 131, 132, 133, 134, 135, 136, 137, 138, 139, 140, 141, 142, 143, 144] (fun fr w' => ∃ (v_11 : Bool) (Ebs : Ents), Ebs = [(some b554, Obj.cells [(Value.slice a_y547_sectors sync_3.2.1.sectors.length c_y547_sectors), (Value.slice a_y547_pending sync_3.2.1.pending.length c_y547_pending), (Value.int .i64 sync_3.2.1.left), (Value.bool sync_3.2.1.stopped)].toArray 25), (some b582, o_g70), (some b57, Obj.cells [(Value.slice a_y72 v_3.length c_y72), (Value.int .i64 v_4), (Value.int .i64 v_5)].toArray 52)] ∧ fr [] [(144, (Value.bool v_11))] ∧ Step (ks [(some b554, Obj.cells [(Value.slice a_y547_sectors sync_3.2.1.sectors.length c_y547_sectors), (Value.slice a_y547_pending sync_3.2.1.pending.length c_y547_pending), (Value.int .i64 sync_3.2.1.left), (Value.bool sync_3.2.1.stopped)].toArray 25), (some b582, o_g70), (some b57, Obj.cells [(Value.slice a_y72 v_3.length c_y72), (Value.int .i64 v_4), (Value.int .i64 v_5)].toArray 52)] O) w570 (ks Ebs O) w' ∧ St ⟨w, [], []⟩ O w' Ebs ∧ k589 v_11 = some x) ?_ ?_
         ·
          rintro ρ596 w592 ⟨v_11, Ebs, hEbs, hfr595, hst594, hs593, hm⟩
          replace hm := jnE1 hk590 hm
          subst hEbs; rw [hfr595.eq]; clear hfr595
          replace f_g70 := f_g70.step hst594; replace f_y72 := f_y72.step hst594; replace f_y547_sectors := f_y547_sectors.step hst594; replace f_y547_pending := f_y547_pending.step hst594; replace ch87 := ch87.trans hst594; clear hst594 hs578
          refine Wp_cond rfl (fun hc597 => ?_) (fun hc597 => ?_)
          ·
           replace hm := bif_t hm hc597
           refine Wp_seq ?_
           obtain ⟨hs598, p599⟩ := hs593.sub (bs' := []) (.cons _ (.cons _ (.cons _ List.Sublist.slnil)))
           clear f_g70 f_y72 f_y547_sectors f_y547_pending
           replace ch87 := ch87.trans p599; clear p599 hs593
           refine Wp_region ?_
           refine Rg_op rfl (op_assign (v := (Value.bool false)) rfl ?_)
           refine Rg_nil ?_
           refine Wp_ret ?_
           have hz := step_all hs598
           refine ⟨_, (show Closes [] _ _ from rfl), [(Value.bool false)], ⟨rfl, trivial⟩, hs598.ext, ?_⟩
           exact Vr.eq (a := vB) (x := false) rfl (Option.some.inj hm)
          ·
           replace hm := bif_f hm hc597
           refine Wp_skip ?_
           refine Wp_seq ?_
           refine Wp_region ?_
           refine Rg_op rfl (op_buildSlice (cs := []) (parts := []) ty41 ty5 hs593 (by decide) rfl ?_)
           intro b600 w601 hx604 p602 hs603
           replace f_g70 := f_g70.step p602; replace f_y72 := f_y72.step p602; replace f_y547_sectors := f_y547_sectors.step p602; replace f_y547_pending := f_y547_pending.step p602; replace ch87 := ch87.trans p602; clear p602 hs593
           refine Rg_op rfl (op_fieldAddr ty25 rfl ty22 (by decide) rfl (rfl : _ = (⟨_, 0, none⟩ : Addr)) ?_)
           refine Rg_op rfl (op_load (cs := [(Value.slice a_y547_sectors sync_3.2.1.sectors.length c_y547_sectors), (Value.slice a_y547_pending sync_3.2.1.pending.length c_y547_pending), (Value.int .i64 sync_3.2.1.left), (Value.bool sync_3.2.1.stopped)]) (i := 1) ty22 hs603 rfl rfl rfl ?_)
           refine Rg_op rfl (op_move (v := (Value.int .i64 (IntKind.wrap .i64 ((IntKind.wrap .u64 sector).tmod (IntKind.wrap .u64 (ends_1.getD (IntKind.wrap .i64 ((ends_1.length : Int) - 1)).toNat default)))))) rfl ?_)
           replace hm := ck_some hm; obtain ⟨hc606, hm⟩ := hm
           refine Rg_op rfl (op_indexAddr (q := (rSl rU8)) ty22 ty41 rfl rfl f_y547_sectors rfl hc606.1 hc606.2 ?_)
           intro p607 f608
           refine Rg_op rfl (op_loadP ty41 rfl f608 rfl ?_)
           intro v609 h610
           obtain ⟨a_y611, c_y611, rfl, f_y611⟩ := un_sl h610
           have f612 := Gs.of_cells (p := rU8) (e := 5) (bl := b600) (c := 0) (w := w601) (O := ks [(some b600, Obj.cells [].toArray 5), (some b554, Obj.cells [(Value.slice a_y547_sectors sync_3.2.1.sectors.length c_y547_sectors), (Value.slice a_y547_pending sync_3.2.1.pending.length c_y547_pending), (Value.int .i64 sync_3.2.1.left), (Value.bool sync_3.2.1.stopped)].toArray 25), (some b582, o_g70), (some b57, Obj.cells [(Value.slice a_y72 v_3.length c_y72), (Value.int .i64 v_4), (Value.int .i64 v_5)].toArray 52)] O) (show Els rU8 _ _ [] [] from Els.nil) rfl (le_lit rfl)
           replace hm := ck_some hm; obtain ⟨hc613, hm⟩ := hm
           obtain ⟨ns614, he615, hr616⟩ := f_y611.src
           refine Rg_op rfl (op_append (q := rU8) (i := 0) (xs := ([] : List UInt8)) (ys := (sync_3.2.1.sectors.getD (IntKind.wrap .i64 ((IntKind.wrap .u64 sector).tmod (IntKind.wrap .u64 (ends_1.getD (IntKind.wrap .i64 ((ends_1.length : Int) - 1)).toNat default)))).toNat default)) (news := ns614) ty41 ty5 rfl (by decide) hs603 rfl rfl f612 rfl hr616 he615 hc613 (by have := hc613; simp only [maxLen]; omega) ?_)
           intro a620 c621 k622 o623 w617 p618 hs619 f624
           replace f_g70 := f_g70.step p618; replace f_y72 := f_y72.step p618; replace f_y547_sectors := f_y547_sectors.step p618; replace f_y547_pending := f_y547_pending.step p618; replace f608 := f608.step p618; replace f_y611 := f_y611.step p618; replace ch87 := ch87.trans p618; clear p618 hs603
           refine Rg_op rfl (op_assign (v := (Value.slice a620 (([] : List UInt8) ++ (sync_3.2.1.sectors.getD (IntKind.wrap .i64 ((IntKind.wrap .u64 sector).tmod (IntKind.wrap .u64 (ends_1.getD (IntKind.wrap .i64 ((ends_1.length : Int) - 1)).toNat default)))).toNat default)).length c621)) rfl ?_)
           refine Rg_nil ?_
           refine Wp_seq ?_
           clear f608 f_y611
           refine Wp_region ?_
           refine Rg_op rfl (op_move (v := (Value.slice a620 (([] : List UInt8) ++ (sync_3.2.1.sectors.getD (IntKind.wrap .i64 ((IntKind.wrap .u64 sector).tmod (IntKind.wrap .u64 (ends_1.getD (IntKind.wrap .i64 ((ends_1.length : Int) - 1)).toNat default)))).toNat default)).length c621)) rfl ?_)
           refine Rg_op rfl (op_move (v := (Value.int .i64 at_)) rfl ?_)
           refine Rg_op rfl (op_conv Try.underlying3 Try.underlying65 rfl ?_)
           refine Rg_op rfl (op_rem rfl rfl (by decide) ?_)
           replace hm := ck_some hm; obtain ⟨hc625, hm⟩ := hm
           refine Rg_op rfl (op_indexAddrG ty41 ty5 rfl rfl f624 hc625 ?_)
           rintro b626 rfl rfl
           refine Rg_op rfl (op_loadG (m := ((IntKind.wrap .u64 at_).tmod 128)) (i := 0) ty5 rfl hs619 rfl rfl f624 hc625 ?_)
           intro v627 h628
           obtain rfl := un_u8 h628
           refine Rg_op rfl (op_move (v := (Value.int .u8 (by_.toNat : Int))) rfl ?_)
           refine Rg_op rfl (run1_u8 (e := (Go.bits .xor .u8 (((([] : List UInt8) ++ (sync_3.2.1.sectors.getD (IntKind.wrap .i64 ((IntKind.wrap .u64 sector).tmod (IntKind.wrap .u64 (ends_1.getD (IntKind.wrap .i64 ((ends_1.length : Int) - 1)).toNat default)))).toNat default)).getD ((IntKind.wrap .u64 at_).tmod 128).toNat default).toNat : Int) (by_.toNat : Int))) (inK_bits .xor .u8 _ _) (fun _ hk => op_xor rfl rfl hk) ?_)
           replace hm := ck_some hm; obtain ⟨hc630, hm⟩ := hm
           refine Rg_op rfl (op_indexAddrG ty41 ty5 rfl rfl f624 hc630 ?_)
           rintro _ ⟨⟩ -
           refine Rg_op_ (op_storeG (vs := [(Value.int .u8 ((UInt8.ofNat (Go.bits .xor .u8 (((([] : List UInt8) ++ (sync_3.2.1.sectors.getD (IntKind.wrap .i64 ((IntKind.wrap .u64 sector).tmod (IntKind.wrap .u64 (ends_1.getD (IntKind.wrap .i64 ((ends_1.length : Int) - 1)).toNat default)))).toNat default)).getD ((IntKind.wrap .u64 at_).tmod 128).toNat default).toNat : Int) (by_.toNat : Int)).toNat).toNat : Int))]) (i := 0) (m := ((IntKind.wrap .u64 at_).tmod 128)) ty5 rfl hs619 rfl rfl rfl rfl f624 hc630 mkU8 ?_)
           intro w632 o635 p633 hs634 f636
           replace f_g70 := f_g70.step p633; replace f_y72 := f_y72.step p633; replace f_y547_sectors := f_y547_sectors.step p633; replace f_y547_pending := f_y547_pending.step p633; replace ch87 := ch87.trans p633; clear p633 hs619
           refine Rg_nil ?_
           refine Wp_seq ?_
           refine Wp_region ?_
           refine Rg_op rfl (op_loadA (cs := [(Value.slice a_y547_sectors sync_3.2.1.sectors.length c_y547_sectors), (Value.slice a_y547_pending sync_3.2.1.pending.length c_y547_pending), (Value.int .i64 sync_3.2.1.left), (Value.bool sync_3.2.1.stopped)]) (vs := [(Value.slice a_y547_sectors sync_3.2.1.sectors.length c_y547_sectors), (Value.slice a_y547_pending sync_3.2.1.pending.length c_y547_pending), (Value.int .i64 sync_3.2.1.left), (Value.bool sync_3.2.1.stopped)]) (i := 1) ty25 hs634 rfl rfl rfl rfl ?_)
           refine Rg_op rfl (op_move (v := (Value.int .i64 (IntKind.wrap .i64 ((IntKind.wrap .u64 sector).tmod (IntKind.wrap .u64 (ends_1.getD (IntKind.wrap .i64 ((ends_1.length : Int) - 1)).toNat default)))))) rfl ?_)
           refine Rg_op rfl (op_move (v := (Value.slice (some ⟨b626, 0, none⟩) ((([] : List UInt8) ++ (sync_3.2.1.sectors.getD (IntKind.wrap .i64 ((IntKind.wrap .u64 sector).tmod (IntKind.wrap .u64 (ends_1.getD (IntKind.wrap .i64 ((ends_1.length : Int) - 1)).toNat default)))).toNat default)).set ((IntKind.wrap .u64 at_).tmod 128).toNat (UInt8.ofNat (Go.bits .xor .u8 (((([] : List UInt8) ++ (sync_3.2.1.sectors.getD (IntKind.wrap .i64 ((IntKind.wrap .u64 sector).tmod (IntKind.wrap .u64 (ends_1.getD (IntKind.wrap .i64 ((ends_1.length : Int) - 1)).toNat default)))).toNat default)).getD ((IntKind.wrap .u64 at_).tmod 128).toNat default).toNat : Int) (by_.toNat : Int)).toNat)).length c621)) (eqlen rfl (show (([] : List UInt8) ++ (sync_3.2.1.sectors.getD (IntKind.wrap .i64 ((IntKind.wrap .u64 sector).tmod (IntKind.wrap .u64 (ends_1.getD (IntKind.wrap .i64 ((ends_1.length : Int) - 1)).toNat default)))).toNat default)).length = ((([] : List UInt8) ++ (sync_3.2.1.sectors.getD (IntKind.wrap .i64 ((IntKind.wrap .u64 sector).tmod (IntKind.wrap .u64 (ends_1.getD (IntKind.wrap .i64 ((ends_1.length : Int) - 1)).toNat default)))).toNat default)).set ((IntKind.wrap .u64 at_).tmod 128).toNat (UInt8.ofNat (Go.bits .xor .u8 (((([] : List UInt8) ++ (sync_3.2.1.sectors.getD (IntKind.wrap .i64 ((IntKind.wrap .u64 sector).tmod (IntKind.wrap .u64 (ends_1.getD (IntKind.wrap .i64 ((ends_1.length : Int) - 1)).toNat default)))).toNat default)).getD ((IntKind.wrap .u64 at_).tmod 128).toNat default).toNat : Int) (by_.toNat : Int)).toNat)).length from by first | (simp; done) | (simp; omega))) ?_)
           obtain ⟨hs638, p639, f637⟩ := Gs.publish (i := 0) hs634 rfl f636
           replace f_g70 := f_g70.step p639; replace f_y72 := f_y72.step p639; replace f_y547_sectors := f_y547_sectors.step p639; replace f_y547_pending := f_y547_pending.step p639; replace ch87 := ch87.trans p639; clear p639 hs634
           replace hm := bd hm; obtain ⟨write_2, hv640, hm⟩ := hm
           refine Rg_op rfl (op_call Try.call23 (c23_disk_Write (d := sync_3.2.1) (at_ := (IntKind.wrap .i64 ((IntKind.wrap .u64 sector).tmod (IntKind.wrap .u64 (ends_1.getD (IntKind.wrap .i64 ((ends_1.length : Int) - 1)).toNat default))))) (b := ((([] : List UInt8) ++ (sync_3.2.1.sectors.getD (IntKind.wrap .i64 ((IntKind.wrap .u64 sector).tmod (IntKind.wrap .u64 (ends_1.getD (IntKind.wrap .i64 ((ends_1.length : Int) - 1)).toNat default)))).toNat default)).set ((IntKind.wrap .u64 at_).tmod 128).toNat (UInt8.ofNat (Go.bits .xor .u8 (((([] : List UInt8) ++ (sync_3.2.1.sectors.getD (IntKind.wrap .i64 ((IntKind.wrap .u64 sector).tmod (IntKind.wrap .u64 (ends_1.getD (IntKind.wrap .i64 ((ends_1.length : Int) - 1)).toNat default)))).toNat default)).getD ((IntKind.wrap .u64 at_).tmod 128).toNat default).toNat : Int) (by_.toNat : Int)).toNat))) hs638.ltw f_y547_sectors f_y547_pending r_y547_left (inK_wrap .i64 _) f637 hv640) rfl ?_)
           rintro v641 w642 ⟨hx643, h644⟩
           have hs645 := hs638.call hx643
           have p646 := Step.ext (O := ks [(some b554, Obj.cells [(Value.slice a_y547_sectors sync_3.2.1.sectors.length c_y547_sectors), (Value.slice a_y547_pending sync_3.2.1.pending.length c_y547_pending), (Value.int .i64 sync_3.2.1.left), (Value.bool sync_3.2.1.stopped)].toArray 25), (some b582, o_g70), (some b57, Obj.cells [(Value.slice a_y72 v_3.length c_y72), (Value.int .i64 v_4), (Value.int .i64 v_5)].toArray 52)] O) hx643
           clear hx643
           replace f_g70 := f_g70.step p646; replace f_y72 := f_y72.step p646; replace f_y547_sectors := f_y547_sectors.step p646; replace f_y547_pending := f_y547_pending.step p646; replace f637 := f637.step p646; replace ch87 := ch87.trans p646; clear p646 hs638
           obtain ⟨v647, v648, rfl, h649, h650⟩ := h644
           obtain ⟨_, rfl, ⟨_, _, rfl, ⟨a_y651_sectors, c_y651_sectors, rfl, f_y651_sectors⟩, ⟨_, _, rfl, ⟨a_y651_pending, c_y651_pending, rfl, f_y651_pending⟩, ⟨_, _, rfl, ⟨rfl, r_y651_left⟩, rfl⟩⟩⟩⟩ := h649
           obtain ⟨rfl, r_y652⟩ := h650
           refine Rg_op rfl (op_move (v := (Value.tuple [(Value.agg [(Value.slice a_y651_sectors write_2.1.sectors.length c_y651_sectors), (Value.slice a_y651_pending write_2.1.pending.length c_y651_pending), (Value.int .i64 write_2.1.left), (Value.bool write_2.1.stopped)].toArray), (Value.int .i64 write_2.2)].toArray)) rfl ?_)
           refine Rg_op rfl (op_extract (v := (Value.agg [(Value.slice a_y651_sectors write_2.1.sectors.length c_y651_sectors), (Value.slice a_y651_pending write_2.1.pending.length c_y651_pending), (Value.int .i64 write_2.1.left), (Value.bool write_2.1.stopped)].toArray)) rfl rfl ?_)
           refine Rg_op rfl (op_extract (v := (Value.int .i64 write_2.2)) rfl rfl ?_)
           refine Rg_op_ (op_store (cs := [(Value.slice a_y547_sectors sync_3.2.1.sectors.length c_y547_sectors), (Value.slice a_y547_pending sync_3.2.1.pending.length c_y547_pending), (Value.int .i64 sync_3.2.1.left), (Value.bool sync_3.2.1.stopped)]) (vs := [(Value.slice a_y651_sectors write_2.1.sectors.length c_y651_sectors), (Value.slice a_y651_pending write_2.1.pending.length c_y651_pending), (Value.int .i64 write_2.1.left), (Value.bool write_2.1.stopped)]) (cs' := [(Value.slice a_y651_sectors write_2.1.sectors.length c_y651_sectors), (Value.slice a_y651_pending write_2.1.pending.length c_y651_pending), (Value.int .i64 write_2.1.left), (Value.bool write_2.1.stopped)]) (bs' := [(some b554, Obj.cells [(Value.slice a_y651_sectors write_2.1.sectors.length c_y651_sectors), (Value.slice a_y651_pending write_2.1.pending.length c_y651_pending), (Value.int .i64 write_2.1.left), (Value.bool write_2.1.stopped)].toArray 25), (some b582, o_g70), (some b57, Obj.cells [(Value.slice a_y72 v_3.length c_y72), (Value.int .i64 v_4), (Value.int .i64 v_5)].toArray 52)]) (i := 0) ty25 hs645 rfl rfl rfl rfl rfl (le_lit rfl) rfl rfl rfl ?_)
           intro w653 p654 hs655
           replace f_g70 := f_g70.step p654; replace f_y72 := f_y72.step p654; replace f_y547_sectors := f_y547_sectors.step p654; replace f_y547_pending := f_y547_pending.step p654; replace f637 := f637.step p654; replace f_y651_sectors := f_y651_sectors.step p654; replace f_y651_pending := f_y651_pending.step p654; replace ch87 := ch87.trans p654; clear p654 hs645
           refine Rg_op rfl (op_assign (v := (Value.int .i64 write_2.2)) rfl ?_)
           refine Rg_nil ?_
           refine Wp_seq ?_
           clear f_y547_sectors f_y547_pending f637
           refine Wp_reset [] [(11, (Value.pointer (some ⟨b57, 0, none⟩))), (13, (Value.slice (some ⟨b582, 0, none⟩) ends_1.length c_g70)), (20, (Value.pointer (some ⟨b554, 0, none⟩))), (21, (Value.int .i64 write_2.2)), (22, (Value.int .i64 (IntKind.wrap .i64 ((IntKind.wrap .u64 sector).tmod (IntKind.wrap .u64 (ends_1.getD (IntKind.wrap .i64 ((ends_1.length : Int) - 1)).toNat default))))))] rfl ⟨rfl, rfl, rfl, rfl, rfl, trivial⟩ fun ξ656 => ?_
           refine Wp_region ?_
           refine Rg_op rfl (op_loadA (cs := [(Value.slice a_y651_sectors write_2.1.sectors.length c_y651_sectors), (Value.slice a_y651_pending write_2.1.pending.length c_y651_pending), (Value.int .i64 write_2.1.left), (Value.bool write_2.1.stopped)]) (vs := [(Value.slice a_y651_sectors write_2.1.sectors.length c_y651_sectors), (Value.slice a_y651_pending write_2.1.pending.length c_y651_pending), (Value.int .i64 write_2.1.left), (Value.bool write_2.1.stopped)]) (i := 0) ty25 hs655 rfl rfl rfl rfl ?_)
           replace hm := bd hm; obtain ⟨sync_4, hv657, hm⟩ := hm
           refine Rg_op rfl (op_call Try.call25 (c25_disk_Sync (d := write_2.1) hs655.ltw f_y651_sectors f_y651_pending r_y651_left hv657) rfl ?_)
           rintro v658 w659 ⟨hx660, h661⟩
           have hs662 := hs655.call hx660
           have p663 := Step.ext (O := ks [(some b554, Obj.cells [(Value.slice a_y651_sectors write_2.1.sectors.length c_y651_sectors), (Value.slice a_y651_pending write_2.1.pending.length c_y651_pending), (Value.int .i64 write_2.1.left), (Value.bool write_2.1.stopped)].toArray 25), (some b582, o_g70), (some b57, Obj.cells [(Value.slice a_y72 v_3.length c_y72), (Value.int .i64 v_4), (Value.int .i64 v_5)].toArray 52)] O) hx660
           clear hx660
           replace f_g70 := f_g70.step p663; replace f_y72 := f_y72.step p663; replace f_y651_sectors := f_y651_sectors.step p663; replace f_y651_pending := f_y651_pending.step p663; replace ch87 := ch87.trans p663; clear p663 hs655
           obtain ⟨v664, v665, rfl, h666, h667⟩ := h661
           obtain ⟨_, rfl, ⟨_, _, rfl, ⟨a_y668_sectors, c_y668_sectors, rfl, f_y668_sectors⟩, ⟨_, _, rfl, ⟨a_y668_pending, c_y668_pending, rfl, f_y668_pending⟩, ⟨_, _, rfl, ⟨rfl, r_y668_left⟩, rfl⟩⟩⟩⟩ := h666
           obtain ⟨rfl, r_y669⟩ := h667
           refine Rg_op rfl (op_move (v := (Value.tuple [(Value.agg [(Value.slice a_y668_sectors sync_4.1.sectors.length c_y668_sectors), (Value.slice a_y668_pending sync_4.1.pending.length c_y668_pending), (Value.int .i64 sync_4.1.left), (Value.bool sync_4.1.stopped)].toArray), (Value.int .i64 sync_4.2)].toArray)) rfl ?_)
           refine Rg_op rfl (op_extract (v := (Value.agg [(Value.slice a_y668_sectors sync_4.1.sectors.length c_y668_sectors), (Value.slice a_y668_pending sync_4.1.pending.length c_y668_pending), (Value.int .i64 sync_4.1.left), (Value.bool sync_4.1.stopped)].toArray)) rfl rfl ?_)
           refine Rg_op rfl (op_extract (v := (Value.int .i64 sync_4.2)) rfl rfl ?_)
           refine Rg_op_ (op_store (cs := [(Value.slice a_y651_sectors write_2.1.sectors.length c_y651_sectors), (Value.slice a_y651_pending write_2.1.pending.length c_y651_pending), (Value.int .i64 write_2.1.left), (Value.bool write_2.1.stopped)]) (vs := [(Value.slice a_y668_sectors sync_4.1.sectors.length c_y668_sectors), (Value.slice a_y668_pending sync_4.1.pending.length c_y668_pending), (Value.int .i64 sync_4.1.left), (Value.bool sync_4.1.stopped)]) (cs' := [(Value.slice a_y668_sectors sync_4.1.sectors.length c_y668_sectors), (Value.slice a_y668_pending sync_4.1.pending.length c_y668_pending), (Value.int .i64 sync_4.1.left), (Value.bool sync_4.1.stopped)]) (bs' := [(some b554, Obj.cells [(Value.slice a_y668_sectors sync_4.1.sectors.length c_y668_sectors), (Value.slice a_y668_pending sync_4.1.pending.length c_y668_pending), (Value.int .i64 sync_4.1.left), (Value.bool sync_4.1.stopped)].toArray 25), (some b582, o_g70), (some b57, Obj.cells [(Value.slice a_y72 v_3.length c_y72), (Value.int .i64 v_4), (Value.int .i64 v_5)].toArray 52)]) (i := 0) ty25 hs662 rfl rfl rfl rfl rfl (le_lit rfl) rfl rfl rfl ?_)
           intro w670 p671 hs672
           replace f_g70 := f_g70.step p671; replace f_y72 := f_y72.step p671; replace f_y651_sectors := f_y651_sectors.step p671; replace f_y651_pending := f_y651_pending.step p671; replace f_y668_sectors := f_y668_sectors.step p671; replace f_y668_pending := f_y668_pending.step p671; replace ch87 := ch87.trans p671; clear p671 hs662
           refine Rg_op rfl (op_assign (v := (Value.int .i64 sync_4.2)) rfl ?_)
           refine Rg_nil ?_
           refine Wp_seq ?_
           clear f_y651_sectors f_y651_pending
           refine Wp_region ?_
           refine Rg_op rfl (op_loadA (cs := [(Value.slice a_y668_sectors sync_4.1.sectors.length c_y668_sectors), (Value.slice a_y668_pending sync_4.1.pending.length c_y668_pending), (Value.int .i64 sync_4.1.left), (Value.bool sync_4.1.stopped)]) (vs := [(Value.slice a_y668_sectors sync_4.1.sectors.length c_y668_sectors), (Value.slice a_y668_pending sync_4.1.pending.length c_y668_pending), (Value.int .i64 sync_4.1.left), (Value.bool sync_4.1.stopped)]) (i := 0) ty25 hs672 rfl rfl rfl rfl ?_)
           replace hm := bd hm; obtain ⟨open_3, hv673, hm⟩ := hm
           refine Rg_op rfl (op_call Try.call38 (c38_journal_Open (d := sync_4.1) hs672.ltw f_y668_sectors f_y668_pending r_y668_left hv673) rfl ?_)
           rintro v674 w675 ⟨hx676, h677⟩
           have hs678 := hs672.call hx676
           have p679 := Step.ext (O := ks [(some b554, Obj.cells [(Value.slice a_y668_sectors sync_4.1.sectors.length c_y668_sectors), (Value.slice a_y668_pending sync_4.1.pending.length c_y668_pending), (Value.int .i64 sync_4.1.left), (Value.bool sync_4.1.stopped)].toArray 25), (some b582, o_g70), (some b57, Obj.cells [(Value.slice a_y72 v_3.length c_y72), (Value.int .i64 v_4), (Value.int .i64 v_5)].toArray 52)] O) hx676
           clear hx676
           replace f_g70 := f_g70.step p679; replace f_y72 := f_y72.step p679; replace f_y668_sectors := f_y668_sectors.step p679; replace f_y668_pending := f_y668_pending.step p679; replace ch87 := ch87.trans p679; clear p679 hs672
           obtain ⟨v680, v681, rfl, h682, h683⟩ := h677
           obtain ⟨_, rfl, ⟨_, _, rfl, ⟨a_y684_records, c_y684_records, rfl, f_y684_records⟩, ⟨_, _, rfl, ⟨rfl, r_y684_many⟩, ⟨rfl, r_y684_synced⟩⟩⟩⟩ := h682
           obtain ⟨rfl, r_y685⟩ := h683
           refine Rg_op rfl (op_move (v := (Value.tuple [(Value.agg [(Value.slice a_y684_records open_3.1.records.length c_y684_records), (Value.int .i64 open_3.1.many), (Value.int .i64 open_3.1.synced)].toArray), (Value.int .i64 open_3.2)].toArray)) rfl ?_)
           refine Rg_op rfl (op_extract (v := (Value.agg [(Value.slice a_y684_records open_3.1.records.length c_y684_records), (Value.int .i64 open_3.1.many), (Value.int .i64 open_3.1.synced)].toArray)) rfl rfl ?_)
           refine Rg_op rfl (op_extract (v := (Value.int .i64 open_3.2)) rfl rfl ?_)
           refine Rg_op rfl (op_alloc ty52 hs678 ?_)
           intro b686 w687 _ p688 hs689
           replace f_g70 := f_g70.step p688; replace f_y72 := f_y72.step p688; replace f_y668_sectors := f_y668_sectors.step p688; replace f_y668_pending := f_y668_pending.step p688; replace f_y684_records := f_y684_records.step p688; replace ch87 := ch87.trans p688; clear p688 hs678
           refine Rg_op_ (op_store (cs := [(Value.slice none 0 0), (Value.int .i64 0), (Value.int .i64 0)]) (vs := [(Value.slice a_y684_records open_3.1.records.length c_y684_records), (Value.int .i64 open_3.1.many), (Value.int .i64 open_3.1.synced)]) (cs' := [(Value.slice a_y684_records open_3.1.records.length c_y684_records), (Value.int .i64 open_3.1.many), (Value.int .i64 open_3.1.synced)]) (bs' := [(some b686, Obj.cells [(Value.slice a_y684_records open_3.1.records.length c_y684_records), (Value.int .i64 open_3.1.many), (Value.int .i64 open_3.1.synced)].toArray 52), (some b554, Obj.cells [(Value.slice a_y668_sectors sync_4.1.sectors.length c_y668_sectors), (Value.slice a_y668_pending sync_4.1.pending.length c_y668_pending), (Value.int .i64 sync_4.1.left), (Value.bool sync_4.1.stopped)].toArray 25), (some b582, o_g70), (some b57, Obj.cells [(Value.slice a_y72 v_3.length c_y72), (Value.int .i64 v_4), (Value.int .i64 v_5)].toArray 52)]) (i := 0) ty52 hs689 rfl rfl rfl rfl rfl (le_lit rfl) rfl rfl rfl ?_)
           intro w691 p692 hs693
           replace f_g70 := f_g70.step p692; replace f_y72 := f_y72.step p692; replace f_y668_sectors := f_y668_sectors.step p692; replace f_y668_pending := f_y668_pending.step p692; replace f_y684_records := f_y684_records.step p692; replace ch87 := ch87.trans p692; clear p692 hs689
           refine Rg_op rfl (op_assign (v := (Value.int .i64 open_3.2)) rfl ?_)
           refine Rg_nil ?_
           refine Wp_seq ?_
           obtain ⟨hs694, p695⟩ := hs693.sub (bs' := [(some b686, Obj.cells [(Value.slice a_y684_records open_3.1.records.length c_y684_records), (Value.int .i64 open_3.1.many), (Value.int .i64 open_3.1.synced)].toArray 52), (some b582, o_g70), (some b57, Obj.cells [(Value.slice a_y72 v_3.length c_y72), (Value.int .i64 v_4), (Value.int .i64 v_5)].toArray 52)]) (.cons_cons _ (.cons _ (.cons_cons _ (.cons_cons _ List.Sublist.slnil))))
           clear f_y668_sectors f_y668_pending
           replace f_g70 := f_g70.step p695; replace f_y72 := f_y72.step p695; replace f_y684_records := f_y684_records.step p695; replace ch87 := ch87.trans p695; clear p695 hs693
           refine Wp_region ?_
           refine Rg_op rfl (op_assign (v := (Value.int .i64 0)) rfl ?_)
           refine Rg_nil ?_
           refine Wp_reset [] [(11, (Value.pointer (some ⟨b57, 0, none⟩))), (13, (Value.slice (some ⟨b582, 0, none⟩) ends_1.length c_g70)), (21, (Value.int .i64 write_2.2)), (22, (Value.int .i64 (IntKind.wrap .i64 ((IntKind.wrap .u64 sector).tmod (IntKind.wrap .u64 (ends_1.getD (IntKind.wrap .i64 ((ends_1.length : Int) - 1)).toNat default)))))), (24, (Value.int .i64 sync_4.2)), (25, (Value.pointer (some ⟨b686, 0, none⟩))), (26, (Value.int .i64 open_3.2)), (27, (Value.int .i64 0))] rfl ⟨rfl, rfl, rfl, rfl, rfl, rfl, rfl, rfl, trivial⟩ fun ξ696 => ?_
           replace hm := jn_elim hm; obtain ⟨k698, hk699, hm⟩ := hm
           refine Wp_seqJ [27, 178, 179, 180, 181, 182, 183, 184, 185, 186, 187, 188, 189, 190, 191] (fun fr w' => ∃ (want_3 : Int) (Ebs : Ents), Ebs = [(some b686, Obj.cells [(Value.slice a_y684_records open_3.1.records.length c_y684_records), (Value.int .i64 open_3.1.many), (Value.int .i64 open_3.1.synced)].toArray 52), (some b582, o_g70), (some b57, Obj.cells [(Value.slice a_y72 v_3.length c_y72), (Value.int .i64 v_4), (Value.int .i64 v_5)].toArray 52)] ∧ fr [] [(27, (Value.int .i64 want_3))] ∧ Step (ks [(some b686, Obj.cells [(Value.slice a_y684_records open_3.1.records.length c_y684_records), (Value.int .i64 open_3.1.many), (Value.int .i64 open_3.1.synced)].toArray 52), (some b582, o_g70), (some b57, Obj.cells [(Value.slice a_y72 v_3.length c_y72), (Value.int .i64 v_4), (Value.int .i64 v_5)].toArray 52)] O) w691 (ks Ebs O) w' ∧ St ⟨w, [], []⟩ O w' Ebs ∧ InK .i64 want_3 ∧ k698 want_3 = some x) ?_ ?_
           ·
            rintro ρ705 w701 ⟨want_3, Ebs, hEbs, hfr704, hst703, hs702, r_y697, hm⟩
            replace hm := jnE1 hk699 hm
            subst hEbs; rw [hfr704.eq]; clear hfr704
            replace f_g70 := f_g70.step hst703; replace f_y72 := f_y72.step hst703; replace f_y684_records := f_y684_records.step hst703; replace ch87 := ch87.trans hst703; clear hst703 hs694
            refine Wp_reset [] [(11, (Value.pointer (some ⟨b57, 0, none⟩))), (21, (Value.int .i64 write_2.2)), (24, (Value.int .i64 sync_4.2)), (25, (Value.pointer (some ⟨b686, 0, none⟩))), (26, (Value.int .i64 open_3.2)), (27, (Value.int .i64 want_3))] rfl ⟨rfl, rfl, rfl, rfl, rfl, rfl, trivial⟩ fun ξ706 => ?_
            replace hm := jn_elim hm; obtain ⟨k708, hk709, hm⟩ := hm
            refine Wp_seqJ [8, 192, 193, 194, 195, 196, 197, 198, 199, 200, 201, 202, 203, 204, 205, 206, 207, 208, 209, 210] (fun fr w' => ∃ (v_12 : Bool) (Ebs : Ents), Ebs = [(some b686, Obj.cells [(Value.slice a_y684_records open_3.1.records.length c_y684_records), (Value.int .i64 open_3.1.many), (Value.int .i64 open_3.1.synced)].toArray 52), (some b582, o_g70), (some b57, Obj.cells [(Value.slice a_y72 v_3.length c_y72), (Value.int .i64 v_4), (Value.int .i64 v_5)].toArray 52)] ∧ fr [] [(8, (Value.bool v_12))] ∧ Step (ks [(some b686, Obj.cells [(Value.slice a_y684_records open_3.1.records.length c_y684_records), (Value.int .i64 open_3.1.many), (Value.int .i64 open_3.1.synced)].toArray 52), (some b582, o_g70), (some b57, Obj.cells [(Value.slice a_y72 v_3.length c_y72), (Value.int .i64 v_4), (Value.int .i64 v_5)].toArray 52)] O) w701 (ks Ebs O) w' ∧ St ⟨w, [], []⟩ O w' Ebs ∧ k708 v_12 = some x) ?_ ?_
            ·
             rintro ρ715 w711 ⟨v_12, Ebs, hEbs, hfr714, hst713, hs712, hm⟩
             replace hm := jnE1 hk709 hm
             subst hEbs; rw [hfr714.eq]; clear hfr714
             replace f_g70 := f_g70.step hst713; replace f_y72 := f_y72.step hst713; replace f_y684_records := f_y684_records.step hst713; replace ch87 := ch87.trans hst713; clear hst713 hs702
             refine Wp_ret ?_
             have hz := step_all hs712
             replace f_g70 := f_g70.step hz; replace f_y72 := f_y72.step hz; replace f_y684_records := f_y684_records.step hz
             refine ⟨_, (show Closes [] _ _ from rfl), [(Value.bool v_12)], ⟨rfl, trivial⟩, hs712.ext, ?_⟩
             exact Vr.eq (a := vB) (x := v_12) rfl (Option.some.inj hm)
            ·
             intro K710 hK710
             have ch716 := Step.refl (ks [(some b686, Obj.cells [(Value.slice a_y684_records open_3.1.records.length c_y684_records), (Value.int .i64 open_3.1.many), (Value.int .i64 open_3.1.synced)].toArray 52), (some b582, o_g70), (some b57, Obj.cells [(Value.slice a_y72 v_3.length c_y72), (Value.int .i64 v_4), (Value.int .i64 v_5)].toArray 52)] O) w701
             clear f_g70
             refine Wp_drawR (g0 := []) (m := 17) (fl := []) (TS_inv hs702) rfl (.inl rfl) rfl (by decide +kernel) ?_  -- 35
             refine Dw_eq (Value.int .i64 write_2.2) (fun ρ717 w718 g hle hi ht => ?_) ?_
             ·
              obtain ⟨-, hst, -⟩ := hle
              refine StepOp_plain (op_move (v := (Value.int .i64 write_2.2)) (ht 21 rfl) ?_)
              exact Goes.same hi rfl
             refine Dw_eq (Value.bool (decide (write_2.2 = 0))) (fun ρ720 w721 g hle hi ht => ?_) ?_
             ·
              obtain ⟨-, hst, -⟩ := hle
              refine StepOp_plain (op_eql (ht 192 rfl) rfl ?_)
              exact Goes.same hi rfl
             refine Dw_opB (decide (write_2.2 = 0)) (fun ρ723 w724 g hle hi ht => ?_) (fun hg726 => ?_) (fun hg726 => ?_)
             ·
              obtain ⟨-, hst, -⟩ := hle
              refine StepOp_plain (op_move (v := (Value.bool (decide (write_2.2 = 0)))) (ht 193 rfl) ?_)
              exact Goes.same hi rfl
             ·
              replace hm := bif_t hm hg726
              refine Dw_eq (Value.int .i64 sync_4.2) (fun ρ727 w728 g hle hi ht => ?_) ?_
              ·
               obtain ⟨-, hst, -⟩ := hle
               refine StepOp_g rfl (ht 194 rfl) (op_move (v := (Value.int .i64 sync_4.2)) (ht 24 rfl) ?_)
               exact Goes.same hi rfl
              refine Dw_eq (Value.bool (decide (sync_4.2 = 0))) (fun ρ730 w731 g hle hi ht => ?_) ?_
              ·
               obtain ⟨-, hst, -⟩ := hle
               refine StepOp_g rfl (ht 194 rfl) (op_eql (ht 195 rfl) rfl ?_)
               exact Goes.same hi rfl
              refine Dw_eq (Value.bool (decide (sync_4.2 = 0))) (fun ρ733 w734 g hle hi ht => ?_) ?_
              ·
               obtain ⟨-, hst, -⟩ := hle
               refine StepOp_plain (op_pick_t (v := (Value.bool (decide (sync_4.2 = 0)))) (ht 194 rfl) (ht 196 rfl) ?_)
               exact Goes.same hi rfl
              refine Dw_opB (decide (sync_4.2 = 0)) (fun ρ736 w737 g hle hi ht => ?_) (fun hg739 => ?_) (fun hg739 => ?_)
              ·
               obtain ⟨-, hst, -⟩ := hle
               refine StepOp_plain (op_move (v := (Value.bool (decide (sync_4.2 = 0)))) (ht 197 rfl) ?_)
               exact Goes.same hi rfl
              ·
               replace hm := bif_t hm hg739
               refine Dw_eq (Value.int .i64 open_3.2) (fun ρ740 w741 g hle hi ht => ?_) ?_
               ·
                obtain ⟨-, hst, -⟩ := hle
                refine StepOp_g rfl (ht 198 rfl) (op_move (v := (Value.int .i64 open_3.2)) (ht 26 rfl) ?_)
                exact Goes.same hi rfl
               refine Dw_eq (Value.bool (decide (open_3.2 = 0))) (fun ρ743 w744 g hle hi ht => ?_) ?_
               ·
                obtain ⟨-, hst, -⟩ := hle
                refine StepOp_g rfl (ht 198 rfl) (op_eql (ht 199 rfl) rfl ?_)
                exact Goes.same hi rfl
               refine Dw_eq (Value.bool (decide (open_3.2 = 0))) (fun ρ746 w747 g hle hi ht => ?_) ?_
               ·
                obtain ⟨-, hst, -⟩ := hle
                refine StepOp_plain (op_pick_t (v := (Value.bool (decide (open_3.2 = 0)))) (ht 198 rfl) (ht 200 rfl) ?_)
                exact Goes.same hi rfl
               refine Dw_opB (decide (open_3.2 = 0)) (fun ρ749 w750 g hle hi ht => ?_) (fun hg752 => ?_) (fun hg752 => ?_)
               ·
                obtain ⟨-, hst, -⟩ := hle
                refine StepOp_plain (op_move (v := (Value.bool (decide (open_3.2 = 0)))) (ht 201 rfl) ?_)
                exact Goes.same hi rfl
               ·
                replace hm := bif_t hm hg752
                refine Dw_eq (Value.pointer (some ⟨b686, 0, none⟩)) (fun ρ753 w754 g hle hi ht => ?_) ?_
                ·
                 obtain ⟨-, hst, -⟩ := hle
                 refine StepOp_g rfl (ht 202 rfl) (op_fieldAddr ty52 rfl ty22 (by decide) (ht 25 rfl) (rfl : _ = (⟨_, 0, none⟩ : Addr)) ?_)
                 exact Goes.same hi rfl
                refine Dw_eq (Value.slice a_y684_records open_3.1.records.length c_y684_records) (fun ρ756 w757 g hle hi ht => ?_) ?_
                ·
                 obtain ⟨-, hst, -⟩ := hle
                 have hsn := (Step.nx hi).1
                 refine StepOp_g rfl (ht 202 rfl) (op_load (cs := [(Value.slice a_y684_records open_3.1.records.length c_y684_records), (Value.int .i64 open_3.1.many), (Value.int .i64 open_3.1.synced)]) (i := 0) ty22 hsn (ht 203 rfl) rfl rfl ?_)
                 exact Goes.same hi rfl
                refine Dw_eq (Value.pointer (some ⟨b57, 0, none⟩)) (fun ρ759 w760 g hle hi ht => ?_) ?_
                ·
                 obtain ⟨-, hst, -⟩ := hle
                 refine StepOp_g rfl (ht 202 rfl) (op_fieldAddr ty52 rfl ty22 (by decide) (ht 11 rfl) (rfl : _ = (⟨_, 0, none⟩ : Addr)) ?_)
                 exact Goes.same hi rfl
                refine Dw_eq (Value.slice a_y72 v_3.length c_y72) (fun ρ762 w763 g hle hi ht => ?_) ?_
                ·
                 obtain ⟨-, hst, -⟩ := hle
                 have hsn := (Step.nx hi).1
                 refine StepOp_g rfl (ht 202 rfl) (op_load (cs := [(Value.slice a_y72 v_3.length c_y72), (Value.int .i64 v_4), (Value.int .i64 v_5)]) (i := 2) ty22 hsn (ht 205 rfl) rfl rfl ?_)
                 exact Goes.same hi rfl
                refine Dw_eq (Value.int .i64 want_3) (fun ρ765 w766 g hle hi ht => ?_) ?_
                ·
                 obtain ⟨-, hst, -⟩ := hle
                 refine StepOp_g rfl (ht 202 rfl) (op_move (v := (Value.int .i64 want_3)) (ht 27 rfl) ?_)
                 exact Goes.same hi rfl
                replace hm := ck_some hm; obtain ⟨hc771, hm⟩ := hm
                refine Dw_op (VD O [(some b686, Obj.cells [(Value.slice a_y684_records open_3.1.records.length c_y684_records), (Value.int .i64 open_3.1.many), (Value.int .i64 open_3.1.synced)].toArray 52), (some b582, o_g70), (some b57, Obj.cells [(Value.slice a_y72 v_3.length c_y72), (Value.int .i64 v_4), (Value.int .i64 v_5)].toArray 52)] (vC (rSl (rSl rU8))) ((v_3.drop 0).take (want_3.toNat - 0))) (VD.stab _ _) (fun ρ768 w769 g hle hi ht => ?_) ?_
                ·
                 obtain ⟨-, hst, -⟩ := hle
                 replace f_y72 := f_y72.step hst
                 refine StepOp_g rfl (ht 202 rfl) (op_slice (q := (rSl rU8)) (l := 0) (h := want_3.toNat) (m := c_y72) ty22 ty41 (ht 206 rfl) f_y72 rfl rfl (bndI (ht 207 rfl) (by omega)) rfl (by decide) (by omega) (by omega) (by have h_ : v_3.length ≤ c_y72 := f_y72.le; omega) (by have h_ : v_3.length ≤ c_y72 := f_y72.le; omega) ?_)
                 intro a772 f773
                 exact Goes.same hi (show Vr.vd (vC (rSl (rSl rU8))) _ _ _ _ from (mkC (mk_sl f773)))
                refine Dw_nil fun w778 g779 hl780 hi781 => ?_
                obtain ⟨-, hst782, -⟩ := hl780
                obtain ⟨hs784, p783⟩ := Step.nx hi781
                rintro v785 h786
                replace h786 : Vr.vd (vC (rSl (rSl rU8))) _ _ _ _ := h786
                obtain ⟨a_y787, c_y787, rfl, f_y787⟩ := un_sl h786
                rintro _ rfl
                rintro _ rfl
                rintro _ rfl
                rintro _ rfl
                rintro _ rfl
                rintro _ rfl
                rintro _ rfl
                rintro _ rfl
                rintro _ rfl
                rintro _ rfl
                rintro _ rfl
                rintro _ rfl
                rintro _ rfl
                rintro _ rfl
                rintro _ rfl
                rintro _ rfl
                have p788 : Step (ks [(some b686, Obj.cells [(Value.slice a_y684_records open_3.1.records.length c_y684_records), (Value.int .i64 open_3.1.many), (Value.int .i64 open_3.1.synced)].toArray 52), (some b582, o_g70), (some b57, Obj.cells [(Value.slice a_y72 v_3.length c_y72), (Value.int .i64 v_4), (Value.int .i64 v_5)].toArray 52)] O) w701 (ks [(some b686, Obj.cells [(Value.slice a_y684_records open_3.1.records.length c_y684_records), (Value.int .i64 open_3.1.many), (Value.int .i64 open_3.1.synced)].toArray 52), (some b582, o_g70), (some b57, Obj.cells [(Value.slice a_y72 v_3.length c_y72), (Value.int .i64 v_4), (Value.int .i64 v_5)].toArray 52)] O) w778 := hst782.trans p783
                replace f_y787 := f_y787.step p783; replace f_y72 := f_y72.step p788; replace f_y684_records := f_y684_records.step p788; replace ch87 := ch87.trans p788; replace ch716 := ch716.trans p788; clear p788 hs702
                replace hm := bd hm; obtain ⟨samerecords_2, hv789, hm⟩ := hm
                refine Rg_opg rfl rfl rfl (op_call Try.call37 (c37_overflightref45_SameRecords (a := open_3.1.records) (b := ((v_3.drop 0).take (want_3.toNat - 0))) hs784.ltw f_y684_records f_y787 hv789) rfl ?_)
                rintro v790 w791 ⟨hx792, h793⟩
                have hs794 := hs784.call hx792
                have p795 := Step.ext (O := ks [(some b686, Obj.cells [(Value.slice a_y684_records open_3.1.records.length c_y684_records), (Value.int .i64 open_3.1.many), (Value.int .i64 open_3.1.synced)].toArray 52), (some b582, o_g70), (some b57, Obj.cells [(Value.slice a_y72 v_3.length c_y72), (Value.int .i64 v_4), (Value.int .i64 v_5)].toArray 52)] O) hx792
                clear hx792
                replace f_y72 := f_y72.step p795; replace f_y684_records := f_y684_records.step p795; replace f_y787 := f_y787.step p795; replace ch87 := ch87.trans p795; replace ch716 := ch716.trans p795; clear p795 hs784
                obtain rfl := h793
                refine Rg_op rfl (op_pick_t (v := (Value.bool samerecords_2)) rfl rfl ?_)
                refine Rg_op rfl (op_assign (v := (Value.bool samerecords_2)) rfl ?_)
                refine Rg_nil ?_
                exact hK710 _ _ ⟨samerecords_2, _, rfl, ⟨(by repeat (first | with_reducible exact Out.refl _ _ | refine Out.upd ?_ rfl | refine Out.updL ?_ rfl | refine Out.mix' ?_ rfl | exact Out.refl _ _)), rfl, rfl, trivial⟩, ch716, hs794, hm⟩
               ·
                replace hm := bif_f hm hg752
                refine Dw_skip (fun _ _ _ ht => wanted_x rfl (ht 202 rfl) rfl) ?_
                refine Dw_skip (fun _ _ _ ht => wanted_x rfl (ht 202 rfl) rfl) ?_
                refine Dw_skip (fun _ _ _ ht => wanted_x rfl (ht 202 rfl) rfl) ?_
                refine Dw_skip (fun _ _ _ ht => wanted_x rfl (ht 202 rfl) rfl) ?_
                refine Dw_skip (fun _ _ _ ht => wanted_x rfl (ht 202 rfl) rfl) ?_
                refine Dw_skip (fun _ _ _ ht => wanted_x rfl (ht 202 rfl) rfl) ?_
                refine Dw_nil fun w801 g802 hl803 hi804 => ?_
                obtain ⟨-, hst805, -⟩ := hl803
                obtain ⟨hs807, p806⟩ := Step.nx hi804
                rintro _ rfl
                rintro _ rfl
                rintro _ rfl
                rintro _ rfl
                rintro _ rfl
                rintro _ rfl
                rintro _ rfl
                rintro _ rfl
                rintro _ rfl
                rintro _ rfl
                rintro _ rfl
                rintro _ rfl
                rintro _ rfl
                rintro _ rfl
                rintro _ rfl
                rintro _ rfl
                rintro _ rfl
                have p808 : Step (ks [(some b686, Obj.cells [(Value.slice a_y684_records open_3.1.records.length c_y684_records), (Value.int .i64 open_3.1.many), (Value.int .i64 open_3.1.synced)].toArray 52), (some b582, o_g70), (some b57, Obj.cells [(Value.slice a_y72 v_3.length c_y72), (Value.int .i64 v_4), (Value.int .i64 v_5)].toArray 52)] O) w701 (ks [(some b686, Obj.cells [(Value.slice a_y684_records open_3.1.records.length c_y684_records), (Value.int .i64 open_3.1.many), (Value.int .i64 open_3.1.synced)].toArray 52), (some b582, o_g70), (some b57, Obj.cells [(Value.slice a_y72 v_3.length c_y72), (Value.int .i64 v_4), (Value.int .i64 v_5)].toArray 52)] O) w801 := hst805.trans p806
                replace f_y72 := f_y72.step p808; replace f_y684_records := f_y684_records.step p808; replace ch87 := ch87.trans p808; replace ch716 := ch716.trans p808; clear p808 hs702
                refine Rg_opx rfl (asB_ne rfl rfl) rfl ?_
                refine Rg_op rfl (op_pick_f (v := (Value.bool false)) rfl rfl ?_)
                refine Rg_op rfl (op_assign (v := (Value.bool false)) rfl ?_)
                refine Rg_nil ?_
                exact hK710 _ _ ⟨false, _, rfl, ⟨(by repeat (first | with_reducible exact Out.refl _ _ | refine Out.upd ?_ rfl | refine Out.updL ?_ rfl | refine Out.mix' ?_ rfl | exact Out.refl _ _)), rfl, rfl, trivial⟩, ch716, hs807, hm⟩
              ·
               replace hm := bif_f hm hg739
               refine Dw_skip (fun _ _ _ ht => wanted_x rfl (ht 198 rfl) rfl) ?_
               refine Dw_skip (fun _ _ _ ht => wanted_x rfl (ht 198 rfl) rfl) ?_
               refine Dw_eq (Value.bool false) (fun ρ809 w810 g hle hi ht => ?_) ?_
               ·
                obtain ⟨-, hst, -⟩ := hle
                refine StepOp_plain (op_pick_f (v := (Value.bool false)) (ht 198 rfl) rfl ?_)
                exact Goes.same hi rfl
               refine Dw_eq (Value.bool false) (fun ρ812 w813 g hle hi ht => ?_) ?_
               ·
                obtain ⟨-, hst, -⟩ := hle
                refine StepOp_plain (op_move (v := (Value.bool false)) (ht 201 rfl) ?_)
                exact Goes.same hi rfl
               refine Dw_skip (fun _ _ _ ht => wanted_x rfl (ht 202 rfl) rfl) ?_
               refine Dw_skip (fun _ _ _ ht => wanted_x rfl (ht 202 rfl) rfl) ?_
               refine Dw_skip (fun _ _ _ ht => wanted_x rfl (ht 202 rfl) rfl) ?_
               refine Dw_skip (fun _ _ _ ht => wanted_x rfl (ht 202 rfl) rfl) ?_
               refine Dw_skip (fun _ _ _ ht => wanted_x rfl (ht 202 rfl) rfl) ?_
               refine Dw_skip (fun _ _ _ ht => wanted_x rfl (ht 202 rfl) rfl) ?_
               refine Dw_nil fun w819 g820 hl821 hi822 => ?_
               obtain ⟨-, hst823, -⟩ := hl821
               obtain ⟨hs825, p824⟩ := Step.nx hi822
               rintro _ rfl
               rintro _ rfl
               rintro _ rfl
               rintro _ rfl
               rintro _ rfl
               rintro _ rfl
               rintro _ rfl
               rintro _ rfl
               rintro _ rfl
               rintro _ rfl
               rintro _ rfl
               rintro _ rfl
               rintro _ rfl
               rintro _ rfl
               rintro _ rfl
               rintro _ rfl
               rintro _ rfl
               have p826 : Step (ks [(some b686, Obj.cells [(Value.slice a_y684_records open_3.1.records.length c_y684_records), (Value.int .i64 open_3.1.many), (Value.int .i64 open_3.1.synced)].toArray 52), (some b582, o_g70), (some b57, Obj.cells [(Value.slice a_y72 v_3.length c_y72), (Value.int .i64 v_4), (Value.int .i64 v_5)].toArray 52)] O) w701 (ks [(some b686, Obj.cells [(Value.slice a_y684_records open_3.1.records.length c_y684_records), (Value.int .i64 open_3.1.many), (Value.int .i64 open_3.1.synced)].toArray 52), (some b582, o_g70), (some b57, Obj.cells [(Value.slice a_y72 v_3.length c_y72), (Value.int .i64 v_4), (Value.int .i64 v_5)].toArray 52)] O) w819 := hst823.trans p824
               replace f_y72 := f_y72.step p826; replace f_y684_records := f_y684_records.step p826; replace ch87 := ch87.trans p826; replace ch716 := ch716.trans p826; clear p826 hs702
               refine Rg_opx rfl (asB_ne rfl rfl) rfl ?_
               refine Rg_op rfl (op_pick_f (v := (Value.bool false)) rfl rfl ?_)
               refine Rg_op rfl (op_assign (v := (Value.bool false)) rfl ?_)
               refine Rg_nil ?_
               exact hK710 _ _ ⟨false, _, rfl, ⟨(by repeat (first | with_reducible exact Out.refl _ _ | refine Out.upd ?_ rfl | refine Out.updL ?_ rfl | refine Out.mix' ?_ rfl | exact Out.refl _ _)), rfl, rfl, trivial⟩, ch716, hs825, hm⟩
             ·
              replace hm := bif_f hm hg726
              refine Dw_skip (fun _ _ _ ht => wanted_x rfl (ht 194 rfl) rfl) ?_
              refine Dw_skip (fun _ _ _ ht => wanted_x rfl (ht 194 rfl) rfl) ?_
              refine Dw_eq (Value.bool false) (fun ρ827 w828 g hle hi ht => ?_) ?_
              ·
               obtain ⟨-, hst, -⟩ := hle
               refine StepOp_plain (op_pick_f (v := (Value.bool false)) (ht 194 rfl) rfl ?_)
               exact Goes.same hi rfl
              refine Dw_eq (Value.bool false) (fun ρ830 w831 g hle hi ht => ?_) ?_
              ·
               obtain ⟨-, hst, -⟩ := hle
               refine StepOp_plain (op_move (v := (Value.bool false)) (ht 197 rfl) ?_)
               exact Goes.same hi rfl
              refine Dw_skip (fun _ _ _ ht => wanted_x rfl (ht 198 rfl) rfl) ?_
              refine Dw_skip (fun _ _ _ ht => wanted_x rfl (ht 198 rfl) rfl) ?_
              refine Dw_eq (Value.bool false) (fun ρ833 w834 g hle hi ht => ?_) ?_
              ·
               obtain ⟨-, hst, -⟩ := hle
               refine StepOp_plain (op_pick_f (v := (Value.bool false)) (ht 198 rfl) rfl ?_)
               exact Goes.same hi rfl
              refine Dw_eq (Value.bool false) (fun ρ836 w837 g hle hi ht => ?_) ?_
              ·
               obtain ⟨-, hst, -⟩ := hle
               refine StepOp_plain (op_move (v := (Value.bool false)) (ht 201 rfl) ?_)
               exact Goes.same hi rfl
              refine Dw_skip (fun _ _ _ ht => wanted_x rfl (ht 202 rfl) rfl) ?_
              refine Dw_skip (fun _ _ _ ht => wanted_x rfl (ht 202 rfl) rfl) ?_
              refine Dw_skip (fun _ _ _ ht => wanted_x rfl (ht 202 rfl) rfl) ?_
              refine Dw_skip (fun _ _ _ ht => wanted_x rfl (ht 202 rfl) rfl) ?_
              refine Dw_skip (fun _ _ _ ht => wanted_x rfl (ht 202 rfl) rfl) ?_
              refine Dw_skip (fun _ _ _ ht => wanted_x rfl (ht 202 rfl) rfl) ?_
              refine Dw_nil fun w843 g844 hl845 hi846 => ?_
              obtain ⟨-, hst847, -⟩ := hl845
              obtain ⟨hs849, p848⟩ := Step.nx hi846
              rintro _ rfl
              rintro _ rfl
              rintro _ rfl
              rintro _ rfl
              rintro _ rfl
              rintro _ rfl
              rintro _ rfl
              rintro _ rfl
              rintro _ rfl
              rintro _ rfl
              rintro _ rfl
              rintro _ rfl
              rintro _ rfl
              rintro _ rfl
              rintro _ rfl
              rintro _ rfl
              rintro _ rfl
              have p850 : Step (ks [(some b686, Obj.cells [(Value.slice a_y684_records open_3.1.records.length c_y684_records), (Value.int .i64 open_3.1.many), (Value.int .i64 open_3.1.synced)].toArray 52), (some b582, o_g70), (some b57, Obj.cells [(Value.slice a_y72 v_3.length c_y72), (Value.int .i64 v_4), (Value.int .i64 v_5)].toArray 52)] O) w701 (ks [(some b686, Obj.cells [(Value.slice a_y684_records open_3.1.records.length c_y684_records), (Value.int .i64 open_3.1.many), (Value.int .i64 open_3.1.synced)].toArray 52), (some b582, o_g70), (some b57, Obj.cells [(Value.slice a_y72 v_3.length c_y72), (Value.int .i64 v_4), (Value.int .i64 v_5)].toArray 52)] O) w843 := hst847.trans p848
              replace f_y72 := f_y72.step p850; replace f_y684_records := f_y684_records.step p850; replace ch87 := ch87.trans p850; replace ch716 := ch716.trans p850; clear p850 hs702
              refine Rg_opx rfl (asB_ne rfl rfl) rfl ?_
              refine Rg_op rfl (op_pick_f (v := (Value.bool false)) rfl rfl ?_)
              refine Rg_op rfl (op_assign (v := (Value.bool false)) rfl ?_)
              refine Rg_nil ?_
              exact hK710 _ _ ⟨false, _, rfl, ⟨(by repeat (first | with_reducible exact Out.refl _ _ | refine Out.upd ?_ rfl | refine Out.updL ?_ rfl | refine Out.mix' ?_ rfl | exact Out.refl _ _)), rfl, rfl, trivial⟩, ch716, hs849, hm⟩
           ·
            intro K700 hK700
            have ch851 := Step.refl (ks [(some b686, Obj.cells [(Value.slice a_y684_records open_3.1.records.length c_y684_records), (Value.int .i64 open_3.1.many), (Value.int .i64 open_3.1.synced)].toArray 52), (some b582, o_g70), (some b57, Obj.cells [(Value.slice a_y72 v_3.length c_y72), (Value.int .i64 v_4), (Value.int .i64 v_5)].toArray 52)] O) w691
            refine Wp_block ?_
            refine Wp_reset2 [27, 178, 179, 180, 181, 182, 183, 184, 185, 186, 187, 188, 189, 190, 191] [] (updL ⟨ξ696, []⟩ [(11, (Value.pointer (some ⟨b57, 0, none⟩))), (13, (Value.slice (some ⟨b582, 0, none⟩) ends_1.length c_g70)), (21, (Value.int .i64 write_2.2)), (22, (Value.int .i64 (IntKind.wrap .i64 ((IntKind.wrap .u64 sector).tmod (IntKind.wrap .u64 (ends_1.getD (IntKind.wrap .i64 ((ends_1.length : Int) - 1)).toNat default)))))), (24, (Value.int .i64 sync_4.2)), (25, (Value.pointer (some ⟨b686, 0, none⟩))), (26, (Value.int .i64 open_3.2)), (27, (Value.int .i64 0))]) [(27, (Value.int .i64 0))] (by repeat (first | with_reducible exact Out.refl _ _ | refine Out.upd ?_ rfl | refine Out.updL ?_ rfl | refine Out.mix' ?_ rfl | exact Out.refl _ _)) rfl ⟨rfl, trivial⟩ fun ξ853 => ?_
            refine Wp_loopM [27, 178, 179, 180, 181, 182, 183, 184, 185, 186, 187, 188, 189, 190, 191] (fun m fr w' => ∃ (want_4 : Int) (Ebs : Ents), Ebs = [(some b686, Obj.cells [(Value.slice a_y684_records open_3.1.records.length c_y684_records), (Value.int .i64 open_3.1.many), (Value.int .i64 open_3.1.synced)].toArray 52), (some b582, o_g70), (some b57, Obj.cells [(Value.slice a_y72 v_3.length c_y72), (Value.int .i64 v_4), (Value.int .i64 v_5)].toArray 52)] ∧ fr [] [(27, (Value.int .i64 want_4))] ∧ Step (ks [(some b686, Obj.cells [(Value.slice a_y684_records open_3.1.records.length c_y684_records), (Value.int .i64 open_3.1.many), (Value.int .i64 open_3.1.synced)].toArray 52), (some b582, o_g70), (some b57, Obj.cells [(Value.slice a_y72 v_3.length c_y72), (Value.int .i64 v_4), (Value.int .i64 v_5)].toArray 52)] O) w691 (ks Ebs O) w' ∧ St ⟨w, [], []⟩ O w' Ebs ∧ InK .i64 want_4 ∧ loop1 (m10_overflightlaw45_JournalDamage_B2 sector ends_1 k698) m want_4 = some x) (1000000) ⟨0, _, rfl, ⟨Out.refl _ _, rfl, rfl, trivial⟩, Step.refl _ _, hs694, (show InK .i64 0 from by decide), hm⟩ ?_ ?_
            · rintro _ _ ⟨_, _, _, _, _, _, _, hm⟩; exact loop1_z hm
            ·
             rintro m857 K856 hK856 ρ862 w858 ⟨want_4, Ebs, hEbs, hfr861, hst860, hs859, r_y852, hm⟩
             obtain ⟨sf854, hsf855, hm⟩ := loop1_s hm; unfold m10_overflightlaw45_JournalDamage_B2 at hm
             subst hEbs; rw [hfr861.eq]; clear hfr861
             replace f_g70 := f_g70.step hst860; replace f_y72 := f_y72.step hst860; replace f_y684_records := f_y684_records.step hst860; replace ch87 := ch87.trans hst860; replace ch851 := ch851.trans hst860
             have ch863 := hst860
             refine Wp_seq ?_
             refine Wp_reset2 [27, 178, 179, 180, 181, 182, 183, 184, 185, 186, 187, 188, 189, 190, 191] [] (updL (mix [27, 178, 179, 180, 181, 182, 183, 184, 185, 186, 187, 188, 189, 190, 191] [] ξ853 (updL ⟨ξ696, []⟩ [(11, (Value.pointer (some ⟨b57, 0, none⟩))), (13, (Value.slice (some ⟨b582, 0, none⟩) ends_1.length c_g70)), (21, (Value.int .i64 write_2.2)), (22, (Value.int .i64 (IntKind.wrap .i64 ((IntKind.wrap .u64 sector).tmod (IntKind.wrap .u64 (ends_1.getD (IntKind.wrap .i64 ((ends_1.length : Int) - 1)).toNat default)))))), (24, (Value.int .i64 sync_4.2)), (25, (Value.pointer (some ⟨b686, 0, none⟩))), (26, (Value.int .i64 open_3.2)), (27, (Value.int .i64 0))])) [(27, (Value.int .i64 0))]) [(27, (Value.int .i64 want_4))] (by repeat (first | with_reducible exact Out.refl _ _ | refine Out.upd ?_ rfl | refine Out.updL ?_ rfl | refine Out.mix' ?_ rfl | exact Out.refl _ _)) rfl ⟨rfl, trivial⟩ fun ξ864 => ?_
             replace hm := jn_elim hm; obtain ⟨k866, hk867, hm⟩ := hm
             refine Wp_seqJ [178, 179, 180, 181, 182, 183, 184, 185, 186, 187, 188, 189] (fun fr w' => ∃ (v_13 : Bool) (Ebs : Ents), Ebs = [(some b686, Obj.cells [(Value.slice a_y684_records open_3.1.records.length c_y684_records), (Value.int .i64 open_3.1.many), (Value.int .i64 open_3.1.synced)].toArray 52), (some b582, o_g70), (some b57, Obj.cells [(Value.slice a_y72 v_3.length c_y72), (Value.int .i64 v_4), (Value.int .i64 v_5)].toArray 52)] ∧ fr [] [(189, (Value.bool v_13))] ∧ Step (ks [(some b686, Obj.cells [(Value.slice a_y684_records open_3.1.records.length c_y684_records), (Value.int .i64 open_3.1.many), (Value.int .i64 open_3.1.synced)].toArray 52), (some b582, o_g70), (some b57, Obj.cells [(Value.slice a_y72 v_3.length c_y72), (Value.int .i64 v_4), (Value.int .i64 v_5)].toArray 52)] O) w858 (ks Ebs O) w' ∧ St ⟨w, [], []⟩ O w' Ebs ∧ k866 v_13 = some x) ?_ ?_
             ·
              rintro ρ873 w869 ⟨v_13, Ebs, hEbs, hfr872, hst871, hs870, hm⟩
              replace hm := jnE1 hk867 hm
              subst hEbs; rw [hfr872.eq]; clear hfr872
              replace f_g70 := f_g70.step hst871; replace f_y72 := f_y72.step hst871; replace f_y684_records := f_y684_records.step hst871; replace ch87 := ch87.trans hst871; replace ch851 := ch851.trans hst871; replace ch863 := ch863.trans hst871; clear hst871 hs859
              refine Wp_cond rfl (fun hc874 => ?_) (fun hc874 => ?_)
              ·
               replace hm := bif_t hm hc874
               refine Wp_skip ?_
               refine Wp_block ?_
               refine Wp_region ?_
               refine Rg_op rfl (op_move (v := (Value.int .i64 want_4)) rfl ?_)
               refine Rg_op rfl (op_addw rfl rfl ?_)
               refine Rg_op rfl (op_assign (v := (Value.int .i64 (IntKind.wrap .i64 (want_4 + 1)))) rfl ?_)
               refine Rg_nil ?_
               exact hK856 _ _ ⟨(IntKind.wrap .i64 (want_4 + 1)), _, rfl, ⟨(by repeat (first | with_reducible exact Out.refl _ _ | refine Out.upd ?_ rfl | refine Out.updL ?_ rfl | refine Out.mix' ?_ rfl | exact Out.refl _ _)), rfl, rfl, trivial⟩, ch863, hs870, (inK_wrap .i64 _), jnE1 hsf855 hm⟩
              ·
               replace hm := bif_f hm hc874
               refine Wp_exit ?_
               exact hK700 _ _ ⟨want_4, _, rfl, ⟨(by repeat (first | with_reducible exact Out.refl _ _ | refine Out.upd ?_ rfl | refine Out.updL ?_ rfl | refine Out.mix' ?_ rfl | exact Out.refl _ _)), rfl, rfl, trivial⟩, ch851, hs870, r_y852, hm⟩
             ·
              intro K868 hK868
              have ch875 := Step.refl (ks [(some b686, Obj.cells [(Value.slice a_y684_records open_3.1.records.length c_y684_records), (Value.int .i64 open_3.1.many), (Value.int .i64 open_3.1.synced)].toArray 52), (some b582, o_g70), (some b57, Obj.cells [(Value.slice a_y72 v_3.length c_y72), (Value.int .i64 v_4), (Value.int .i64 v_5)].toArray 52)] O) w858
              refine Wp_region ?_
              refine Rg_op rfl (op_move (v := (Value.int .i64 want_4)) rfl ?_)
              refine Rg_op rfl (op_move (v := (Value.slice (some ⟨b582, 0, none⟩) ends_1.length c_g70)) rfl ?_)
              refine Rg_op rfl (op_len Try.underlying62 rfl ?_)
              have rl876 := inK_lenG f_g70
              refine Rg_op rfl (op_lss rfl rfl ?_)
              refine Rg_op rfl (op_move (v := (Value.bool (decide (want_4 < (ends_1.length : Int))))) rfl ?_)
              refine Rg_case (fun hg877 => ?_) (fun hg877 => ?_)
              ·
               replace hm := bif_t hm hg877
               refine Rg_opg rfl rfl rfl (op_move (v := (Value.slice (some ⟨b582, 0, none⟩) ends_1.length c_g70)) rfl ?_)
               refine Rg_opg rfl rfl rfl (op_move (v := (Value.int .i64 want_4)) rfl ?_)
               replace hm := ck_some hm; obtain ⟨hc878, hm⟩ := hm
               refine Rg_opg rfl rfl rfl (op_indexAddrG ty62 ty3 rfl rfl f_g70 hc878 ?_)
               rintro _ ⟨⟩ -
               refine Rg_opg rfl rfl rfl (op_loadG (m := want_4) (i := 1) ty3 rfl hs859 rfl rfl f_g70 hc878 ?_)
               intro v880 h881
               obtain ⟨rfl, r_y882⟩ := un_int h881
               refine Rg_opg rfl rfl rfl (op_move (v := (Value.int .i64 (IntKind.wrap .i64 ((IntKind.wrap .u64 sector).tmod (IntKind.wrap .u64 (ends_1.getD (IntKind.wrap .i64 ((ends_1.length : Int) - 1)).toNat default)))))) rfl ?_)
               refine Rg_opg rfl rfl rfl (op_leq rfl rfl ?_)
               refine Rg_op rfl (op_pick_t (v := (Value.bool (decide ((ends_1.getD want_4.toNat default) ≤ (IntKind.wrap .i64 ((IntKind.wrap .u64 sector).tmod (IntKind.wrap .u64 (ends_1.getD (IntKind.wrap .i64 ((ends_1.length : Int) - 1)).toNat default)))))))) rfl rfl ?_)
               refine Rg_nil ?_
               exact hK868 _ _ ⟨(decide ((ends_1.getD want_4.toNat default) ≤ (IntKind.wrap .i64 ((IntKind.wrap .u64 sector).tmod (IntKind.wrap .u64 (ends_1.getD (IntKind.wrap .i64 ((ends_1.length : Int) - 1)).toNat default)))))), _, rfl, ⟨(by repeat (first | with_reducible exact Out.refl _ _ | refine Out.upd ?_ rfl | refine Out.updL ?_ rfl | refine Out.mix' ?_ rfl | exact Out.refl _ _)), rfl, rfl, trivial⟩, ch875, hs859, hm⟩
              ·
               replace hm := bif_f hm hg877
               iterate 6 refine Rg_opx rfl (asB_ne rfl rfl) rfl ?_
               refine Rg_op rfl (op_pick_f (v := (Value.bool false)) rfl rfl ?_)
               refine Rg_nil ?_
               exact hK868 _ _ ⟨false, _, rfl, ⟨(by repeat (first | with_reducible exact Out.refl _ _ | refine Out.upd ?_ rfl | refine Out.updL ?_ rfl | refine Out.mix' ?_ rfl | exact Out.refl _ _)), rfl, rfl, trivial⟩, ch875, hs859, hm⟩
         ·
          intro K591 hK591
          have ch883 := Step.refl (ks [(some b554, Obj.cells [(Value.slice a_y547_sectors sync_3.2.1.sectors.length c_y547_sectors), (Value.slice a_y547_pending sync_3.2.1.pending.length c_y547_pending), (Value.int .i64 sync_3.2.1.left), (Value.bool sync_3.2.1.stopped)].toArray 25), (some b582, o_g70), (some b57, Obj.cells [(Value.slice a_y72 v_3.length c_y72), (Value.int .i64 v_4), (Value.int .i64 v_5)].toArray 52)] O) w570
          refine Wp_region ?_
          refine Rg_op rfl (op_move (v := (Value.int .i64 (IntKind.wrap .i64 ((IntKind.wrap .u64 sector).tmod (IntKind.wrap .u64 (ends_1.getD (IntKind.wrap .i64 ((ends_1.length : Int) - 1)).toNat default)))))) rfl ?_)
          refine Rg_op rfl (op_fieldAddr ty25 rfl ty22 (by decide) rfl (rfl : _ = (⟨_, 0, none⟩ : Addr)) ?_)
          refine Rg_op rfl (op_load (cs := [(Value.slice a_y547_sectors sync_3.2.1.sectors.length c_y547_sectors), (Value.slice a_y547_pending sync_3.2.1.pending.length c_y547_pending), (Value.int .i64 sync_3.2.1.left), (Value.bool sync_3.2.1.stopped)]) (i := 0) ty22 hs578 rfl rfl rfl ?_)
          refine Rg_op rfl (op_len Try.underlying22 rfl ?_)
          have rl884 := inK_len f_y547_sectors
          refine Rg_op rfl (op_geq rfl rfl ?_)
          refine Rg_op rfl (op_move (v := (Value.bool (decide ((sync_3.2.1.sectors.length : Int) ≤ (IntKind.wrap .i64 ((IntKind.wrap .u64 sector).tmod (IntKind.wrap .u64 (ends_1.getD (IntKind.wrap .i64 ((ends_1.length : Int) - 1)).toNat default)))))))) rfl ?_)
          refine Rg_case (fun hg885 => ?_) (fun hg885 => ?_)
          ·
           replace hm := bif_t hm hg885
           iterate 6 refine Rg_opx rfl (asB_ne rfl rfl) rfl ?_
           refine Rg_op rfl (op_pick_t (v := (Value.bool true)) rfl rfl ?_)
           refine Rg_op rfl (op_move (v := (Value.bool true)) rfl ?_)
           iterate 7 refine Rg_opx rfl (asB_ne rfl rfl) rfl ?_
           refine Rg_op rfl (op_pick_t (v := (Value.bool true)) rfl rfl ?_)
           refine Rg_nil ?_
           exact hK591 _ _ ⟨true, _, rfl, ⟨(by repeat (first | with_reducible exact Out.refl _ _ | refine Out.upd ?_ rfl | refine Out.updL ?_ rfl | refine Out.mix' ?_ rfl | exact Out.refl _ _)), rfl, rfl, trivial⟩, ch883, hs578, hm⟩
          ·
           replace hm := bif_f hm hg885
           refine Rg_opg rfl rfl rfl (op_move (v := (Value.slice (some ⟨b582, 0, none⟩) ends_1.length c_g70)) rfl ?_)
           refine Rg_opg rfl rfl rfl (op_len Try.underlying62 rfl ?_)
           have rl886 := inK_lenG f_g70
           refine Rg_opg rfl rfl rfl (op_fieldAddr ty52 rfl ty22 (by decide) rfl (rfl : _ = (⟨_, 0, none⟩ : Addr)) ?_)
           refine Rg_opg rfl rfl rfl (op_load (cs := [(Value.slice a_y72 v_3.length c_y72), (Value.int .i64 v_4), (Value.int .i64 v_5)]) (i := 2) ty22 hs578 rfl rfl rfl ?_)
           refine Rg_opg rfl rfl rfl (op_len Try.underlying22 rfl ?_)
           have rl887 := inK_len f_y72
           refine Rg_opg rfl rfl rfl (op_gtr rfl rfl ?_)
           refine Rg_op rfl (op_pick_f (v := (Value.bool (decide ((v_3.length : Int) < (ends_1.length : Int))))) rfl rfl ?_)
           refine Rg_op rfl (op_move (v := (Value.bool (decide ((v_3.length : Int) < (ends_1.length : Int))))) rfl ?_)
           refine Rg_case (fun hg888 => ?_) (fun hg888 => ?_)
           ·
            replace hm := bif_t hm hg888
            iterate 7 refine Rg_opx rfl (asB_ne rfl rfl) rfl ?_
            refine Rg_op rfl (op_pick_t (v := (Value.bool true)) rfl rfl ?_)
            refine Rg_nil ?_
            exact hK591 _ _ ⟨true, _, rfl, ⟨(by repeat (first | with_reducible exact Out.refl _ _ | refine Out.upd ?_ rfl | refine Out.updL ?_ rfl | refine Out.mix' ?_ rfl | exact Out.refl _ _)), rfl, rfl, trivial⟩, ch883, hs578, hm⟩
           ·
            replace hm := bif_f hm hg888
            refine Rg_opg rfl rfl rfl (op_fieldAddr ty25 rfl ty22 (by decide) rfl (rfl : _ = (⟨_, 0, none⟩ : Addr)) ?_)
            refine Rg_opg rfl rfl rfl (op_load (cs := [(Value.slice a_y547_sectors sync_3.2.1.sectors.length c_y547_sectors), (Value.slice a_y547_pending sync_3.2.1.pending.length c_y547_pending), (Value.int .i64 sync_3.2.1.left), (Value.bool sync_3.2.1.stopped)]) (i := 0) ty22 hs578 rfl rfl rfl ?_)
            refine Rg_opg rfl rfl rfl (op_move (v := (Value.int .i64 (IntKind.wrap .i64 ((IntKind.wrap .u64 sector).tmod (IntKind.wrap .u64 (ends_1.getD (IntKind.wrap .i64 ((ends_1.length : Int) - 1)).toNat default)))))) rfl ?_)
            replace hm := ck_some hm; obtain ⟨hc889, hm⟩ := hm
            refine Rg_opg rfl rfl rfl (op_indexAddr (q := (rSl rU8)) ty22 ty41 rfl rfl f_y547_sectors rfl hc889.1 hc889.2 ?_)
            intro p890 f891
            refine Rg_opg rfl rfl rfl (op_loadP ty41 rfl f891 rfl ?_)
            intro v892 h893
            obtain ⟨a_y894, c_y894, rfl, f_y894⟩ := un_sl h893
            refine Rg_opg rfl rfl rfl (op_len Try.underlying41 rfl ?_)
            have rl895 := inK_len f_y894
            refine Rg_opg rfl rfl rfl (op_neq rfl rfl ?_)
            refine Rg_op rfl (op_pick_f (v := (Value.bool (decide (((sync_3.2.1.sectors.getD (IntKind.wrap .i64 ((IntKind.wrap .u64 sector).tmod (IntKind.wrap .u64 (ends_1.getD (IntKind.wrap .i64 ((ends_1.length : Int) - 1)).toNat default)))).toNat default).length : Int) ≠ 128)))) rfl rfl ?_)
            refine Rg_nil ?_
            exact hK591 _ _ ⟨(decide (((sync_3.2.1.sectors.getD (IntKind.wrap .i64 ((IntKind.wrap .u64 sector).tmod (IntKind.wrap .u64 (ends_1.getD (IntKind.wrap .i64 ((ends_1.length : Int) - 1)).toNat default)))).toNat default).length : Int) ≠ 128)), _, rfl, ⟨(by repeat (first | with_reducible exact Out.refl _ _ | refine Out.upd ?_ rfl | refine Out.updL ?_ rfl | refine Out.mix' ?_ rfl | exact Out.refl _ _)), rfl, rfl, trivial⟩, ch883, hs578, hm⟩
       ·
        intro K569 hK569
        have ch896 := Step.refl (ks [(some b554, Obj.cells [(Value.slice a_y547_sectors sync_3.2.1.sectors.length c_y547_sectors), (Value.slice a_y547_pending sync_3.2.1.pending.length c_y547_pending), (Value.int .i64 sync_3.2.1.left), (Value.bool sync_3.2.1.stopped)].toArray 25), (some b549, Obj.cells [(Value.slice a_y546_records sync_3.1.records.length c_y546_records), (Value.int .i64 sync_3.1.many), (Value.int .i64 sync_3.1.synced)].toArray 52), (k_g70, o_g70), (some b57, Obj.cells [(Value.slice a_y72 v_3.length c_y72), (Value.int .i64 v_4), (Value.int .i64 v_5)].toArray 52), (some b23, Obj.cells [(Value.slice a_y21_sectors new_1.1.sectors.length c_y21_sectors), (Value.slice a_y21_pending new_1.1.pending.length c_y21_pending), (Value.int .i64 new_1.1.left), (Value.bool new_1.1.stopped)].toArray 25)] O) w562
        refine Wp_region ?_
        refine Rg_op rfl (op_move (v := (Value.int .i64 sync_3.2.2)) rfl ?_)
        refine Rg_op rfl (op_neq rfl rfl ?_)
        refine Rg_op rfl (op_move (v := (Value.bool (decide (sync_3.2.2 ≠ 0)))) rfl ?_)
        refine Rg_case (fun hg897 => ?_) (fun hg897 => ?_)
        ·
         replace hm := bif_t hm hg897
         iterate 3 refine Rg_opx rfl (asB_ne rfl rfl) rfl ?_
         refine Rg_op rfl (op_pick_t (v := (Value.bool true)) rfl rfl ?_)
         refine Rg_nil ?_
         exact hK569 _ _ ⟨true, _, rfl, ⟨(by repeat (first | with_reducible exact Out.refl _ _ | refine Out.upd ?_ rfl | refine Out.updL ?_ rfl | refine Out.mix' ?_ rfl | exact Out.refl _ _)), rfl, rfl, trivial⟩, ch896, hs564, hm⟩
        ·
         replace hm := bif_f hm hg897
         refine Rg_opg rfl rfl rfl (op_move (v := (Value.slice a_g70 ends_1.length c_g70)) rfl ?_)
         refine Rg_opg rfl rfl rfl (op_len Try.underlying62 rfl ?_)
         have rl898 := inK_lenG f_g70
         refine Rg_opg rfl rfl rfl (op_eql rfl rfl ?_)
         refine Rg_op rfl (op_pick_f (v := (Value.bool (decide ((ends_1.length : Int) = 0)))) rfl rfl ?_)
         refine Rg_nil ?_
         exact hK569 _ _ ⟨(decide ((ends_1.length : Int) = 0)), _, rfl, ⟨(by repeat (first | with_reducible exact Out.refl _ _ | refine Out.upd ?_ rfl | refine Out.updL ?_ rfl | refine Out.mix' ?_ rfl | exact Out.refl _ _)), rfl, rfl, trivial⟩, ch896, hs564, hm⟩
  ·
   intro K35 hK35
   have ch899 := Step.refl (ks [(some b23, Obj.cells [(Value.slice a_y21_sectors new_1.1.sectors.length c_y21_sectors), (Value.slice a_y21_pending new_1.1.pending.length c_y21_pending), (Value.int .i64 new_1.1.left), (Value.bool new_1.1.stopped)].toArray 25)] O) w28
   refine Wp_region ?_
   refine Rg_op rfl (op_move (v := (Value.int .i64 new_1.2)) rfl ?_)
   refine Rg_op rfl (op_neq rfl rfl ?_)
   refine Rg_op rfl (op_move (v := (Value.bool (decide (new_1.2 ≠ 0)))) rfl ?_)
   refine Rg_case (fun hg900 => ?_) (fun hg900 => ?_)
   ·
    replace hm := bif_t hm hg900
    iterate 4 refine Rg_opx rfl (asB_ne rfl rfl) rfl ?_
    refine Rg_op rfl (op_pick_t (v := (Value.bool true)) rfl rfl ?_)
    refine Rg_op rfl (op_move (v := (Value.bool true)) rfl ?_)
    iterate 3 refine Rg_opx rfl (asB_ne rfl rfl) rfl ?_
    refine Rg_op rfl (op_pick_t (v := (Value.bool true)) rfl rfl ?_)
    refine Rg_op rfl (op_move (v := (Value.bool true)) rfl ?_)
    iterate 2 refine Rg_opx rfl (asB_ne rfl rfl) rfl ?_
    refine Rg_op rfl (op_pick_t (v := (Value.bool true)) rfl rfl ?_)
    refine Rg_nil ?_
    exact hK35 _ _ ⟨true, _, rfl, ⟨(by repeat (first | with_reducible exact Out.refl _ _ | refine Out.upd ?_ rfl | refine Out.updL ?_ rfl | refine Out.mix' ?_ rfl | exact Out.refl _ _)), rfl, rfl, trivial⟩, ch899, hs30, hm⟩
   ·
    replace hm := bif_f hm hg900
    refine Rg_opg rfl rfl rfl (op_loadA (cs := [(Value.slice a_y21_sectors new_1.1.sectors.length c_y21_sectors), (Value.slice a_y21_pending new_1.1.pending.length c_y21_pending), (Value.int .i64 new_1.1.left), (Value.bool new_1.1.stopped)]) (vs := [(Value.slice a_y21_sectors new_1.1.sectors.length c_y21_sectors), (Value.slice a_y21_pending new_1.1.pending.length c_y21_pending), (Value.int .i64 new_1.1.left), (Value.bool new_1.1.stopped)]) (i := 0) ty25 hs30 rfl rfl rfl rfl ?_)
    refine Rg_opg rfl rfl rfl (op_move (v := (Value.slice a_records records.length c_records)) rfl ?_)
    replace hm := bd hm; obtain ⟨few_1, hv901, hm⟩ := hm
    refine Rg_opg rfl rfl rfl (op_call Try.call29 (c29_overflightlaw45_few (d := new_1.1) (records := records) hs30.ltw f_y21_sectors f_y21_pending r_y21_left f_records hv901) rfl ?_)
    rintro v902 w903 ⟨hx904, h905⟩
    have hs906 := hs30.call hx904
    have p907 := Step.ext (O := ks [(some b23, Obj.cells [(Value.slice a_y21_sectors new_1.1.sectors.length c_y21_sectors), (Value.slice a_y21_pending new_1.1.pending.length c_y21_pending), (Value.int .i64 new_1.1.left), (Value.bool new_1.1.stopped)].toArray 25)] O) hx904
    clear hx904
    replace f_records := f_records.step p907; replace f_y21_sectors := f_y21_sectors.step p907; replace f_y21_pending := f_y21_pending.step p907; replace ch899 := ch899.trans p907; clear p907 hs30
    obtain rfl := h905
    refine Rg_opg rfl rfl rfl (op_not rfl ?_)
    refine Rg_op rfl (op_pick_f (v := (Value.bool (!few_1))) rfl rfl ?_)
    refine Rg_op rfl (op_move (v := (Value.bool (!few_1))) rfl ?_)
    refine Rg_case (fun hg909 => ?_) (fun hg909 => ?_)
    ·
     replace hm := bif_t hm hg909
     iterate 3 refine Rg_opx rfl (asB_ne rfl rfl) rfl ?_
     refine Rg_op rfl (op_pick_t (v := (Value.bool true)) rfl rfl ?_)
     refine Rg_op rfl (op_move (v := (Value.bool true)) rfl ?_)
     iterate 2 refine Rg_opx rfl (asB_ne rfl rfl) rfl ?_
     refine Rg_op rfl (op_pick_t (v := (Value.bool true)) rfl rfl ?_)
     refine Rg_nil ?_
     exact hK35 _ _ ⟨true, _, rfl, ⟨(by repeat (first | with_reducible exact Out.refl _ _ | refine Out.upd ?_ rfl | refine Out.updL ?_ rfl | refine Out.mix' ?_ rfl | exact Out.refl _ _)), rfl, rfl, trivial⟩, ch899, hs906, hm⟩
    ·
     replace hm := bif_f hm hg909
     refine Rg_opg rfl rfl rfl (op_move (v := (Value.slice a_records records.length c_records)) rfl ?_)
     refine Rg_opg rfl rfl rfl (op_len Try.underlying22 rfl ?_)
     have rl910 := inK_len f_records
     refine Rg_opg rfl rfl rfl (op_eql rfl rfl ?_)
     refine Rg_op rfl (op_pick_f (v := (Value.bool (decide ((records.length : Int) = 0)))) rfl rfl ?_)
     refine Rg_op rfl (op_move (v := (Value.bool (decide ((records.length : Int) = 0)))) rfl ?_)
     refine Rg_case (fun hg911 => ?_) (fun hg911 => ?_)
     ·
      replace hm := bif_t hm hg911
      iterate 2 refine Rg_opx rfl (asB_ne rfl rfl) rfl ?_
      refine Rg_op rfl (op_pick_t (v := (Value.bool true)) rfl rfl ?_)
      refine Rg_nil ?_
      exact hK35 _ _ ⟨true, _, rfl, ⟨(by repeat (first | with_reducible exact Out.refl _ _ | refine Out.upd ?_ rfl | refine Out.updL ?_ rfl | refine Out.mix' ?_ rfl | exact Out.refl _ _)), rfl, rfl, trivial⟩, ch899, hs906, hm⟩
     ·
      replace hm := bif_f hm hg911
      refine Rg_opg rfl rfl rfl (op_move (v := (Value.int .u8 (by_.toNat : Int))) rfl ?_)
      refine Rg_opg rfl rfl rfl (op_eql rfl rfl ?_)
      refine Rg_op rfl (op_pick_f (v := (Value.bool (decide ((by_.toNat : Int) = 0)))) rfl rfl ?_)
      refine Rg_nil ?_
      exact hK35 _ _ ⟨(decide ((by_.toNat : Int) = 0)), _, rfl, ⟨(by repeat (first | with_reducible exact Out.refl _ _ | refine Out.upd ?_ rfl | refine Out.updL ?_ rfl | refine Out.mix' ?_ rfl | exact Out.refl _ _)), rfl, rfl, trivial⟩, ch899, hs906, hm⟩

end Go.Fx



/- What the models of functions compute: loops over lists, checks, meetings. No program in sight. -/
set_option linter.unusedSimpArgs false
set_option linter.unusedVariables false
namespace Go.Fx
open Go Go.RowKit

section
variable {R α σ : Type}
@[simp] theorem jn_eq {κ : Type _} (k : κ) (f : κ → Option R) : jn k f = f k := rfl
theorem ck_eq {c : Prop} [Decidable c] {m : Option R} (h : c) : ck c m = m := if_pos h
@[simp] theorem ck_True {m : Option R} : ck True m = m := if_pos trivial
theorem wrapN {i : Nat} (h : i < 9223372036854775808) : IntKind.i64.wrap (i : Int) = (i : Int) := wrap_i64 (by omega) (by omega)
theorem wrapS {i : Nat} (h : i + 1 < 9223372036854775808) : IntKind.i64.wrap ((i : Int) + 1) = (i : Int) + 1 := wrap_i64 (by omega) (by omega)
/-- a loop that goes up an index over a list: L fuel index state -/
theorem up_list {L : Nat → Int → σ → Option R} (I : Nat → σ → Prop) (F : Nat → List α → σ → Option R) (l : List α) (hl : l.length < 9223372036854775807)
    (hE : ∀ n s, I l.length s → L (n + 1) (l.length : Nat) s = F l.length [] s)
    (hS : ∀ n (i : Nat) s x t, i < l.length → l[i]? = some x → IntKind.i64.wrap ((i : Int) + 1) = (i : Int) + 1 → I i s →
      (∀ s, I (i + 1) s → L n ((i : Int) + 1) s = F (i + 1) t s) → L (n + 1) (i : Int) s = F i (x :: t) s) :
    ∀ (fuel : Nat) s, l.length < fuel → I 0 s → L fuel 0 s = F 0 l s := by
  have main : ∀ (t : List α) (i fuel : Nat) s, l.drop i = t → i ≤ l.length → l.length - i < fuel → I i s → L fuel (i : Int) s = F i t s := by
    intro t
    induction t with
    | nil =>
      intro i fuel s hd hi hf hI
      have : i = l.length := by have := congrArg List.length hd; simp at this; omega
      subst this
      obtain ⟨n, rfl⟩ : ∃ n, fuel = n + 1 := ⟨fuel - 1, by omega⟩
      exact hE n s hI
    | cons x t ih =>
      intro i fuel s hd hi hf hI
      have hlt : i < l.length := by have := congrArg List.length hd; simp at this; omega
      obtain ⟨n, rfl⟩ : ∃ n, fuel = n + 1 := ⟨fuel - 1, by omega⟩
      have hx : l[i]? = some x := by rw [← List.head?_drop, hd]; rfl
      refine hS n i s x t hlt hx (wrapS (by omega)) hI fun s' hI' => (ih (i + 1) n s' ?_ (by omega) (by omega) hI')
      rw [← List.drop_drop, hd]; rfl
  intro fuel s hf hI
  exact main l 0 fuel s rfl (by omega) (by omega) hI

theorem getD_of {l : List α} {i : Nat} {x d : α} (h : l[i]? = some x) : l.getD i d = x := by simp [List.getD, h]

/-- a loop that goes up an index over a list, no state -/
theorem up_list0 {B : (Int → Option R) → Int → Option R} (F : List α → Option R) (l : List α) (hl : l.length < 9223372036854775807)
    (hE : ∀ sf, B sf (l.length : Nat) = F [])
    (hS : ∀ sf (i : Nat) x t, i < l.length → l[i]? = some x → IntKind.i64.wrap ((i : Int) + 1) = (i : Int) + 1 →
      sf ((i : Int) + 1) = F t → B sf (i : Int) = F (x :: t))
    {fuel : Nat} (hf : l.length < fuel) : loop1 B fuel 0 = F l := by
  refine up_list (L := fun n i (_ : Unit) => loop1 B n i) (fun _ _ => True) (fun _ t _ => F t) l hl ?_ ?_ fuel () hf trivial
  · intro n _ _; show loop1 B (n + 1) _ = _; rw [loop1_succ]; exact hE _
  · intro n i _ x t h1 h2 h3 _ ih; show loop1 B (n + 1) _ = _; rw [loop1_succ]; exact hS _ i x t h1 h2 h3 (ih () trivial)
/-- a state first, then the index -/
theorem up_listB {B : (σ → Int → Option R) → σ → Int → Option R} (I : Nat → σ → Prop) (F : Nat → List α → σ → Option R) (l : List α) (hl : l.length < 9223372036854775807)
    (hE : ∀ sf s, I l.length s → B sf s (l.length : Nat) = F l.length [] s)
    (hS : ∀ sf (i : Nat) s x t, i < l.length → l[i]? = some x → IntKind.i64.wrap ((i : Int) + 1) = (i : Int) + 1 → I i s →
      (∀ s, I (i + 1) s → sf s ((i : Int) + 1) = F (i + 1) t s) → B sf s (i : Int) = F i (x :: t) s)
    {fuel : Nat} {s : σ} (hf : l.length < fuel) (hI : I 0 s) : loop2 B fuel s 0 = F 0 l s := by
  refine up_list (L := fun n i s => loop2 B n s i) I F l hl ?_ ?_ fuel s hf hI
  · intro n s h; show loop2 B (n + 1) _ _ = _; rw [loop2_succ]; exact hE _ _ h
  · intro n i s x t h1 h2 h3 h4 ih; show loop2 B (n + 1) _ _ = _; rw [loop2_succ]; exact hS _ i s x t h1 h2 h3 h4 ih

/-- the same, where the answer needs the index -/
theorem up_listI {B : (Int → Option R) → Int → Option R} (F : Nat → List α → Option R) (l : List α) (hl : l.length < 9223372036854775807)
    (hE : ∀ sf, B sf (l.length : Nat) = F l.length [])
    (hS : ∀ sf (i : Nat) x t, i < l.length → l[i]? = some x → IntKind.i64.wrap ((i : Int) + 1) = (i : Int) + 1 →
      sf ((i : Int) + 1) = F (i + 1) t → B sf (i : Int) = F i (x :: t))
    {fuel : Nat} (hf : l.length < fuel) : loop1 B fuel 0 = F 0 l := by
  refine up_list (L := fun n i (_ : Unit) => loop1 B n i) (fun _ _ => True) (fun i t _ => F i t) l hl ?_ ?_ fuel () hf trivial
  · intro n _ _; show loop1 B (n + 1) _ = _; rw [loop1_succ]; exact hE _
  · intro n i _ x t h1 h2 h3 _ ih; show loop1 B (n + 1) _ = _; rw [loop1_succ]; exact hS _ i x t h1 h2 h3 (ih () trivial)
end
end Go.Fx



set_option linter.unusedVariables false
set_option linter.unusedSimpArgs false
set_option maxRecDepth 100000
set_option maxHeartbeats 0
namespace Go.Fx
open Go Go.RowKit Go.Proofs
end Go.Fx



set_option linter.unusedVariables false
set_option linter.unusedSimpArgs false
set_option maxRecDepth 100000
set_option maxHeartbeats 0
namespace Go.Fx
open Go Go.RowKit Go.Proofs
end Go.Fx



set_option linter.unusedVariables false
set_option linter.unusedSimpArgs false
set_option maxRecDepth 100000
set_option maxHeartbeats 0
namespace Go.Fx
open Go Go.RowKit Go.Proofs
end Go.Fx



set_option linter.unusedVariables false
set_option linter.unusedSimpArgs false
set_option maxRecDepth 100000
set_option maxHeartbeats 0
namespace Go.Fx
open Go Go.RowKit Go.Proofs
end Go.Fx



set_option linter.unusedVariables false
set_option linter.unusedSimpArgs false
set_option maxRecDepth 100000
set_option maxHeartbeats 0
namespace Go.Fx
open Go Go.RowKit Go.Proofs
end Go.Fx



set_option linter.unusedVariables false
set_option linter.unusedSimpArgs false
set_option maxRecDepth 100000
set_option maxHeartbeats 0
namespace Go.Fx
open Go Go.RowKit Go.Proofs
end Go.Fx



/- Chapter 45: what Check, Room and Append compute. -/
set_option linter.unusedSimpArgs false
set_option linter.unusedVariables false
namespace Go.Fx
open Go Go.RowKit
theorem ipos {l n : Nat} (h : n < l) : ((n : Int) < (l : Int)) := by omega
theorem sane45 : m28_overflightlaw45_sane = some true := by kernel_rfl
/-- sectors of a record of so many bytes -/
def secI (n : Int) : Int := max 1 (IntKind.wrap .i64 ((IntKind.wrap .i64 ((IntKind.wrap .i64 (n + 112)) - 1)).tdiv 112))
def usedF : Int → List (List UInt8) → Int
  | s, [] => s
  | s, x :: t => usedF (IntKind.wrap .i64 (s + secI (x.length : Int))) t
theorem m54_eq (b : List UInt8) : m54_journal_sectors b = some (secI (b.length : Int)) := rfl
theorem m55_eq (l : List (List UInt8)) (hl : l.length < 9223372036854775807) : m55_journal_used l = some (usedF 0 l) := by
  unfold m55_journal_used
  refine up_listB (B := m55_journal_used_B0 l) (σ := Int) (fun _ _ => True) (fun _ t s => some (usedF s t)) l hl ?_ ?_ (by omega) trivial
  · intro sf s _; unfold m55_journal_used_B0
    rw [decide_eq_false (Int.lt_irrefl _)]; rfl
  · intro sf i s x t h1 h2 h3 _ ih
    unfold m55_journal_used_B0
    have g1 : l.getD (i : Int).toNat default = x := getD_of h2
    rw [decide_eq_true (ipos h1), cond_true, ck_eq (by omega), g1, m54_eq, Option.bind_some, h3, ih _ trivial]; rfl
/-- what Check looks for -/
def badJ (l : XJournal) : Bool := decide (l.many < 1) || (decide (4096 < l.many) || (decide (l.synced < 0) || (decide ((l.records.length : Int) < l.synced) || decide (l.many < usedF 0 l.records))))
theorem m32_eq (l : XJournal) (hl : l.records.length < 9223372036854775807) : m32_journal_Check l = some (bif badJ l then 1 else 0) := by
  unfold m32_journal_Check badJ
  simp only [jn_eq]
  rw [m55_eq _ hl, Option.bind_some]
  cases decide (l.many < 1) <;> cases decide (4096 < l.many) <;> cases decide (l.synced < 0) <;> cases decide ((l.records.length : Int) < l.synced) <;> cases decide (l.many < usedF 0 l.records) <;> rfl
def appJ (l : XJournal) (b : List UInt8) : XJournal × Int :=
  bif badJ l then (⟨[], 0, 0⟩, 1) else bif decide ((IntKind.wrap .i64 (l.many - usedF 0 l.records)) < secI (b.length : Int)) then (⟨[], 0, 0⟩, 2) else (⟨l.records ++ [b], l.many, l.synced⟩, 0)
theorem m56_eq (s : List (List UInt8)) : m56_slices_Clipbyte_byte_ s = some s := by
  unfold m56_slices_Clipbyte_byte_
  rw [ck_eq (by omega), List.drop_zero, Nat.sub_zero, List.take_length]
theorem m52_eq (s : List UInt8) (h : s.length ≤ 140737488351232) : m52_slices_Clonebyte_byte_ s = some s := by
  unfold m52_slices_Clonebyte_byte_
  rw [ck_eq (by simp; omega)]; rfl
theorem m30_eq (l : XJournal) (b : List UInt8) (hl : l.records.length * 24 ≤ 140737488351232) (hb : b.length ≤ 140737488351232) : m30_journal_Append l b = some (appJ l b) := by
  unfold m30_journal_Append appJ
  rw [m32_eq l (by omega), m54_eq, m55_eq _ (by omega), m56_eq, m52_eq b hb]
  cases badJ l
  · simp only [Option.bind_some, cond_false, ne_eq, not_true_eq_false, decide_false]
    cases decide ((IntKind.wrap .i64 (l.many - usedF 0 l.records)) < secI (b.length : Int))
    · rw [cond_false, cond_false, ck_eq (by simp; omega)]
    · rfl
  · rfl
theorem m37_eq (a b : List (List UInt8)) (ha : a.length < 9223372036854775807) : m37_overflightref45_SameRecords a b = some (decide (a = b)) := by
  unfold m37_overflightref45_SameRecords
  by_cases hl : a.length = b.length
  · rw [decide_eq_false (show ¬ ((a.length : Int) ≠ b.length) by omega), cond_false]
    refine (up_listI (B := m37_overflightref45_SameRecords_B0 a b) (fun i t => some (decide (t = b.drop i))) a ha ?_ ?_ (by omega)).trans (by simp)
    · intro sf; unfold m37_overflightref45_SameRecords_B0
      rw [decide_eq_false (Int.lt_irrefl _), cond_false, hl, List.drop_length]; rfl
    · intro sf i x t h1 h2 h3 ih
      obtain ⟨_, rfl⟩ := List.getElem?_eq_some_iff.1 h2
      unfold m37_overflightref45_SameRecords_B0
      have g1 : a.getD (i : Int).toNat default = a[i] := by simp [h1]
      have hb' : i < b.length := by omega
      have g2 : b.getD (i : Int).toNat default = b[i] := by simp [hb']
      rw [decide_eq_true (ipos h1), cond_true, ck_eq (by omega), ck_eq (by omega), g1, g2, h3, ih, List.drop_eq_getElem_cons hb']
      by_cases e : a[i] = b[i]
      · rw [decide_eq_false (fun h => h e), cond_false, e]
        congr 1
        rw [Bool.eq_iff_iff, decide_eq_true_iff, decide_eq_true_iff]
        constructor
        · rintro rfl; rfl
        · intro h; exact (List.cons.inj h).2
      · rw [decide_eq_true e, cond_true, decide_eq_false]
        intro h; exact e (List.cons.inj h).1
  · rw [decide_eq_true (show (a.length : Int) ≠ b.length by omega), cond_true, decide_eq_false (fun e => hl (by rw [e]))]
def sumF : Int → List (List UInt8) → Int
  | s, [] => s
  | s, x :: t => sumF (IntKind.wrap .i64 (s + IntKind.wrap .i64 (1 + (x.length : Int)))) t
def fewJ (d : XDisk) (records : List (List UInt8)) : Bool := decide ((d.sectors.length : Int) ≤ 40) && (decide ((d.pending.length : Int) ≤ 40) && decide (sumF 0 records ≤ 4000))
theorem m29_eq (d : XDisk) (l : List (List UInt8)) (hl : l.length < 9223372036854775807) : m29_overflightlaw45_few d l = some (fewJ d l) := by
  unfold m29_overflightlaw45_few fewJ
  refine up_listB (B := m29_overflightlaw45_few_B0 d l) (σ := Int) (fun _ _ => True) (fun _ t s => some (decide ((d.sectors.length : Int) ≤ 40) && (decide ((d.pending.length : Int) ≤ 40) && decide (sumF s t ≤ 4000)))) l hl ?_ ?_ (by omega) trivial
  · intro sf s _; unfold m29_overflightlaw45_few_B0
    rw [decide_eq_false (Int.lt_irrefl _), cond_false]
    cases decide ((d.sectors.length : Int) ≤ 40) <;> cases decide ((d.pending.length : Int) ≤ 40) <;> rfl
  · intro sf i s x t h1 h2 h3 _ ih
    unfold m29_overflightlaw45_few_B0
    have g1 : l.getD (i : Int).toNat default = x := getD_of h2
    rw [decide_eq_true (ipos h1), cond_true, ck_eq (by omega), g1, h3, ih _ trivial]; rfl
end Go.Fx



set_option linter.unusedVariables false
set_option linter.unusedSimpArgs false
set_option maxRecDepth 100000
set_option maxHeartbeats 0
namespace Go.Fx
open Go Go.RowKit Go.Proofs
end Go.Fx



set_option linter.unusedVariables false
set_option linter.unusedSimpArgs false
set_option maxRecDepth 100000
set_option maxHeartbeats 0
namespace Go.Fx
open Go Go.RowKit Go.Proofs
end Go.Fx



set_option linter.unusedVariables false
set_option linter.unusedSimpArgs false
set_option maxRecDepth 100000
set_option maxHeartbeats 0
namespace Go.Fx
open Go Go.RowKit Go.Proofs
end Go.Fx



/- What the operations of the disk answer (chapter 45). -/
set_option linter.unusedSimpArgs false
set_option linter.unusedVariables false
namespace Go.Fx
open Go Go.RowKit
/-- the first index from i where g holds, or -1 -/
def fidx {α} (g : α → Bool) : Nat → List α → Int
  | _, [] => -1
  | i, x :: t => bif g x then (i : Int) else fidx g (i + 1) t
theorem fidx_any {α} (g : α → Bool) (l : List α) (i : Nat) : decide (0 ≤ fidx g i l) = l.any g := by
  induction l generalizing i with
  | nil => rfl
  | cons x t ih => cases h : g x <;> simp [fidx, h, ih]
theorem m44_eq (s : List XWrite) (f : XWrite → Option Bool) (g : XWrite → Bool) (hf : ∀ x, f x = some (g x)) (hl : s.length < 9223372036854775807) : m44_api_Write_ s f = some (s.any g) := by
  have : m65_api_Write_ s f = some (fidx g 0 s) := by
    unfold m65_api_Write_
    refine up_listI (fun i t => some (fidx g i t)) s hl ?_ ?_ (by omega)
    · intro sf; unfold m65_api_Write__B0; simp [fidx]
    · intro sf i x t h1 h2 h3 ih; unfold m65_api_Write__B0; obtain ⟨_, rfl⟩ := List.getElem?_eq_some_iff.1 h2; cases h : g s[i] <;> simp [h1, h3, ih, hf, h, fidx, ck_eq]
  unfold m44_api_Write_; rw [this]; simp [fidx_any]
theorem m45_eq (s : List (List UInt8)) (f : List UInt8 → Option Bool) (g : List UInt8 → Bool) (hf : ∀ x, f x = some (g x)) (hl : s.length < 9223372036854775807) : m45_slices_ContainsFuncbyte_byte_ s f = some (s.any g) := by
  have : m66_slices_IndexFuncbyte_byte_ s f = some (fidx g 0 s) := by
    unfold m66_slices_IndexFuncbyte_byte_
    refine up_listI (fun i t => some (fidx g i t)) s hl ?_ ?_ (by omega)
    · intro sf; unfold m66_slices_IndexFuncbyte_byte__B0; simp [fidx]
    · intro sf i x t h1 h2 h3 ih; unfold m66_slices_IndexFuncbyte_byte__B0; obtain ⟨_, rfl⟩ := List.getElem?_eq_some_iff.1 h2; cases h : g s[i] <;> simp [h1, h3, ih, hf, h, fidx, ck_eq]
  unfold m45_slices_ContainsFuncbyte_byte_; rw [this]; simp [fidx_any]
def secBad (b : List UInt8) : Bool := !decide (b.length = 128)
def wrBad (n : Nat) (w : XWrite) : Bool := decide (w.at_ < 0) || decide ((n : Int) ≤ w.at_) || !decide (w.data.length = 128)
/-- what Check answers -/
def chk (d : XDisk) : Bool := !(decide ((d.sectors.length : Int) < 1) || decide (4096 < (d.sectors.length : Int)) || decide (4096 < (d.pending.length : Int)) || decide (d.left < -1) || decide (65536 < d.left) || d.pending.any (wrBad d.sectors.length) || d.sectors.any secBad)
structure Few' (d : XDisk) : Prop where
  s : d.sectors.length < 9223372036854775807
  p : d.pending.length < 9223372036854775807
theorem m18_eq (d : XDisk) (h : Few' d) : m18_disk_Check d = some (bif chk d then 0 else 440) := by
  unfold m18_disk_Check
  rw [m44_eq _ _ (wrBad d.sectors.length) _ h.p, m45_eq _ _ secBad _ h.s]
  · unfold chk
    simp only [jn_eq, Option.bind_some]
    cases decide ((d.sectors.length : Int) < 1) <;> cases decide (4096 < (d.sectors.length : Int)) <;> cases decide (4096 < (d.pending.length : Int)) <;> cases decide (d.left < -1) <;> cases decide (65536 < d.left) <;> cases d.pending.any (wrBad d.sectors.length) <;> cases d.sectors.any secBad <;> rfl
  · intro x; simp [m46_disk_Check_2, m43_disk_isSector, secBad]; omega
  · intro w; simp only [m42_disk_Check_1, m43_disk_isSector, wrBad]
    by_cases h1 : w.at_ < 0 <;> by_cases h2 : (d.sectors.length : Int) ≤ w.at_ <;> by_cases h3 : w.data.length = 128 <;> simp [h1, h2, h3] <;> omega
theorem m47_eq (d : XDisk) (h : Few' d) : m47_disk_runs d = some (chk d && !d.stopped) := by
  unfold m47_disk_runs; rw [m18_eq d h]; cases chk d <;> simp
theorem m48_eq (d : XDisk) (a : Int) : m48_disk_has d a = some (decide (0 ≤ a) && decide (a < (d.sectors.length : Int))) := by
  unfold m48_disk_has; cases h : decide (0 ≤ a) <;> simp
/-- the bytes of a sector that begins with some bytes -/
def pad (b : List UInt8) : List UInt8 := b.take 128 ++ (List.replicate 128 (0 : UInt8)).drop b.length
def dsk0 : XDisk := ⟨[], [], 0, false⟩
theorem m23_eq (d : XDisk) (a : Int) (b : List UInt8) (h : Few' d) : m23_disk_Write d a b =
    some (bif (chk d && !d.stopped) && (decide (0 ≤ a) && decide (a < (d.sectors.length : Int))) then
      (bif decide (128 < b.length) then (dsk0, 1) else bif decide (d.pending.length = 4096) then (dsk0, 2) else (⟨d.sectors, d.pending ++ [⟨a, pad b⟩], d.left, d.stopped⟩, 0)) else (dsk0, 440)) := by
  unfold m23_disk_Write
  rw [m47_eq d h, m48_eq]
  cases hc : chk d && !d.stopped
  · simp [dsk0]
  cases ha : (decide (0 ≤ a) && decide (a < (d.sectors.length : Int)))
  · simp [dsk0]
  have hp : d.pending.length ≤ 4096 := by
    have : chk d = true := by revert hc; cases chk d <;> simp
    unfold chk at this; simp at this; omega
  have e1 : (128 < (b.length : Int)) = (128 < b.length) := by apply propext; omega
  have e2 : ((d.pending.length : Int) = 4096) = (d.pending.length = 4096) := by apply propext; omega
  have e3 : m50_api_Write_ d.pending = some d.pending := by unfold m50_api_Write_; rw [ck_eq (by simp; omega)]; simp
  have e4 : m49_api_Write_ d.pending = some d.pending := by unfold m49_api_Write_; rw [ck_eq (by simp)]; simp
  simp only [Option.bind_some, jn_eq, Bool.not_true, cond_false, e1, e2, e3, e4]
  cases decide (128 < b.length)
  · cases decide (d.pending.length = 4096)
    · simp only [cond_false]
      rw [ck_eq (by omega), ck_eq (by simp), ck_eq (by simp; omega)]; simp [pad]
    · simp [dsk0]
  · simp [dsk0]
/-- the sectors after some writes -/
def perf (s : List (List UInt8)) (l : List XWrite) : List (List UInt8) := l.foldl (fun s w => s.set w.at_.toNat w.data) s
theorem perf_len (l : List XWrite) (s : List (List UInt8)) : (perf s l).length = s.length := by
  induction l generalizing s with
  | nil => rfl
  | cons x t ih => show (perf (s.set _ _) t).length = _; rw [ih]; simp
theorem m51_eq (s : List (List UInt8)) (l : List XWrite) (hs : s.length ≤ 5000) (hl : l.length < 5000) (hw : ∀ w ∈ l, 0 ≤ w.at_ ∧ w.at_ < (s.length : Int)) : m51_disk_perform s l = some (perf s l) := by
  unfold m51_disk_perform
  have e : m67_slices_Clonebyte_byte_ s = some s := by unfold m67_slices_Clonebyte_byte_; rw [ck_eq (by simp; omega)]; simp
  rw [e]
  show loop2 _ _ s 0 = _
  refine up_listB (σ := List (List UInt8)) (fun i x => x.length = s.length) (fun _ t x => some (perf x t)) l (by omega) ?_ ?_ (by simp) rfl
  · intro sf x _; unfold m51_disk_perform_B0; simp [perf]
  · intro sf i x y t h1 h2 h3 hx ih; obtain ⟨_, rfl⟩ := List.getElem?_eq_some_iff.1 h2
    have hm := hw l[i] (List.getElem_mem _)
    have := ih (x.set l[i].at_.toNat l[i].data) (by simpa using hx)
    unfold m51_disk_perform_B0
    have c1 : (i : Int) < (l.length : Int) := by omega
    have g : l.getD (i : Int).toNat default = l[i] := by simp [h1]
    simp only [c1, decide_true, cond_true, g, h3]
    rw [ck_eq (by simp), ck_eq (by rw [hx]; exact hm), this]; rfl
theorem chk_props {d : XDisk} (hk : chk d = true) : 1 ≤ d.sectors.length ∧ d.sectors.length ≤ 4096 ∧ d.pending.length ≤ 4096 ∧ -1 ≤ d.left ∧ d.left ≤ 65536 ∧ (∀ w ∈ d.pending, 0 ≤ w.at_ ∧ w.at_ < (d.sectors.length : Int) ∧ w.data.length = 128) ∧ ∀ s ∈ d.sectors, s.length = 128 := by
  unfold chk at hk
  simp only [Bool.not_eq_true', Bool.or_eq_false_iff, decide_eq_false_iff_not, List.any_eq_false] at hk
  obtain ⟨⟨⟨⟨⟨⟨h1, h2⟩, h3⟩, h4⟩, h5⟩, h6⟩, h7⟩ := hk
  refine ⟨by omega, by omega, by omega, by omega, by omega, fun w hw => ?_, fun s hs => ?_⟩
  · have := h6 w hw; simp [wrBad] at this; omega
  · have := h7 s hs; simpa [secBad] using this
theorem perf_all (l : List XWrite) (s : List (List UInt8)) (hs : ∀ x ∈ s, x.length = 128) (hl : ∀ w ∈ l, w.data.length = 128) : ∀ x ∈ perf s l, x.length = 128 := by
  induction l generalizing s with
  | nil => exact hs
  | cons w t ih =>
    refine ih (s.set w.at_.toNat w.data) (fun x hx => ?_) (fun w hw => hl w (by simp [hw]))
    rcases List.mem_or_eq_of_mem_set hx with h | h
    · exact hs x h
    · subst h; exact hl w (by simp)
/-- the torn sector -/
def torn (s : List UInt8) (w : List UInt8) : List UInt8 := w.take 64 ++ s.drop (min w.length 64)
theorem m25_eq (d : XDisk) (h : Few' d) : m25_disk_Sync d = some (bif chk d && !d.stopped then
      (bif decide (0 ≤ d.left) && decide (d.left < (d.pending.length : Int)) then
        (⟨(perf d.sectors (d.pending.take d.left.toNat)).set (d.pending.getD d.left.toNat default).at_.toNat (torn ((perf d.sectors (d.pending.take d.left.toNat)).getD (d.pending.getD d.left.toNat default).at_.toNat default) (d.pending.getD d.left.toNat default).data), [], 0, true⟩, 440)
      else (⟨perf d.sectors d.pending, [], bif decide (0 ≤ d.left) then d.left - (d.pending.length : Int) else d.left, false⟩, 0)) else (dsk0, 440)) := by
  unfold m25_disk_Sync
  rw [m47_eq d h]
  cases hc : chk d && !d.stopped
  · simp [dsk0]
  have hk : chk d = true := by revert hc; cases chk d <;> simp
  obtain ⟨p1, p2, p3, p4, p5, p6, p7⟩ := chk_props hk
  have hst : d.stopped = false := by revert hc; cases d.stopped <;> simp
  simp only [Option.bind_some, jn_eq, Bool.not_true, cond_false, cond_true]
  cases hL : decide (0 ≤ d.left) && decide (d.left < (d.pending.length : Int))
  · have e : m51_disk_perform d.sectors d.pending = some (perf d.sectors d.pending) := m51_eq _ _ (by omega) (by omega) (fun w hw => ⟨(p6 w hw).1, (p6 w hw).2.1⟩)
    rw [e]
    cases h0 : decide (0 ≤ d.left)
    · simp
    · have h1 : decide (d.left < (d.pending.length : Int)) = false := by rw [h0] at hL; simpa using hL
      have w : IntKind.i64.wrap (d.left - (d.pending.length : Int)) = d.left - (d.pending.length : Int) := wrap_i64 (by omega) (by omega)
      simp [h1, w]
  · simp only [Bool.and_eq_true, decide_eq_true_eq] at hL
    obtain ⟨l0, l1⟩ := hL
    have hn : d.left.toNat < d.pending.length := by omega
    have hm := p6 _ (List.getElem_mem hn)
    have e : m51_disk_perform d.sectors (d.pending.take d.left.toNat) = some (perf d.sectors (d.pending.take d.left.toNat)) := m51_eq _ _ (by omega) (by simp; omega) (fun w hw => ⟨(p6 w (List.mem_of_mem_take hw)).1, (p6 w (List.mem_of_mem_take hw)).2.1⟩)
    have g : d.pending.getD d.left.toNat default = d.pending[d.left.toNat] := by simp [hn]
    simp only [l0, l1, decide_true, cond_true, g, List.drop_zero, Nat.sub_zero, e]
    have hlen : (perf d.sectors (d.pending.take d.left.toNat)).length = d.sectors.length := perf_len _ _
    have hi : d.pending[d.left.toNat].at_.toNat < (perf d.sectors (d.pending.take d.left.toNat)).length := by rw [hlen]; omega
    have h128 := perf_all (d.pending.take d.left.toNat) d.sectors p7 (fun w hw => (p6 w (List.mem_of_mem_take hw)).2.2) _ (List.getElem_mem hi)
    have g2 : (perf d.sectors (d.pending.take d.left.toNat)).getD d.pending[d.left.toNat].at_.toNat default = (perf d.sectors (d.pending.take d.left.toNat))[d.pending[d.left.toNat].at_.toNat] := by simp [hi]
    have e5 : ∀ x : List UInt8, x.length = 128 → m52_slices_Clonebyte_byte_ x = some x := fun x hx => by unfold m52_slices_Clonebyte_byte_; rw [ck_eq (by simp; omega)]; simp
    have hb : 0 ≤ d.pending[d.left.toNat].at_ ∧ d.pending[d.left.toNat].at_ < ((perf d.sectors (d.pending.take d.left.toNat)).length : Int) := by rw [hlen]; exact ⟨hm.1, hm.2.1⟩
    have hc2 : d.left ≤ (d.pending.length : Int) := by omega
    simp only [Option.bind_some, hc2, and_self, ck_True, hb, and_true, g2, e5 _ h128]
    rw [ck_eq (by omega), ck_eq (by omega)]
    simp [torn]
theorem pad_full {b : List UInt8} (h : b.length = 128) : pad b = b := by unfold pad; rw [List.take_of_length_le (by omega), List.drop_eq_nil_of_le (by simp; omega)]; simp
theorem chk_of {d : XDisk} (h1 : 1 ≤ d.sectors.length) (h2 : d.sectors.length ≤ 4096) (h3 : d.pending.length ≤ 4096) (h4 : -1 ≤ d.left) (h5 : d.left ≤ 65536) (h6 : ∀ w ∈ d.pending, 0 ≤ w.at_ ∧ w.at_ < (d.sectors.length : Int) ∧ w.data.length = 128) (h7 : ∀ s ∈ d.sectors, s.length = 128) : chk d = true := by
  unfold chk
  simp only [Bool.not_eq_true', Bool.or_eq_false_iff, decide_eq_false_iff_not, List.any_eq_false]
  refine ⟨⟨⟨⟨⟨⟨by omega, by omega⟩, by omega⟩, by omega⟩, by omega⟩, fun w hw => ?_⟩, fun s hs => ?_⟩
  · have := h6 w hw; simp [wrBad, this.2.2]; omega
  · simp [secBad, h7 s hs]
/-- a write -/
def wr (d : XDisk) (a : Int) (b : List UInt8) : XDisk := ⟨d.sectors, d.pending ++ [⟨a, pad b⟩], d.left, d.stopped⟩
theorem wr_ok {d : XDisk} {a : Int} {b : List UInt8} (hf : Few' d) (h : chk d = true) (hs : d.stopped = false) (h0 : 0 ≤ a) (h1 : a < (d.sectors.length : Int)) (hp : d.pending.length ≠ 4096) (hb : b.length ≤ 128) : m23_disk_Write d a b = some (wr d a b, 0) := by
  rw [m23_eq d a b hf]
  have e1 : decide (128 < b.length) = false := by simp; omega
  simp [h, hs, h0, h1, hp, e1, wr]
theorem chk_few {d : XDisk} (h : chk d = true) : Few' d := by
  obtain ⟨p1, p2, p3, p4, p5, p6, p7⟩ := chk_props h
  exact ⟨by omega, by omega⟩
/-- the disk after a sync that does not stop -/
def snc (d : XDisk) : XDisk := ⟨perf d.sectors d.pending, [], bif decide (0 ≤ d.left) then d.left - (d.pending.length : Int) else d.left, false⟩
/-- the disk after a sync that stops -/
def stp (d : XDisk) : XDisk := ⟨(perf d.sectors (d.pending.take d.left.toNat)).set (d.pending.getD d.left.toNat default).at_.toNat (torn ((perf d.sectors (d.pending.take d.left.toNat)).getD (d.pending.getD d.left.toNat default).at_.toNat default) (d.pending.getD d.left.toNat default).data), [], 0, true⟩
theorem sn_ok {d : XDisk} (h : chk d = true) (hs : d.stopped = false) : m25_disk_Sync d = some (bif decide (0 ≤ d.left) && decide (d.left < (d.pending.length : Int)) then (stp d, 440) else (snc d, 0)) := by
  rw [m25_eq d (chk_few h)]; simp [h, hs, stp, snc]
theorem m15_all : ∀ k : _root_.Fin 41, 1 ≤ k.val → m15_disk_New (k.val : Int) = some (⟨List.replicate k.val (List.replicate 128 0), [], -1, false⟩, 0) := by decide +kernel
theorem m15_ok {k : Nat} (h1 : 1 ≤ k) (h2 : k ≤ 40) : m15_disk_New (k : Int) = some (⟨List.replicate k (List.replicate 128 0), [], -1, false⟩, 0) := m15_all ⟨k, by omega⟩ h1
end Go.Fx



/- Check sums, sectors, and what good says of them. -/
set_option linter.unusedSimpArgs false
set_option linter.unusedVariables false
namespace Go.Fx
open Go Go.RowKit
theorem xor_cancel {a b c : Nat} (h : a ^^^ c = b ^^^ c) : a = b := by
  have := congrArg (· ^^^ c) h
  simpa [Nat.xor_assoc, Nat.xor_self] using this
theorem xor_cancel' {a b c : Nat} (h : c ^^^ a = c ^^^ b) : a = b := by
  rw [Nat.xor_comm c a, Nat.xor_comm c b] at h; exact xor_cancel h
/-- one bit of the check sum -/
def shN (n : Nat) : Nat := (n / 2) ^^^ (if n % 2 = 1 then 3988292384 else 0)
theorem shN_lt {n : Nat} (h : n < 4294967296) : shN n < 4294967296 := by
  unfold shN
  refine Nat.xor_lt_two_pow (n := 32) (by omega) (by split <;> decide)
theorem shN_inj {n m : Nat} (hn : n < 4294967296) (hm : m < 4294967296) (h : shN n = shN m) : n = m := by
  have b : ∀ k, k < 4294967296 → (shN k).testBit 31 = decide (k % 2 = 1) := by
    intro k hk
    unfold shN
    rw [Nat.testBit_xor, Nat.testBit_lt_two_pow (show k / 2 < 2 ^ 31 by omega)]
    by_cases h : k % 2 = 1
    · rw [if_pos h, decide_eq_true h]; decide
    · rw [if_neg h, decide_eq_false h]; decide
  have hp : decide (n % 2 = 1) = decide (m % 2 = 1) := by rw [← b n hn, ← b m hm, h]
  have h2 : n / 2 = m / 2 := by
    unfold shN at h
    have e : (if n % 2 = 1 then 3988292384 else 0 : Nat) = (if m % 2 = 1 then 3988292384 else 0) := by
      by_cases h3 : n % 2 = 1
      · have h4 : m % 2 = 1 := by simpa [h3] using hp
        rw [if_pos h3, if_pos h4]
      · have h4 : ¬ m % 2 = 1 := by simpa [h3] using hp
        rw [if_neg h3, if_neg h4]
    rw [e] at h
    exact xor_cancel h
  by_cases h3 : n % 2 = 1
  · have h4 : m % 2 = 1 := by simpa [h3] using hp
    omega
  · have h4 : ¬ m % 2 = 1 := by simpa [h3] using hp
    omega
def st8 (n : Nat) : Nat := shN (shN (shN (shN (shN (shN (shN (shN n)))))))
theorem st8_lt {n : Nat} (h : n < 4294967296) : st8 n < 4294967296 := shN_lt (shN_lt (shN_lt (shN_lt (shN_lt (shN_lt (shN_lt (shN_lt h)))))))
theorem st8_inj {n m : Nat} (hn : n < 4294967296) (hm : m < 4294967296) (h : st8 n = st8 m) : n = m := by
  have l1 := shN_lt hn; have l2 := shN_lt l1; have l3 := shN_lt l2; have l4 := shN_lt l3; have l5 := shN_lt l4; have l6 := shN_lt l5; have l7 := shN_lt l6
  have k1 := shN_lt hm; have k2 := shN_lt k1; have k3 := shN_lt k2; have k4 := shN_lt k3; have k5 := shN_lt k4; have k6 := shN_lt k5; have k7 := shN_lt k6
  exact shN_inj hn hm (shN_inj l1 k1 (shN_inj l2 k2 (shN_inj l3 k3 (shN_inj l4 k4 (shN_inj l5 k5 (shN_inj l6 k6 (shN_inj l7 k7 h)))))))
theorem u8lt (c : UInt8) : c.toNat < 256 := c.toNat_lt
theorem xorB_lt {n : Nat} (h : n < 4294967296) (c : UInt8) : n ^^^ c.toNat < 4294967296 :=
  Nat.xor_lt_two_pow (n := 32) (by omega) (by have := u8lt c; omega)
/-- one byte -/
def stB (n : Nat) (c : UInt8) : Nat := st8 (n ^^^ c.toNat)
theorem stB_lt {n : Nat} (h : n < 4294967296) (c : UInt8) : stB n c < 4294967296 := st8_lt (xorB_lt h c)
theorem stB_inj {n m : Nat} (hn : n < 4294967296) (hm : m < 4294967296) {c : UInt8} (h : stB n c = stB m c) : n = m := xor_cancel (st8_inj (xorB_lt hn c) (xorB_lt hm c) h)
theorem stB_inj' {n : Nat} (hn : n < 4294967296) {c d : UInt8} (h : stB n c = stB n d) : c = d :=
  UInt8.toNat_inj.1 (xor_cancel' (st8_inj (xorB_lt hn c) (xorB_lt hn d) h))
theorem fold_lt : ∀ (l : List UInt8) {n : Nat}, n < 4294967296 → l.foldl stB n < 4294967296
  | [], _, h => h
  | c :: t, _, h => fold_lt t (stB_lt h c)
theorem fold_inj : ∀ (l : List UInt8) {n m : Nat}, n < 4294967296 → m < 4294967296 → l.foldl stB n = l.foldl stB m → n = m
  | [], _, _, _, _, h => h
  | c :: t, _, _, hn, hm, h => stB_inj hn hm (fold_inj t (stB_lt hn c) (stB_lt hm c) h)
def sumN (b : List UInt8) : Nat := 4294967295 ^^^ b.foldl stB 4294967295
theorem sumN_lt (b : List UInt8) : sumN b < 4294967296 := Nat.xor_lt_two_pow (n := 32) (by decide) (fold_lt b (by decide))
/-- one byte that is another one is noticed -/
theorem sumN_set {b : List UInt8} {i : Nat} {v : UInt8} (hi : i < b.length) (h : sumN (b.set i v) = sumN b) : v = b[i] := by
  have h1 : (b.set i v).foldl stB 4294967295 = b.foldl stB 4294967295 := xor_cancel' h
  have e1 : b = b.take i ++ b[i] :: b.drop (i + 1) := by rw [← List.drop_eq_getElem_cons hi, List.take_append_drop]
  have e2 : b.set i v = b.take i ++ v :: b.drop (i + 1) := List.set_eq_take_append_cons_drop.trans (if_pos hi)
  rw [e2, List.foldl_append, List.foldl_cons] at h1
  conv at h1 => rhs; rw [e1]
  rw [List.foldl_append, List.foldl_cons] at h1
  have hl : (b.take i).foldl stB 4294967295 < 4294967296 := fold_lt _ (by decide)
  exact stB_inj' hl (fold_inj _ (stB_lt hl _) (stB_lt hl _) h1)
theorem sh_eq {n : Nat} (h : n < 4294967296) : Go.bits .xor .u32 ((n : Int) / 2 ^ min 1 (IntKind.bits .u32)) (IntKind.wrap .u32 (3988292384 * (Go.bits .and .u32 (n : Int) 1))) = (shN n : Int) := by
  have e1 : ((n : Int) / 2 ^ min 1 (IntKind.bits .u32)) = ((n / 2 : Nat) : Int) := by
    rw [show (2 : Int) ^ min 1 (IntKind.bits .u32) = 2 from rfl]; omega
  have e2 : Go.bits .and .u32 (n : Int) 1 = ((n % 2 : Nat) : Int) := by
    have := u32_and_nat n 1 h (by omega); rw [nat_mask1] at this; exact this
  rw [e1, e2, IntKind.wrap_u32']
  unfold shN
  by_cases h3 : n % 2 = 1
  · rw [if_pos h3, h3]; exact u32_xor_nat _ 3988292384 (by omega) (by decide)
  · rw [if_neg h3, show n % 2 = 0 by omega]; exact u32_xor_nat _ 0 (by omega) (by decide)
theorem m72_eq (b : List UInt8) (hl : b.length < 9223372036854775807) : m72_journal_sum b = some (sumN b : Int) := by
  unfold m72_journal_sum
  refine (up_listB (B := m72_journal_sum_B0 b) (σ := Int) (fun _ s => ∃ k : Nat, k < 4294967296 ∧ s = (k : Int)) (fun _ t s => some ((4294967295 ^^^ t.foldl stB s.toNat : Nat) : Int)) b hl ?_ ?_ (by omega) ⟨4294967295, by decide, rfl⟩).trans rfl
  · rintro sf s ⟨k, hk, rfl⟩
    unfold m72_journal_sum_B0
    rw [decide_eq_false (Int.lt_irrefl _), cond_false]
    exact congrArg some (u32_xor_nat 4294967295 k (by decide) hk)
  · rintro sf i s x t h1 h2 h3 ⟨k, hk, rfl⟩ ih
    unfold m72_journal_sum_B0
    have g1 : b.getD (i : Int).toNat default = x := getD_of h2
    rw [decide_eq_true (ipos h1), cond_true, ck_eq (by omega), g1]
    have e0 : Go.bits .xor .u32 (k : Int) (x.toNat : Int) = ((k ^^^ x.toNat : Nat) : Int) := u32_xor_nat _ _ hk (by have := u8lt x; omega)
    rw [e0]
    have one : ∀ (f n : Nat) (j : Int), n < 4294967296 → 0 ≤ j → j < 8 → loop2 (m72_journal_sum_B1 (i : Int) sf) (f + 1) (n : Int) j = loop2 (m72_journal_sum_B1 (i : Int) sf) f (shN n : Int) (j + 1) := by
      intro f n j hn h0 h8
      rw [loop2_succ]
      generalize loop2 (m72_journal_sum_B1 (i : Int) sf) f = L
      unfold m72_journal_sum_B1
      rw [decide_eq_true h8, cond_true, sh_eq hn, wrap_i64 (by omega) (by omega)]
    have l0 := xorB_lt hk x
    have l1 := shN_lt l0; have l2 := shN_lt l1; have l3 := shN_lt l2; have l4 := shN_lt l3; have l5 := shN_lt l4; have l6 := shN_lt l5; have l7 := shN_lt l6
    show loop2 (m72_journal_sum_B1 (i : Int) sf) 9 ((k ^^^ x.toNat : Nat) : Int) 0 = _
    rw [one 8 _ 0 l0 (by decide) (by decide), one 7 _ _ l1 (by decide) (by decide), one 6 _ _ l2 (by decide) (by decide), one 5 _ _ l3 (by decide) (by decide), one 4 _ _ l4 (by decide) (by decide), one 3 _ _ l5 (by decide) (by decide), one 2 _ _ l6 (by decide) (by decide), one 1 _ _ l7 (by decide) (by decide), loop2_succ]
    unfold m72_journal_sum_B1
    rw [decide_eq_false (by decide), cond_false, h3, ih _ ⟨_, shN_lt l7, rfl⟩]
    rfl
/-- bytes of a number -/
def bt (n : Nat) : UInt8 := UInt8.ofNat (n % 256)
theorem bt_toNat (n : Nat) : (bt n).toNat = n % 256 := by unfold bt; simp
def put4 (n : Nat) : List UInt8 := [bt (n / 16777216), bt (n / 65536), bt (n / 256), bt n]
def put2 (n : Nat) : List UInt8 := [bt (n / 256), bt n]
theorem wrap8 (n : Nat) : UInt8.ofNat (IntKind.wrap .u8 (n : Int)).toNat = bt n := by
  rw [IntKind.wrap_u8']; unfold bt; congr 1
theorem m71_4 {b : List UInt8} (hb : b.length = 4) (n : Nat) : m71_journal_put b (n : Int) = some (put4 n) := by
  obtain ⟨b0, b1, b2, b3, rfl⟩ : ∃ b0 b1 b2 b3, b = [b0, b1, b2, b3] := by
    match b, hb with
    | [b0, b1, b2, b3], _ => exact ⟨b0, b1, b2, b3, rfl⟩
  have : m71_journal_put [b0, b1, b2, b3] (n : Int) = some [UInt8.ofNat (IntKind.wrap .u8 ((n : Int) / 16777216)).toNat, UInt8.ofNat (IntKind.wrap .u8 ((n : Int) / 65536)).toNat, UInt8.ofNat (IntKind.wrap .u8 ((n : Int) / 256)).toNat, UInt8.ofNat (IntKind.wrap .u8 ((n : Int) / 1)).toNat] := by kernel_rfl
  rw [this, show ((n : Int) / 16777216) = ((n / 16777216 : Nat) : Int) by omega, show ((n : Int) / 65536) = ((n / 65536 : Nat) : Int) by omega, show ((n : Int) / 256) = ((n / 256 : Nat) : Int) by omega, show ((n : Int) / 1) = (n : Int) by omega, wrap8, wrap8, wrap8, wrap8]; rfl
theorem m71_2 {b : List UInt8} (hb : b.length = 2) (n : Nat) : m71_journal_put b (n : Int) = some (put2 n) := by
  obtain ⟨b0, b1, rfl⟩ : ∃ b0 b1, b = [b0, b1] := by
    match b, hb with
    | [b0, b1], _ => exact ⟨b0, b1, rfl⟩
  have : m71_journal_put [b0, b1] (n : Int) = some [UInt8.ofNat (IntKind.wrap .u8 ((n : Int) / 256)).toNat, UInt8.ofNat (IntKind.wrap .u8 ((n : Int) / 1)).toNat] := by kernel_rfl
  rw [this, show ((n : Int) / 256) = ((n / 256 : Nat) : Int) by omega, show ((n : Int) / 1) = (n : Int) by omega, wrap8, wrap8]; rfl
/-- a number of bytes -/
def getN (b : List UInt8) : Nat := b.foldl (fun n c => n * 256 + c.toNat) 0
theorem m60_eq (b : List UInt8) (hb : b.length ≤ 4) : m60_journal_get b = some (getN b : Int) ∧ getN b < 4294967296 := by
  have key : ∀ (t : List UInt8) (i n : Nat), n < 256 ^ i → t.foldl (fun n c => n * 256 + c.toNat) n < 256 ^ (i + t.length) := by
    intro t
    induction t with
    | nil => intro i n h; exact h
    | cons c t ih =>
      intro i n h
      have := ih (i + 1) (n * 256 + c.toNat) (by have := u8lt c; rw [Nat.pow_succ]; omega)
      rw [List.length_cons, show i + (t.length + 1) = i + 1 + t.length by omega]; exact this
  have lim : ∀ i : Nat, i ≤ 4 → 256 ^ i ≤ 4294967296 := fun i hi => Nat.le_trans (Nat.pow_le_pow_right (by decide) hi) (by decide)
  refine ⟨?_, Nat.lt_of_lt_of_le (by have := key b 0 0 (by decide); rwa [Nat.zero_add] at this) (lim _ hb)⟩
  unfold m60_journal_get
  refine (up_listB (B := m60_journal_get_B0 b) (σ := Int) (fun i s => ∃ k : Nat, k < 256 ^ i ∧ s = (k : Int)) (fun _ t s => some ((t.foldl (fun n c => n * 256 + c.toNat) s.toNat : Nat) : Int)) b (by omega) ?_ ?_ (by omega) ⟨0, by decide, rfl⟩).trans rfl
  · rintro sf s ⟨k, hk, rfl⟩
    unfold m60_journal_get_B0
    rw [decide_eq_false (Int.lt_irrefl _)]; rfl
  · rintro sf i s x t h1 h2 h3 ⟨k, hk, rfl⟩ ih
    unfold m60_journal_get_B0
    have g1 : b.getD (i : Int).toNat default = x := getD_of h2
    have hx := u8lt x
    have hk4 : k < 16777216 := Nat.lt_of_lt_of_le hk (Nat.le_trans (Nat.pow_le_pow_right (n := 256) (by decide) (show i ≤ 3 by omega)) (by decide))
    have e1 : IntKind.wrap .u64 ((k : Int) * 2 ^ min 8 (IntKind.bits .u64)) = ((k * 256 : Nat) : Int) := by
      rw [show (2 : Int) ^ min 8 (IntKind.bits .u64) = 256 from rfl, IntKind.wrap_u64]; omega
    have e2 : Go.bits .or .u64 ((k * 256 : Nat) : Int) (x.toNat : Int) = ((k * 256 + x.toNat : Nat) : Int) := by
      rw [u64_or_nat _ _ (by omega) (by omega), nat_join 8 _ _ (by omega) (by omega)]
    rw [decide_eq_true (ipos h1), cond_true, ck_eq (by omega), g1, e1, e2, h3, ih _ ⟨_, by rw [Nat.pow_succ]; omega, rfl⟩]; rfl
theorem get_put {n : Nat} (h : n < 4294967296) : getN (put4 n) = n := by
  simp only [getN, put4, List.foldl_cons, List.foldl_nil, bt_toNat]; omega
theorem put4_inj {n m : Nat} (hn : n < 4294967296) (hm : m < 4294967296) (h : put4 n = put4 m) : n = m := by
  rw [← get_put hn, ← get_put hm, h]
/-- what is summed up -/
def mid (num : Nat) (kind : UInt8) (b : List UInt8) : List UInt8 := put2 num ++ (kind :: bt b.length :: (b ++ List.replicate (112 - b.length) 0))
/-- a sector -/
def enc (g num : Nat) (kind : UInt8) (b : List UInt8) : List UInt8 := put4 g ++ (put4 (sumN (mid num kind b)) ++ (mid num kind b ++ put4 g))
theorem mid_len {num : Nat} {kind : UInt8} {b : List UInt8} (hb : b.length ≤ 112) : (mid num kind b).length = 116 := by simp [mid, put2]; omega
theorem enc_len {g num : Nat} {kind : UInt8} {b : List UInt8} (hb : b.length ≤ 112) : (enc g num kind b).length = 128 := by simp [enc, put4, mid_len hb]
theorem setw_at {α : Type} {A X B Y : List α} {l h : Nat} (hl : A.length = l) (hX : X.length + l = h) : setw (A ++ (X ++ B)) l h Y = A ++ (Y ++ B) := by
  subst hl
  have e : h = A.length + X.length := by omega
  subst e
  unfold setw
  rw [List.take_left, ← List.append_assoc A X B, ← List.length_append, List.drop_left, List.append_assoc]
theorem rep_split (n k : Nat) : List.replicate (n + k) (0 : UInt8) = List.replicate n 0 ++ List.replicate k 0 := by rw [List.replicate_append_replicate]
theorem mid_at {α : Type} {A X B : List α} {l k : Nat} (hl : A.length = l) (hX : X.length = k) : ((A ++ (X ++ B)).drop l).take k = X := by
  subst hl; subst hX; rw [List.drop_left, List.take_left]
theorem m63_eq {g num : Nat} {kind : UInt8} {b : List UInt8} (hn : num < 18446744073709551616) (hb : b.length ≤ 112) :
    m63_journal_encode (g : Int) (num : Int) kind b = some (enc g num kind b) := by
  have l4 : ∀ n, (put4 n).length = 4 := fun _ => rfl
  have l2 : ∀ n, (put2 n).length = 2 := fun _ => rfl
  obtain ⟨S1, hS1⟩ : ∃ S, S = setw (List.replicate 128 (0 : UInt8)) 0 4 (put4 g) := ⟨_, rfl⟩
  have e1 : S1 = (put4 g ++ List.replicate 4 0) ++ (List.replicate 2 0 ++ List.replicate 118 0) := by
    rw [hS1]
    have := setw_at (A := ([] : List UInt8)) (X := List.replicate 4 0) (B := List.replicate 124 0) (Y := put4 g) (l := 0) (h := 4) rfl rfl
    rw [show List.replicate 128 (0 : UInt8) = [] ++ (List.replicate 4 0 ++ List.replicate 124 0) from rfl, this]; rfl
  obtain ⟨S2, hS2⟩ : ∃ S, S = setw S1 8 10 (put2 num) := ⟨_, rfl⟩
  have e2 : S2 = (put4 g ++ List.replicate 4 0) ++ (put2 num ++ List.replicate 118 0) := by
    rw [hS2, e1]; exact setw_at rfl rfl
  obtain ⟨S4, hS4⟩ : ∃ S, S = (S2.set 10 kind).set 11 (bt b.length) := ⟨_, rfl⟩
  have e4 : S4 = (put4 g ++ (List.replicate 4 0 ++ (put2 num ++ [kind, bt b.length]))) ++ List.replicate 116 0 := by
    rw [hS4, e2]; rfl
  obtain ⟨S5, hS5⟩ : ∃ S, S = S4.take 12 ++ (b.take (128 - 12) ++ (S4.drop 12).drop (min b.length (128 - 12))) := ⟨_, rfl⟩
  have e5 : S5 = (put4 g ++ (List.replicate 4 0 ++ (mid num kind b))) ++ (List.replicate 4 0 ++ []) := by
    rw [hS5, e4]
    have h12 : (put4 g ++ (List.replicate 4 0 ++ (put2 num ++ [kind, bt b.length]))).length = 12 := rfl
    rw [List.take_left' h12, List.drop_left' h12, List.take_of_length_le (by omega), List.drop_replicate, show 116 - min b.length (128 - 12) = (112 - b.length) + 4 by omega, rep_split]
    simp [mid]
  obtain ⟨S6, hS6⟩ : ∃ S, S = setw S5 124 128 (put4 g) := ⟨_, rfl⟩
  have e6 : S6 = put4 g ++ (List.replicate 4 0 ++ (mid num kind b ++ put4 g)) := by
    rw [hS6, e5]; exact (setw_at (A := put4 g ++ (List.replicate 4 0 ++ mid num kind b)) (X := List.replicate 4 0) (B := []) (Y := put4 g) (by simp [l4, mid_len hb]) rfl).trans (by simp)
  have e6' : S6 = (put4 g ++ List.replicate 4 0) ++ (mid num kind b ++ put4 g) := by rw [e6]; simp
  obtain ⟨S7, hS7⟩ : ∃ S, S = setw S6 4 8 (put4 (sumN (mid num kind b))) := ⟨_, rfl⟩
  have e7 : S7 = enc g num kind b := by rw [hS7, e6]; exact setw_at (A := put4 g) (X := List.replicate 4 0) (B := mid num kind b ++ put4 g) (Y := put4 (sumN (mid num kind b))) rfl rfl
  have n1 : S1.length = 128 := by rw [e1]; rfl
  have n2 : S2.length = 128 := by rw [e2]; rfl
  have n4 : S4.length = 128 := by rw [e4]; rfl
  have n5 : S5.length = 128 := by rw [e5]; simp [l4, mid_len hb]
  have n6 : S6.length = 128 := by rw [e6]; simp [l4, mid_len hb]
  have w0 : IntKind.wrap .u64 (num : Int) = (num : Int) := by rw [IntKind.wrap_u64]; omega
  have w1 : UInt8.ofNat (IntKind.wrap .u8 (b.length : Int)).toNat = bt b.length := wrap8 _
  have t8 : (S6.drop 8).take (124 - 8) = mid num kind b := by rw [e6']; exact mid_at rfl (mid_len hb)
  have w2 : IntKind.wrap .u64 (sumN (mid num kind b) : Int) = (sumN (mid num kind b) : Int) := by have := sumN_lt (mid num kind b); rw [IntKind.wrap_u64]; omega
  unfold m63_journal_encode
  rw [ck_eq (by simp), m71_4 (by simp), Option.bind_some, ← hS1, ck_eq (by rw [n1]; decide), w0, m71_2 (by rw [List.length_take, List.length_drop, n1]; decide)]
  rw [Option.bind_some, ← hS2, w1, ← hS4, ← hS5]
  rw [ck_eq (by rw [n2]; decide), ck_eq (by rw [List.length_set, n2]; decide), ck_eq (by rw [n4]; decide), ck_eq (by decide), ck_eq (by rw [n5]; decide), m71_4 (by rw [List.length_take, List.length_drop, n5]; decide), Option.bind_some, ← hS6]
  rw [ck_eq (by rw [n6]; decide), ck_eq (by rw [n6]; decide), t8, m72_eq _ (by rw [mid_len hb]; decide), Option.bind_some, w2, m71_4 (by rw [List.length_take, List.length_drop, n6]; decide), Option.bind_some, ← hS7, e7, ck_eq (enc_len hb)]
end Go.Fx



/- Sectors: what good says, and that damage and tearing are noticed. -/
set_option linter.unusedSimpArgs false
set_option linter.unusedVariables false
namespace Go.Fx
open Go Go.RowKit
section
variable {g num : Nat} {kind : UInt8} {b : List UInt8}
theorem enc_take4 : (enc g num kind b).take 4 = put4 g := rfl
theorem enc_mid (hb : b.length ≤ 112) : ((enc g num kind b).drop 8).take 116 = mid num kind b := by
  have : enc g num kind b = (put4 g ++ put4 (sumN (mid num kind b))) ++ (mid num kind b ++ put4 g) := by simp [enc]
  rw [this]; exact mid_at rfl (mid_len hb)
theorem enc_drop124 (hb : b.length ≤ 112) : (enc g num kind b).drop 124 = put4 g := by
  have : enc g num kind b = (put4 g ++ (put4 (sumN (mid num kind b)) ++ mid num kind b)) ++ put4 g := by simp [enc]
  rw [this]; exact List.drop_left' (by simp [put4, mid_len hb])
theorem enc_11 (hb : b.length ≤ 112) : ((enc g num kind b).getD 11 default).toNat = b.length := by
  have : (enc g num kind b).getD 11 default = bt b.length := rfl
  rw [this, bt_toNat]; omega
theorem enc_body : ((enc g num kind b).drop 12).take b.length = b := by
  have : (enc g num kind b).drop 12 = b ++ (List.replicate (112 - b.length) 0 ++ put4 g) := by
    show (b ++ List.replicate (112 - b.length) 0) ++ put4 g = _
    simp
  rw [this, List.take_left]
end
theorem getD_len {α : Type} {l : List α} {i : Nat} {d : α} (h : i < l.length) : l.getD i d = l[i] := by simp [h]
/-- what good answers -/
theorem m70_eq {s : List UInt8} (hs : s.length = 128) (num : Nat) (hn : num < 18446744073709551616) : ∃ r, m70_journal_good s (num : Int) = some r ∧
    (r = true → s = enc (getN (s.take 4)) num (s.getD 10 default) ((s.drop 12).take (s.getD 11 default).toNat) ∧ (s.getD 11 default).toNat ≤ 112) := by
  unfold m70_journal_good
  rw [ck_eq (by rw [hs]; decide)]
  simp only [jn_eq]
  obtain ⟨n, hN⟩ : ∃ n, n = (s.getD 11 default).toNat := ⟨_, rfl⟩
  by_cases c1 : (112 : Int) < ((s.getD 11 default).toNat : Int)
  · rw [decide_eq_true c1]; exact ⟨false, rfl, by simp⟩
  have hle : (s.getD 11 default).toNat ≤ 112 := by omega
  rw [decide_eq_false c1, cond_false]
  have hw : IntKind.wrap .i64 (12 + ((s.getD 11 default).toNat : Int)) = ((12 + (s.getD 11 default).toNat : Nat) : Int) := by rw [wrap_i64 (by omega) (by omega)]; omega
  have hbl : ((s.drop 12).take (s.getD 11 default).toNat).length ≤ 112 := by rw [List.length_take]; omega
  have h4 : ((s.drop 0).take (4 - 0)).length ≤ 4 := by simp; omega
  have c10 : (0 : Int) ≤ 10 ∧ 10 < (s.length : Int) := by rw [hs]; decide
  have c4 : (0 : Int) ≤ (4 : Int) ∧ (4 : Int) ≤ (s.length : Int) := by rw [hs]; decide
  have c12 : (0 : Int) ≤ 12 ∧ (12 : Int) ≤ ((12 + (s.getD 11 default).toNat : Nat) : Int) ∧ ((12 + (s.getD 11 default).toNat : Nat) : Int) ≤ (s.length : Int) := by rw [hs]; omega
  have htk : (s.drop 0).take (4 - 0) = s.take 4 := rfl
  have hT : (ck ((0 : Int) ≤ (4 : Int) ∧ (4 : Int) ≤ (s.length : Int)) <|
      (m60_journal_get ((s.drop 0).take (4 - 0))).bind fun get_1 =>
      bif (decide (0 < get_1)) then
        ck ((0 : Int) ≤ 10 ∧ 10 < (s.length : Int)) <|
        ck ((0 : Int) ≤ 12 ∧ (12 : Int) ≤ (IntKind.wrap .i64 (12 + ((s.getD 11 default).toNat : Int))) ∧ (IntKind.wrap .i64 (12 + ((s.getD 11 default).toNat : Int))) ≤ (s.length : Int)) <|
        (m63_journal_encode get_1 num (s.getD 10 default) ((s.drop 12).take ((IntKind.wrap .i64 (12 + ((s.getD 11 default).toNat : Int))).toNat - 12))).bind fun encode_1 =>
        (m62_bytes_Equal s encode_1).bind fun equal_1 =>
        some equal_1
      else
        some false) = some (decide (0 < getN (s.take 4)) && decide (s = enc (getN (s.take 4)) num (s.getD 10 default) ((s.drop 12).take (s.getD 11 default).toNat))) := by
    rw [ck_eq c4, (m60_eq _ h4).1, Option.bind_some, htk]
    by_cases c0 : 0 < getN (s.take 4)
    · rw [decide_eq_true (show (0 : Int) < (getN (s.take 4) : Int) by omega), decide_eq_true c0, cond_true, ck_eq c10, hw, ck_eq c12]
      rw [show ((12 + (s.getD 11 default).toNat : Nat) : Int).toNat - 12 = (s.getD 11 default).toNat by omega, m63_eq hn hbl]; rfl
    · rw [decide_eq_false (show ¬ (0 : Int) < (getN (s.take 4) : Int) by omega), decide_eq_false c0]; rfl
  rw [hT]
  simp only [ck_eq c10]
  have fin : ∀ v : Bool, ∃ r, (bif v then some false else some (decide (0 < getN (s.take 4)) && decide (s = enc (getN (s.take 4)) num (s.getD 10 default) ((s.drop 12).take (s.getD 11 default).toNat)))) = some r ∧
      (r = true → s = enc (getN (s.take 4)) num (s.getD 10 default) ((s.drop 12).take (s.getD 11 default).toNat) ∧ (s.getD 11 default).toNat ≤ 112) := by
    intro v
    cases v
    · exact ⟨_, rfl, fun h => by simp only [Bool.and_eq_true, decide_eq_true_eq] at h; exact ⟨h.2, hle⟩⟩
    · exact ⟨false, rfl, by simp⟩
  cases decide (3 < ((s.getD 10 default).toNat : Int))
  · rw [cond_false]
    cases decide (((UInt8.ofNat (Go.bits .and .u8 ((s.getD 10 default).toNat : Int) 2).toNat).toNat : Int) = 0)
    · rw [cond_false]
      cases decide (((UInt8.ofNat (Go.bits .and .u8 ((s.getD 10 default).toNat : Int) 1).toNat).toNat : Int) = 0)
      · exact fin false
      · exact fin _
    · rw [cond_true]
      cases decide (((s.getD 11 default).toNat : Int) < 112)
      · rw [cond_false]
        cases decide (((UInt8.ofNat (Go.bits .and .u8 ((s.getD 10 default).toNat : Int) 1).toNat).toNat : Int) = 0)
        · exact fin false
        · exact fin _
      · exact fin true
  · exact fin true
/-- a sector's kind: whether a record begins, whether one ends -/
def kd : Bool → Bool → UInt8
  | true, true => 3
  | true, false => 1
  | false, true => 2
  | false, false => 0
theorem m70_enc {g num : Nat} {f l : Bool} {b : List UInt8} (hg : 0 < g) (hg' : g < 4294967296) (hn : num < 18446744073709551616) (hb : b.length ≤ 112) (hl : l = false → b.length = 112) (hf : f = false → 0 < b.length) :
    m70_journal_good (enc g num (kd f l) b) (num : Int) = some true := by
  obtain ⟨s, hS⟩ : ∃ s, s = enc g num (kd f l) b := ⟨_, rfl⟩
  have hs : s.length = 128 := by rw [hS]; exact enc_len hb
  have h11 : (s.getD 11 default).toNat = b.length := by rw [hS]; exact enc_11 hb
  have h10 : s.getD 10 default = kd f l := by rw [hS]; rfl
  have ht : s.take 4 = put4 g := by rw [hS]; rfl
  have hbd : (s.drop 12).take b.length = b := by rw [hS]; exact enc_body
  rw [← hS]
  unfold m70_journal_good
  rw [ck_eq (by rw [hs]; decide)]
  simp only [jn_eq]
  have hw : IntKind.wrap .i64 (12 + (b.length : Int)) = ((12 + b.length : Nat) : Int) := by rw [wrap_i64 (by omega) (by omega)]; omega
  have c10 : (0 : Int) ≤ 10 ∧ 10 < (s.length : Int) := by rw [hs]; decide
  have c4 : (0 : Int) ≤ (4 : Int) ∧ (4 : Int) ≤ (s.length : Int) := by rw [hs]; decide
  have c12 : (0 : Int) ≤ 12 ∧ (12 : Int) ≤ ((12 + b.length : Nat) : Int) ∧ ((12 + b.length : Nat) : Int) ≤ (s.length : Int) := by rw [hs]; omega
  have htk : (s.drop 0).take (4 - 0) = put4 g := ht
  have hT : (ck ((0 : Int) ≤ (4 : Int) ∧ (4 : Int) ≤ (s.length : Int)) <|
      (m60_journal_get ((s.drop 0).take (4 - 0))).bind fun get_1 =>
      bif (decide (0 < get_1)) then
        ck ((0 : Int) ≤ 10 ∧ 10 < (s.length : Int)) <|
        ck ((0 : Int) ≤ 12 ∧ (12 : Int) ≤ (IntKind.wrap .i64 (12 + ((s.getD 11 default).toNat : Int))) ∧ (IntKind.wrap .i64 (12 + ((s.getD 11 default).toNat : Int))) ≤ (s.length : Int)) <|
        (m63_journal_encode get_1 num (s.getD 10 default) ((s.drop 12).take ((IntKind.wrap .i64 (12 + ((s.getD 11 default).toNat : Int))).toNat - 12))).bind fun encode_1 =>
        (m62_bytes_Equal s encode_1).bind fun equal_1 =>
        some equal_1
      else
        some false) = some true := by
    rw [ck_eq c4, htk, (m60_eq (put4 g) (Nat.le_refl 4)).1, Option.bind_some, get_put hg', decide_eq_true (show (0 : Int) < (g : Int) by omega), cond_true, ck_eq c10, h11, hw, ck_eq c12]
    rw [show ((12 + b.length : Nat) : Int).toNat - 12 = b.length by omega, h10, hbd, m63_eq hn hb, ← hS, Option.bind_some]
    unfold m62_bytes_Equal
    rw [decide_eq_true rfl]; rfl
  rw [hT]
  simp only [ck_eq c10]
  rw [h11, h10, decide_eq_false (show ¬ (112 : Int) < (b.length : Int) by omega)]
  cases f <;> cases l
  · rw [show decide ((b.length : Int) < 112) = false from decide_eq_false (by have := hl rfl; omega), show decide ((b.length : Int) = 0) = false from decide_eq_false (by have := hf rfl; omega)]; rfl
  · rw [show decide ((b.length : Int) = 0) = false from decide_eq_false (by have := hf rfl; omega)]; rfl
  · rw [show decide ((b.length : Int) < 112) = false from decide_eq_false (by have := hl rfl; omega)]; rfl
  · rfl
theorem win_out {α : Type} {X : List α} {p l k : Nat} {v : α} (h : p < l ∨ l + k ≤ p) : ((X.set p v).drop l).take k = (X.drop l).take k := by
  apply List.ext_getElem?; intro i
  simp only [List.getElem?_take, List.getElem?_drop, List.getElem?_set]
  split
  · rw [if_neg (by omega)]
  · rfl
theorem win_in {α : Type} {X : List α} {p l k : Nat} {v : α} (h1 : l ≤ p) (h2 : p < l + k) (h3 : l + k ≤ X.length) : ((X.set p v).drop l).take k = ((X.drop l).take k).set (p - l) v := by
  apply List.ext_getElem?; intro i
  simp only [List.getElem?_take, List.getElem?_drop, List.getElem?_set, List.length_take, List.length_drop]
  by_cases e : i = p - l
  · subst e
    rw [if_pos (by omega), if_pos (by omega), if_pos rfl, if_pos (by omega), if_pos (by omega)]
  · rw [if_neg (show ¬ p = l + i by omega), if_neg (show ¬ p - l = i by omega)]
theorem set_back {α : Type} {W : List α} {q : Nat} {v : α} (h : W = W.set q v) (hq : q < W.length) : W[q]? = some v := by
  rw [h]; simp [hq]
/-- one byte that is another one makes a sector bad -/
theorem enc_damage {g g' num p : Nat} {kind kind' v : UInt8} {b b' : List UInt8} (hb : b.length ≤ 112) (hb' : b'.length ≤ 112) (hp : p < 128) (h : (enc g num kind b).set p v = enc g' num kind' b') : (enc g num kind b)[p]? = some v := by
  obtain ⟨X, hX⟩ : ∃ X, X = enc g num kind b := ⟨_, rfl⟩
  obtain ⟨Y, hY⟩ : ∃ Y, Y = enc g' num kind' b' := ⟨_, rfl⟩
  have lX : X.length = 128 := by rw [hX]; exact enc_len hb
  have x1 : (X.drop 0).take 4 = put4 g := by rw [hX]; rfl
  have x2 : (X.drop 4).take 4 = put4 (sumN (mid num kind b)) := by rw [hX]; rfl
  have x3 : (X.drop 8).take 116 = mid num kind b := by rw [hX]; exact enc_mid hb
  have x4 : (X.drop 124).take 4 = put4 g := by rw [hX, enc_drop124 hb]; rfl
  have y1 : (Y.drop 0).take 4 = put4 g' := by rw [hY]; rfl
  have y2 : (Y.drop 4).take 4 = put4 (sumN (mid num kind' b')) := by rw [hY]; rfl
  have y3 : (Y.drop 8).take 116 = mid num kind' b' := by rw [hY]; exact enc_mid hb'
  have y4 : (Y.drop 124).take 4 = put4 g' := by rw [hY, enc_drop124 hb']; rfl
  rw [← hX, ← hY] at h
  rw [← hX]
  rw [← h] at y1 y2 y3 y4
  have back : ∀ l k, l ≤ p → p < l + k → l + k ≤ 128 → (X.drop l).take k = ((X.drop l).take k).set (p - l) v → X[p]? = some v := by
    intro l k h1 h2 h3 h4
    have := set_back h4 (by simp; omega)
    rw [List.getElem?_take, List.getElem?_drop, if_pos (by omega)] at this
    rwa [show l + (p - l) = p by omega] at this
  by_cases c1 : p < 4
  · rw [win_out (by omega)] at y4
    rw [win_in (by omega) (by omega) (by omega), ← y4, x4, ← x1] at y1
    exact back 0 4 (by omega) (by omega) (by omega) y1.symm
  by_cases c2 : p < 8
  · rw [win_out (by omega), x3] at y3
    rw [win_in (by omega) (by omega) (by omega), ← y3, ← x2] at y2
    exact back 4 4 (by omega) (by omega) (by omega) y2.symm
  by_cases c3 : p < 124
  · rw [win_out (by omega), x2] at y2
    rw [win_in (by omega) (by omega) (by omega), x3] at y3
    have e := put4_inj (sumN_lt _) (sumN_lt _) y2
    rw [← y3] at e
    have hq : p - 8 < (mid num kind b).length := by rw [mid_len hb]; omega
    have := sumN_set hq e.symm
    rw [this]
    have hh : (mid num kind b)[p - 8]? = X[p]? := by rw [← x3, List.getElem?_take, List.getElem?_drop, if_pos (by omega), show 8 + (p - 8) = p by omega]
    rw [← hh]; exact List.getElem?_eq_getElem hq
  · rw [win_out (by omega)] at y1
    rw [win_in (by omega) (by omega) (by omega), ← y1, x1, ← x4] at y4
    exact back 124 4 (by omega) (by omega) (by omega) y4.symm
theorem bad_damage {g num p : Nat} {kind v : UInt8} {b : List UInt8} (hn : num < 18446744073709551616) (hb : b.length ≤ 112) (hp : p < 128) (hv : (enc g num kind b)[p]? ≠ some v) : m70_journal_good ((enc g num kind b).set p v) (num : Int) = some false := by
  obtain ⟨r, h1, h2⟩ := m70_eq (s := (enc g num kind b).set p v) (by simp [enc_len hb]) num hn
  cases r
  · exact h1
  · obtain ⟨h3, h4⟩ := h2 rfl
    exact absurd (enc_damage hb (by rw [List.length_take]; omega) hp h3) hv
/-- a sector of zeros is bad -/
theorem bad_zero (num : Nat) : m70_journal_good (List.replicate 128 0) (num : Int) = some false := by
  have : m70_journal_good (List.replicate 128 0) (num : Int) = some false := by kernel_rfl
  exact this
end Go.Fx



set_option linter.unusedVariables false
set_option linter.unusedSimpArgs false
set_option maxRecDepth 100000
set_option maxHeartbeats 0
namespace Go.Fx
open Go Go.RowKit Go.Proofs
end Go.Fx



/- JournalRoom, where what comes in is small. -/
set_option linter.unusedSimpArgs false
set_option linter.unusedVariables false
namespace Go.Fx
open Go Go.RowKit
/-- sectors of n bytes -/
def secN (n : Nat) : Nat := max 1 ((n + 111) / 112)
def usedN (l : List (List UInt8)) : Nat := (l.map fun b => secN b.length).sum
theorem usedN_app (l : List (List UInt8)) (b : List UInt8) : usedN (l ++ [b]) = usedN l + secN b.length := by simp [usedN]
theorem ones (b : List UInt8) : (b.map fun _ => 1).sum = b.length := by induction b <;> simp_all <;> omega
end Go.Fx


