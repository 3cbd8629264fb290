/- Part 4 of the proof: the law JournalSurvives holds for every number of sectors and every script of crashes. -/
import Derived.Test.YtegomkljijgjjaaSurv3
set_option linter.unusedVariables false
set_option linter.unusedSimpArgs false
set_option maxRecDepth 100000
set_option maxHeartbeats 0
namespace Go.Fx
open Go Go.RowKit Go.Proofs
def m39_journal_Sync_B2 (generation_1 : Int) (v_4 : Int) (sf295 : Int → Int → (List (List UInt8)) → (List XWrite) → Int → Bool → Option (XJournal × XDisk × Int)) (sf329 : Int → (List UInt8) → UInt8 → Int → (List (List UInt8)) → (List XWrite) → Int → Bool → Option (XJournal × XDisk × Int)) (at_2 : Int) (b_1 : List UInt8) (kind_1 : UInt8) (n_1 : Int) (v_9 : List (List UInt8)) (v_10 : List XWrite) (v_11 : Int) (v_12 : Bool) : Option (XJournal × XDisk × Int) :=
 bif (decide (0 < n_1)) then
  bif (decide (n_1 = 1)) then
   ck ((0 : Int) ≤ (min (b_1.length : Int) 112) ∧ (min (b_1.length : Int) 112) ≤ (b_1.length : Int)) <|
   (m63_journal_encode generation_1 at_2 (UInt8.ofNat (Go.bits .or .u8 (kind_1.toNat : Int) 2).toNat) ((b_1.drop 0).take ((min (b_1.length : Int) 112).toNat - 0))).bind fun encode_1 =>
   (m23_disk_Write (⟨v_9, v_10, v_11, v_12⟩ : XDisk) at_2 encode_1).bind fun write_1 =>
   bif (decide (write_1.2 ≠ 0)) then
    some ((⟨([] : List (List UInt8)), 0, 0⟩ : XJournal), (⟨([] : List (List UInt8)), ([] : List XWrite), 0, false⟩ : XDisk), write_1.2)
   else
    ck ((0 : Int) ≤ (min (b_1.length : Int) 112) ∧ (min (b_1.length : Int) 112) ≤ (b_1.length : Int)) <|
    sf329 (IntKind.wrap .i64 (at_2 + 1)) ((b_1.drop (min (b_1.length : Int) 112).toNat).take (b_1.length - (min (b_1.length : Int) 112).toNat)) 0 (IntKind.wrap .i64 (n_1 - 1)) write_1.1.sectors write_1.1.pending write_1.1.left write_1.1.stopped
  else
   ck ((0 : Int) ≤ (min (b_1.length : Int) 112) ∧ (min (b_1.length : Int) 112) ≤ (b_1.length : Int)) <|
   (m63_journal_encode generation_1 at_2 kind_1 ((b_1.drop 0).take ((min (b_1.length : Int) 112).toNat - 0))).bind fun encode_2 =>
   (m23_disk_Write (⟨v_9, v_10, v_11, v_12⟩ : XDisk) at_2 encode_2).bind fun write_2 =>
   bif (decide (write_2.2 ≠ 0)) then
    some ((⟨([] : List (List UInt8)), 0, 0⟩ : XJournal), (⟨([] : List (List UInt8)), ([] : List XWrite), 0, false⟩ : XDisk), write_2.2)
   else
    ck ((0 : Int) ≤ (min (b_1.length : Int) 112) ∧ (min (b_1.length : Int) 112) ≤ (b_1.length : Int)) <|
    sf329 (IntKind.wrap .i64 (at_2 + 1)) ((b_1.drop (min (b_1.length : Int) 112).toNat).take (b_1.length - (min (b_1.length : Int) 112).toNat)) 0 (IntKind.wrap .i64 (n_1 - 1)) write_2.1.sectors write_2.1.pending write_2.1.left write_2.1.stopped
 else
  sf295 at_2 (IntKind.wrap .i64 (v_4 + 1)) v_9 v_10 v_11 v_12

def m39_journal_Sync_B1 (l : XJournal) (generation_1 : Int) (sf295 : Int → Int → (List (List UInt8)) → (List XWrite) → Int → Bool → Option (XJournal × XDisk × Int)) (at_1 : Int) (v_4 : Int) (v_5 : List (List UInt8)) (v_6 : List XWrite) (v_7 : Int) (v_8 : Bool) : Option (XJournal × XDisk × Int) :=
 bif (decide (v_4 < (((l.records.drop l.synced.toNat).take (l.records.length - l.synced.toNat)).length : Int))) then
  ck ((0 : Int) ≤ v_4 ∧ v_4 < (((l.records.drop l.synced.toNat).take (l.records.length - l.synced.toNat)).length : Int)) <|
  (m54_journal_sectors (((l.records.drop l.synced.toNat).take (l.records.length - l.synced.toNat)).getD v_4.toNat default)).bind fun sectors_1 =>
  loop8 (m39_journal_Sync_B2 generation_1 v_4 sf295) (1000000) at_1 (((l.records.drop l.synced.toNat).take (l.records.length - l.synced.toNat)).getD v_4.toNat default) 1 sectors_1 v_5 v_6 v_7 v_8
 else
  (m25_disk_Sync (⟨v_5, v_6, v_7, v_8⟩ : XDisk)).bind fun sync_1 =>
  bif (decide (sync_1.2 ≠ 0)) then
   some ((⟨([] : List (List UInt8)), 0, 0⟩ : XJournal), sync_1.1, sync_1.2)
  else
   some ((⟨l.records, l.many, (l.records.length : Int)⟩ : XJournal), sync_1.1, 0)

def m39_journal_Sync_B0 (l : XJournal) (d : XDisk) (open_1 : XJournal × Int) (sf108 : Int → Int → Option (XJournal × XDisk × Int)) (generation_1 : Int) (v_2 : Int) : Option (XJournal × XDisk × Int) :=
 bif (decide (v_2 < (d.sectors.length : Int))) then
  ck ((0 : Int) ≤ v_2 ∧ v_2 < (d.sectors.length : Int)) <|
  ck ((0 : Int) ≤ (4 : Int) ∧ (4 : Int) ≤ ((d.sectors.getD v_2.toNat default).length : Int)) <|
  (m60_journal_get (((d.sectors.getD v_2.toNat default).drop 0).take (4 - 0))).bind fun get_1 =>
  ck ((0 : Int) ≤ 124 ∧ (124 : Int) ≤ ((d.sectors.getD v_2.toNat default).length : Int)) <|
  (m60_journal_get (((d.sectors.getD v_2.toNat default).drop 124).take ((d.sectors.getD v_2.toNat default).length - 124))).bind fun get_2 =>
  sf108 (max (max generation_1 (IntKind.wrap .u64 (get_1 + 1))) (IntKind.wrap .u64 (get_2 + 1))) (IntKind.wrap .i64 (v_2 + 1))
 else
  jn (fun (v_3 : Bool) =>
   bif v_3 then
    some ((⟨([] : List (List UInt8)), 0, 0⟩ : XJournal), (⟨([] : List (List UInt8)), ([] : List XWrite), 0, false⟩ : XDisk), 450)
   else
    bif (decide (l.synced = (l.records.length : Int))) then
     some (l, d, 0)
    else
     ck ((0 : Int) ≤ l.synced ∧ l.synced ≤ (l.records.length : Int)) <|
     (m55_journal_used ((l.records.drop 0).take (l.synced.toNat - 0))).bind fun used_1 =>
     ck ((0 : Int) ≤ l.synced ∧ l.synced ≤ (l.records.length : Int)) <|
     loop6 (m39_journal_Sync_B1 l generation_1) (((((l.records.drop l.synced.toNat).take (l.records.length - l.synced.toNat)).length : Int) - 0).toNat + 1) used_1 0 d.sectors d.pending d.left d.stopped)
  (fun k208 =>
   ck ((0 : Int) ≤ l.synced ∧ l.synced ≤ (l.records.length : Int)) <|
   (m61_slices_EqualFuncbyte_byte_byte_byte_ open_1.1.records ((l.records.drop 0).take (l.synced.toNat - 0)) (fun x789 x790 => m62_bytes_Equal x789 x790)).bind fun equalfunc_1 =>
   bif (!equalfunc_1) then
    k208 true
   else
    k208 (decide ((generation_1 / 2 ^ min 32 (IntKind.bits .u64)) ≠ 0)))

def m39_journal_Sync (l : XJournal) (d : XDisk) : Option (XJournal × XDisk × Int) :=
 (m32_journal_Check l).bind fun check_1 =>
 bif (decide (check_1 ≠ 0)) then
  some ((⟨([] : List (List UInt8)), 0, 0⟩ : XJournal), (⟨([] : List (List UInt8)), ([] : List XWrite), 0, false⟩ : XDisk), check_1)
 else
  (m18_disk_Check d).bind fun check_2 =>
  bif (decide (check_2 ≠ 0)) then
   some ((⟨([] : List (List UInt8)), 0, 0⟩ : XJournal), (⟨([] : List (List UInt8)), ([] : List XWrite), 0, false⟩ : XDisk), check_2)
  else
   jn (fun (v_1 : Bool) =>
    bif v_1 then
     some ((⟨([] : List (List UInt8)), 0, 0⟩ : XJournal), (⟨([] : List (List UInt8)), ([] : List XWrite), 0, false⟩ : XDisk), 1)
    else
     (m38_journal_Open d).bind fun open_1 =>
     bif (decide (open_1.2 ≠ 0)) then
      some ((⟨([] : List (List UInt8)), 0, 0⟩ : XJournal), (⟨([] : List (List UInt8)), ([] : List XWrite), 0, false⟩ : XDisk), open_1.2)
     else
      loop2 (m39_journal_Sync_B0 l d open_1) (((d.sectors.length : Int) - 0).toNat + 1) 1 0)
   (fun k57 =>
    bif (decide (l.many ≠ (d.sectors.length : Int))) then
     k57 (!d.stopped)
    else
     k57 false)

theorem c39_journal_Sync {w : World} {O : List Nat} {l : XJournal} {d : XDisk} {a_l_records : Option Addr} {c_l_records : Nat} {a_d_sectors : Option Addr} {c_d_sectors : Nat} {a_d_pending : Option Addr} {c_d_pending : Nat} (hO : ∀ k ∈ O, k < w.heap.size) (f_l_records : SlR (rSl rU8) w O a_l_records c_l_records l.records) (r_l_many : InK .i64 l.many) (r_l_synced : InK .i64 l.synced) (f_d_sectors : SlR (rSl rU8) w O a_d_sectors c_d_sectors d.sectors) (f_d_pending : SlR rXWrite w O a_d_pending c_d_pending d.pending) (r_d_left : InK .i64 d.left) {x : XJournal × XDisk × Int} (hm : m39_journal_Sync l d = some x) :
  Ok Try.prog 39 [(Value.agg [(Value.slice a_l_records l.records.length c_l_records), (Value.int .i64 l.many), (Value.int .i64 l.synced)].toArray), (Value.agg [(Value.slice a_d_sectors d.sectors.length c_d_sectors), (Value.slice a_d_pending d.pending.length c_d_pending), (Value.int .i64 d.left), (Value.bool d.stopped)].toArray)] w O (vT3 (vA rXJournal) (vA rXDisk) (vI .i64)) x := by
 unfold m39_journal_Sync at hm
 refine Fn_of_Wp (n := 167) (xs := [.cell 4 52, .cell 5 25, .tmp 6]) Try.func39 rfl Try.ntmps39 Try.results39 rfl ?_
 have hs := St.start hO
 refine Wp_seq ?_
 refine Wp_region ?_
 refine Rg_op rfl (op_box (cs := [(Value.slice a_l_records l.records.length c_l_records), (Value.int .i64 l.many), (Value.int .i64 l.synced)]) hs rfl rfl ?_)
 intro b1 w2 _ p3 hs4
 replace f_l_records := f_l_records.step p3; replace f_d_sectors := f_d_sectors.step p3; replace f_d_pending := f_d_pending.step p3; clear p3
 refine Rg_op rfl (op_box (cs := [(Value.slice a_d_sectors d.sectors.length c_d_sectors), (Value.slice a_d_pending d.pending.length c_d_pending), (Value.int .i64 d.left), (Value.bool d.stopped)]) hs4 rfl rfl ?_)
 intro b6 w7 _ p8 hs9
 replace f_l_records := f_l_records.step p8; replace f_d_sectors := f_d_sectors.step p8; replace f_d_pending := f_d_pending.step p8; clear p8 hs4
 refine Rg_op rfl (op_alloc ty52 hs9 ?_)
 intro b11 w12 _ p13 hs14
 replace f_l_records := f_l_records.step p13; replace f_d_sectors := f_d_sectors.step p13; replace f_d_pending := f_d_pending.step p13; clear p13 hs9
 refine Rg_op rfl (op_alloc ty25 hs14 ?_)
 intro b16 w17 _ p18 hs19
 replace f_l_records := f_l_records.step p18; replace f_d_sectors := f_d_sectors.step p18; replace f_d_pending := f_d_pending.step p18; clear p18 hs14
 refine Rg_op rfl (op_assign (v := (Value.int .i64 0)) rfl ?_)
 refine Rg_nil ?_
 refine Wp_seq ?_
 refine Wp_seq ?_
 refine Wp_region ?_
 refine Rg_op rfl (op_loadA (cs := [(Value.slice a_l_records l.records.length c_l_records), (Value.int .i64 l.many), (Value.int .i64 l.synced)]) (vs := [(Value.slice a_l_records l.records.length c_l_records), (Value.int .i64 l.many), (Value.int .i64 l.synced)]) (i := 3) ty52 hs19 rfl rfl rfl rfl ?_)
 replace hm := bd hm; obtain ⟨check_1, hv21, hm⟩ := hm
 refine Rg_op rfl (op_call Try.call32 (c32_journal_Check (l := l) hs19.ltw f_l_records r_l_many r_l_synced hv21) rfl ?_)
 rintro v22 w23 ⟨hx24, h25⟩
 have hs26 := hs19.call hx24
 have p27 := Step.ext (O := ks [(some b16, Obj.cells [(Value.slice none 0 0), (Value.slice none 0 0), (Value.int .i64 0), (Value.bool false)].toArray 25), (some b11, Obj.cells [(Value.slice none 0 0), (Value.int .i64 0), (Value.int .i64 0)].toArray 52), (some b6, Obj.cells [(Value.slice a_d_sectors d.sectors.length c_d_sectors), (Value.slice a_d_pending d.pending.length c_d_pending), (Value.int .i64 d.left), (Value.bool d.stopped)].toArray 25), (some b1, Obj.cells [(Value.slice a_l_records l.records.length c_l_records), (Value.int .i64 l.many), (Value.int .i64 l.synced)].toArray 52)] O) hx24
 clear hx24
 replace f_l_records := f_l_records.step p27; replace f_d_sectors := f_d_sectors.step p27; replace f_d_pending := f_d_pending.step p27; clear p27 hs19
 obtain ⟨rfl, r_y28⟩ := h25
 refine Rg_op rfl (op_assign (v := (Value.int .i64 check_1)) rfl ?_)
 refine Rg_nil ?_
 refine Wp_seq ?_
 refine Wp_region ?_
 refine Rg_op rfl (op_move (v := (Value.int .i64 check_1)) rfl ?_)
 refine Rg_op rfl (op_neq rfl rfl ?_)
 refine Rg_nil ?_
 refine Wp_cond rfl (fun hc29 => ?_) (fun hc29 => ?_)
 ·
  replace hm := bif_t hm hc29
  refine Wp_seq ?_
  obtain ⟨hs30, p31⟩ := hs26.sub (bs' := [(some b16, Obj.cells [(Value.slice none 0 0), (Value.slice none 0 0), (Value.int .i64 0), (Value.bool false)].toArray 25), (some b11, Obj.cells [(Value.slice none 0 0), (Value.int .i64 0), (Value.int .i64 0)].toArray 52)]) (.cons_cons _ (.cons_cons _ (.cons _ (.cons _ List.Sublist.slnil))))
  clear f_l_records f_d_sectors f_d_pending
  clear p31 hs26
  refine Wp_region ?_
  refine Rg_op rfl (op_build (vs := [(Value.slice none 0 0), (Value.int .i64 0), (Value.int .i64 0)]) (parts := []) ty52 pl52 rfl ?_)
  refine Rg_op rfl (op_build (vs := [(Value.slice none 0 0), (Value.slice none 0 0), (Value.int .i64 0), (Value.bool false)]) (parts := []) ty25 pl25 rfl ?_)
  refine Rg_op rfl (op_move (v := (Value.int .i64 check_1)) rfl ?_)
  refine Rg_op_ (op_store (cs := [(Value.slice none 0 0), (Value.int .i64 0), (Value.int .i64 0)]) (vs := [(Value.slice none 0 0), (Value.int .i64 0), (Value.int .i64 0)]) (cs' := [(Value.slice none 0 0), (Value.int .i64 0), (Value.int .i64 0)]) (bs' := [(some b16, Obj.cells [(Value.slice none 0 0), (Value.slice none 0 0), (Value.int .i64 0), (Value.bool false)].toArray 25), (some b11, Obj.cells [(Value.slice none 0 0), (Value.int .i64 0), (Value.int .i64 0)].toArray 52)]) (i := 1) ty52 hs30 rfl rfl rfl rfl rfl (le_lit rfl) rfl rfl rfl ?_)
  intro w32 p33 hs34
  clear p33 hs30
  refine Rg_op_ (op_store (cs := [(Value.slice none 0 0), (Value.slice none 0 0), (Value.int .i64 0), (Value.bool false)]) (vs := [(Value.slice none 0 0), (Value.slice none 0 0), (Value.int .i64 0), (Value.bool false)]) (cs' := [(Value.slice none 0 0), (Value.slice none 0 0), (Value.int .i64 0), (Value.bool false)]) (bs' := [(some b16, Obj.cells [(Value.slice none 0 0), (Value.slice none 0 0), (Value.int .i64 0), (Value.bool false)].toArray 25), (some b11, Obj.cells [(Value.slice none 0 0), (Value.int .i64 0), (Value.int .i64 0)].toArray 52)]) (i := 0) ty25 hs34 rfl rfl rfl rfl rfl (le_lit rfl) rfl rfl rfl ?_)
  intro w35 p36 hs37
  clear p36 hs34
  refine Rg_op rfl (op_assign (v := (Value.int .i64 check_1)) rfl ?_)
  refine Rg_nil ?_
  refine Wp_ret ?_
  have hz := step_all hs37
  refine ⟨_, (show Closes [] _ _ from rfl), [(Value.agg [(Value.slice none 0 0), (Value.int .i64 0), (Value.int .i64 0)].toArray), (Value.agg [(Value.slice none 0 0), (Value.slice none 0 0), (Value.int .i64 0), (Value.bool false)].toArray), (Value.int .i64 check_1)], ⟨resA (cs := [(Value.slice none 0 0), (Value.int .i64 0), (Value.int .i64 0)]) (vs := [(Value.slice none 0 0), (Value.int .i64 0), (Value.int .i64 0)]) ty52 (i := 1) hs37 rfl rfl rfl rfl, resA (cs := [(Value.slice none 0 0), (Value.slice none 0 0), (Value.int .i64 0), (Value.bool false)]) (vs := [(Value.slice none 0 0), (Value.slice none 0 0), (Value.int .i64 0), (Value.bool false)]) ty25 (i := 0) hs37 rfl rfl rfl rfl, rfl, trivial⟩, hs37.ext, ?_⟩
  exact Vr.eq (a := (vT3 (vA rXJournal) (vA rXDisk) (vI .i64))) (x := ((⟨([] : List (List UInt8)), 0, 0⟩ : XJournal), (⟨([] : List (List UInt8)), ([] : List XWrite), 0, false⟩ : XDisk), check_1)) (mkT3 (mkA (mkVia (mk_pair (mk_sl SlR.nil_) (mk_pair (mk_int (show InK .i64 0 from by decide)) (mk_int (show InK .i64 0 from by decide)))))) (mkA (mkVia (mk_pair (mk_sl SlR.nil_) (mk_pair (mk_sl SlR.nil_) (mk_pair (mk_int (show InK .i64 0 from by decide)) mkBool))))) ⟨rfl, r_y28⟩) (Option.some.inj hm)
 ·
  replace hm := bif_f hm hc29
  refine Wp_skip ?_
  refine Wp_seq ?_
  refine Wp_seq ?_
  refine Wp_region ?_
  refine Rg_op rfl (op_loadA (cs := [(Value.slice a_d_sectors d.sectors.length c_d_sectors), (Value.slice a_d_pending d.pending.length c_d_pending), (Value.int .i64 d.left), (Value.bool d.stopped)]) (vs := [(Value.slice a_d_sectors d.sectors.length c_d_sectors), (Value.slice a_d_pending d.pending.length c_d_pending), (Value.int .i64 d.left), (Value.bool d.stopped)]) (i := 2) ty25 hs26 rfl rfl rfl rfl ?_)
  replace hm := bd hm; obtain ⟨check_2, hv38, hm⟩ := hm
  refine Rg_op rfl (op_call Try.call18 (c18_disk_Check (d := d) hs26.ltw f_d_sectors f_d_pending r_d_left hv38) rfl ?_)
  rintro v39 w40 ⟨hx41, h42⟩
  have hs43 := hs26.call hx41
  have p44 := Step.ext (O := ks [(some b16, Obj.cells [(Value.slice none 0 0), (Value.slice none 0 0), (Value.int .i64 0), (Value.bool false)].toArray 25), (some b11, Obj.cells [(Value.slice none 0 0), (Value.int .i64 0), (Value.int .i64 0)].toArray 52), (some b6, Obj.cells [(Value.slice a_d_sectors d.sectors.length c_d_sectors), (Value.slice a_d_pending d.pending.length c_d_pending), (Value.int .i64 d.left), (Value.bool d.stopped)].toArray 25), (some b1, Obj.cells [(Value.slice a_l_records l.records.length c_l_records), (Value.int .i64 l.many), (Value.int .i64 l.synced)].toArray 52)] O) hx41
  clear hx41
  replace f_l_records := f_l_records.step p44; replace f_d_sectors := f_d_sectors.step p44; replace f_d_pending := f_d_pending.step p44; clear p44 hs26
  obtain ⟨rfl, r_y45⟩ := h42
  refine Rg_op rfl (op_assign (v := (Value.int .i64 check_2)) rfl ?_)
  refine Rg_nil ?_
  refine Wp_seq ?_
  refine Wp_region ?_
  refine Rg_op rfl (op_move (v := (Value.int .i64 check_2)) rfl ?_)
  refine Rg_op rfl (op_neq rfl rfl ?_)
  refine Rg_nil ?_
  refine Wp_cond rfl (fun hc46 => ?_) (fun hc46 => ?_)
  ·
   replace hm := bif_t hm hc46
   refine Wp_seq ?_
   obtain ⟨hs47, p48⟩ := hs43.sub (bs' := [(some b16, Obj.cells [(Value.slice none 0 0), (Value.slice none 0 0), (Value.int .i64 0), (Value.bool false)].toArray 25), (some b11, Obj.cells [(Value.slice none 0 0), (Value.int .i64 0), (Value.int .i64 0)].toArray 52)]) (.cons_cons _ (.cons_cons _ (.cons _ (.cons _ List.Sublist.slnil))))
   clear f_l_records f_d_sectors f_d_pending
   clear p48 hs43
   refine Wp_region ?_
   refine Rg_op rfl (op_build (vs := [(Value.slice none 0 0), (Value.int .i64 0), (Value.int .i64 0)]) (parts := []) ty52 pl52 rfl ?_)
   refine Rg_op rfl (op_build (vs := [(Value.slice none 0 0), (Value.slice none 0 0), (Value.int .i64 0), (Value.bool false)]) (parts := []) ty25 pl25 rfl ?_)
   refine Rg_op rfl (op_move (v := (Value.int .i64 check_2)) rfl ?_)
   refine Rg_op_ (op_store (cs := [(Value.slice none 0 0), (Value.int .i64 0), (Value.int .i64 0)]) (vs := [(Value.slice none 0 0), (Value.int .i64 0), (Value.int .i64 0)]) (cs' := [(Value.slice none 0 0), (Value.int .i64 0), (Value.int .i64 0)]) (bs' := [(some b16, Obj.cells [(Value.slice none 0 0), (Value.slice none 0 0), (Value.int .i64 0), (Value.bool false)].toArray 25), (some b11, Obj.cells [(Value.slice none 0 0), (Value.int .i64 0), (Value.int .i64 0)].toArray 52)]) (i := 1) ty52 hs47 rfl rfl rfl rfl rfl (le_lit rfl) rfl rfl rfl ?_)
   intro w49 p50 hs51
   clear p50 hs47
   refine Rg_op_ (op_store (cs := [(Value.slice none 0 0), (Value.slice none 0 0), (Value.int .i64 0), (Value.bool false)]) (vs := [(Value.slice none 0 0), (Value.slice none 0 0), (Value.int .i64 0), (Value.bool false)]) (cs' := [(Value.slice none 0 0), (Value.slice none 0 0), (Value.int .i64 0), (Value.bool false)]) (bs' := [(some b16, Obj.cells [(Value.slice none 0 0), (Value.slice none 0 0), (Value.int .i64 0), (Value.bool false)].toArray 25), (some b11, Obj.cells [(Value.slice none 0 0), (Value.int .i64 0), (Value.int .i64 0)].toArray 52)]) (i := 0) ty25 hs51 rfl rfl rfl rfl rfl (le_lit rfl) rfl rfl rfl ?_)
   intro w52 p53 hs54
   clear p53 hs51
   refine Rg_op rfl (op_assign (v := (Value.int .i64 check_2)) rfl ?_)
   refine Rg_nil ?_
   refine Wp_ret ?_
   have hz := step_all hs54
   refine ⟨_, (show Closes [] _ _ from rfl), [(Value.agg [(Value.slice none 0 0), (Value.int .i64 0), (Value.int .i64 0)].toArray), (Value.agg [(Value.slice none 0 0), (Value.slice none 0 0), (Value.int .i64 0), (Value.bool false)].toArray), (Value.int .i64 check_2)], ⟨resA (cs := [(Value.slice none 0 0), (Value.int .i64 0), (Value.int .i64 0)]) (vs := [(Value.slice none 0 0), (Value.int .i64 0), (Value.int .i64 0)]) ty52 (i := 1) hs54 rfl rfl rfl rfl, resA (cs := [(Value.slice none 0 0), (Value.slice none 0 0), (Value.int .i64 0), (Value.bool false)]) (vs := [(Value.slice none 0 0), (Value.slice none 0 0), (Value.int .i64 0), (Value.bool false)]) ty25 (i := 0) hs54 rfl rfl rfl rfl, rfl, trivial⟩, hs54.ext, ?_⟩
   exact Vr.eq (a := (vT3 (vA rXJournal) (vA rXDisk) (vI .i64))) (x := ((⟨([] : List (List UInt8)), 0, 0⟩ : XJournal), (⟨([] : List (List UInt8)), ([] : List XWrite), 0, false⟩ : XDisk), check_2)) (mkT3 (mkA (mkVia (mk_pair (mk_sl SlR.nil_) (mk_pair (mk_int (show InK .i64 0 from by decide)) (mk_int (show InK .i64 0 from by decide)))))) (mkA (mkVia (mk_pair (mk_sl SlR.nil_) (mk_pair (mk_sl SlR.nil_) (mk_pair (mk_int (show InK .i64 0 from by decide)) mkBool))))) ⟨rfl, r_y45⟩) (Option.some.inj hm)
  ·
   replace hm := bif_f hm hc46
   refine Wp_skip ?_
   refine Wp_seq ?_
   refine Wp_reset [] [(2, (Value.pointer (some ⟨b1, 0, none⟩))), (3, (Value.pointer (some ⟨b6, 0, none⟩))), (4, (Value.pointer (some ⟨b11, 0, none⟩))), (5, (Value.pointer (some ⟨b16, 0, none⟩)))] rfl ⟨rfl, rfl, rfl, rfl, trivial⟩ fun ξ55 => ?_
   replace hm := jn_elim hm; obtain ⟨k57, hk58, hm⟩ := hm
   refine Wp_seqJ [33, 34, 35, 36, 37, 38, 39, 40, 41, 42, 43] (fun fr w' => ∃ (v_1 : Bool) (Ebs : Ents), Ebs = [(some b16, Obj.cells [(Value.slice none 0 0), (Value.slice none 0 0), (Value.int .i64 0), (Value.bool false)].toArray 25), (some b11, Obj.cells [(Value.slice none 0 0), (Value.int .i64 0), (Value.int .i64 0)].toArray 52), (some b6, Obj.cells [(Value.slice a_d_sectors d.sectors.length c_d_sectors), (Value.slice a_d_pending d.pending.length c_d_pending), (Value.int .i64 d.left), (Value.bool d.stopped)].toArray 25), (some b1, Obj.cells [(Value.slice a_l_records l.records.length c_l_records), (Value.int .i64 l.many), (Value.int .i64 l.synced)].toArray 52)] ∧ fr [] [(43, (Value.bool v_1))] ∧ Step (ks [(some b16, Obj.cells [(Value.slice none 0 0), (Value.slice none 0 0), (Value.int .i64 0), (Value.bool false)].toArray 25), (some b11, Obj.cells [(Value.slice none 0 0), (Value.int .i64 0), (Value.int .i64 0)].toArray 52), (some b6, Obj.cells [(Value.slice a_d_sectors d.sectors.length c_d_sectors), (Value.slice a_d_pending d.pending.length c_d_pending), (Value.int .i64 d.left), (Value.bool d.stopped)].toArray 25), (some b1, Obj.cells [(Value.slice a_l_records l.records.length c_l_records), (Value.int .i64 l.many), (Value.int .i64 l.synced)].toArray 52)] O) w40 (ks Ebs O) w' ∧ St ⟨w, [], []⟩ O w' Ebs ∧ k57 v_1 = some x) ?_ ?_
   ·
    rintro ρ64 w60 ⟨v_1, Ebs, hEbs, hfr63, hst62, hs61, hm⟩
    replace hm := jnE1 hk58 hm
    subst hEbs; rw [hfr63.eq]; clear hfr63
    replace f_l_records := f_l_records.step hst62; replace f_d_sectors := f_d_sectors.step hst62; replace f_d_pending := f_d_pending.step hst62; clear hst62 hs43
    refine Wp_cond rfl (fun hc65 => ?_) (fun hc65 => ?_)
    ·
     replace hm := bif_t hm hc65
     refine Wp_seq ?_
     obtain ⟨hs66, p67⟩ := hs61.sub (bs' := [(some b16, Obj.cells [(Value.slice none 0 0), (Value.slice none 0 0), (Value.int .i64 0), (Value.bool false)].toArray 25), (some b11, Obj.cells [(Value.slice none 0 0), (Value.int .i64 0), (Value.int .i64 0)].toArray 52)]) (.cons_cons _ (.cons_cons _ (.cons _ (.cons _ List.Sublist.slnil))))
     clear f_l_records f_d_sectors f_d_pending
     clear p67 hs61
     refine Wp_region ?_
     refine Rg_op rfl (op_build (vs := [(Value.slice none 0 0), (Value.int .i64 0), (Value.int .i64 0)]) (parts := []) ty52 pl52 rfl ?_)
     refine Rg_op rfl (op_build (vs := [(Value.slice none 0 0), (Value.slice none 0 0), (Value.int .i64 0), (Value.bool false)]) (parts := []) ty25 pl25 rfl ?_)
     refine Rg_op_ (op_store (cs := [(Value.slice none 0 0), (Value.int .i64 0), (Value.int .i64 0)]) (vs := [(Value.slice none 0 0), (Value.int .i64 0), (Value.int .i64 0)]) (cs' := [(Value.slice none 0 0), (Value.int .i64 0), (Value.int .i64 0)]) (bs' := [(some b16, Obj.cells [(Value.slice none 0 0), (Value.slice none 0 0), (Value.int .i64 0), (Value.bool false)].toArray 25), (some b11, Obj.cells [(Value.slice none 0 0), (Value.int .i64 0), (Value.int .i64 0)].toArray 52)]) (i := 1) ty52 hs66 rfl rfl rfl rfl rfl (le_lit rfl) rfl rfl rfl ?_)
     intro w68 p69 hs70
     clear p69 hs66
     refine Rg_op_ (op_store (cs := [(Value.slice none 0 0), (Value.slice none 0 0), (Value.int .i64 0), (Value.bool false)]) (vs := [(Value.slice none 0 0), (Value.slice none 0 0), (Value.int .i64 0), (Value.bool false)]) (cs' := [(Value.slice none 0 0), (Value.slice none 0 0), (Value.int .i64 0), (Value.bool false)]) (bs' := [(some b16, Obj.cells [(Value.slice none 0 0), (Value.slice none 0 0), (Value.int .i64 0), (Value.bool false)].toArray 25), (some b11, Obj.cells [(Value.slice none 0 0), (Value.int .i64 0), (Value.int .i64 0)].toArray 52)]) (i := 0) ty25 hs70 rfl rfl rfl rfl rfl (le_lit rfl) rfl rfl rfl ?_)
     intro w71 p72 hs73
     clear p72 hs70
     refine Rg_op rfl (op_assign (v := (Value.int .i64 1)) rfl ?_)
     refine Rg_nil ?_
     refine Wp_ret ?_
     have hz := step_all hs73
     refine ⟨_, (show Closes [] _ _ from rfl), [(Value.agg [(Value.slice none 0 0), (Value.int .i64 0), (Value.int .i64 0)].toArray), (Value.agg [(Value.slice none 0 0), (Value.slice none 0 0), (Value.int .i64 0), (Value.bool false)].toArray), (Value.int .i64 1)], ⟨resA (cs := [(Value.slice none 0 0), (Value.int .i64 0), (Value.int .i64 0)]) (vs := [(Value.slice none 0 0), (Value.int .i64 0), (Value.int .i64 0)]) ty52 (i := 1) hs73 rfl rfl rfl rfl, resA (cs := [(Value.slice none 0 0), (Value.slice none 0 0), (Value.int .i64 0), (Value.bool false)]) (vs := [(Value.slice none 0 0), (Value.slice none 0 0), (Value.int .i64 0), (Value.bool false)]) ty25 (i := 0) hs73 rfl rfl rfl rfl, rfl, trivial⟩, hs73.ext, ?_⟩
     exact Vr.eq (a := (vT3 (vA rXJournal) (vA rXDisk) (vI .i64))) (x := ((⟨([] : List (List UInt8)), 0, 0⟩ : XJournal), (⟨([] : List (List UInt8)), ([] : List XWrite), 0, false⟩ : XDisk), 1)) (mkT3 (mkA (mkVia (mk_pair (mk_sl SlR.nil_) (mk_pair (mk_int (show InK .i64 0 from by decide)) (mk_int (show InK .i64 0 from by decide)))))) (mkA (mkVia (mk_pair (mk_sl SlR.nil_) (mk_pair (mk_sl SlR.nil_) (mk_pair (mk_int (show InK .i64 0 from by decide)) mkBool))))) ⟨rfl, (show InK .i64 1 from by decide)⟩) (Option.some.inj hm)
    ·
     replace hm := bif_f hm hc65
     refine Wp_skip ?_
     refine Wp_seq ?_
     refine Wp_region ?_
     refine Rg_op rfl (op_loadA (cs := [(Value.slice a_d_sectors d.sectors.length c_d_sectors), (Value.slice a_d_pending d.pending.length c_d_pending), (Value.int .i64 d.left), (Value.bool d.stopped)]) (vs := [(Value.slice a_d_sectors d.sectors.length c_d_sectors), (Value.slice a_d_pending d.pending.length c_d_pending), (Value.int .i64 d.left), (Value.bool d.stopped)]) (i := 2) ty25 hs61 rfl rfl rfl rfl ?_)
     replace hm := bd hm; obtain ⟨open_1, hv74, hm⟩ := hm
     refine Rg_op rfl (op_call Try.call38 (c38_journal_Open (d := d) hs61.ltw f_d_sectors f_d_pending r_d_left hv74) rfl ?_)
     rintro v75 w76 ⟨hx77, h78⟩
     have hs79 := hs61.call hx77
     have p80 := Step.ext (O := ks [(some b16, Obj.cells [(Value.slice none 0 0), (Value.slice none 0 0), (Value.int .i64 0), (Value.bool false)].toArray 25), (some b11, Obj.cells [(Value.slice none 0 0), (Value.int .i64 0), (Value.int .i64 0)].toArray 52), (some b6, Obj.cells [(Value.slice a_d_sectors d.sectors.length c_d_sectors), (Value.slice a_d_pending d.pending.length c_d_pending), (Value.int .i64 d.left), (Value.bool d.stopped)].toArray 25), (some b1, Obj.cells [(Value.slice a_l_records l.records.length c_l_records), (Value.int .i64 l.many), (Value.int .i64 l.synced)].toArray 52)] O) hx77
     clear hx77
     replace f_l_records := f_l_records.step p80; replace f_d_sectors := f_d_sectors.step p80; replace f_d_pending := f_d_pending.step p80; clear p80 hs61
     obtain ⟨v81, v82, rfl, h83, h84⟩ := h78
     obtain ⟨_, rfl, ⟨_, _, rfl, ⟨a_y85_records, c_y85_records, rfl, f_y85_records⟩, ⟨_, _, rfl, ⟨rfl, r_y85_many⟩, ⟨rfl, r_y85_synced⟩⟩⟩⟩ := h83
     obtain ⟨rfl, r_y86⟩ := h84
     refine Rg_op rfl (op_move (v := (Value.tuple [(Value.agg [(Value.slice a_y85_records open_1.1.records.length c_y85_records), (Value.int .i64 open_1.1.many), (Value.int .i64 open_1.1.synced)].toArray), (Value.int .i64 open_1.2)].toArray)) rfl ?_)
     refine Rg_op rfl (op_extract (v := (Value.agg [(Value.slice a_y85_records open_1.1.records.length c_y85_records), (Value.int .i64 open_1.1.many), (Value.int .i64 open_1.1.synced)].toArray)) rfl rfl ?_)
     refine Rg_op rfl (op_extract (v := (Value.int .i64 open_1.2)) rfl rfl ?_)
     refine Rg_op rfl (op_alloc ty52 hs79 ?_)
     intro b87 w88 _ p89 hs90
     replace f_l_records := f_l_records.step p89; replace f_d_sectors := f_d_sectors.step p89; replace f_d_pending := f_d_pending.step p89; replace f_y85_records := f_y85_records.step p89; clear p89 hs79
     refine Rg_op_ (op_store (cs := [(Value.slice none 0 0), (Value.int .i64 0), (Value.int .i64 0)]) (vs := [(Value.slice a_y85_records open_1.1.records.length c_y85_records), (Value.int .i64 open_1.1.many), (Value.int .i64 open_1.1.synced)]) (cs' := [(Value.slice a_y85_records open_1.1.records.length c_y85_records), (Value.int .i64 open_1.1.many), (Value.int .i64 open_1.1.synced)]) (bs' := [(some b87, Obj.cells [(Value.slice a_y85_records open_1.1.records.length c_y85_records), (Value.int .i64 open_1.1.many), (Value.int .i64 open_1.1.synced)].toArray 52), (some b16, Obj.cells [(Value.slice none 0 0), (Value.slice none 0 0), (Value.int .i64 0), (Value.bool false)].toArray 25), (some b11, Obj.cells [(Value.slice none 0 0), (Value.int .i64 0), (Value.int .i64 0)].toArray 52), (some b6, Obj.cells [(Value.slice a_d_sectors d.sectors.length c_d_sectors), (Value.slice a_d_pending d.pending.length c_d_pending), (Value.int .i64 d.left), (Value.bool d.stopped)].toArray 25), (some b1, Obj.cells [(Value.slice a_l_records l.records.length c_l_records), (Value.int .i64 l.many), (Value.int .i64 l.synced)].toArray 52)]) (i := 0) ty52 hs90 rfl rfl rfl rfl rfl (le_lit rfl) rfl rfl rfl ?_)
     intro w92 p93 hs94
     replace f_l_records := f_l_records.step p93; replace f_d_sectors := f_d_sectors.step p93; replace f_d_pending := f_d_pending.step p93; replace f_y85_records := f_y85_records.step p93; clear p93 hs90
     refine Rg_op rfl (op_assign (v := (Value.int .i64 open_1.2)) rfl ?_)
     refine Rg_nil ?_
     refine Wp_seq ?_
     refine Wp_seq ?_
     refine Wp_region ?_
     refine Rg_op rfl (op_move (v := (Value.int .i64 open_1.2)) rfl ?_)
     refine Rg_op rfl (op_neq rfl rfl ?_)
     refine Rg_nil ?_
     refine Wp_cond rfl (fun hc95 => ?_) (fun hc95 => ?_)
     ·
      replace hm := bif_t hm hc95
      refine Wp_seq ?_
      obtain ⟨hs96, p97⟩ := hs94.sub (bs' := [(some b16, Obj.cells [(Value.slice none 0 0), (Value.slice none 0 0), (Value.int .i64 0), (Value.bool false)].toArray 25), (some b11, Obj.cells [(Value.slice none 0 0), (Value.int .i64 0), (Value.int .i64 0)].toArray 52)]) (.cons _ (.cons_cons _ (.cons_cons _ (.cons _ (.cons _ List.Sublist.slnil)))))
      clear f_l_records f_d_sectors f_d_pending f_y85_records
      clear p97 hs94
      refine Wp_region ?_
      refine Rg_op rfl (op_build (vs := [(Value.slice none 0 0), (Value.int .i64 0), (Value.int .i64 0)]) (parts := []) ty52 pl52 rfl ?_)
      refine Rg_op rfl (op_build (vs := [(Value.slice none 0 0), (Value.slice none 0 0), (Value.int .i64 0), (Value.bool false)]) (parts := []) ty25 pl25 rfl ?_)
      refine Rg_op rfl (op_move (v := (Value.int .i64 open_1.2)) rfl ?_)
      refine Rg_op_ (op_store (cs := [(Value.slice none 0 0), (Value.int .i64 0), (Value.int .i64 0)]) (vs := [(Value.slice none 0 0), (Value.int .i64 0), (Value.int .i64 0)]) (cs' := [(Value.slice none 0 0), (Value.int .i64 0), (Value.int .i64 0)]) (bs' := [(some b16, Obj.cells [(Value.slice none 0 0), (Value.slice none 0 0), (Value.int .i64 0), (Value.bool false)].toArray 25), (some b11, Obj.cells [(Value.slice none 0 0), (Value.int .i64 0), (Value.int .i64 0)].toArray 52)]) (i := 1) ty52 hs96 rfl rfl rfl rfl rfl (le_lit rfl) rfl rfl rfl ?_)
      intro w98 p99 hs100
      clear p99 hs96
      refine Rg_op_ (op_store (cs := [(Value.slice none 0 0), (Value.slice none 0 0), (Value.int .i64 0), (Value.bool false)]) (vs := [(Value.slice none 0 0), (Value.slice none 0 0), (Value.int .i64 0), (Value.bool false)]) (cs' := [(Value.slice none 0 0), (Value.slice none 0 0), (Value.int .i64 0), (Value.bool false)]) (bs' := [(some b16, Obj.cells [(Value.slice none 0 0), (Value.slice none 0 0), (Value.int .i64 0), (Value.bool false)].toArray 25), (some b11, Obj.cells [(Value.slice none 0 0), (Value.int .i64 0), (Value.int .i64 0)].toArray 52)]) (i := 0) ty25 hs100 rfl rfl rfl rfl rfl (le_lit rfl) rfl rfl rfl ?_)
      intro w101 p102 hs103
      clear p102 hs100
      refine Rg_op rfl (op_assign (v := (Value.int .i64 open_1.2)) rfl ?_)
      refine Rg_nil ?_
      refine Wp_ret ?_
      have hz := step_all hs103
      refine ⟨_, (show Closes [] _ _ from rfl), [(Value.agg [(Value.slice none 0 0), (Value.int .i64 0), (Value.int .i64 0)].toArray), (Value.agg [(Value.slice none 0 0), (Value.slice none 0 0), (Value.int .i64 0), (Value.bool false)].toArray), (Value.int .i64 open_1.2)], ⟨resA (cs := [(Value.slice none 0 0), (Value.int .i64 0), (Value.int .i64 0)]) (vs := [(Value.slice none 0 0), (Value.int .i64 0), (Value.int .i64 0)]) ty52 (i := 1) hs103 rfl rfl rfl rfl, resA (cs := [(Value.slice none 0 0), (Value.slice none 0 0), (Value.int .i64 0), (Value.bool false)]) (vs := [(Value.slice none 0 0), (Value.slice none 0 0), (Value.int .i64 0), (Value.bool false)]) ty25 (i := 0) hs103 rfl rfl rfl rfl, rfl, trivial⟩, hs103.ext, ?_⟩
      exact Vr.eq (a := (vT3 (vA rXJournal) (vA rXDisk) (vI .i64))) (x := ((⟨([] : List (List UInt8)), 0, 0⟩ : XJournal), (⟨([] : List (List UInt8)), ([] : List XWrite), 0, false⟩ : XDisk), open_1.2)) (mkT3 (mkA (mkVia (mk_pair (mk_sl SlR.nil_) (mk_pair (mk_int (show InK .i64 0 from by decide)) (mk_int (show InK .i64 0 from by decide)))))) (mkA (mkVia (mk_pair (mk_sl SlR.nil_) (mk_pair (mk_sl SlR.nil_) (mk_pair (mk_int (show InK .i64 0 from by decide)) mkBool))))) ⟨rfl, r_y86⟩) (Option.some.inj hm)
     ·
      replace hm := bif_f hm hc95
      refine Wp_skip ?_
      refine Wp_seq ?_
      refine Wp_region ?_
      refine Rg_op rfl (op_assign (v := (Value.int .u64 1)) rfl ?_)
      refine Rg_nil ?_
      refine Wp_seq ?_
      refine Wp_seq ?_
      refine Wp_region ?_
      refine Rg_op rfl (op_fieldAddr ty25 rfl ty22 (by decide) rfl (rfl : _ = (⟨_, 0, none⟩ : Addr)) ?_)
      refine Rg_op rfl (op_load (cs := [(Value.slice a_d_sectors d.sectors.length c_d_sectors), (Value.slice a_d_pending d.pending.length c_d_pending), (Value.int .i64 d.left), (Value.bool d.stopped)]) (i := 3) ty22 hs94 rfl rfl rfl ?_)
      refine Rg_op rfl (op_len Try.underlying22 rfl ?_)
      have rl104 := inK_len f_d_sectors
      refine Rg_op rfl (op_move (v := (Value.int .i64 0)) rfl ?_)
      refine Rg_nil ?_
      refine Wp_block ?_
      refine Wp_reset [] [(2, (Value.pointer (some ⟨b1, 0, none⟩))), (3, (Value.pointer (some ⟨b6, 0, none⟩))), (4, (Value.pointer (some ⟨b11, 0, none⟩))), (5, (Value.pointer (some ⟨b16, 0, none⟩))), (9, (Value.pointer (some ⟨b87, 0, none⟩))), (10, (Value.int .u64 1)), (57, (Value.slice a_d_sectors d.sectors.length c_d_sectors)), (58, (Value.int .i64 (d.sectors.length : Int))), (59, (Value.int .i64 0))] rfl ⟨rfl, rfl, rfl, rfl, rfl, rfl, rfl, rfl, rfl, trivial⟩ fun ξ107 => ?_
      refine Wp_loopM [10, 12, 59, 60, 61, 62, 63, 64, 65, 66, 67, 68, 69, 70, 71, 72, 73] (fun m fr w' => ∃ (generation_1 : Int) (v_2 : Int) (Ebs : Ents), Ebs = [(some b87, Obj.cells [(Value.slice a_y85_records open_1.1.records.length c_y85_records), (Value.int .i64 open_1.1.many), (Value.int .i64 open_1.1.synced)].toArray 52), (some b16, Obj.cells [(Value.slice none 0 0), (Value.slice none 0 0), (Value.int .i64 0), (Value.bool false)].toArray 25), (some b11, Obj.cells [(Value.slice none 0 0), (Value.int .i64 0), (Value.int .i64 0)].toArray 52), (some b6, Obj.cells [(Value.slice a_d_sectors d.sectors.length c_d_sectors), (Value.slice a_d_pending d.pending.length c_d_pending), (Value.int .i64 d.left), (Value.bool d.stopped)].toArray 25), (some b1, Obj.cells [(Value.slice a_l_records l.records.length c_l_records), (Value.int .i64 l.many), (Value.int .i64 l.synced)].toArray 52)] ∧ fr [] [(10, (Value.int .u64 generation_1)), (59, (Value.int .i64 v_2))] ∧ Step (ks [(some b87, Obj.cells [(Value.slice a_y85_records open_1.1.records.length c_y85_records), (Value.int .i64 open_1.1.many), (Value.int .i64 open_1.1.synced)].toArray 52), (some b16, Obj.cells [(Value.slice none 0 0), (Value.slice none 0 0), (Value.int .i64 0), (Value.bool false)].toArray 25), (some b11, Obj.cells [(Value.slice none 0 0), (Value.int .i64 0), (Value.int .i64 0)].toArray 52), (some b6, Obj.cells [(Value.slice a_d_sectors d.sectors.length c_d_sectors), (Value.slice a_d_pending d.pending.length c_d_pending), (Value.int .i64 d.left), (Value.bool d.stopped)].toArray 25), (some b1, Obj.cells [(Value.slice a_l_records l.records.length c_l_records), (Value.int .i64 l.many), (Value.int .i64 l.synced)].toArray 52)] O) w92 (ks Ebs O) w' ∧ St ⟨w, [], []⟩ O w' Ebs ∧ InK .u64 generation_1 ∧ InK .i64 v_2 ∧ loop2 (m39_journal_Sync_B0 l d open_1) m generation_1 v_2 = some x) (((d.sectors.length : Int) - 0).toNat + 1) ⟨1, 0, _, rfl, ⟨Out.refl _ _, rfl, rfl, rfl, trivial⟩, Step.refl _ _, hs94, (show InK .u64 1 from by decide), (show InK .i64 0 from by decide), hm⟩ ?_ ?_
      · rintro _ _ ⟨_, _, _, _, _, _, _, _, _, hm⟩; exact loop2_z hm
      ·
       rintro m111 K110 hK110 ρ116 w112 ⟨generation_1, v_2, Ebs, hEbs, hfr115, hst114, hs113, r_y105, r_y106, hm⟩
       obtain ⟨sf108, hsf109, hm⟩ := loop2_s hm; unfold m39_journal_Sync_B0 at hm
       subst hEbs; rw [hfr115.eq]; clear hfr115
       replace f_l_records := f_l_records.step hst114; replace f_d_sectors := f_d_sectors.step hst114; replace f_d_pending := f_d_pending.step hst114; replace f_y85_records := f_y85_records.step hst114
       have ch117 := hst114
       refine Wp_seq ?_
       refine Wp_region ?_
       refine Rg_op rfl (op_lss rfl rfl ?_)
       refine Rg_nil ?_
       refine Wp_seq ?_
       refine Wp_cond rfl (fun hc118 => ?_) (fun hc118 => ?_)
       ·
        replace hm := bif_t hm hc118
        refine Wp_skip ?_
        refine Wp_seq ?_
        refine Wp_block ?_
        refine Wp_seq ?_
        refine Wp_region ?_
        replace hm := ck_some hm; obtain ⟨hc119, hm⟩ := hm
        refine Rg_op rfl (op_indexAddr (q := (rSl rU8)) ty22 ty41 rfl rfl f_d_sectors rfl hc119.1 hc119.2 ?_)
        intro p120 f121
        refine Rg_op rfl (op_loadP ty41 rfl f121 rfl ?_)
        intro v122 h123
        obtain ⟨a_y124, c_y124, rfl, f_y124⟩ := un_sl h123
        refine Rg_op rfl (op_assign (v := (Value.slice a_y124 (d.sectors.getD v_2.toNat default).length c_y124)) rfl ?_)
        refine Rg_nil ?_
        clear f121
        refine Wp_drawR (g0 := []) (m := 9) (fl := []) (TS_inv hs113) rfl (.inl rfl) rfl (by decide +kernel) ?_  -- 16
        refine Dw_eq (Value.int .u64 generation_1) (fun ρ125 w126 g hle hi ht => ?_) ?_
        ·
         obtain ⟨-, hst, -⟩ := hle
         refine StepOp_plain (op_move (v := (Value.int .u64 generation_1)) (ht 10 rfl) ?_)
         exact Goes.same hi rfl
        refine Dw_eq (Value.slice a_y124 (d.sectors.getD v_2.toNat default).length c_y124) (fun ρ128 w129 g hle hi ht => ?_) ?_
        ·
         obtain ⟨-, hst, -⟩ := hle
         refine StepOp_plain (op_move (v := (Value.slice a_y124 (d.sectors.getD v_2.toNat default).length c_y124)) (ht 12 rfl) ?_)
         exact Goes.same hi rfl
        replace hm := ck_some hm; obtain ⟨hc134, hm⟩ := hm
        refine Dw_op (VD O [(some b87, Obj.cells [(Value.slice a_y85_records open_1.1.records.length c_y85_records), (Value.int .i64 open_1.1.many), (Value.int .i64 open_1.1.synced)].toArray 52), (some b16, Obj.cells [(Value.slice none 0 0), (Value.slice none 0 0), (Value.int .i64 0), (Value.bool false)].toArray 25), (some b11, Obj.cells [(Value.slice none 0 0), (Value.int .i64 0), (Value.int .i64 0)].toArray 52), (some b6, Obj.cells [(Value.slice a_d_sectors d.sectors.length c_d_sectors), (Value.slice a_d_pending d.pending.length c_d_pending), (Value.int .i64 d.left), (Value.bool d.stopped)].toArray 25), (some b1, Obj.cells [(Value.slice a_l_records l.records.length c_l_records), (Value.int .i64 l.many), (Value.int .i64 l.synced)].toArray 52)] (vC (rSl rU8)) (((d.sectors.getD v_2.toNat default).drop 0).take (4 - 0))) (VD.stab _ _) (fun ρ131 w132 g hle hi ht => ?_) ?_
        ·
         obtain ⟨-, hst, -⟩ := hle
         replace f_y124 := f_y124.step hst
         refine StepOp_plain (op_slice (q := rU8) (l := 0) (h := 4) (m := c_y124) ty41 ty5 (ht 64 rfl) f_y124 rfl rfl (bndI rfl (by omega)) rfl (by decide) (by omega) (by omega) (by have h_ : (d.sectors.getD v_2.toNat default).length ≤ c_y124 := f_y124.le; omega) (by have h_ : (d.sectors.getD v_2.toNat default).length ≤ c_y124 := f_y124.le; omega) ?_)
         intro a135 f136
         exact Goes.same hi (show Vr.vd (vC (rSl rU8)) _ _ _ _ from (mkC (mk_sl f136)))
        replace hm := bd hm; obtain ⟨get_1, hv143, hm⟩ := hm
        refine Dw_op (VD O [(some b87, Obj.cells [(Value.slice a_y85_records open_1.1.records.length c_y85_records), (Value.int .i64 open_1.1.many), (Value.int .i64 open_1.1.synced)].toArray 52), (some b16, Obj.cells [(Value.slice none 0 0), (Value.slice none 0 0), (Value.int .i64 0), (Value.bool false)].toArray 25), (some b11, Obj.cells [(Value.slice none 0 0), (Value.int .i64 0), (Value.int .i64 0)].toArray 52), (some b6, Obj.cells [(Value.slice a_d_sectors d.sectors.length c_d_sectors), (Value.slice a_d_pending d.pending.length c_d_pending), (Value.int .i64 d.left), (Value.bool d.stopped)].toArray 25), (some b1, Obj.cells [(Value.slice a_l_records l.records.length c_l_records), (Value.int .i64 l.many), (Value.int .i64 l.synced)].toArray 52)] (vI .u64) get_1) (VD.stab _ _) (fun ρ137 w138 g hle hi ht => ?_) ?_
        ·
         obtain ⟨-, hst, -⟩ := hle
         have h140 : Vr.vd (vC (rSl rU8)) _ _ _ _ := ht 65 rfl
         obtain ⟨a_y142, c_y142, q141, f_y142⟩ := un_sl h140
         refine StepOp_plain (op_call Try.call60 (c60_journal_get (O := ks (ents g ++ [(some b87, Obj.cells [(Value.slice a_y85_records open_1.1.records.length c_y85_records), (Value.int .i64 open_1.1.many), (Value.int .i64 open_1.1.synced)].toArray 52), (some b16, Obj.cells [(Value.slice none 0 0), (Value.slice none 0 0), (Value.int .i64 0), (Value.bool false)].toArray 25), (some b11, Obj.cells [(Value.slice none 0 0), (Value.int .i64 0), (Value.int .i64 0)].toArray 52), (some b6, Obj.cells [(Value.slice a_d_sectors d.sectors.length c_d_sectors), (Value.slice a_d_pending d.pending.length c_d_pending), (Value.int .i64 d.left), (Value.bool d.stopped)].toArray 25), (some b1, Obj.cells [(Value.slice a_l_records l.records.length c_l_records), (Value.int .i64 l.many), (Value.int .i64 l.synced)].toArray 52)]) O) (b := (((d.sectors.getD v_2.toNat default).drop 0).take (4 - 0))) hi.ltw f_y142 hv143) (by simp only [List.map, Array.toList, (show ev _ (.tmp 65) = _ from q141)] <;> rfl) ?_)
         rintro v144 w145 ⟨hx146, h147⟩
         exact Goes.call hi hx146 h147
        refine Dw_eq (Value.int .u64 (IntKind.wrap .u64 (get_1 + 1))) (fun ρ149 w150 g hle hi ht => ?_) ?_
        ·
         obtain ⟨-, hst, -⟩ := hle
         have h152 : Vr.vd (vI .u64) _ _ _ _ := ht 66 rfl
         obtain ⟨q153, r_y154⟩ := h152
         refine StepOp_plain (op_addw q153 rfl ?_)
         exact Goes.same hi rfl
        refine Dw_eq (Value.slice a_y124 (d.sectors.getD v_2.toNat default).length c_y124) (fun ρ155 w156 g hle hi ht => ?_) ?_
        ·
         obtain ⟨-, hst, -⟩ := hle
         refine StepOp_plain (op_move (v := (Value.slice a_y124 (d.sectors.getD v_2.toNat default).length c_y124)) (ht 12 rfl) ?_)
         exact Goes.same hi rfl
        replace hm := ck_some hm; obtain ⟨hc161, hm⟩ := hm
        refine Dw_op (VD O [(some b87, Obj.cells [(Value.slice a_y85_records open_1.1.records.length c_y85_records), (Value.int .i64 open_1.1.many), (Value.int .i64 open_1.1.synced)].toArray 52), (some b16, Obj.cells [(Value.slice none 0 0), (Value.slice none 0 0), (Value.int .i64 0), (Value.bool false)].toArray 25), (some b11, Obj.cells [(Value.slice none 0 0), (Value.int .i64 0), (Value.int .i64 0)].toArray 52), (some b6, Obj.cells [(Value.slice a_d_sectors d.sectors.length c_d_sectors), (Value.slice a_d_pending d.pending.length c_d_pending), (Value.int .i64 d.left), (Value.bool d.stopped)].toArray 25), (some b1, Obj.cells [(Value.slice a_l_records l.records.length c_l_records), (Value.int .i64 l.many), (Value.int .i64 l.synced)].toArray 52)] (vC (rSl rU8)) (((d.sectors.getD v_2.toNat default).drop 124).take ((d.sectors.getD v_2.toNat default).length - 124))) (VD.stab _ _) (fun ρ158 w159 g hle hi ht => ?_) ?_
        ·
         obtain ⟨-, hst, -⟩ := hle
         replace f_y124 := f_y124.step hst
         refine StepOp_plain (op_slice (q := rU8) (l := 124) (h := (d.sectors.getD v_2.toNat default).length) (m := c_y124) ty41 ty5 (ht 68 rfl) f_y124 rfl (bndI rfl (by omega)) rfl rfl (by decide) (by omega) (by omega) (by have h_ : (d.sectors.getD v_2.toNat default).length ≤ c_y124 := f_y124.le; omega) (by have h_ : (d.sectors.getD v_2.toNat default).length ≤ c_y124 := f_y124.le; omega) ?_)
         intro a162 f163
         exact Goes.same hi (show Vr.vd (vC (rSl rU8)) _ _ _ _ from (mkC (mk_sl f163)))
        replace hm := bd hm; obtain ⟨get_2, hv170, hm⟩ := hm
        refine Dw_op (VD O [(some b87, Obj.cells [(Value.slice a_y85_records open_1.1.records.length c_y85_records), (Value.int .i64 open_1.1.many), (Value.int .i64 open_1.1.synced)].toArray 52), (some b16, Obj.cells [(Value.slice none 0 0), (Value.slice none 0 0), (Value.int .i64 0), (Value.bool false)].toArray 25), (some b11, Obj.cells [(Value.slice none 0 0), (Value.int .i64 0), (Value.int .i64 0)].toArray 52), (some b6, Obj.cells [(Value.slice a_d_sectors d.sectors.length c_d_sectors), (Value.slice a_d_pending d.pending.length c_d_pending), (Value.int .i64 d.left), (Value.bool d.stopped)].toArray 25), (some b1, Obj.cells [(Value.slice a_l_records l.records.length c_l_records), (Value.int .i64 l.many), (Value.int .i64 l.synced)].toArray 52)] (vI .u64) get_2) (VD.stab _ _) (fun ρ164 w165 g hle hi ht => ?_) ?_
        ·
         obtain ⟨-, hst, -⟩ := hle
         have h167 : Vr.vd (vC (rSl rU8)) _ _ _ _ := ht 69 rfl
         obtain ⟨a_y169, c_y169, q168, f_y169⟩ := un_sl h167
         refine StepOp_plain (op_call Try.call60 (c60_journal_get (O := ks (ents g ++ [(some b87, Obj.cells [(Value.slice a_y85_records open_1.1.records.length c_y85_records), (Value.int .i64 open_1.1.many), (Value.int .i64 open_1.1.synced)].toArray 52), (some b16, Obj.cells [(Value.slice none 0 0), (Value.slice none 0 0), (Value.int .i64 0), (Value.bool false)].toArray 25), (some b11, Obj.cells [(Value.slice none 0 0), (Value.int .i64 0), (Value.int .i64 0)].toArray 52), (some b6, Obj.cells [(Value.slice a_d_sectors d.sectors.length c_d_sectors), (Value.slice a_d_pending d.pending.length c_d_pending), (Value.int .i64 d.left), (Value.bool d.stopped)].toArray 25), (some b1, Obj.cells [(Value.slice a_l_records l.records.length c_l_records), (Value.int .i64 l.many), (Value.int .i64 l.synced)].toArray 52)]) O) (b := (((d.sectors.getD v_2.toNat default).drop 124).take ((d.sectors.getD v_2.toNat default).length - 124))) hi.ltw f_y169 hv170) (by simp only [List.map, Array.toList, (show ev _ (.tmp 69) = _ from q168)] <;> rfl) ?_)
         rintro v171 w172 ⟨hx173, h174⟩
         exact Goes.call hi hx173 h174
        refine Dw_eq (Value.int .u64 (IntKind.wrap .u64 (get_2 + 1))) (fun ρ176 w177 g hle hi ht => ?_) ?_
        ·
         obtain ⟨-, hst, -⟩ := hle
         have h179 : Vr.vd (vI .u64) _ _ _ _ := ht 70 rfl
         obtain ⟨q180, r_y181⟩ := h179
         refine StepOp_plain (op_addw q180 rfl ?_)
         exact Goes.same hi rfl
        refine Dw_nil fun w186 g187 hl188 hi189 => ?_
        obtain ⟨-, hst190, -⟩ := hl188
        obtain ⟨hs192, p191⟩ := Step.nx hi189
        rintro _ rfl
        rintro v193 h194
        replace h194 : Vr.vd (vI .u64) _ _ _ _ := h194
        obtain ⟨rfl, r_y195⟩ := h194
        rintro v196 h197
        replace h197 : Vr.vd (vC (rSl rU8)) _ _ _ _ := h197
        obtain ⟨a_y198, c_y198, rfl, f_y198⟩ := un_sl h197
        rintro _ rfl
        rintro _ rfl
        rintro v199 h200
        replace h200 : Vr.vd (vI .u64) _ _ _ _ := h200
        obtain ⟨rfl, r_y201⟩ := h200
        rintro v202 h203
        replace h203 : Vr.vd (vC (rSl rU8)) _ _ _ _ := h203
        obtain ⟨a_y204, c_y204, rfl, f_y204⟩ := un_sl h203
        rintro _ rfl
        rintro _ rfl
        have p205 : Step (ks [(some b87, Obj.cells [(Value.slice a_y85_records open_1.1.records.length c_y85_records), (Value.int .i64 open_1.1.many), (Value.int .i64 open_1.1.synced)].toArray 52), (some b16, Obj.cells [(Value.slice none 0 0), (Value.slice none 0 0), (Value.int .i64 0), (Value.bool false)].toArray 25), (some b11, Obj.cells [(Value.slice none 0 0), (Value.int .i64 0), (Value.int .i64 0)].toArray 52), (some b6, Obj.cells [(Value.slice a_d_sectors d.sectors.length c_d_sectors), (Value.slice a_d_pending d.pending.length c_d_pending), (Value.int .i64 d.left), (Value.bool d.stopped)].toArray 25), (some b1, Obj.cells [(Value.slice a_l_records l.records.length c_l_records), (Value.int .i64 l.many), (Value.int .i64 l.synced)].toArray 52)] O) w112 (ks [(some b87, Obj.cells [(Value.slice a_y85_records open_1.1.records.length c_y85_records), (Value.int .i64 open_1.1.many), (Value.int .i64 open_1.1.synced)].toArray 52), (some b16, Obj.cells [(Value.slice none 0 0), (Value.slice none 0 0), (Value.int .i64 0), (Value.bool false)].toArray 25), (some b11, Obj.cells [(Value.slice none 0 0), (Value.int .i64 0), (Value.int .i64 0)].toArray 52), (some b6, Obj.cells [(Value.slice a_d_sectors d.sectors.length c_d_sectors), (Value.slice a_d_pending d.pending.length c_d_pending), (Value.int .i64 d.left), (Value.bool d.stopped)].toArray 25), (some b1, Obj.cells [(Value.slice a_l_records l.records.length c_l_records), (Value.int .i64 l.many), (Value.int .i64 l.synced)].toArray 52)] O) w186 := hst190.trans p191
        replace f_y198 := f_y198.step p191; replace f_y204 := f_y204.step p191; replace f_l_records := f_l_records.step p205; replace f_d_sectors := f_d_sectors.step p205; replace f_d_pending := f_d_pending.step p205; replace f_y85_records := f_y85_records.step p205; replace f_y124 := f_y124.step p205; replace ch117 := ch117.trans p205; clear p205 hs113
        refine Rg_op rfl (op_max3 rfl rfl rfl ?_)
        refine Rg_op rfl (op_assign (v := (Value.int .u64 (max (max generation_1 (IntKind.wrap .u64 (get_1 + 1))) (IntKind.wrap .u64 (get_2 + 1))))) rfl ?_)
        refine Rg_nil ?_
        clear f_y124 f_y198 f_y204
        refine Wp_region ?_
        refine Rg_op rfl (op_addw rfl rfl ?_)
        refine Rg_op rfl (op_move (v := (Value.int .i64 (IntKind.wrap .i64 (v_2 + 1)))) rfl ?_)
        refine Rg_nil ?_
        exact hK110 _ _ ⟨(max (max generation_1 (IntKind.wrap .u64 (get_1 + 1))) (IntKind.wrap .u64 (get_2 + 1))), (IntKind.wrap .i64 (v_2 + 1)), _, rfl, ⟨(by repeat (first | with_reducible exact Out.refl _ _ | refine Out.upd ?_ rfl | refine Out.updL ?_ rfl | refine Out.mix' ?_ rfl | exact Out.refl _ _)), rfl, rfl, rfl, trivial⟩, ch117, hs192, (inK_max (inK_max r_y105 (inK_wrap .u64 _)) (inK_wrap .u64 _)), (inK_wrap .i64 _), jnE2 hsf109 hm⟩
       ·
        replace hm := bif_f hm hc118
        refine Wp_exit ?_
        refine Wp_seq ?_
        refine Wp_reset [] [(2, (Value.pointer (some ⟨b1, 0, none⟩))), (3, (Value.pointer (some ⟨b6, 0, none⟩))), (4, (Value.pointer (some ⟨b11, 0, none⟩))), (5, (Value.pointer (some ⟨b16, 0, none⟩))), (9, (Value.pointer (some ⟨b87, 0, none⟩))), (10, (Value.int .u64 generation_1))] rfl ⟨rfl, rfl, rfl, rfl, rfl, rfl, trivial⟩ fun ξ206 => ?_
        replace hm := jn_elim hm; obtain ⟨k208, hk209, hm⟩ := hm
        refine Wp_seqJ [74, 75, 76, 77, 78, 79, 80, 81, 82, 83, 84, 85, 86, 87] (fun fr w' => ∃ (v_3 : Bool) (Ebs : Ents), Ebs = [(some b87, Obj.cells [(Value.slice a_y85_records open_1.1.records.length c_y85_records), (Value.int .i64 open_1.1.many), (Value.int .i64 open_1.1.synced)].toArray 52), (some b16, Obj.cells [(Value.slice none 0 0), (Value.slice none 0 0), (Value.int .i64 0), (Value.bool false)].toArray 25), (some b11, Obj.cells [(Value.slice none 0 0), (Value.int .i64 0), (Value.int .i64 0)].toArray 52), (some b6, Obj.cells [(Value.slice a_d_sectors d.sectors.length c_d_sectors), (Value.slice a_d_pending d.pending.length c_d_pending), (Value.int .i64 d.left), (Value.bool d.stopped)].toArray 25), (some b1, Obj.cells [(Value.slice a_l_records l.records.length c_l_records), (Value.int .i64 l.many), (Value.int .i64 l.synced)].toArray 52)] ∧ fr [] [(87, (Value.bool v_3))] ∧ Step (ks [(some b87, Obj.cells [(Value.slice a_y85_records open_1.1.records.length c_y85_records), (Value.int .i64 open_1.1.many), (Value.int .i64 open_1.1.synced)].toArray 52), (some b16, Obj.cells [(Value.slice none 0 0), (Value.slice none 0 0), (Value.int .i64 0), (Value.bool false)].toArray 25), (some b11, Obj.cells [(Value.slice none 0 0), (Value.int .i64 0), (Value.int .i64 0)].toArray 52), (some b6, Obj.cells [(Value.slice a_d_sectors d.sectors.length c_d_sectors), (Value.slice a_d_pending d.pending.length c_d_pending), (Value.int .i64 d.left), (Value.bool d.stopped)].toArray 25), (some b1, Obj.cells [(Value.slice a_l_records l.records.length c_l_records), (Value.int .i64 l.many), (Value.int .i64 l.synced)].toArray 52)] O) w112 (ks Ebs O) w' ∧ St ⟨w, [], []⟩ O w' Ebs ∧ k208 v_3 = some x) ?_ ?_
        ·
         rintro ρ215 w211 ⟨v_3, Ebs, hEbs, hfr214, hst213, hs212, hm⟩
         replace hm := jnE1 hk209 hm
         subst hEbs; rw [hfr214.eq]; clear hfr214
         replace f_l_records := f_l_records.step hst213; replace f_d_sectors := f_d_sectors.step hst213; replace f_d_pending := f_d_pending.step hst213; replace f_y85_records := f_y85_records.step hst213; replace ch117 := ch117.trans hst213; clear hst213 hs113
         refine Wp_cond rfl (fun hc216 => ?_) (fun hc216 => ?_)
         ·
          replace hm := bif_t hm hc216
          refine Wp_seq ?_
          obtain ⟨hs217, p218⟩ := hs212.sub (bs' := [(some b16, Obj.cells [(Value.slice none 0 0), (Value.slice none 0 0), (Value.int .i64 0), (Value.bool false)].toArray 25), (some b11, Obj.cells [(Value.slice none 0 0), (Value.int .i64 0), (Value.int .i64 0)].toArray 52)]) (.cons _ (.cons_cons _ (.cons_cons _ (.cons _ (.cons _ List.Sublist.slnil)))))
          clear f_l_records f_d_sectors f_d_pending f_y85_records
          replace ch117 := ch117.trans p218; clear p218 hs212
          refine Wp_region ?_
          refine Rg_op rfl (op_build (vs := [(Value.slice none 0 0), (Value.int .i64 0), (Value.int .i64 0)]) (parts := []) ty52 pl52 rfl ?_)
          refine Rg_op rfl (op_build (vs := [(Value.slice none 0 0), (Value.slice none 0 0), (Value.int .i64 0), (Value.bool false)]) (parts := []) ty25 pl25 rfl ?_)
          refine Rg_op_ (op_store (cs := [(Value.slice none 0 0), (Value.int .i64 0), (Value.int .i64 0)]) (vs := [(Value.slice none 0 0), (Value.int .i64 0), (Value.int .i64 0)]) (cs' := [(Value.slice none 0 0), (Value.int .i64 0), (Value.int .i64 0)]) (bs' := [(some b16, Obj.cells [(Value.slice none 0 0), (Value.slice none 0 0), (Value.int .i64 0), (Value.bool false)].toArray 25), (some b11, Obj.cells [(Value.slice none 0 0), (Value.int .i64 0), (Value.int .i64 0)].toArray 52)]) (i := 1) ty52 hs217 rfl rfl rfl rfl rfl (le_lit rfl) rfl rfl rfl ?_)
          intro w219 p220 hs221
          replace ch117 := ch117.trans p220; clear p220 hs217
          refine Rg_op_ (op_store (cs := [(Value.slice none 0 0), (Value.slice none 0 0), (Value.int .i64 0), (Value.bool false)]) (vs := [(Value.slice none 0 0), (Value.slice none 0 0), (Value.int .i64 0), (Value.bool false)]) (cs' := [(Value.slice none 0 0), (Value.slice none 0 0), (Value.int .i64 0), (Value.bool false)]) (bs' := [(some b16, Obj.cells [(Value.slice none 0 0), (Value.slice none 0 0), (Value.int .i64 0), (Value.bool false)].toArray 25), (some b11, Obj.cells [(Value.slice none 0 0), (Value.int .i64 0), (Value.int .i64 0)].toArray 52)]) (i := 0) ty25 hs221 rfl rfl rfl rfl rfl (le_lit rfl) rfl rfl rfl ?_)
          intro w222 p223 hs224
          replace ch117 := ch117.trans p223; clear p223 hs221
          refine Rg_op rfl (op_assign (v := (Value.int .i64 450)) rfl ?_)
          refine Rg_nil ?_
          refine Wp_ret ?_
          have hz := step_all hs224
          refine ⟨_, (show Closes [] _ _ from rfl), [(Value.agg [(Value.slice none 0 0), (Value.int .i64 0), (Value.int .i64 0)].toArray), (Value.agg [(Value.slice none 0 0), (Value.slice none 0 0), (Value.int .i64 0), (Value.bool false)].toArray), (Value.int .i64 450)], ⟨resA (cs := [(Value.slice none 0 0), (Value.int .i64 0), (Value.int .i64 0)]) (vs := [(Value.slice none 0 0), (Value.int .i64 0), (Value.int .i64 0)]) ty52 (i := 1) hs224 rfl rfl rfl rfl, resA (cs := [(Value.slice none 0 0), (Value.slice none 0 0), (Value.int .i64 0), (Value.bool false)]) (vs := [(Value.slice none 0 0), (Value.slice none 0 0), (Value.int .i64 0), (Value.bool false)]) ty25 (i := 0) hs224 rfl rfl rfl rfl, rfl, trivial⟩, hs224.ext, ?_⟩
          exact Vr.eq (a := (vT3 (vA rXJournal) (vA rXDisk) (vI .i64))) (x := ((⟨([] : List (List UInt8)), 0, 0⟩ : XJournal), (⟨([] : List (List UInt8)), ([] : List XWrite), 0, false⟩ : XDisk), 450)) (mkT3 (mkA (mkVia (mk_pair (mk_sl SlR.nil_) (mk_pair (mk_int (show InK .i64 0 from by decide)) (mk_int (show InK .i64 0 from by decide)))))) (mkA (mkVia (mk_pair (mk_sl SlR.nil_) (mk_pair (mk_sl SlR.nil_) (mk_pair (mk_int (show InK .i64 0 from by decide)) mkBool))))) ⟨rfl, (show InK .i64 450 from by decide)⟩) (Option.some.inj hm)
         ·
          replace hm := bif_f hm hc216
          refine Wp_skip ?_
          refine Wp_seq ?_
          refine Wp_seq ?_
          obtain ⟨hs225, p226⟩ := hs212.sub (bs' := [(some b16, Obj.cells [(Value.slice none 0 0), (Value.slice none 0 0), (Value.int .i64 0), (Value.bool false)].toArray 25), (some b11, Obj.cells [(Value.slice none 0 0), (Value.int .i64 0), (Value.int .i64 0)].toArray 52), (some b6, Obj.cells [(Value.slice a_d_sectors d.sectors.length c_d_sectors), (Value.slice a_d_pending d.pending.length c_d_pending), (Value.int .i64 d.left), (Value.bool d.stopped)].toArray 25), (some b1, Obj.cells [(Value.slice a_l_records l.records.length c_l_records), (Value.int .i64 l.many), (Value.int .i64 l.synced)].toArray 52)]) (.cons _ (.cons_cons _ (.cons_cons _ (.cons_cons _ (.cons_cons _ List.Sublist.slnil)))))
          clear f_y85_records
          replace f_l_records := f_l_records.step p226; replace f_d_sectors := f_d_sectors.step p226; replace f_d_pending := f_d_pending.step p226; replace ch117 := ch117.trans p226; clear p226 hs212
          refine Wp_region ?_
          refine Rg_op rfl (op_fieldAddr ty52 rfl ty3 (by decide) rfl (rfl : _ = (⟨_, 2, none⟩ : Addr)) ?_)
          refine Rg_op rfl (op_load (cs := [(Value.slice a_l_records l.records.length c_l_records), (Value.int .i64 l.many), (Value.int .i64 l.synced)]) (i := 3) ty3 hs225 rfl rfl rfl ?_)
          refine Rg_op rfl (op_fieldAddr ty52 rfl ty22 (by decide) rfl (rfl : _ = (⟨_, 0, none⟩ : Addr)) ?_)
          refine Rg_op rfl (op_load (cs := [(Value.slice a_l_records l.records.length c_l_records), (Value.int .i64 l.many), (Value.int .i64 l.synced)]) (i := 3) ty22 hs225 rfl rfl rfl ?_)
          refine Rg_op rfl (op_len Try.underlying22 rfl ?_)
          have rl227 := inK_len f_l_records
          refine Rg_op rfl (op_eql rfl rfl ?_)
          refine Rg_nil ?_
          refine Wp_cond rfl (fun hc228 => ?_) (fun hc228 => ?_)
          ·
           replace hm := bif_t hm hc228
           refine Wp_seq ?_
           refine Wp_drawLR (g0 := []) (m := 2) (fl := []) (f := 1) (TS_inv hs225) rfl (.inl rfl) rfl (by decide +kernel) rfl ?_  -- 21
           refine Dw_eq (Value.agg [(Value.slice a_l_records l.records.length c_l_records), (Value.int .i64 l.many), (Value.int .i64 l.synced)].toArray) (fun ρ229 w230 g hle hi ht => ?_) ?_
           ·
            obtain ⟨-, hst, -⟩ := hle
            have hsn := (Step.nx hi).1
            refine StepOp_plain (op_loadA (cs := [(Value.slice a_l_records l.records.length c_l_records), (Value.int .i64 l.many), (Value.int .i64 l.synced)]) (vs := [(Value.slice a_l_records l.records.length c_l_records), (Value.int .i64 l.many), (Value.int .i64 l.synced)]) (i := 3) ty52 hsn (ht 2 rfl) rfl rfl rfl ?_)
            exact Goes.same hi rfl
           refine Dw_eq (Value.agg [(Value.slice a_d_sectors d.sectors.length c_d_sectors), (Value.slice a_d_pending d.pending.length c_d_pending), (Value.int .i64 d.left), (Value.bool d.stopped)].toArray) (fun ρ232 w233 g hle hi ht => ?_) ?_
           ·
            obtain ⟨-, hst, -⟩ := hle
            have hsn := (Step.nx hi).1
            refine StepOp_plain (op_loadA (cs := [(Value.slice a_d_sectors d.sectors.length c_d_sectors), (Value.slice a_d_pending d.pending.length c_d_pending), (Value.int .i64 d.left), (Value.bool d.stopped)]) (vs := [(Value.slice a_d_sectors d.sectors.length c_d_sectors), (Value.slice a_d_pending d.pending.length c_d_pending), (Value.int .i64 d.left), (Value.bool d.stopped)]) (i := 2) ty25 hsn (ht 3 rfl) rfl rfl rfl ?_)
            exact Goes.same hi rfl
           refine Dw_nilL (fun w235 g236 hl237 hi238 => ?_) (fun w235 g236 hl237 hi238 => ?_)
           ·
            obtain ⟨-, hst243, -⟩ := hl237
            obtain ⟨hs245, p244⟩ := Step.nx hi238
            rintro _ rfl
            rintro _ rfl
            have p246 : Step (ks [(some b16, Obj.cells [(Value.slice none 0 0), (Value.slice none 0 0), (Value.int .i64 0), (Value.bool false)].toArray 25), (some b11, Obj.cells [(Value.slice none 0 0), (Value.int .i64 0), (Value.int .i64 0)].toArray 52), (some b6, Obj.cells [(Value.slice a_d_sectors d.sectors.length c_d_sectors), (Value.slice a_d_pending d.pending.length c_d_pending), (Value.int .i64 d.left), (Value.bool d.stopped)].toArray 25), (some b1, Obj.cells [(Value.slice a_l_records l.records.length c_l_records), (Value.int .i64 l.many), (Value.int .i64 l.synced)].toArray 52)] O) w211 (ks [(some b16, Obj.cells [(Value.slice none 0 0), (Value.slice none 0 0), (Value.int .i64 0), (Value.bool false)].toArray 25), (some b11, Obj.cells [(Value.slice none 0 0), (Value.int .i64 0), (Value.int .i64 0)].toArray 52), (some b6, Obj.cells [(Value.slice a_d_sectors d.sectors.length c_d_sectors), (Value.slice a_d_pending d.pending.length c_d_pending), (Value.int .i64 d.left), (Value.bool d.stopped)].toArray 25), (some b1, Obj.cells [(Value.slice a_l_records l.records.length c_l_records), (Value.int .i64 l.many), (Value.int .i64 l.synced)].toArray 52)] O) w235 := hst243.trans p244
            replace f_l_records := f_l_records.step p246; replace f_d_sectors := f_d_sectors.step p246; replace f_d_pending := f_d_pending.step p246; replace ch117 := ch117.trans p246; clear p246 hs225
            refine Rg_op_ (op_store (cs := [(Value.slice none 0 0), (Value.int .i64 0), (Value.int .i64 0)]) (vs := [(Value.slice a_l_records l.records.length c_l_records), (Value.int .i64 l.many), (Value.int .i64 l.synced)]) (cs' := [(Value.slice a_l_records l.records.length c_l_records), (Value.int .i64 l.many), (Value.int .i64 l.synced)]) (bs' := [(some b16, Obj.cells [(Value.slice none 0 0), (Value.slice none 0 0), (Value.int .i64 0), (Value.bool false)].toArray 25), (some b11, Obj.cells [(Value.slice a_l_records l.records.length c_l_records), (Value.int .i64 l.many), (Value.int .i64 l.synced)].toArray 52), (some b6, Obj.cells [(Value.slice a_d_sectors d.sectors.length c_d_sectors), (Value.slice a_d_pending d.pending.length c_d_pending), (Value.int .i64 d.left), (Value.bool d.stopped)].toArray 25), (some b1, Obj.cells [(Value.slice a_l_records l.records.length c_l_records), (Value.int .i64 l.many), (Value.int .i64 l.synced)].toArray 52)]) (i := 1) ty52 hs245 rfl rfl rfl rfl rfl (le_lit rfl) rfl rfl rfl ?_)
            intro w247 p248 hs249
            replace f_l_records := f_l_records.step p248; replace f_d_sectors := f_d_sectors.step p248; replace f_d_pending := f_d_pending.step p248; replace ch117 := ch117.trans p248; clear p248 hs245
            refine Rg_op_ (op_store (cs := [(Value.slice none 0 0), (Value.slice none 0 0), (Value.int .i64 0), (Value.bool false)]) (vs := [(Value.slice a_d_sectors d.sectors.length c_d_sectors), (Value.slice a_d_pending d.pending.length c_d_pending), (Value.int .i64 d.left), (Value.bool d.stopped)]) (cs' := [(Value.slice a_d_sectors d.sectors.length c_d_sectors), (Value.slice a_d_pending d.pending.length c_d_pending), (Value.int .i64 d.left), (Value.bool d.stopped)]) (bs' := [(some b16, Obj.cells [(Value.slice a_d_sectors d.sectors.length c_d_sectors), (Value.slice a_d_pending d.pending.length c_d_pending), (Value.int .i64 d.left), (Value.bool d.stopped)].toArray 25), (some b11, Obj.cells [(Value.slice a_l_records l.records.length c_l_records), (Value.int .i64 l.many), (Value.int .i64 l.synced)].toArray 52), (some b6, Obj.cells [(Value.slice a_d_sectors d.sectors.length c_d_sectors), (Value.slice a_d_pending d.pending.length c_d_pending), (Value.int .i64 d.left), (Value.bool d.stopped)].toArray 25), (some b1, Obj.cells [(Value.slice a_l_records l.records.length c_l_records), (Value.int .i64 l.many), (Value.int .i64 l.synced)].toArray 52)]) (i := 0) ty25 hs249 rfl rfl rfl rfl rfl (le_lit rfl) rfl rfl rfl ?_)
            intro w250 p251 hs252
            replace f_l_records := f_l_records.step p251; replace f_d_sectors := f_d_sectors.step p251; replace f_d_pending := f_d_pending.step p251; replace ch117 := ch117.trans p251; clear p251 hs249
            refine Rg_op rfl (op_assign (v := (Value.int .i64 0)) rfl ?_)
            refine Rg_nil ?_
            refine Wp_ret ?_
            have hz := step_all hs252
            replace f_l_records := f_l_records.step hz; replace f_d_sectors := f_d_sectors.step hz; replace f_d_pending := f_d_pending.step hz
            refine ⟨_, (show Closes [] _ _ from rfl), [(Value.agg [(Value.slice a_l_records l.records.length c_l_records), (Value.int .i64 l.many), (Value.int .i64 l.synced)].toArray), (Value.agg [(Value.slice a_d_sectors d.sectors.length c_d_sectors), (Value.slice a_d_pending d.pending.length c_d_pending), (Value.int .i64 d.left), (Value.bool d.stopped)].toArray), (Value.int .i64 0)], ⟨resA (cs := [(Value.slice a_l_records l.records.length c_l_records), (Value.int .i64 l.many), (Value.int .i64 l.synced)]) (vs := [(Value.slice a_l_records l.records.length c_l_records), (Value.int .i64 l.many), (Value.int .i64 l.synced)]) ty52 (i := 1) hs252 rfl rfl rfl rfl, resA (cs := [(Value.slice a_d_sectors d.sectors.length c_d_sectors), (Value.slice a_d_pending d.pending.length c_d_pending), (Value.int .i64 d.left), (Value.bool d.stopped)]) (vs := [(Value.slice a_d_sectors d.sectors.length c_d_sectors), (Value.slice a_d_pending d.pending.length c_d_pending), (Value.int .i64 d.left), (Value.bool d.stopped)]) ty25 (i := 0) hs252 rfl rfl rfl rfl, rfl, trivial⟩, hs252.ext, ?_⟩
            exact Vr.eq (a := (vT3 (vA rXJournal) (vA rXDisk) (vI .i64))) (x := (l, d, 0)) (mkT3 (mkA (mkVia (mk_pair (mk_sl f_l_records) (mk_pair (mk_int r_l_many) (mk_int r_l_synced))))) (mkA (mkVia (mk_pair (mk_sl f_d_sectors) (mk_pair (mk_sl f_d_pending) (mk_pair (mk_int r_d_left) mkBool))))) ⟨rfl, (show InK .i64 0 from by decide)⟩) (Option.some.inj hm)
           ·
            obtain ⟨-, hst257, -⟩ := hl237
            obtain ⟨hs259, p258⟩ := Step.nx hi238
            rintro _ rfl
            have p260 : Step (ks [(some b16, Obj.cells [(Value.slice none 0 0), (Value.slice none 0 0), (Value.int .i64 0), (Value.bool false)].toArray 25), (some b11, Obj.cells [(Value.slice none 0 0), (Value.int .i64 0), (Value.int .i64 0)].toArray 52), (some b6, Obj.cells [(Value.slice a_d_sectors d.sectors.length c_d_sectors), (Value.slice a_d_pending d.pending.length c_d_pending), (Value.int .i64 d.left), (Value.bool d.stopped)].toArray 25), (some b1, Obj.cells [(Value.slice a_l_records l.records.length c_l_records), (Value.int .i64 l.many), (Value.int .i64 l.synced)].toArray 52)] O) w211 (ks [(some b16, Obj.cells [(Value.slice none 0 0), (Value.slice none 0 0), (Value.int .i64 0), (Value.bool false)].toArray 25), (some b11, Obj.cells [(Value.slice none 0 0), (Value.int .i64 0), (Value.int .i64 0)].toArray 52), (some b6, Obj.cells [(Value.slice a_d_sectors d.sectors.length c_d_sectors), (Value.slice a_d_pending d.pending.length c_d_pending), (Value.int .i64 d.left), (Value.bool d.stopped)].toArray 25), (some b1, Obj.cells [(Value.slice a_l_records l.records.length c_l_records), (Value.int .i64 l.many), (Value.int .i64 l.synced)].toArray 52)] O) w235 := hst257.trans p258
            replace f_l_records := f_l_records.step p260; replace f_d_sectors := f_d_sectors.step p260; replace f_d_pending := f_d_pending.step p260; replace ch117 := ch117.trans p260; clear p260 hs225
            refine TailP_go rfl rfl (by decide) rfl (by decide) ?_ ?_
            ·
             refine StepOp_plain_ (op_store (cs := [(Value.slice none 0 0), (Value.int .i64 0), (Value.int .i64 0)]) (vs := [(Value.slice a_l_records l.records.length c_l_records), (Value.int .i64 l.many), (Value.int .i64 l.synced)]) (cs' := [(Value.slice a_l_records l.records.length c_l_records), (Value.int .i64 l.many), (Value.int .i64 l.synced)]) (bs' := [(some b16, Obj.cells [(Value.slice none 0 0), (Value.slice none 0 0), (Value.int .i64 0), (Value.bool false)].toArray 25), (some b11, Obj.cells [(Value.slice a_l_records l.records.length c_l_records), (Value.int .i64 l.many), (Value.int .i64 l.synced)].toArray 52), (some b6, Obj.cells [(Value.slice a_d_sectors d.sectors.length c_d_sectors), (Value.slice a_d_pending d.pending.length c_d_pending), (Value.int .i64 d.left), (Value.bool d.stopped)].toArray 25), (some b1, Obj.cells [(Value.slice a_l_records l.records.length c_l_records), (Value.int .i64 l.many), (Value.int .i64 l.synced)].toArray 52)]) (i := 1) ty52 hs259 rfl rfl rfl rfl rfl (le_lit rfl) rfl rfl rfl ?_)
             intro w261 p262 hs263
             replace f_l_records := f_l_records.step p262; replace f_d_sectors := f_d_sectors.step p262; replace f_d_pending := f_d_pending.step p262; replace ch117 := ch117.trans p262; clear p262 hs259
             refine TailP_fin rfl (by decide) (.inr (by decide +kernel)) ?_
             refine StepOp_plain (op_loadA (cs := [(Value.slice a_d_sectors d.sectors.length c_d_sectors), (Value.slice a_d_pending d.pending.length c_d_pending), (Value.int .i64 d.left), (Value.bool d.stopped)]) (vs := [(Value.slice a_d_sectors d.sectors.length c_d_sectors), (Value.slice a_d_pending d.pending.length c_d_pending), (Value.int .i64 d.left), (Value.bool d.stopped)]) (i := 2) ty25 hs263 rfl rfl rfl rfl ?_)
             refine Rg_op_ (op_store (cs := [(Value.slice none 0 0), (Value.slice none 0 0), (Value.int .i64 0), (Value.bool false)]) (vs := [(Value.slice a_d_sectors d.sectors.length c_d_sectors), (Value.slice a_d_pending d.pending.length c_d_pending), (Value.int .i64 d.left), (Value.bool d.stopped)]) (cs' := [(Value.slice a_d_sectors d.sectors.length c_d_sectors), (Value.slice a_d_pending d.pending.length c_d_pending), (Value.int .i64 d.left), (Value.bool d.stopped)]) (bs' := [(some b16, Obj.cells [(Value.slice a_d_sectors d.sectors.length c_d_sectors), (Value.slice a_d_pending d.pending.length c_d_pending), (Value.int .i64 d.left), (Value.bool d.stopped)].toArray 25), (some b11, Obj.cells [(Value.slice a_l_records l.records.length c_l_records), (Value.int .i64 l.many), (Value.int .i64 l.synced)].toArray 52), (some b6, Obj.cells [(Value.slice a_d_sectors d.sectors.length c_d_sectors), (Value.slice a_d_pending d.pending.length c_d_pending), (Value.int .i64 d.left), (Value.bool d.stopped)].toArray 25), (some b1, Obj.cells [(Value.slice a_l_records l.records.length c_l_records), (Value.int .i64 l.many), (Value.int .i64 l.synced)].toArray 52)]) (i := 0) ty25 hs263 rfl rfl rfl rfl rfl (le_lit rfl) rfl rfl rfl ?_)
             intro w264 p265 hs266
             replace f_l_records := f_l_records.step p265; replace f_d_sectors := f_d_sectors.step p265; replace f_d_pending := f_d_pending.step p265; replace ch117 := ch117.trans p265; clear p265 hs263
             refine Rg_op rfl (op_assign (v := (Value.int .i64 0)) rfl ?_)
             refine Rg_nil ?_
             refine Wp_ret ?_
             have hz := step_all hs266
             replace f_l_records := f_l_records.step hz; replace f_d_sectors := f_d_sectors.step hz; replace f_d_pending := f_d_pending.step hz
             refine ⟨_, (show Closes [] _ _ from rfl), [(Value.agg [(Value.slice a_l_records l.records.length c_l_records), (Value.int .i64 l.many), (Value.int .i64 l.synced)].toArray), (Value.agg [(Value.slice a_d_sectors d.sectors.length c_d_sectors), (Value.slice a_d_pending d.pending.length c_d_pending), (Value.int .i64 d.left), (Value.bool d.stopped)].toArray), (Value.int .i64 0)], ⟨resA (cs := [(Value.slice a_l_records l.records.length c_l_records), (Value.int .i64 l.many), (Value.int .i64 l.synced)]) (vs := [(Value.slice a_l_records l.records.length c_l_records), (Value.int .i64 l.many), (Value.int .i64 l.synced)]) ty52 (i := 1) hs266 rfl rfl rfl rfl, resA (cs := [(Value.slice a_d_sectors d.sectors.length c_d_sectors), (Value.slice a_d_pending d.pending.length c_d_pending), (Value.int .i64 d.left), (Value.bool d.stopped)]) (vs := [(Value.slice a_d_sectors d.sectors.length c_d_sectors), (Value.slice a_d_pending d.pending.length c_d_pending), (Value.int .i64 d.left), (Value.bool d.stopped)]) ty25 (i := 0) hs266 rfl rfl rfl rfl, rfl, trivial⟩, hs266.ext, ?_⟩
             exact Vr.eq (a := (vT3 (vA rXJournal) (vA rXDisk) (vI .i64))) (x := (l, d, 0)) (mkT3 (mkA (mkVia (mk_pair (mk_sl f_l_records) (mk_pair (mk_int r_l_many) (mk_int r_l_synced))))) (mkA (mkVia (mk_pair (mk_sl f_d_sectors) (mk_pair (mk_sl f_d_pending) (mk_pair (mk_int r_d_left) mkBool))))) ⟨rfl, (show InK .i64 0 from by decide)⟩) (Option.some.inj hm)
            ·
             refine StepOp_plain (op_loadA (cs := [(Value.slice a_d_sectors d.sectors.length c_d_sectors), (Value.slice a_d_pending d.pending.length c_d_pending), (Value.int .i64 d.left), (Value.bool d.stopped)]) (vs := [(Value.slice a_d_sectors d.sectors.length c_d_sectors), (Value.slice a_d_pending d.pending.length c_d_pending), (Value.int .i64 d.left), (Value.bool d.stopped)]) (i := 2) ty25 hs259 rfl rfl rfl rfl ?_)
             refine Rg_op_ (op_store (cs := [(Value.slice none 0 0), (Value.int .i64 0), (Value.int .i64 0)]) (vs := [(Value.slice a_l_records l.records.length c_l_records), (Value.int .i64 l.many), (Value.int .i64 l.synced)]) (cs' := [(Value.slice a_l_records l.records.length c_l_records), (Value.int .i64 l.many), (Value.int .i64 l.synced)]) (bs' := [(some b16, Obj.cells [(Value.slice none 0 0), (Value.slice none 0 0), (Value.int .i64 0), (Value.bool false)].toArray 25), (some b11, Obj.cells [(Value.slice a_l_records l.records.length c_l_records), (Value.int .i64 l.many), (Value.int .i64 l.synced)].toArray 52), (some b6, Obj.cells [(Value.slice a_d_sectors d.sectors.length c_d_sectors), (Value.slice a_d_pending d.pending.length c_d_pending), (Value.int .i64 d.left), (Value.bool d.stopped)].toArray 25), (some b1, Obj.cells [(Value.slice a_l_records l.records.length c_l_records), (Value.int .i64 l.many), (Value.int .i64 l.synced)].toArray 52)]) (i := 1) ty52 hs259 rfl rfl rfl rfl rfl (le_lit rfl) rfl rfl rfl ?_)
             intro w267 p268 hs269
             replace f_l_records := f_l_records.step p268; replace f_d_sectors := f_d_sectors.step p268; replace f_d_pending := f_d_pending.step p268; replace ch117 := ch117.trans p268; clear p268 hs259
             refine Rg_op_ (op_store (cs := [(Value.slice none 0 0), (Value.slice none 0 0), (Value.int .i64 0), (Value.bool false)]) (vs := [(Value.slice a_d_sectors d.sectors.length c_d_sectors), (Value.slice a_d_pending d.pending.length c_d_pending), (Value.int .i64 d.left), (Value.bool d.stopped)]) (cs' := [(Value.slice a_d_sectors d.sectors.length c_d_sectors), (Value.slice a_d_pending d.pending.length c_d_pending), (Value.int .i64 d.left), (Value.bool d.stopped)]) (bs' := [(some b16, Obj.cells [(Value.slice a_d_sectors d.sectors.length c_d_sectors), (Value.slice a_d_pending d.pending.length c_d_pending), (Value.int .i64 d.left), (Value.bool d.stopped)].toArray 25), (some b11, Obj.cells [(Value.slice a_l_records l.records.length c_l_records), (Value.int .i64 l.many), (Value.int .i64 l.synced)].toArray 52), (some b6, Obj.cells [(Value.slice a_d_sectors d.sectors.length c_d_sectors), (Value.slice a_d_pending d.pending.length c_d_pending), (Value.int .i64 d.left), (Value.bool d.stopped)].toArray 25), (some b1, Obj.cells [(Value.slice a_l_records l.records.length c_l_records), (Value.int .i64 l.many), (Value.int .i64 l.synced)].toArray 52)]) (i := 0) ty25 hs269 rfl rfl rfl rfl rfl (le_lit rfl) rfl rfl rfl ?_)
             intro w270 p271 hs272
             replace f_l_records := f_l_records.step p271; replace f_d_sectors := f_d_sectors.step p271; replace f_d_pending := f_d_pending.step p271; replace ch117 := ch117.trans p271; clear p271 hs269
             refine Rg_op rfl (op_assign (v := (Value.int .i64 0)) rfl ?_)
             refine Rg_nil ?_
             refine Wp_ret ?_
             have hz := step_all hs272
             replace f_l_records := f_l_records.step hz; replace f_d_sectors := f_d_sectors.step hz; replace f_d_pending := f_d_pending.step hz
             refine ⟨_, (show Closes [] _ _ from rfl), [(Value.agg [(Value.slice a_l_records l.records.length c_l_records), (Value.int .i64 l.many), (Value.int .i64 l.synced)].toArray), (Value.agg [(Value.slice a_d_sectors d.sectors.length c_d_sectors), (Value.slice a_d_pending d.pending.length c_d_pending), (Value.int .i64 d.left), (Value.bool d.stopped)].toArray), (Value.int .i64 0)], ⟨resA (cs := [(Value.slice a_l_records l.records.length c_l_records), (Value.int .i64 l.many), (Value.int .i64 l.synced)]) (vs := [(Value.slice a_l_records l.records.length c_l_records), (Value.int .i64 l.many), (Value.int .i64 l.synced)]) ty52 (i := 1) hs272 rfl rfl rfl rfl, resA (cs := [(Value.slice a_d_sectors d.sectors.length c_d_sectors), (Value.slice a_d_pending d.pending.length c_d_pending), (Value.int .i64 d.left), (Value.bool d.stopped)]) (vs := [(Value.slice a_d_sectors d.sectors.length c_d_sectors), (Value.slice a_d_pending d.pending.length c_d_pending), (Value.int .i64 d.left), (Value.bool d.stopped)]) ty25 (i := 0) hs272 rfl rfl rfl rfl, rfl, trivial⟩, hs272.ext, ?_⟩
             exact Vr.eq (a := (vT3 (vA rXJournal) (vA rXDisk) (vI .i64))) (x := (l, d, 0)) (mkT3 (mkA (mkVia (mk_pair (mk_sl f_l_records) (mk_pair (mk_int r_l_many) (mk_int r_l_synced))))) (mkA (mkVia (mk_pair (mk_sl f_d_sectors) (mk_pair (mk_sl f_d_pending) (mk_pair (mk_int r_d_left) mkBool))))) ⟨rfl, (show InK .i64 0 from by decide)⟩) (Option.some.inj hm)
          ·
           replace hm := bif_f hm hc228
           refine Wp_skip ?_
           refine Wp_seq ?_
           refine Wp_region ?_
           refine Rg_op rfl (op_fieldAddr ty52 rfl ty22 (by decide) rfl (rfl : _ = (⟨_, 0, none⟩ : Addr)) ?_)
           refine Rg_op rfl (op_load (cs := [(Value.slice a_l_records l.records.length c_l_records), (Value.int .i64 l.many), (Value.int .i64 l.synced)]) (i := 3) ty22 hs225 rfl rfl rfl ?_)
           refine Rg_op rfl (op_fieldAddr ty52 rfl ty3 (by decide) rfl (rfl : _ = (⟨_, 2, none⟩ : Addr)) ?_)
           refine Rg_op rfl (op_load (cs := [(Value.slice a_l_records l.records.length c_l_records), (Value.int .i64 l.many), (Value.int .i64 l.synced)]) (i := 3) ty3 hs225 rfl rfl rfl ?_)
           replace hm := ck_some hm; obtain ⟨hc273, hm⟩ := hm
           refine Rg_op rfl (op_slice (q := (rSl rU8)) (l := 0) (h := l.synced.toNat) (m := c_l_records) ty22 ty41 rfl f_l_records rfl rfl (bndI rfl (by omega)) rfl (by decide) (by omega) (by omega) (by have h_ : l.records.length ≤ c_l_records := f_l_records.le; omega) (by have h_ : l.records.length ≤ c_l_records := f_l_records.le; omega) ?_)
           intro a274 f275
           replace hm := bd hm; obtain ⟨used_1, hv276, hm⟩ := hm
           refine Rg_op rfl (op_call Try.call55 (c55_journal_used (l := ((l.records.drop 0).take (l.synced.toNat - 0))) hs225.ltw f275 hv276) rfl ?_)
           rintro v277 w278 ⟨hx279, h280⟩
           have hs281 := hs225.call hx279
           have p282 := Step.ext (O := ks [(some b16, Obj.cells [(Value.slice none 0 0), (Value.slice none 0 0), (Value.int .i64 0), (Value.bool false)].toArray 25), (some b11, Obj.cells [(Value.slice none 0 0), (Value.int .i64 0), (Value.int .i64 0)].toArray 52), (some b6, Obj.cells [(Value.slice a_d_sectors d.sectors.length c_d_sectors), (Value.slice a_d_pending d.pending.length c_d_pending), (Value.int .i64 d.left), (Value.bool d.stopped)].toArray 25), (some b1, Obj.cells [(Value.slice a_l_records l.records.length c_l_records), (Value.int .i64 l.many), (Value.int .i64 l.synced)].toArray 52)] O) hx279
           clear hx279
           replace f_l_records := f_l_records.step p282; replace f_d_sectors := f_d_sectors.step p282; replace f_d_pending := f_d_pending.step p282; replace f275 := f275.step p282; replace ch117 := ch117.trans p282; clear p282 hs225
           obtain ⟨rfl, r_y283⟩ := h280
           refine Rg_op rfl (op_assign (v := (Value.int .i64 used_1)) rfl ?_)
           refine Rg_nil ?_
           refine Wp_seq ?_
           refine Wp_seq ?_
           clear f275
           refine Wp_region ?_
           refine Rg_op rfl (op_fieldAddr ty52 rfl ty22 (by decide) rfl (rfl : _ = (⟨_, 0, none⟩ : Addr)) ?_)
           refine Rg_op rfl (op_load (cs := [(Value.slice a_l_records l.records.length c_l_records), (Value.int .i64 l.many), (Value.int .i64 l.synced)]) (i := 3) ty22 hs281 rfl rfl rfl ?_)
           refine Rg_op rfl (op_fieldAddr ty52 rfl ty3 (by decide) rfl (rfl : _ = (⟨_, 2, none⟩ : Addr)) ?_)
           refine Rg_op rfl (op_load (cs := [(Value.slice a_l_records l.records.length c_l_records), (Value.int .i64 l.many), (Value.int .i64 l.synced)]) (i := 3) ty3 hs281 rfl rfl rfl ?_)
           replace hm := ck_some hm; obtain ⟨hc284, hm⟩ := hm
           refine Rg_op rfl (op_slice (q := (rSl rU8)) (l := l.synced.toNat) (h := l.records.length) (m := c_l_records) ty22 ty41 rfl f_l_records rfl (bndI rfl (by omega)) rfl rfl (by decide) (by omega) (by omega) (by have h_ : l.records.length ≤ c_l_records := f_l_records.le; omega) (by have h_ : l.records.length ≤ c_l_records := f_l_records.le; omega) ?_)
           intro a285 f286
           refine Rg_op rfl (op_len Try.underlying22 rfl ?_)
           have rl287 := inK_len f286
           refine Rg_op rfl (op_move (v := (Value.int .i64 0)) rfl ?_)
           refine Rg_nil ?_
           refine Wp_block ?_
           refine Wp_reset [] [(2, (Value.pointer (some ⟨b1, 0, none⟩))), (3, (Value.pointer (some ⟨b6, 0, none⟩))), (4, (Value.pointer (some ⟨b11, 0, none⟩))), (5, (Value.pointer (some ⟨b16, 0, none⟩))), (10, (Value.int .u64 generation_1)), (13, (Value.int .i64 used_1)), (108, (Value.slice a285 ((l.records.drop l.synced.toNat).take (l.records.length - l.synced.toNat)).length (c_l_records - l.synced.toNat))), (109, (Value.int .i64 (((l.records.drop l.synced.toNat).take (l.records.length - l.synced.toNat)).length : Int))), (110, (Value.int .i64 0))] rfl ⟨rfl, rfl, rfl, rfl, rfl, rfl, rfl, rfl, rfl, trivial⟩ fun ξ294 => ?_
           refine Wp_loopM [6, 13, 15, 16, 17, 18, 110, 111, 112, 113, 114, 115, 116, 117, 118, 119, 120, 121, 122, 123, 124, 125, 126, 127, 128, 129, 130, 131, 132, 133, 134, 135, 136, 137, 138, 139, 140, 141, 142, 143, 144, 145, 146, 147, 148, 149, 150] (fun m fr w' => ∃ (at_1 : Int) (v_4 : Int) (v_5 : List (List UInt8)) (v_6 : List XWrite) (v_7 : Int) (v_8 : Bool) (a_y290 : Option Addr) (c_y290 : Nat) (a_y291 : Option Addr) (c_y291 : Nat) (Ebs : Ents), Ebs = [(some b16, Obj.cells [(Value.slice none 0 0), (Value.slice none 0 0), (Value.int .i64 0), (Value.bool false)].toArray 25), (some b11, Obj.cells [(Value.slice none 0 0), (Value.int .i64 0), (Value.int .i64 0)].toArray 52), (some b6, Obj.cells [(Value.slice a_y290 v_5.length c_y290), (Value.slice a_y291 v_6.length c_y291), (Value.int .i64 v_7), (Value.bool v_8)].toArray 25), (some b1, Obj.cells [(Value.slice a_l_records l.records.length c_l_records), (Value.int .i64 l.many), (Value.int .i64 l.synced)].toArray 52)] ∧ fr [] [(13, (Value.int .i64 at_1)), (110, (Value.int .i64 v_4))] ∧ Step (ks [(some b16, Obj.cells [(Value.slice none 0 0), (Value.slice none 0 0), (Value.int .i64 0), (Value.bool false)].toArray 25), (some b11, Obj.cells [(Value.slice none 0 0), (Value.int .i64 0), (Value.int .i64 0)].toArray 52), (some b6, Obj.cells [(Value.slice a_d_sectors d.sectors.length c_d_sectors), (Value.slice a_d_pending d.pending.length c_d_pending), (Value.int .i64 d.left), (Value.bool d.stopped)].toArray 25), (some b1, Obj.cells [(Value.slice a_l_records l.records.length c_l_records), (Value.int .i64 l.many), (Value.int .i64 l.synced)].toArray 52)] O) w278 (ks Ebs O) w' ∧ St ⟨w, [], []⟩ O w' Ebs ∧ InK .i64 at_1 ∧ InK .i64 v_4 ∧ SlR (rSl rU8) w' (ks Ebs O) a_y290 c_y290 v_5 ∧ SlR rXWrite w' (ks Ebs O) a_y291 c_y291 v_6 ∧ InK .i64 v_7 ∧ loop6 (m39_journal_Sync_B1 l generation_1) m at_1 v_4 v_5 v_6 v_7 v_8 = some x) (((((l.records.drop l.synced.toNat).take (l.records.length - l.synced.toNat)).length : Int) - 0).toNat + 1) ⟨used_1, 0, d.sectors, d.pending, d.left, d.stopped, a_d_sectors, c_d_sectors, a_d_pending, c_d_pending, _, rfl, ⟨Out.refl _ _, rfl, rfl, rfl, trivial⟩, Step.refl _ _, hs281, r_y283, (show InK .i64 0 from by decide), f_d_sectors, f_d_pending, r_d_left, hm⟩ ?_ ?_
           · rintro _ _ ⟨_, _, _, _, _, _, _, _, _, _, _, _, _, _, _, _, _, _, _, _, hm⟩; exact loop6_z hm
           ·
            rintro m298 K297 hK297 ρ303 w299 ⟨at_1, v_4, v_5, v_6, v_7, v_8, a_y290, c_y290, a_y291, c_y291, Ebs, hEbs, hfr302, hst301, hs300, r_y288, r_y289, f_y290, f_y291, r_y292, hm⟩
            obtain ⟨sf295, hsf296, hm⟩ := loop6_s hm; unfold m39_journal_Sync_B1 at hm
            subst hEbs; rw [hfr302.eq]; clear hfr302
            replace f_l_records := f_l_records.step hst301; replace f_d_sectors := f_d_sectors.step hst301; replace f_d_pending := f_d_pending.step hst301; replace f286 := f286.step hst301; replace ch117 := ch117.trans hst301
            have ch304 := hst301
            refine Wp_seq ?_
            clear f_d_sectors f_d_pending
            refine Wp_region ?_
            refine Rg_op rfl (op_lss rfl rfl ?_)
            refine Rg_nil ?_
            refine Wp_seq ?_
            refine Wp_cond rfl (fun hc305 => ?_) (fun hc305 => ?_)
            ·
             replace hm := bif_t hm hc305
             refine Wp_skip ?_
             refine Wp_seq ?_
             refine Wp_block ?_
             refine Wp_seq ?_
             refine Wp_region ?_
             replace hm := ck_some hm; obtain ⟨hc306, hm⟩ := hm
             refine Rg_op rfl (op_indexAddr (q := (rSl rU8)) ty22 ty41 rfl rfl f286 rfl hc306.1 hc306.2 ?_)
             intro p307 f308
             refine Rg_op rfl (op_loadP ty41 rfl f308 rfl ?_)
             intro v309 h310
             obtain ⟨a_y311, c_y311, rfl, f_y311⟩ := un_sl h310
             refine Rg_op rfl (op_assign (v := (Value.slice a_y311 (((l.records.drop l.synced.toNat).take (l.records.length - l.synced.toNat)).getD v_4.toNat default).length c_y311)) rfl ?_)
             refine Rg_nil ?_
             refine Wp_seq ?_
             clear f308
             refine Wp_region ?_
             refine Rg_op rfl (op_assign (v := (Value.int .u8 1)) rfl ?_)
             refine Rg_nil ?_
             refine Wp_seq ?_
             refine Wp_region ?_
             refine Rg_op rfl (op_move (v := (Value.slice a_y311 (((l.records.drop l.synced.toNat).take (l.records.length - l.synced.toNat)).getD v_4.toNat default).length c_y311)) rfl ?_)
             replace hm := bd hm; obtain ⟨sectors_1, hv312, hm⟩ := hm
             refine Rg_op rfl (op_call Try.call54 (c54_journal_sectors (b := (((l.records.drop l.synced.toNat).take (l.records.length - l.synced.toNat)).getD v_4.toNat default)) hs300.ltw f_y311 hv312) rfl ?_)
             rintro v313 w314 ⟨hx315, h316⟩
             have hs317 := hs300.call hx315
             have p318 := Step.ext (O := ks [(some b16, Obj.cells [(Value.slice none 0 0), (Value.slice none 0 0), (Value.int .i64 0), (Value.bool false)].toArray 25), (some b11, Obj.cells [(Value.slice none 0 0), (Value.int .i64 0), (Value.int .i64 0)].toArray 52), (some b6, Obj.cells [(Value.slice a_y290 v_5.length c_y290), (Value.slice a_y291 v_6.length c_y291), (Value.int .i64 v_7), (Value.bool v_8)].toArray 25), (some b1, Obj.cells [(Value.slice a_l_records l.records.length c_l_records), (Value.int .i64 l.many), (Value.int .i64 l.synced)].toArray 52)] O) hx315
             clear hx315
             replace f_l_records := f_l_records.step p318; replace f286 := f286.step p318; replace f_y290 := f_y290.step p318; replace f_y291 := f_y291.step p318; replace f_y311 := f_y311.step p318; replace ch117 := ch117.trans p318; replace ch304 := ch304.trans p318; clear p318 hs300
             obtain ⟨rfl, r_y319⟩ := h316
             refine Rg_op rfl (op_assign (v := (Value.int .i64 sectors_1)) rfl ?_)
             refine Rg_nil ?_
             refine Wp_block ?_
             refine Wp_reset2 [6, 13, 15, 16, 17, 18, 110, 111, 112, 113, 114, 115, 116, 117, 118, 119, 120, 121, 122, 123, 124, 125, 126, 127, 128, 129, 130, 131, 132, 133, 134, 135, 136, 137, 138, 139, 140, 141, 142, 143, 144, 145, 146, 147, 148, 149, 150] [] (updL ⟨ξ294, []⟩ [(2, (Value.pointer (some ⟨b1, 0, none⟩))), (3, (Value.pointer (some ⟨b6, 0, none⟩))), (4, (Value.pointer (some ⟨b11, 0, none⟩))), (5, (Value.pointer (some ⟨b16, 0, none⟩))), (10, (Value.int .u64 generation_1)), (13, (Value.int .i64 used_1)), (108, (Value.slice a285 ((l.records.drop l.synced.toNat).take (l.records.length - l.synced.toNat)).length (c_l_records - l.synced.toNat))), (109, (Value.int .i64 (((l.records.drop l.synced.toNat).take (l.records.length - l.synced.toNat)).length : Int))), (110, (Value.int .i64 0))]) [(13, (Value.int .i64 at_1)), (15, (Value.slice a_y311 (((l.records.drop l.synced.toNat).take (l.records.length - l.synced.toNat)).getD v_4.toNat default).length c_y311)), (16, (Value.int .u8 1)), (17, (Value.int .i64 sectors_1)), (110, (Value.int .i64 v_4))] (by repeat (first | with_reducible exact Out.refl _ _ | refine Out.upd ?_ rfl | refine Out.updL ?_ rfl | refine Out.mix' ?_ rfl | exact Out.refl _ _)) rfl ⟨rfl, rfl, rfl, rfl, rfl, trivial⟩ fun ξ328 => ?_
             refine Wp_loopM [6, 13, 15, 16, 17, 18, 116, 117, 118, 119, 120, 121, 122, 123, 124, 125, 126, 127, 128, 129, 130, 131, 132, 133, 134, 135, 136, 137, 138, 139, 140, 141, 142, 143, 144, 145, 146, 147, 148, 149] (fun m fr w' => ∃ (at_2 : Int) (b_1 : List UInt8) (kind_1 : UInt8) (n_1 : Int) (v_9 : List (List UInt8)) (v_10 : List XWrite) (v_11 : Int) (v_12 : Bool) (a_y321 : Option Addr) (c_y321 : Nat) (a_y324 : Option Addr) (c_y324 : Nat) (a_y325 : Option Addr) (c_y325 : Nat) (Ebs : Ents), Ebs = [(some b16, Obj.cells [(Value.slice none 0 0), (Value.slice none 0 0), (Value.int .i64 0), (Value.bool false)].toArray 25), (some b11, Obj.cells [(Value.slice none 0 0), (Value.int .i64 0), (Value.int .i64 0)].toArray 52), (some b6, Obj.cells [(Value.slice a_y324 v_9.length c_y324), (Value.slice a_y325 v_10.length c_y325), (Value.int .i64 v_11), (Value.bool v_12)].toArray 25), (some b1, Obj.cells [(Value.slice a_l_records l.records.length c_l_records), (Value.int .i64 l.many), (Value.int .i64 l.synced)].toArray 52)] ∧ fr [] [(13, (Value.int .i64 at_2)), (15, (Value.slice a_y321 b_1.length c_y321)), (16, (Value.int .u8 (kind_1.toNat : Int))), (17, (Value.int .i64 n_1))] ∧ Step (ks [(some b16, Obj.cells [(Value.slice none 0 0), (Value.slice none 0 0), (Value.int .i64 0), (Value.bool false)].toArray 25), (some b11, Obj.cells [(Value.slice none 0 0), (Value.int .i64 0), (Value.int .i64 0)].toArray 52), (some b6, Obj.cells [(Value.slice a_y290 v_5.length c_y290), (Value.slice a_y291 v_6.length c_y291), (Value.int .i64 v_7), (Value.bool v_8)].toArray 25), (some b1, Obj.cells [(Value.slice a_l_records l.records.length c_l_records), (Value.int .i64 l.many), (Value.int .i64 l.synced)].toArray 52)] O) w314 (ks Ebs O) w' ∧ St ⟨w, [], []⟩ O w' Ebs ∧ InK .i64 at_2 ∧ SlR rU8 w' (ks Ebs O) a_y321 c_y321 b_1 ∧ InK .i64 n_1 ∧ SlR (rSl rU8) w' (ks Ebs O) a_y324 c_y324 v_9 ∧ SlR rXWrite w' (ks Ebs O) a_y325 c_y325 v_10 ∧ InK .i64 v_11 ∧ loop8 (m39_journal_Sync_B2 generation_1 v_4 sf295) m at_2 b_1 kind_1 n_1 v_9 v_10 v_11 v_12 = some x) (1000000) ⟨at_1, (((l.records.drop l.synced.toNat).take (l.records.length - l.synced.toNat)).getD v_4.toNat default), 1, sectors_1, v_5, v_6, v_7, v_8, a_y311, c_y311, a_y290, c_y290, a_y291, c_y291, _, rfl, ⟨Out.refl _ _, rfl, rfl, rfl, rfl, rfl, trivial⟩, Step.refl _ _, hs317, r_y288, f_y311, r_y319, f_y290, f_y291, r_y292, hm⟩ ?_ ?_
             · rintro _ _ ⟨_, _, _, _, _, _, _, _, _, _, _, _, _, _, _, _, _, _, _, _, _, _, _, _, _, hm⟩; exact loop8_z hm
             ·
              rintro m332 K331 hK331 ρ337 w333 ⟨at_2, b_1, kind_1, n_1, v_9, v_10, v_11, v_12, a_y321, c_y321, a_y324, c_y324, a_y325, c_y325, Ebs, hEbs, hfr336, hst335, hs334, r_y320, f_y321, r_y323, f_y324, f_y325, r_y326, hm⟩
              obtain ⟨sf329, hsf330, hm⟩ := loop8_s hm; unfold m39_journal_Sync_B2 at hm
              subst hEbs; rw [hfr336.eq]; clear hfr336
              replace f_l_records := f_l_records.step hst335; replace f286 := f286.step hst335; replace f_y290 := f_y290.step hst335; replace f_y291 := f_y291.step hst335; replace f_y311 := f_y311.step hst335; replace ch117 := ch117.trans hst335; replace ch304 := ch304.trans hst335
              have ch338 := hst335
              refine Wp_seq ?_
              refine Wp_seq ?_
              clear f_y290 f_y291 f_y311
              refine Wp_region ?_
              refine Rg_op rfl (op_move (v := (Value.int .i64 n_1)) rfl ?_)
              refine Rg_op rfl (op_gtr rfl rfl ?_)
              refine Rg_nil ?_
              refine Wp_cond rfl (fun hc339 => ?_) (fun hc339 => ?_)
              ·
               replace hm := bif_t hm hc339
               refine Wp_skip ?_
               refine Wp_seq ?_
               refine Wp_block ?_
               refine Wp_seq ?_
               refine Wp_seq ?_
               refine Wp_region ?_
               refine Rg_op rfl (op_move (v := (Value.int .i64 n_1)) rfl ?_)
               refine Rg_op rfl (op_eql rfl rfl ?_)
               refine Rg_nil ?_
               refine Wp_cond rfl (fun hc340 => ?_) (fun hc340 => ?_)
               ·
                replace hm := bif_t hm hc340
                refine Wp_region ?_
                refine Rg_op rfl (op_move (v := (Value.int .u8 (kind_1.toNat : Int))) rfl ?_)
                refine Rg_op rfl (run1_u8 (e := (Go.bits .or .u8 (kind_1.toNat : Int) 2)) (inK_bits .or .u8 _ _) (fun _ hk => op_or rfl rfl hk) ?_)
                refine Rg_op rfl (op_assign (v := (Value.int .u8 ((UInt8.ofNat (Go.bits .or .u8 (kind_1.toNat : Int) 2).toNat).toNat : Int))) rfl ?_)
                refine Rg_nil ?_
                refine Wp_seq ?_
                refine Wp_region ?_
                refine Rg_op rfl (op_move (v := (Value.slice a_y321 b_1.length c_y321)) rfl ?_)
                refine Rg_op rfl (op_len Try.underlying41 rfl ?_)
                have rl341 := inK_len f_y321
                refine Rg_op rfl (op_min rfl rfl ?_)
                refine Rg_op rfl (op_assign (v := (Value.int .i64 (min (b_1.length : Int) 112))) rfl ?_)
                refine Rg_nil ?_
                refine Wp_seq ?_
                refine Wp_seq ?_
                refine Wp_drawR (g0 := []) (m := 13) (fl := [12]) (TS_inv hs334) rfl (.inl rfl) rfl (by decide +kernel) ?_  -- 33
                refine Dw_eq (Value.agg [(Value.slice a_y324 v_9.length c_y324), (Value.slice a_y325 v_10.length c_y325), (Value.int .i64 v_11), (Value.bool v_12)].toArray) (fun ρ342 w343 g hle hi ht => ?_) ?_
                ·
                 obtain ⟨-, hst, -⟩ := hle
                 have hsn := (Step.nx hi).1
                 refine StepOp_plain (op_loadA (cs := [(Value.slice a_y324 v_9.length c_y324), (Value.slice a_y325 v_10.length c_y325), (Value.int .i64 v_11), (Value.bool v_12)]) (vs := [(Value.slice a_y324 v_9.length c_y324), (Value.slice a_y325 v_10.length c_y325), (Value.int .i64 v_11), (Value.bool v_12)]) (i := 2) ty25 hsn (ht 3 rfl) rfl rfl rfl ?_)
                 exact Goes.same hi rfl
                refine Dw_eq (Value.int .i64 at_2) (fun ρ345 w346 g hle hi ht => ?_) ?_
                ·
                 obtain ⟨-, hst, -⟩ := hle
                 refine StepOp_plain (op_move (v := (Value.int .i64 at_2)) (ht 13 rfl) ?_)
                 exact Goes.same hi rfl
                refine Dw_eq (Value.int .u64 generation_1) (fun ρ348 w349 g hle hi ht => ?_) ?_
                ·
                 obtain ⟨-, hst, -⟩ := hle
                 refine StepOp_plain (op_move (v := (Value.int .u64 generation_1)) (ht 10 rfl) ?_)
                 exact Goes.same hi rfl
                refine Dw_eq (Value.int .i64 at_2) (fun ρ351 w352 g hle hi ht => ?_) ?_
                ·
                 obtain ⟨-, hst, -⟩ := hle
                 refine StepOp_plain (op_move (v := (Value.int .i64 at_2)) (ht 13 rfl) ?_)
                 exact Goes.same hi rfl
                refine Dw_eq (Value.int .u8 ((UInt8.ofNat (Go.bits .or .u8 (kind_1.toNat : Int) 2).toNat).toNat : Int)) (fun ρ354 w355 g hle hi ht => ?_) ?_
                ·
                 obtain ⟨-, hst, -⟩ := hle
                 refine StepOp_plain (op_move (v := (Value.int .u8 ((UInt8.ofNat (Go.bits .or .u8 (kind_1.toNat : Int) 2).toNat).toNat : Int))) (ht 16 rfl) ?_)
                 exact Goes.same hi rfl
                refine Dw_eq (Value.slice a_y321 b_1.length c_y321) (fun ρ357 w358 g hle hi ht => ?_) ?_
                ·
                 obtain ⟨-, hst, -⟩ := hle
                 refine StepOp_plain (op_move (v := (Value.slice a_y321 b_1.length c_y321)) (ht 15 rfl) ?_)
                 exact Goes.same hi rfl
                refine Dw_eq (Value.int .i64 (min (b_1.length : Int) 112)) (fun ρ360 w361 g hle hi ht => ?_) ?_
                ·
                 obtain ⟨-, hst, -⟩ := hle
                 refine StepOp_plain (op_move (v := (Value.int .i64 (min (b_1.length : Int) 112))) (ht 18 rfl) ?_)
                 exact Goes.same hi rfl
                replace hm := ck_some hm; obtain ⟨hc366, hm⟩ := hm
                refine Dw_op (VD O [(some b16, Obj.cells [(Value.slice none 0 0), (Value.slice none 0 0), (Value.int .i64 0), (Value.bool false)].toArray 25), (some b11, Obj.cells [(Value.slice none 0 0), (Value.int .i64 0), (Value.int .i64 0)].toArray 52), (some b6, Obj.cells [(Value.slice a_y324 v_9.length c_y324), (Value.slice a_y325 v_10.length c_y325), (Value.int .i64 v_11), (Value.bool v_12)].toArray 25), (some b1, Obj.cells [(Value.slice a_l_records l.records.length c_l_records), (Value.int .i64 l.many), (Value.int .i64 l.synced)].toArray 52)] (vC (rSl rU8)) ((b_1.drop 0).take ((min (b_1.length : Int) 112).toNat - 0))) (VD.stab _ _) (fun ρ363 w364 g hle hi ht => ?_) ?_
                ·
                 obtain ⟨-, hst, -⟩ := hle
                 replace f_y321 := f_y321.step hst
                 refine StepOp_plain (op_slice (q := rU8) (l := 0) (h := (min (b_1.length : Int) 112).toNat) (m := c_y321) ty41 ty5 (ht 133 rfl) f_y321 rfl rfl (bndI (ht 134 rfl) (by omega)) rfl (by decide) (by omega) (by omega) (by have h_ : b_1.length ≤ c_y321 := f_y321.le; omega) (by have h_ : b_1.length ≤ c_y321 := f_y321.le; omega) ?_)
                 intro a367 f368
                 exact Goes.same hi (show Vr.vd (vC (rSl rU8)) _ _ _ _ from (mkC (mk_sl f368)))
                replace hm := bd hm; obtain ⟨encode_1, hv375, hm⟩ := hm
                refine Dw_op (VD O [(some b16, Obj.cells [(Value.slice none 0 0), (Value.slice none 0 0), (Value.int .i64 0), (Value.bool false)].toArray 25), (some b11, Obj.cells [(Value.slice none 0 0), (Value.int .i64 0), (Value.int .i64 0)].toArray 52), (some b6, Obj.cells [(Value.slice a_y324 v_9.length c_y324), (Value.slice a_y325 v_10.length c_y325), (Value.int .i64 v_11), (Value.bool v_12)].toArray 25), (some b1, Obj.cells [(Value.slice a_l_records l.records.length c_l_records), (Value.int .i64 l.many), (Value.int .i64 l.synced)].toArray 52)] (vC (rSl rU8)) encode_1) (VD.stab _ _) (fun ρ369 w370 g hle hi ht => ?_) ?_
                ·
                 obtain ⟨-, hst, -⟩ := hle
                 have h372 : Vr.vd (vC (rSl rU8)) _ _ _ _ := ht 135 rfl
                 obtain ⟨a_y374, c_y374, q373, f_y374⟩ := un_sl h372
                 refine StepOp_plain (op_call Try.call63 (c63_journal_encode (O := ks (ents g ++ [(some b16, Obj.cells [(Value.slice none 0 0), (Value.slice none 0 0), (Value.int .i64 0), (Value.bool false)].toArray 25), (some b11, Obj.cells [(Value.slice none 0 0), (Value.int .i64 0), (Value.int .i64 0)].toArray 52), (some b6, Obj.cells [(Value.slice a_y324 v_9.length c_y324), (Value.slice a_y325 v_10.length c_y325), (Value.int .i64 v_11), (Value.bool v_12)].toArray 25), (some b1, Obj.cells [(Value.slice a_l_records l.records.length c_l_records), (Value.int .i64 l.many), (Value.int .i64 l.synced)].toArray 52)]) O) (generation := generation_1) (number := at_2) (kind := (UInt8.ofNat (Go.bits .or .u8 (kind_1.toNat : Int) 2).toNat)) (b := ((b_1.drop 0).take ((min (b_1.length : Int) 112).toNat - 0))) hi.ltw r_y105 r_y320 f_y374 hv375) (by simp only [List.map, Array.toList, (show ev _ (.tmp 130) = _ from (ht 130 rfl)), (show ev _ (.tmp 131) = _ from (ht 131 rfl)), (show ev _ (.tmp 132) = _ from (ht 132 rfl)), (show ev _ (.tmp 135) = _ from q373)] <;> rfl) ?_)
                 rintro v376 w377 ⟨hx378, h379⟩
                 exact Goes.call hi hx378 h379
                replace hm := bd hm; obtain ⟨write_1, hv387, hm⟩ := hm
                refine Dw_op (VD O [(some b16, Obj.cells [(Value.slice none 0 0), (Value.slice none 0 0), (Value.int .i64 0), (Value.bool false)].toArray 25), (some b11, Obj.cells [(Value.slice none 0 0), (Value.int .i64 0), (Value.int .i64 0)].toArray 52), (some b6, Obj.cells [(Value.slice a_y324 v_9.length c_y324), (Value.slice a_y325 v_10.length c_y325), (Value.int .i64 v_11), (Value.bool v_12)].toArray 25), (some b1, Obj.cells [(Value.slice a_l_records l.records.length c_l_records), (Value.int .i64 l.many), (Value.int .i64 l.synced)].toArray 52)] (vT2 (vA rXDisk) (vI .i64)) write_1) (VD.stab _ _) (fun ρ381 w382 g hle hi ht => ?_) ?_
                ·
                 obtain ⟨-, hst, -⟩ := hle
                 replace f_y324 := f_y324.step hst; replace f_y325 := f_y325.step hst
                 have h384 : Vr.vd (vC (rSl rU8)) _ _ _ _ := ht 136 rfl
                 obtain ⟨a_y386, c_y386, q385, f_y386⟩ := un_sl h384
                 refine StepOp_plain (op_call Try.call23 (c23_disk_Write (O := ks (ents g ++ [(some b16, Obj.cells [(Value.slice none 0 0), (Value.slice none 0 0), (Value.int .i64 0), (Value.bool false)].toArray 25), (some b11, Obj.cells [(Value.slice none 0 0), (Value.int .i64 0), (Value.int .i64 0)].toArray 52), (some b6, Obj.cells [(Value.slice a_y324 v_9.length c_y324), (Value.slice a_y325 v_10.length c_y325), (Value.int .i64 v_11), (Value.bool v_12)].toArray 25), (some b1, Obj.cells [(Value.slice a_l_records l.records.length c_l_records), (Value.int .i64 l.many), (Value.int .i64 l.synced)].toArray 52)]) O) (d := (⟨v_9, v_10, v_11, v_12⟩ : XDisk)) (at_ := at_2) (b := encode_1) hi.ltw f_y324 f_y325 r_y326 r_y320 f_y386 hv387) (by simp only [List.map, Array.toList, (show ev _ (.tmp 128) = _ from (ht 128 rfl)), (show ev _ (.tmp 129) = _ from (ht 129 rfl)), (show ev _ (.tmp 136) = _ from q385)] <;> rfl) ?_)
                 rintro v388 w389 ⟨hx390, h391⟩
                 exact Goes.call hi hx390 h391
                refine Dw_op (VD O [(some b16, Obj.cells [(Value.slice none 0 0), (Value.slice none 0 0), (Value.int .i64 0), (Value.bool false)].toArray 25), (some b11, Obj.cells [(Value.slice none 0 0), (Value.int .i64 0), (Value.int .i64 0)].toArray 52), (some b6, Obj.cells [(Value.slice a_y324 v_9.length c_y324), (Value.slice a_y325 v_10.length c_y325), (Value.int .i64 v_11), (Value.bool v_12)].toArray 25), (some b1, Obj.cells [(Value.slice a_l_records l.records.length c_l_records), (Value.int .i64 l.many), (Value.int .i64 l.synced)].toArray 52)] (vT2 (vA rXDisk) (vI .i64)) write_1) (VD.stab _ _) (fun ρ393 w394 g hle hi ht => ?_) ?_
                ·
                 obtain ⟨-, hst, -⟩ := hle
                 have h : Vr.vd (vT2 (vA rXDisk) (vI .i64)) _ _ _ _ := ht 137 rfl
                 refine StepOp_plain (op_move rfl (Goes.same hi h))
                refine Dw_op (VD O [(some b16, Obj.cells [(Value.slice none 0 0), (Value.slice none 0 0), (Value.int .i64 0), (Value.bool false)].toArray 25), (some b11, Obj.cells [(Value.slice none 0 0), (Value.int .i64 0), (Value.int .i64 0)].toArray 52), (some b6, Obj.cells [(Value.slice a_y324 v_9.length c_y324), (Value.slice a_y325 v_10.length c_y325), (Value.int .i64 v_11), (Value.bool v_12)].toArray 25), (some b1, Obj.cells [(Value.slice a_l_records l.records.length c_l_records), (Value.int .i64 l.many), (Value.int .i64 l.synced)].toArray 52)] (vA rXDisk) write_1.1) (VD.stab _ _) (fun ρ404 w405 g hle hi ht => ?_) ?_
                ·
                 obtain ⟨-, hst, -⟩ := hle
                 have h407 : Vr.vd (vT2 (vA rXDisk) (vI .i64)) _ _ _ _ := ht 127 rfl
                 obtain ⟨v409, v410, q408, h411, h412⟩ := h407
                 obtain ⟨_, rfl, ⟨_, _, rfl, ⟨a_y413_sectors, c_y413_sectors, rfl, f_y413_sectors⟩, ⟨_, _, rfl, ⟨a_y413_pending, c_y413_pending, rfl, f_y413_pending⟩, ⟨_, _, rfl, ⟨rfl, r_y413_left⟩, rfl⟩⟩⟩⟩ := h411
                 obtain ⟨rfl, r_y414⟩ := h412
                 refine StepOp_plain (op_extract (v := (Value.agg [(Value.slice a_y413_sectors write_1.1.sectors.length c_y413_sectors), (Value.slice a_y413_pending write_1.1.pending.length c_y413_pending), (Value.int .i64 write_1.1.left), (Value.bool write_1.1.stopped)].toArray)) q408 rfl ?_)
                 exact Goes.same hi (show Vr.vd (vA rXDisk) _ _ _ _ from (mkA (mkVia (mk_pair (mk_sl f_y413_sectors) (mk_pair (mk_sl f_y413_pending) (mk_pair (mk_int r_y413_left) mkBool))))))
                refine Dw_op (VD O [(some b16, Obj.cells [(Value.slice none 0 0), (Value.slice none 0 0), (Value.int .i64 0), (Value.bool false)].toArray 25), (some b11, Obj.cells [(Value.slice none 0 0), (Value.int .i64 0), (Value.int .i64 0)].toArray 52), (some b6, Obj.cells [(Value.slice a_y324 v_9.length c_y324), (Value.slice a_y325 v_10.length c_y325), (Value.int .i64 v_11), (Value.bool v_12)].toArray 25), (some b1, Obj.cells [(Value.slice a_l_records l.records.length c_l_records), (Value.int .i64 l.many), (Value.int .i64 l.synced)].toArray 52)] (vI .i64) write_1.2) (VD.stab _ _) (fun ρ415 w416 g hle hi ht => ?_) ?_
                ·
                 obtain ⟨-, hst, -⟩ := hle
                 have h418 : Vr.vd (vT2 (vA rXDisk) (vI .i64)) _ _ _ _ := ht 127 rfl
                 obtain ⟨v420, v421, q419, h422, h423⟩ := h418
                 obtain ⟨_, rfl, ⟨_, _, rfl, ⟨a_y424_sectors, c_y424_sectors, rfl, f_y424_sectors⟩, ⟨_, _, rfl, ⟨a_y424_pending, c_y424_pending, rfl, f_y424_pending⟩, ⟨_, _, rfl, ⟨rfl, r_y424_left⟩, rfl⟩⟩⟩⟩ := h422
                 obtain ⟨rfl, r_y425⟩ := h423
                 refine StepOp_plain (op_extract (v := (Value.int .i64 write_1.2)) q419 rfl ?_)
                 exact Goes.same hi (show Vr.vd (vI .i64) _ _ _ _ from ⟨rfl, r_y425⟩)
                refine Dw_nil fun w430 g431 hl432 hi433 => ?_
                obtain ⟨-, hst434, -⟩ := hl432
                obtain ⟨hs436, p435⟩ := Step.nx hi433
                rintro v437 h438
                replace h438 : Vr.vd (vI .i64) _ _ _ _ := h438
                obtain ⟨rfl, r_y439⟩ := h438
                rintro v440 h441
                replace h441 : Vr.vd (vA rXDisk) _ _ _ _ := h441
                obtain ⟨_, rfl, ⟨_, _, rfl, ⟨a_y442_sectors, c_y442_sectors, rfl, f_y442_sectors⟩, ⟨_, _, rfl, ⟨a_y442_pending, c_y442_pending, rfl, f_y442_pending⟩, ⟨_, _, rfl, ⟨rfl, r_y442_left⟩, rfl⟩⟩⟩⟩ := h441
                rintro v443 h444
                replace h444 : Vr.vd (vT2 (vA rXDisk) (vI .i64)) _ _ _ _ := h444
                obtain ⟨v445, v446, rfl, h447, h448⟩ := h444
                obtain ⟨_, rfl, ⟨_, _, rfl, ⟨a_y449_sectors, c_y449_sectors, rfl, f_y449_sectors⟩, ⟨_, _, rfl, ⟨a_y449_pending, c_y449_pending, rfl, f_y449_pending⟩, ⟨_, _, rfl, ⟨rfl, r_y449_left⟩, rfl⟩⟩⟩⟩ := h447
                obtain ⟨rfl, r_y450⟩ := h448
                rintro v451 h452
                replace h452 : Vr.vd (vT2 (vA rXDisk) (vI .i64)) _ _ _ _ := h452
                obtain ⟨v453, v454, rfl, h455, h456⟩ := h452
                obtain ⟨_, rfl, ⟨_, _, rfl, ⟨a_y457_sectors, c_y457_sectors, rfl, f_y457_sectors⟩, ⟨_, _, rfl, ⟨a_y457_pending, c_y457_pending, rfl, f_y457_pending⟩, ⟨_, _, rfl, ⟨rfl, r_y457_left⟩, rfl⟩⟩⟩⟩ := h455
                obtain ⟨rfl, r_y458⟩ := h456
                rintro v459 h460
                replace h460 : Vr.vd (vC (rSl rU8)) _ _ _ _ := h460
                obtain ⟨a_y461, c_y461, rfl, f_y461⟩ := un_sl h460
                rintro v462 h463
                replace h463 : Vr.vd (vC (rSl rU8)) _ _ _ _ := h463
                obtain ⟨a_y464, c_y464, rfl, f_y464⟩ := un_sl h463
                rintro _ rfl
                rintro _ rfl
                rintro _ rfl
                rintro _ rfl
                rintro _ rfl
                rintro _ rfl
                rintro _ rfl
                have p465 : Step (ks [(some b16, Obj.cells [(Value.slice none 0 0), (Value.slice none 0 0), (Value.int .i64 0), (Value.bool false)].toArray 25), (some b11, Obj.cells [(Value.slice none 0 0), (Value.int .i64 0), (Value.int .i64 0)].toArray 52), (some b6, Obj.cells [(Value.slice a_y324 v_9.length c_y324), (Value.slice a_y325 v_10.length c_y325), (Value.int .i64 v_11), (Value.bool v_12)].toArray 25), (some b1, Obj.cells [(Value.slice a_l_records l.records.length c_l_records), (Value.int .i64 l.many), (Value.int .i64 l.synced)].toArray 52)] O) w333 (ks [(some b16, Obj.cells [(Value.slice none 0 0), (Value.slice none 0 0), (Value.int .i64 0), (Value.bool false)].toArray 25), (some b11, Obj.cells [(Value.slice none 0 0), (Value.int .i64 0), (Value.int .i64 0)].toArray 52), (some b6, Obj.cells [(Value.slice a_y324 v_9.length c_y324), (Value.slice a_y325 v_10.length c_y325), (Value.int .i64 v_11), (Value.bool v_12)].toArray 25), (some b1, Obj.cells [(Value.slice a_l_records l.records.length c_l_records), (Value.int .i64 l.many), (Value.int .i64 l.synced)].toArray 52)] O) w430 := hst434.trans p435
                replace f_y442_sectors := f_y442_sectors.step p435; replace f_y442_pending := f_y442_pending.step p435; replace f_y449_sectors := f_y449_sectors.step p435; replace f_y449_pending := f_y449_pending.step p435; replace f_y457_sectors := f_y457_sectors.step p435; replace f_y457_pending := f_y457_pending.step p435; replace f_y461 := f_y461.step p435; replace f_y464 := f_y464.step p435; replace f_l_records := f_l_records.step p465; replace f286 := f286.step p465; replace f_y321 := f_y321.step p465; replace f_y324 := f_y324.step p465; replace f_y325 := f_y325.step p465; replace ch117 := ch117.trans p465; replace ch304 := ch304.trans p465; replace ch338 := ch338.trans p465; clear p465 hs334
                refine Rg_op_ (op_store (cs := [(Value.slice a_y324 v_9.length c_y324), (Value.slice a_y325 v_10.length c_y325), (Value.int .i64 v_11), (Value.bool v_12)]) (vs := [(Value.slice a_y442_sectors write_1.1.sectors.length c_y442_sectors), (Value.slice a_y442_pending write_1.1.pending.length c_y442_pending), (Value.int .i64 write_1.1.left), (Value.bool write_1.1.stopped)]) (cs' := [(Value.slice a_y442_sectors write_1.1.sectors.length c_y442_sectors), (Value.slice a_y442_pending write_1.1.pending.length c_y442_pending), (Value.int .i64 write_1.1.left), (Value.bool write_1.1.stopped)]) (bs' := [(some b16, Obj.cells [(Value.slice none 0 0), (Value.slice none 0 0), (Value.int .i64 0), (Value.bool false)].toArray 25), (some b11, Obj.cells [(Value.slice none 0 0), (Value.int .i64 0), (Value.int .i64 0)].toArray 52), (some b6, Obj.cells [(Value.slice a_y442_sectors write_1.1.sectors.length c_y442_sectors), (Value.slice a_y442_pending write_1.1.pending.length c_y442_pending), (Value.int .i64 write_1.1.left), (Value.bool write_1.1.stopped)].toArray 25), (some b1, Obj.cells [(Value.slice a_l_records l.records.length c_l_records), (Value.int .i64 l.many), (Value.int .i64 l.synced)].toArray 52)]) (i := 2) ty25 hs436 rfl rfl rfl rfl rfl (le_lit rfl) rfl rfl rfl ?_)
                intro w466 p467 hs468
                replace f_l_records := f_l_records.step p467; replace f286 := f286.step p467; replace f_y321 := f_y321.step p467; replace f_y324 := f_y324.step p467; replace f_y325 := f_y325.step p467; replace f_y442_sectors := f_y442_sectors.step p467; replace f_y442_pending := f_y442_pending.step p467; replace f_y449_sectors := f_y449_sectors.step p467; replace f_y449_pending := f_y449_pending.step p467; replace f_y457_sectors := f_y457_sectors.step p467; replace f_y457_pending := f_y457_pending.step p467; replace f_y461 := f_y461.step p467; replace f_y464 := f_y464.step p467; replace ch117 := ch117.trans p467; replace ch304 := ch304.trans p467; replace ch338 := ch338.trans p467; clear p467 hs436
                refine Rg_op rfl (op_assign (v := (Value.int .i64 write_1.2)) rfl ?_)
                refine Rg_nil ?_
                refine Wp_seq ?_
                clear f_y324 f_y325 f_y449_sectors f_y449_pending f_y457_sectors f_y457_pending f_y461 f_y464
                refine Wp_reset2 [6, 13, 15, 16, 17, 18, 116, 117, 118, 119, 120, 121, 122, 123, 124, 125, 126, 127, 128, 129, 130, 131, 132, 133, 134, 135, 136, 137, 138, 139, 140, 141, 142, 143, 144, 145, 146, 147, 148, 149] [] (updL (mix [6, 13, 15, 16, 17, 18, 110, 111, 112, 113, 114, 115, 116, 117, 118, 119, 120, 121, 122, 123, 124, 125, 126, 127, 128, 129, 130, 131, 132, 133, 134, 135, 136, 137, 138, 139, 140, 141, 142, 143, 144, 145, 146, 147, 148, 149, 150] [] ξ328 (updL ⟨ξ294, []⟩ [(2, (Value.pointer (some ⟨b1, 0, none⟩))), (3, (Value.pointer (some ⟨b6, 0, none⟩))), (4, (Value.pointer (some ⟨b11, 0, none⟩))), (5, (Value.pointer (some ⟨b16, 0, none⟩))), (10, (Value.int .u64 generation_1)), (13, (Value.int .i64 used_1)), (108, (Value.slice a285 ((l.records.drop l.synced.toNat).take (l.records.length - l.synced.toNat)).length (c_l_records - l.synced.toNat))), (109, (Value.int .i64 (((l.records.drop l.synced.toNat).take (l.records.length - l.synced.toNat)).length : Int))), (110, (Value.int .i64 0))])) [(13, (Value.int .i64 at_1)), (15, (Value.slice a_y311 (((l.records.drop l.synced.toNat).take (l.records.length - l.synced.toNat)).getD v_4.toNat default).length c_y311)), (16, (Value.int .u8 1)), (17, (Value.int .i64 sectors_1)), (110, (Value.int .i64 v_4))]) [(6, (Value.int .i64 write_1.2)), (13, (Value.int .i64 at_2)), (15, (Value.slice a_y321 b_1.length c_y321)), (17, (Value.int .i64 n_1)), (18, (Value.int .i64 (min (b_1.length : Int) 112)))] (by repeat (first | with_reducible exact Out.refl _ _ | refine Out.upd ?_ rfl | refine Out.updL ?_ rfl | refine Out.mix' ?_ rfl | exact Out.refl _ _)) rfl ⟨rfl, rfl, rfl, rfl, rfl, trivial⟩ fun ξ469 => ?_
                refine Wp_region ?_
                refine Rg_op rfl (op_move (v := (Value.int .i64 write_1.2)) rfl ?_)
                refine Rg_op rfl (op_neq rfl rfl ?_)
                refine Rg_nil ?_
                refine Wp_cond rfl (fun hc470 => ?_) (fun hc470 => ?_)
                ·
                 replace hm := bif_t hm hc470
                 refine Wp_seq ?_
                 clear f286 f_y321
                 refine Wp_region ?_
                 refine Rg_op rfl (op_build (vs := [(Value.slice none 0 0), (Value.int .i64 0), (Value.int .i64 0)]) (parts := []) ty52 pl52 rfl ?_)
                 refine Rg_op rfl (op_build (vs := [(Value.slice none 0 0), (Value.slice none 0 0), (Value.int .i64 0), (Value.bool false)]) (parts := []) ty25 pl25 rfl ?_)
                 refine Rg_op rfl (op_move (v := (Value.int .i64 write_1.2)) rfl ?_)
                 refine Rg_op_ (op_store (cs := [(Value.slice none 0 0), (Value.int .i64 0), (Value.int .i64 0)]) (vs := [(Value.slice none 0 0), (Value.int .i64 0), (Value.int .i64 0)]) (cs' := [(Value.slice none 0 0), (Value.int .i64 0), (Value.int .i64 0)]) (bs' := [(some b16, Obj.cells [(Value.slice none 0 0), (Value.slice none 0 0), (Value.int .i64 0), (Value.bool false)].toArray 25), (some b11, Obj.cells [(Value.slice none 0 0), (Value.int .i64 0), (Value.int .i64 0)].toArray 52), (some b6, Obj.cells [(Value.slice a_y442_sectors write_1.1.sectors.length c_y442_sectors), (Value.slice a_y442_pending write_1.1.pending.length c_y442_pending), (Value.int .i64 write_1.1.left), (Value.bool write_1.1.stopped)].toArray 25), (some b1, Obj.cells [(Value.slice a_l_records l.records.length c_l_records), (Value.int .i64 l.many), (Value.int .i64 l.synced)].toArray 52)]) (i := 1) ty52 hs468 rfl rfl rfl rfl rfl (le_lit rfl) rfl rfl rfl ?_)
                 intro w471 p472 hs473
                 replace f_l_records := f_l_records.step p472; replace f_y442_sectors := f_y442_sectors.step p472; replace f_y442_pending := f_y442_pending.step p472; replace ch117 := ch117.trans p472; replace ch304 := ch304.trans p472; replace ch338 := ch338.trans p472; clear p472 hs468
                 refine Rg_op_ (op_store (cs := [(Value.slice none 0 0), (Value.slice none 0 0), (Value.int .i64 0), (Value.bool false)]) (vs := [(Value.slice none 0 0), (Value.slice none 0 0), (Value.int .i64 0), (Value.bool false)]) (cs' := [(Value.slice none 0 0), (Value.slice none 0 0), (Value.int .i64 0), (Value.bool false)]) (bs' := [(some b16, Obj.cells [(Value.slice none 0 0), (Value.slice none 0 0), (Value.int .i64 0), (Value.bool false)].toArray 25), (some b11, Obj.cells [(Value.slice none 0 0), (Value.int .i64 0), (Value.int .i64 0)].toArray 52), (some b6, Obj.cells [(Value.slice a_y442_sectors write_1.1.sectors.length c_y442_sectors), (Value.slice a_y442_pending write_1.1.pending.length c_y442_pending), (Value.int .i64 write_1.1.left), (Value.bool write_1.1.stopped)].toArray 25), (some b1, Obj.cells [(Value.slice a_l_records l.records.length c_l_records), (Value.int .i64 l.many), (Value.int .i64 l.synced)].toArray 52)]) (i := 0) ty25 hs473 rfl rfl rfl rfl rfl (le_lit rfl) rfl rfl rfl ?_)
                 intro w474 p475 hs476
                 replace f_l_records := f_l_records.step p475; replace f_y442_sectors := f_y442_sectors.step p475; replace f_y442_pending := f_y442_pending.step p475; replace ch117 := ch117.trans p475; replace ch304 := ch304.trans p475; replace ch338 := ch338.trans p475; clear p475 hs473
                 refine Rg_op rfl (op_assign (v := (Value.int .i64 write_1.2)) rfl ?_)
                 refine Rg_nil ?_
                 refine Wp_ret ?_
                 have hz := step_all hs476
                 replace f_l_records := f_l_records.step hz; replace f_y442_sectors := f_y442_sectors.step hz; replace f_y442_pending := f_y442_pending.step hz
                 refine ⟨_, (show Closes [] _ _ from rfl), [(Value.agg [(Value.slice none 0 0), (Value.int .i64 0), (Value.int .i64 0)].toArray), (Value.agg [(Value.slice none 0 0), (Value.slice none 0 0), (Value.int .i64 0), (Value.bool false)].toArray), (Value.int .i64 write_1.2)], ⟨resA (cs := [(Value.slice none 0 0), (Value.int .i64 0), (Value.int .i64 0)]) (vs := [(Value.slice none 0 0), (Value.int .i64 0), (Value.int .i64 0)]) ty52 (i := 1) hs476 rfl rfl rfl rfl, resA (cs := [(Value.slice none 0 0), (Value.slice none 0 0), (Value.int .i64 0), (Value.bool false)]) (vs := [(Value.slice none 0 0), (Value.slice none 0 0), (Value.int .i64 0), (Value.bool false)]) ty25 (i := 0) hs476 rfl rfl rfl rfl, rfl, trivial⟩, hs476.ext, ?_⟩
                 exact Vr.eq (a := (vT3 (vA rXJournal) (vA rXDisk) (vI .i64))) (x := ((⟨([] : List (List UInt8)), 0, 0⟩ : XJournal), (⟨([] : List (List UInt8)), ([] : List XWrite), 0, false⟩ : XDisk), write_1.2)) (mkT3 (mkA (mkVia (mk_pair (mk_sl SlR.nil_) (mk_pair (mk_int (show InK .i64 0 from by decide)) (mk_int (show InK .i64 0 from by decide)))))) (mkA (mkVia (mk_pair (mk_sl SlR.nil_) (mk_pair (mk_sl SlR.nil_) (mk_pair (mk_int (show InK .i64 0 from by decide)) mkBool))))) ⟨rfl, r_y439⟩) (Option.some.inj hm)
                ·
                 replace hm := bif_f hm hc470
                 refine Wp_skip ?_
                 refine Wp_seq ?_
                 refine Wp_region ?_
                 refine Rg_op rfl (op_move (v := (Value.slice a_y321 b_1.length c_y321)) rfl ?_)
                 refine Rg_op rfl (op_move (v := (Value.int .i64 (min (b_1.length : Int) 112))) rfl ?_)
                 replace hm := ck_some hm; obtain ⟨hc477, hm⟩ := hm
                 refine Rg_op rfl (op_slice (q := rU8) (l := (min (b_1.length : Int) 112).toNat) (h := b_1.length) (m := c_y321) ty41 ty5 rfl f_y321 rfl (bndI rfl (by omega)) rfl rfl (by decide) (by omega) (by omega) (by have h_ : b_1.length ≤ c_y321 := f_y321.le; omega) (by have h_ : b_1.length ≤ c_y321 := f_y321.le; omega) ?_)
                 intro a478 f479
                 refine Rg_op rfl (op_assign (v := (Value.slice a478 ((b_1.drop (min (b_1.length : Int) 112).toNat).take (b_1.length - (min (b_1.length : Int) 112).toNat)).length (c_y321 - (min (b_1.length : Int) 112).toNat))) rfl ?_)
                 refine Rg_op rfl (op_assign (v := (Value.int .u8 0)) rfl ?_)
                 refine Rg_nil ?_
                 clear f_y321
                 refine Wp_region ?_
                 refine Rg_op rfl (op_move (v := (Value.int .i64 at_2)) rfl ?_)
                 refine Rg_op rfl (op_addw rfl rfl ?_)
                 refine Rg_op rfl (op_assign (v := (Value.int .i64 (IntKind.wrap .i64 (at_2 + 1)))) rfl ?_)
                 refine Rg_nil ?_
                 refine Wp_region ?_
                 refine Rg_op rfl (op_move (v := (Value.int .i64 n_1)) rfl ?_)
                 refine Rg_op rfl (op_subw rfl rfl ?_)
                 refine Rg_op rfl (op_assign (v := (Value.int .i64 (IntKind.wrap .i64 (n_1 - 1)))) rfl ?_)
                 refine Rg_nil ?_
                 exact hK331 _ _ ⟨(IntKind.wrap .i64 (at_2 + 1)), ((b_1.drop (min (b_1.length : Int) 112).toNat).take (b_1.length - (min (b_1.length : Int) 112).toNat)), 0, (IntKind.wrap .i64 (n_1 - 1)), write_1.1.sectors, write_1.1.pending, write_1.1.left, write_1.1.stopped, a478, (c_y321 - (min (b_1.length : Int) 112).toNat), a_y442_sectors, c_y442_sectors, a_y442_pending, c_y442_pending, _, rfl, ⟨(by repeat (first | with_reducible exact Out.refl _ _ | refine Out.upd ?_ rfl | refine Out.updL ?_ rfl | refine Out.mix' ?_ rfl | exact Out.refl _ _)), rfl, rfl, rfl, rfl, rfl, trivial⟩, ch338, hs468, (inK_wrap .i64 _), f479, (inK_wrap .i64 _), f_y442_sectors, f_y442_pending, r_y442_left, jnE8 hsf330 hm⟩
               ·
                replace hm := bif_f hm hc340
                refine Wp_skip ?_
                refine Wp_seq ?_
                refine Wp_region ?_
                refine Rg_op rfl (op_move (v := (Value.slice a_y321 b_1.length c_y321)) rfl ?_)
                refine Rg_op rfl (op_len Try.underlying41 rfl ?_)
                have rl480 := inK_len f_y321
                refine Rg_op rfl (op_min rfl rfl ?_)
                refine Rg_op rfl (op_assign (v := (Value.int .i64 (min (b_1.length : Int) 112))) rfl ?_)
                refine Rg_nil ?_
                refine Wp_seq ?_
                refine Wp_seq ?_
                refine Wp_drawR (g0 := []) (m := 13) (fl := [12]) (TS_inv hs334) rfl (.inl rfl) rfl (by decide +kernel) ?_  -- 33
                refine Dw_eq (Value.agg [(Value.slice a_y324 v_9.length c_y324), (Value.slice a_y325 v_10.length c_y325), (Value.int .i64 v_11), (Value.bool v_12)].toArray) (fun ρ481 w482 g hle hi ht => ?_) ?_
                ·
                 obtain ⟨-, hst, -⟩ := hle
                 have hsn := (Step.nx hi).1
                 refine StepOp_plain (op_loadA (cs := [(Value.slice a_y324 v_9.length c_y324), (Value.slice a_y325 v_10.length c_y325), (Value.int .i64 v_11), (Value.bool v_12)]) (vs := [(Value.slice a_y324 v_9.length c_y324), (Value.slice a_y325 v_10.length c_y325), (Value.int .i64 v_11), (Value.bool v_12)]) (i := 2) ty25 hsn (ht 3 rfl) rfl rfl rfl ?_)
                 exact Goes.same hi rfl
                refine Dw_eq (Value.int .i64 at_2) (fun ρ484 w485 g hle hi ht => ?_) ?_
                ·
                 obtain ⟨-, hst, -⟩ := hle
                 refine StepOp_plain (op_move (v := (Value.int .i64 at_2)) (ht 13 rfl) ?_)
                 exact Goes.same hi rfl
                refine Dw_eq (Value.int .u64 generation_1) (fun ρ487 w488 g hle hi ht => ?_) ?_
                ·
                 obtain ⟨-, hst, -⟩ := hle
                 refine StepOp_plain (op_move (v := (Value.int .u64 generation_1)) (ht 10 rfl) ?_)
                 exact Goes.same hi rfl
                refine Dw_eq (Value.int .i64 at_2) (fun ρ490 w491 g hle hi ht => ?_) ?_
                ·
                 obtain ⟨-, hst, -⟩ := hle
                 refine StepOp_plain (op_move (v := (Value.int .i64 at_2)) (ht 13 rfl) ?_)
                 exact Goes.same hi rfl
                refine Dw_eq (Value.int .u8 (kind_1.toNat : Int)) (fun ρ493 w494 g hle hi ht => ?_) ?_
                ·
                 obtain ⟨-, hst, -⟩ := hle
                 refine StepOp_plain (op_move (v := (Value.int .u8 (kind_1.toNat : Int))) (ht 16 rfl) ?_)
                 exact Goes.same hi rfl
                refine Dw_eq (Value.slice a_y321 b_1.length c_y321) (fun ρ496 w497 g hle hi ht => ?_) ?_
                ·
                 obtain ⟨-, hst, -⟩ := hle
                 refine StepOp_plain (op_move (v := (Value.slice a_y321 b_1.length c_y321)) (ht 15 rfl) ?_)
                 exact Goes.same hi rfl
                refine Dw_eq (Value.int .i64 (min (b_1.length : Int) 112)) (fun ρ499 w500 g hle hi ht => ?_) ?_
                ·
                 obtain ⟨-, hst, -⟩ := hle
                 refine StepOp_plain (op_move (v := (Value.int .i64 (min (b_1.length : Int) 112))) (ht 18 rfl) ?_)
                 exact Goes.same hi rfl
                replace hm := ck_some hm; obtain ⟨hc505, hm⟩ := hm
                refine Dw_op (VD O [(some b16, Obj.cells [(Value.slice none 0 0), (Value.slice none 0 0), (Value.int .i64 0), (Value.bool false)].toArray 25), (some b11, Obj.cells [(Value.slice none 0 0), (Value.int .i64 0), (Value.int .i64 0)].toArray 52), (some b6, Obj.cells [(Value.slice a_y324 v_9.length c_y324), (Value.slice a_y325 v_10.length c_y325), (Value.int .i64 v_11), (Value.bool v_12)].toArray 25), (some b1, Obj.cells [(Value.slice a_l_records l.records.length c_l_records), (Value.int .i64 l.many), (Value.int .i64 l.synced)].toArray 52)] (vC (rSl rU8)) ((b_1.drop 0).take ((min (b_1.length : Int) 112).toNat - 0))) (VD.stab _ _) (fun ρ502 w503 g hle hi ht => ?_) ?_
                ·
                 obtain ⟨-, hst, -⟩ := hle
                 replace f_y321 := f_y321.step hst
                 refine StepOp_plain (op_slice (q := rU8) (l := 0) (h := (min (b_1.length : Int) 112).toNat) (m := c_y321) ty41 ty5 (ht 133 rfl) f_y321 rfl rfl (bndI (ht 134 rfl) (by omega)) rfl (by decide) (by omega) (by omega) (by have h_ : b_1.length ≤ c_y321 := f_y321.le; omega) (by have h_ : b_1.length ≤ c_y321 := f_y321.le; omega) ?_)
                 intro a506 f507
                 exact Goes.same hi (show Vr.vd (vC (rSl rU8)) _ _ _ _ from (mkC (mk_sl f507)))
                replace hm := bd hm; obtain ⟨encode_2, hv514, hm⟩ := hm
                refine Dw_op (VD O [(some b16, Obj.cells [(Value.slice none 0 0), (Value.slice none 0 0), (Value.int .i64 0), (Value.bool false)].toArray 25), (some b11, Obj.cells [(Value.slice none 0 0), (Value.int .i64 0), (Value.int .i64 0)].toArray 52), (some b6, Obj.cells [(Value.slice a_y324 v_9.length c_y324), (Value.slice a_y325 v_10.length c_y325), (Value.int .i64 v_11), (Value.bool v_12)].toArray 25), (some b1, Obj.cells [(Value.slice a_l_records l.records.length c_l_records), (Value.int .i64 l.many), (Value.int .i64 l.synced)].toArray 52)] (vC (rSl rU8)) encode_2) (VD.stab _ _) (fun ρ508 w509 g hle hi ht => ?_) ?_
                ·
                 obtain ⟨-, hst, -⟩ := hle
                 have h511 : Vr.vd (vC (rSl rU8)) _ _ _ _ := ht 135 rfl
                 obtain ⟨a_y513, c_y513, q512, f_y513⟩ := un_sl h511
                 refine StepOp_plain (op_call Try.call63 (c63_journal_encode (O := ks (ents g ++ [(some b16, Obj.cells [(Value.slice none 0 0), (Value.slice none 0 0), (Value.int .i64 0), (Value.bool false)].toArray 25), (some b11, Obj.cells [(Value.slice none 0 0), (Value.int .i64 0), (Value.int .i64 0)].toArray 52), (some b6, Obj.cells [(Value.slice a_y324 v_9.length c_y324), (Value.slice a_y325 v_10.length c_y325), (Value.int .i64 v_11), (Value.bool v_12)].toArray 25), (some b1, Obj.cells [(Value.slice a_l_records l.records.length c_l_records), (Value.int .i64 l.many), (Value.int .i64 l.synced)].toArray 52)]) O) (generation := generation_1) (number := at_2) (kind := kind_1) (b := ((b_1.drop 0).take ((min (b_1.length : Int) 112).toNat - 0))) hi.ltw r_y105 r_y320 f_y513 hv514) (by simp only [List.map, Array.toList, (show ev _ (.tmp 130) = _ from (ht 130 rfl)), (show ev _ (.tmp 131) = _ from (ht 131 rfl)), (show ev _ (.tmp 132) = _ from (ht 132 rfl)), (show ev _ (.tmp 135) = _ from q512)] <;> rfl) ?_)
                 rintro v515 w516 ⟨hx517, h518⟩
                 exact Goes.call hi hx517 h518
                replace hm := bd hm; obtain ⟨write_2, hv526, hm⟩ := hm
                refine Dw_op (VD O [(some b16, Obj.cells [(Value.slice none 0 0), (Value.slice none 0 0), (Value.int .i64 0), (Value.bool false)].toArray 25), (some b11, Obj.cells [(Value.slice none 0 0), (Value.int .i64 0), (Value.int .i64 0)].toArray 52), (some b6, Obj.cells [(Value.slice a_y324 v_9.length c_y324), (Value.slice a_y325 v_10.length c_y325), (Value.int .i64 v_11), (Value.bool v_12)].toArray 25), (some b1, Obj.cells [(Value.slice a_l_records l.records.length c_l_records), (Value.int .i64 l.many), (Value.int .i64 l.synced)].toArray 52)] (vT2 (vA rXDisk) (vI .i64)) write_2) (VD.stab _ _) (fun ρ520 w521 g hle hi ht => ?_) ?_
                ·
                 obtain ⟨-, hst, -⟩ := hle
                 replace f_y324 := f_y324.step hst; replace f_y325 := f_y325.step hst
                 have h523 : Vr.vd (vC (rSl rU8)) _ _ _ _ := ht 136 rfl
                 obtain ⟨a_y525, c_y525, q524, f_y525⟩ := un_sl h523
                 refine StepOp_plain (op_call Try.call23 (c23_disk_Write (O := ks (ents g ++ [(some b16, Obj.cells [(Value.slice none 0 0), (Value.slice none 0 0), (Value.int .i64 0), (Value.bool false)].toArray 25), (some b11, Obj.cells [(Value.slice none 0 0), (Value.int .i64 0), (Value.int .i64 0)].toArray 52), (some b6, Obj.cells [(Value.slice a_y324 v_9.length c_y324), (Value.slice a_y325 v_10.length c_y325), (Value.int .i64 v_11), (Value.bool v_12)].toArray 25), (some b1, Obj.cells [(Value.slice a_l_records l.records.length c_l_records), (Value.int .i64 l.many), (Value.int .i64 l.synced)].toArray 52)]) O) (d := (⟨v_9, v_10, v_11, v_12⟩ : XDisk)) (at_ := at_2) (b := encode_2) hi.ltw f_y324 f_y325 r_y326 r_y320 f_y525 hv526) (by simp only [List.map, Array.toList, (show ev _ (.tmp 128) = _ from (ht 128 rfl)), (show ev _ (.tmp 129) = _ from (ht 129 rfl)), (show ev _ (.tmp 136) = _ from q524)] <;> rfl) ?_)
                 rintro v527 w528 ⟨hx529, h530⟩
                 exact Goes.call hi hx529 h530
                refine Dw_op (VD O [(some b16, Obj.cells [(Value.slice none 0 0), (Value.slice none 0 0), (Value.int .i64 0), (Value.bool false)].toArray 25), (some b11, Obj.cells [(Value.slice none 0 0), (Value.int .i64 0), (Value.int .i64 0)].toArray 52), (some b6, Obj.cells [(Value.slice a_y324 v_9.length c_y324), (Value.slice a_y325 v_10.length c_y325), (Value.int .i64 v_11), (Value.bool v_12)].toArray 25), (some b1, Obj.cells [(Value.slice a_l_records l.records.length c_l_records), (Value.int .i64 l.many), (Value.int .i64 l.synced)].toArray 52)] (vT2 (vA rXDisk) (vI .i64)) write_2) (VD.stab _ _) (fun ρ532 w533 g hle hi ht => ?_) ?_
                ·
                 obtain ⟨-, hst, -⟩ := hle
                 have h : Vr.vd (vT2 (vA rXDisk) (vI .i64)) _ _ _ _ := ht 137 rfl
                 refine StepOp_plain (op_move rfl (Goes.same hi h))
                refine Dw_op (VD O [(some b16, Obj.cells [(Value.slice none 0 0), (Value.slice none 0 0), (Value.int .i64 0), (Value.bool false)].toArray 25), (some b11, Obj.cells [(Value.slice none 0 0), (Value.int .i64 0), (Value.int .i64 0)].toArray 52), (some b6, Obj.cells [(Value.slice a_y324 v_9.length c_y324), (Value.slice a_y325 v_10.length c_y325), (Value.int .i64 v_11), (Value.bool v_12)].toArray 25), (some b1, Obj.cells [(Value.slice a_l_records l.records.length c_l_records), (Value.int .i64 l.many), (Value.int .i64 l.synced)].toArray 52)] (vA rXDisk) write_2.1) (VD.stab _ _) (fun ρ543 w544 g hle hi ht => ?_) ?_
                ·
                 obtain ⟨-, hst, -⟩ := hle
                 have h546 : Vr.vd (vT2 (vA rXDisk) (vI .i64)) _ _ _ _ := ht 127 rfl
                 obtain ⟨v548, v549, q547, h550, h551⟩ := h546
                 obtain ⟨_, rfl, ⟨_, _, rfl, ⟨a_y552_sectors, c_y552_sectors, rfl, f_y552_sectors⟩, ⟨_, _, rfl, ⟨a_y552_pending, c_y552_pending, rfl, f_y552_pending⟩, ⟨_, _, rfl, ⟨rfl, r_y552_left⟩, rfl⟩⟩⟩⟩ := h550
                 obtain ⟨rfl, r_y553⟩ := h551
                 refine StepOp_plain (op_extract (v := (Value.agg [(Value.slice a_y552_sectors write_2.1.sectors.length c_y552_sectors), (Value.slice a_y552_pending write_2.1.pending.length c_y552_pending), (Value.int .i64 write_2.1.left), (Value.bool write_2.1.stopped)].toArray)) q547 rfl ?_)
                 exact Goes.same hi (show Vr.vd (vA rXDisk) _ _ _ _ from (mkA (mkVia (mk_pair (mk_sl f_y552_sectors) (mk_pair (mk_sl f_y552_pending) (mk_pair (mk_int r_y552_left) mkBool))))))
                refine Dw_op (VD O [(some b16, Obj.cells [(Value.slice none 0 0), (Value.slice none 0 0), (Value.int .i64 0), (Value.bool false)].toArray 25), (some b11, Obj.cells [(Value.slice none 0 0), (Value.int .i64 0), (Value.int .i64 0)].toArray 52), (some b6, Obj.cells [(Value.slice a_y324 v_9.length c_y324), (Value.slice a_y325 v_10.length c_y325), (Value.int .i64 v_11), (Value.bool v_12)].toArray 25), (some b1, Obj.cells [(Value.slice a_l_records l.records.length c_l_records), (Value.int .i64 l.many), (Value.int .i64 l.synced)].toArray 52)] (vI .i64) write_2.2) (VD.stab _ _) (fun ρ554 w555 g hle hi ht => ?_) ?_
                ·
                 obtain ⟨-, hst, -⟩ := hle
                 have h557 : Vr.vd (vT2 (vA rXDisk) (vI .i64)) _ _ _ _ := ht 127 rfl
                 obtain ⟨v559, v560, q558, h561, h562⟩ := h557
                 obtain ⟨_, rfl, ⟨_, _, rfl, ⟨a_y563_sectors, c_y563_sectors, rfl, f_y563_sectors⟩, ⟨_, _, rfl, ⟨a_y563_pending, c_y563_pending, rfl, f_y563_pending⟩, ⟨_, _, rfl, ⟨rfl, r_y563_left⟩, rfl⟩⟩⟩⟩ := h561
                 obtain ⟨rfl, r_y564⟩ := h562
                 refine StepOp_plain (op_extract (v := (Value.int .i64 write_2.2)) q558 rfl ?_)
                 exact Goes.same hi (show Vr.vd (vI .i64) _ _ _ _ from ⟨rfl, r_y564⟩)
                refine Dw_nil fun w569 g570 hl571 hi572 => ?_
                obtain ⟨-, hst573, -⟩ := hl571
                obtain ⟨hs575, p574⟩ := Step.nx hi572
                rintro v576 h577
                replace h577 : Vr.vd (vI .i64) _ _ _ _ := h577
                obtain ⟨rfl, r_y578⟩ := h577
                rintro v579 h580
                replace h580 : Vr.vd (vA rXDisk) _ _ _ _ := h580
                obtain ⟨_, rfl, ⟨_, _, rfl, ⟨a_y581_sectors, c_y581_sectors, rfl, f_y581_sectors⟩, ⟨_, _, rfl, ⟨a_y581_pending, c_y581_pending, rfl, f_y581_pending⟩, ⟨_, _, rfl, ⟨rfl, r_y581_left⟩, rfl⟩⟩⟩⟩ := h580
                rintro v582 h583
                replace h583 : Vr.vd (vT2 (vA rXDisk) (vI .i64)) _ _ _ _ := h583
                obtain ⟨v584, v585, rfl, h586, h587⟩ := h583
                obtain ⟨_, rfl, ⟨_, _, rfl, ⟨a_y588_sectors, c_y588_sectors, rfl, f_y588_sectors⟩, ⟨_, _, rfl, ⟨a_y588_pending, c_y588_pending, rfl, f_y588_pending⟩, ⟨_, _, rfl, ⟨rfl, r_y588_left⟩, rfl⟩⟩⟩⟩ := h586
                obtain ⟨rfl, r_y589⟩ := h587
                rintro v590 h591
                replace h591 : Vr.vd (vT2 (vA rXDisk) (vI .i64)) _ _ _ _ := h591
                obtain ⟨v592, v593, rfl, h594, h595⟩ := h591
                obtain ⟨_, rfl, ⟨_, _, rfl, ⟨a_y596_sectors, c_y596_sectors, rfl, f_y596_sectors⟩, ⟨_, _, rfl, ⟨a_y596_pending, c_y596_pending, rfl, f_y596_pending⟩, ⟨_, _, rfl, ⟨rfl, r_y596_left⟩, rfl⟩⟩⟩⟩ := h594
                obtain ⟨rfl, r_y597⟩ := h595
                rintro v598 h599
                replace h599 : Vr.vd (vC (rSl rU8)) _ _ _ _ := h599
                obtain ⟨a_y600, c_y600, rfl, f_y600⟩ := un_sl h599
                rintro v601 h602
                replace h602 : Vr.vd (vC (rSl rU8)) _ _ _ _ := h602
                obtain ⟨a_y603, c_y603, rfl, f_y603⟩ := un_sl h602
                rintro _ rfl
                rintro _ rfl
                rintro _ rfl
                rintro _ rfl
                rintro _ rfl
                rintro _ rfl
                rintro _ rfl
                have p604 : Step (ks [(some b16, Obj.cells [(Value.slice none 0 0), (Value.slice none 0 0), (Value.int .i64 0), (Value.bool false)].toArray 25), (some b11, Obj.cells [(Value.slice none 0 0), (Value.int .i64 0), (Value.int .i64 0)].toArray 52), (some b6, Obj.cells [(Value.slice a_y324 v_9.length c_y324), (Value.slice a_y325 v_10.length c_y325), (Value.int .i64 v_11), (Value.bool v_12)].toArray 25), (some b1, Obj.cells [(Value.slice a_l_records l.records.length c_l_records), (Value.int .i64 l.many), (Value.int .i64 l.synced)].toArray 52)] O) w333 (ks [(some b16, Obj.cells [(Value.slice none 0 0), (Value.slice none 0 0), (Value.int .i64 0), (Value.bool false)].toArray 25), (some b11, Obj.cells [(Value.slice none 0 0), (Value.int .i64 0), (Value.int .i64 0)].toArray 52), (some b6, Obj.cells [(Value.slice a_y324 v_9.length c_y324), (Value.slice a_y325 v_10.length c_y325), (Value.int .i64 v_11), (Value.bool v_12)].toArray 25), (some b1, Obj.cells [(Value.slice a_l_records l.records.length c_l_records), (Value.int .i64 l.many), (Value.int .i64 l.synced)].toArray 52)] O) w569 := hst573.trans p574
                replace f_y581_sectors := f_y581_sectors.step p574; replace f_y581_pending := f_y581_pending.step p574; replace f_y588_sectors := f_y588_sectors.step p574; replace f_y588_pending := f_y588_pending.step p574; replace f_y596_sectors := f_y596_sectors.step p574; replace f_y596_pending := f_y596_pending.step p574; replace f_y600 := f_y600.step p574; replace f_y603 := f_y603.step p574; replace f_l_records := f_l_records.step p604; replace f286 := f286.step p604; replace f_y321 := f_y321.step p604; replace f_y324 := f_y324.step p604; replace f_y325 := f_y325.step p604; replace ch117 := ch117.trans p604; replace ch304 := ch304.trans p604; replace ch338 := ch338.trans p604; clear p604 hs334
                refine Rg_op_ (op_store (cs := [(Value.slice a_y324 v_9.length c_y324), (Value.slice a_y325 v_10.length c_y325), (Value.int .i64 v_11), (Value.bool v_12)]) (vs := [(Value.slice a_y581_sectors write_2.1.sectors.length c_y581_sectors), (Value.slice a_y581_pending write_2.1.pending.length c_y581_pending), (Value.int .i64 write_2.1.left), (Value.bool write_2.1.stopped)]) (cs' := [(Value.slice a_y581_sectors write_2.1.sectors.length c_y581_sectors), (Value.slice a_y581_pending write_2.1.pending.length c_y581_pending), (Value.int .i64 write_2.1.left), (Value.bool write_2.1.stopped)]) (bs' := [(some b16, Obj.cells [(Value.slice none 0 0), (Value.slice none 0 0), (Value.int .i64 0), (Value.bool false)].toArray 25), (some b11, Obj.cells [(Value.slice none 0 0), (Value.int .i64 0), (Value.int .i64 0)].toArray 52), (some b6, Obj.cells [(Value.slice a_y581_sectors write_2.1.sectors.length c_y581_sectors), (Value.slice a_y581_pending write_2.1.pending.length c_y581_pending), (Value.int .i64 write_2.1.left), (Value.bool write_2.1.stopped)].toArray 25), (some b1, Obj.cells [(Value.slice a_l_records l.records.length c_l_records), (Value.int .i64 l.many), (Value.int .i64 l.synced)].toArray 52)]) (i := 2) ty25 hs575 rfl rfl rfl rfl rfl (le_lit rfl) rfl rfl rfl ?_)
                intro w605 p606 hs607
                replace f_l_records := f_l_records.step p606; replace f286 := f286.step p606; replace f_y321 := f_y321.step p606; replace f_y324 := f_y324.step p606; replace f_y325 := f_y325.step p606; replace f_y581_sectors := f_y581_sectors.step p606; replace f_y581_pending := f_y581_pending.step p606; replace f_y588_sectors := f_y588_sectors.step p606; replace f_y588_pending := f_y588_pending.step p606; replace f_y596_sectors := f_y596_sectors.step p606; replace f_y596_pending := f_y596_pending.step p606; replace f_y600 := f_y600.step p606; replace f_y603 := f_y603.step p606; replace ch117 := ch117.trans p606; replace ch304 := ch304.trans p606; replace ch338 := ch338.trans p606; clear p606 hs575
                refine Rg_op rfl (op_assign (v := (Value.int .i64 write_2.2)) rfl ?_)
                refine Rg_nil ?_
                refine Wp_seq ?_
                clear f_y324 f_y325 f_y588_sectors f_y588_pending f_y596_sectors f_y596_pending f_y600 f_y603
                refine Wp_region ?_
                refine Rg_op rfl (op_move (v := (Value.int .i64 write_2.2)) rfl ?_)
                refine Rg_op rfl (op_neq rfl rfl ?_)
                refine Rg_nil ?_
                refine Wp_cond rfl (fun hc608 => ?_) (fun hc608 => ?_)
                ·
                 replace hm := bif_t hm hc608
                 refine Wp_seq ?_
                 clear f286 f_y321
                 refine Wp_reset2 [6, 13, 15, 16, 17, 18, 116, 117, 118, 119, 120, 121, 122, 123, 124, 125, 126, 127, 128, 129, 130, 131, 132, 133, 134, 135, 136, 137, 138, 139, 140, 141, 142, 143, 144, 145, 146, 147, 148, 149] [] (updL (mix [6, 13, 15, 16, 17, 18, 110, 111, 112, 113, 114, 115, 116, 117, 118, 119, 120, 121, 122, 123, 124, 125, 126, 127, 128, 129, 130, 131, 132, 133, 134, 135, 136, 137, 138, 139, 140, 141, 142, 143, 144, 145, 146, 147, 148, 149, 150] [] ξ328 (updL ⟨ξ294, []⟩ [(2, (Value.pointer (some ⟨b1, 0, none⟩))), (3, (Value.pointer (some ⟨b6, 0, none⟩))), (4, (Value.pointer (some ⟨b11, 0, none⟩))), (5, (Value.pointer (some ⟨b16, 0, none⟩))), (10, (Value.int .u64 generation_1)), (13, (Value.int .i64 used_1)), (108, (Value.slice a285 ((l.records.drop l.synced.toNat).take (l.records.length - l.synced.toNat)).length (c_l_records - l.synced.toNat))), (109, (Value.int .i64 (((l.records.drop l.synced.toNat).take (l.records.length - l.synced.toNat)).length : Int))), (110, (Value.int .i64 0))])) [(13, (Value.int .i64 at_1)), (15, (Value.slice a_y311 (((l.records.drop l.synced.toNat).take (l.records.length - l.synced.toNat)).getD v_4.toNat default).length c_y311)), (16, (Value.int .u8 1)), (17, (Value.int .i64 sectors_1)), (110, (Value.int .i64 v_4))]) [(6, (Value.int .i64 write_2.2))] (by repeat (first | with_reducible exact Out.refl _ _ | refine Out.upd ?_ rfl | refine Out.updL ?_ rfl | refine Out.mix' ?_ rfl | exact Out.refl _ _)) rfl ⟨rfl, trivial⟩ fun ξ609 => ?_
                 refine Wp_region ?_
                 refine Rg_op rfl (op_build (vs := [(Value.slice none 0 0), (Value.int .i64 0), (Value.int .i64 0)]) (parts := []) ty52 pl52 rfl ?_)
                 refine Rg_op rfl (op_build (vs := [(Value.slice none 0 0), (Value.slice none 0 0), (Value.int .i64 0), (Value.bool false)]) (parts := []) ty25 pl25 rfl ?_)
                 refine Rg_op rfl (op_move (v := (Value.int .i64 write_2.2)) rfl ?_)
                 refine Rg_op_ (op_store (cs := [(Value.slice none 0 0), (Value.int .i64 0), (Value.int .i64 0)]) (vs := [(Value.slice none 0 0), (Value.int .i64 0), (Value.int .i64 0)]) (cs' := [(Value.slice none 0 0), (Value.int .i64 0), (Value.int .i64 0)]) (bs' := [(some b16, Obj.cells [(Value.slice none 0 0), (Value.slice none 0 0), (Value.int .i64 0), (Value.bool false)].toArray 25), (some b11, Obj.cells [(Value.slice none 0 0), (Value.int .i64 0), (Value.int .i64 0)].toArray 52), (some b6, Obj.cells [(Value.slice a_y581_sectors write_2.1.sectors.length c_y581_sectors), (Value.slice a_y581_pending write_2.1.pending.length c_y581_pending), (Value.int .i64 write_2.1.left), (Value.bool write_2.1.stopped)].toArray 25), (some b1, Obj.cells [(Value.slice a_l_records l.records.length c_l_records), (Value.int .i64 l.many), (Value.int .i64 l.synced)].toArray 52)]) (i := 1) ty52 hs607 rfl rfl rfl rfl rfl (le_lit rfl) rfl rfl rfl ?_)
                 intro w610 p611 hs612
                 replace f_l_records := f_l_records.step p611; replace f_y581_sectors := f_y581_sectors.step p611; replace f_y581_pending := f_y581_pending.step p611; replace ch117 := ch117.trans p611; replace ch304 := ch304.trans p611; replace ch338 := ch338.trans p611; clear p611 hs607
                 refine Rg_op_ (op_store (cs := [(Value.slice none 0 0), (Value.slice none 0 0), (Value.int .i64 0), (Value.bool false)]) (vs := [(Value.slice none 0 0), (Value.slice none 0 0), (Value.int .i64 0), (Value.bool false)]) (cs' := [(Value.slice none 0 0), (Value.slice none 0 0), (Value.int .i64 0), (Value.bool false)]) (bs' := [(some b16, Obj.cells [(Value.slice none 0 0), (Value.slice none 0 0), (Value.int .i64 0), (Value.bool false)].toArray 25), (some b11, Obj.cells [(Value.slice none 0 0), (Value.int .i64 0), (Value.int .i64 0)].toArray 52), (some b6, Obj.cells [(Value.slice a_y581_sectors write_2.1.sectors.length c_y581_sectors), (Value.slice a_y581_pending write_2.1.pending.length c_y581_pending), (Value.int .i64 write_2.1.left), (Value.bool write_2.1.stopped)].toArray 25), (some b1, Obj.cells [(Value.slice a_l_records l.records.length c_l_records), (Value.int .i64 l.many), (Value.int .i64 l.synced)].toArray 52)]) (i := 0) ty25 hs612 rfl rfl rfl rfl rfl (le_lit rfl) rfl rfl rfl ?_)
                 intro w613 p614 hs615
                 replace f_l_records := f_l_records.step p614; replace f_y581_sectors := f_y581_sectors.step p614; replace f_y581_pending := f_y581_pending.step p614; replace ch117 := ch117.trans p614; replace ch304 := ch304.trans p614; replace ch338 := ch338.trans p614; clear p614 hs612
                 refine Rg_op rfl (op_assign (v := (Value.int .i64 write_2.2)) rfl ?_)
                 refine Rg_nil ?_
                 refine Wp_ret ?_
                 have hz := step_all hs615
                 replace f_l_records := f_l_records.step hz; replace f_y581_sectors := f_y581_sectors.step hz; replace f_y581_pending := f_y581_pending.step hz
                 refine ⟨_, (show Closes [] _ _ from rfl), [(Value.agg [(Value.slice none 0 0), (Value.int .i64 0), (Value.int .i64 0)].toArray), (Value.agg [(Value.slice none 0 0), (Value.slice none 0 0), (Value.int .i64 0), (Value.bool false)].toArray), (Value.int .i64 write_2.2)], ⟨resA (cs := [(Value.slice none 0 0), (Value.int .i64 0), (Value.int .i64 0)]) (vs := [(Value.slice none 0 0), (Value.int .i64 0), (Value.int .i64 0)]) ty52 (i := 1) hs615 rfl rfl rfl rfl, resA (cs := [(Value.slice none 0 0), (Value.slice none 0 0), (Value.int .i64 0), (Value.bool false)]) (vs := [(Value.slice none 0 0), (Value.slice none 0 0), (Value.int .i64 0), (Value.bool false)]) ty25 (i := 0) hs615 rfl rfl rfl rfl, rfl, trivial⟩, hs615.ext, ?_⟩
                 exact Vr.eq (a := (vT3 (vA rXJournal) (vA rXDisk) (vI .i64))) (x := ((⟨([] : List (List UInt8)), 0, 0⟩ : XJournal), (⟨([] : List (List UInt8)), ([] : List XWrite), 0, false⟩ : XDisk), write_2.2)) (mkT3 (mkA (mkVia (mk_pair (mk_sl SlR.nil_) (mk_pair (mk_int (show InK .i64 0 from by decide)) (mk_int (show InK .i64 0 from by decide)))))) (mkA (mkVia (mk_pair (mk_sl SlR.nil_) (mk_pair (mk_sl SlR.nil_) (mk_pair (mk_int (show InK .i64 0 from by decide)) mkBool))))) ⟨rfl, r_y578⟩) (Option.some.inj hm)
                ·
                 replace hm := bif_f hm hc608
                 refine Wp_skip ?_
                 refine Wp_seq ?_
                 refine Wp_reset2 [6, 13, 15, 16, 17, 18, 116, 117, 118, 119, 120, 121, 122, 123, 124, 125, 126, 127, 128, 129, 130, 131, 132, 133, 134, 135, 136, 137, 138, 139, 140, 141, 142, 143, 144, 145, 146, 147, 148, 149] [] (updL (mix [6, 13, 15, 16, 17, 18, 110, 111, 112, 113, 114, 115, 116, 117, 118, 119, 120, 121, 122, 123, 124, 125, 126, 127, 128, 129, 130, 131, 132, 133, 134, 135, 136, 137, 138, 139, 140, 141, 142, 143, 144, 145, 146, 147, 148, 149, 150] [] ξ328 (updL ⟨ξ294, []⟩ [(2, (Value.pointer (some ⟨b1, 0, none⟩))), (3, (Value.pointer (some ⟨b6, 0, none⟩))), (4, (Value.pointer (some ⟨b11, 0, none⟩))), (5, (Value.pointer (some ⟨b16, 0, none⟩))), (10, (Value.int .u64 generation_1)), (13, (Value.int .i64 used_1)), (108, (Value.slice a285 ((l.records.drop l.synced.toNat).take (l.records.length - l.synced.toNat)).length (c_l_records - l.synced.toNat))), (109, (Value.int .i64 (((l.records.drop l.synced.toNat).take (l.records.length - l.synced.toNat)).length : Int))), (110, (Value.int .i64 0))])) [(13, (Value.int .i64 at_1)), (15, (Value.slice a_y311 (((l.records.drop l.synced.toNat).take (l.records.length - l.synced.toNat)).getD v_4.toNat default).length c_y311)), (16, (Value.int .u8 1)), (17, (Value.int .i64 sectors_1)), (110, (Value.int .i64 v_4))]) [(13, (Value.int .i64 at_2)), (15, (Value.slice a_y321 b_1.length c_y321)), (17, (Value.int .i64 n_1)), (18, (Value.int .i64 (min (b_1.length : Int) 112)))] (by repeat (first | with_reducible exact Out.refl _ _ | refine Out.upd ?_ rfl | refine Out.updL ?_ rfl | refine Out.mix' ?_ rfl | exact Out.refl _ _)) rfl ⟨rfl, rfl, rfl, rfl, trivial⟩ fun ξ616 => ?_
                 refine Wp_region ?_
                 refine Rg_op rfl (op_move (v := (Value.slice a_y321 b_1.length c_y321)) rfl ?_)
                 refine Rg_op rfl (op_move (v := (Value.int .i64 (min (b_1.length : Int) 112))) rfl ?_)
                 replace hm := ck_some hm; obtain ⟨hc617, hm⟩ := hm
                 refine Rg_op rfl (op_slice (q := rU8) (l := (min (b_1.length : Int) 112).toNat) (h := b_1.length) (m := c_y321) ty41 ty5 rfl f_y321 rfl (bndI rfl (by omega)) rfl rfl (by decide) (by omega) (by omega) (by have h_ : b_1.length ≤ c_y321 := f_y321.le; omega) (by have h_ : b_1.length ≤ c_y321 := f_y321.le; omega) ?_)
                 intro a618 f619
                 refine Rg_op rfl (op_assign (v := (Value.slice a618 ((b_1.drop (min (b_1.length : Int) 112).toNat).take (b_1.length - (min (b_1.length : Int) 112).toNat)).length (c_y321 - (min (b_1.length : Int) 112).toNat))) rfl ?_)
                 refine Rg_op rfl (op_assign (v := (Value.int .u8 0)) rfl ?_)
                 refine Rg_nil ?_
                 clear f_y321
                 refine Wp_region ?_
                 refine Rg_op rfl (op_move (v := (Value.int .i64 at_2)) rfl ?_)
                 refine Rg_op rfl (op_addw rfl rfl ?_)
                 refine Rg_op rfl (op_assign (v := (Value.int .i64 (IntKind.wrap .i64 (at_2 + 1)))) rfl ?_)
                 refine Rg_nil ?_
                 refine Wp_region ?_
                 refine Rg_op rfl (op_move (v := (Value.int .i64 n_1)) rfl ?_)
                 refine Rg_op rfl (op_subw rfl rfl ?_)
                 refine Rg_op rfl (op_assign (v := (Value.int .i64 (IntKind.wrap .i64 (n_1 - 1)))) rfl ?_)
                 refine Rg_nil ?_
                 exact hK331 _ _ ⟨(IntKind.wrap .i64 (at_2 + 1)), ((b_1.drop (min (b_1.length : Int) 112).toNat).take (b_1.length - (min (b_1.length : Int) 112).toNat)), 0, (IntKind.wrap .i64 (n_1 - 1)), write_2.1.sectors, write_2.1.pending, write_2.1.left, write_2.1.stopped, a618, (c_y321 - (min (b_1.length : Int) 112).toNat), a_y581_sectors, c_y581_sectors, a_y581_pending, c_y581_pending, _, rfl, ⟨(by repeat (first | with_reducible exact Out.refl _ _ | refine Out.upd ?_ rfl | refine Out.updL ?_ rfl | refine Out.mix' ?_ rfl | exact Out.refl _ _)), rfl, rfl, rfl, rfl, rfl, trivial⟩, ch338, hs607, (inK_wrap .i64 _), f619, (inK_wrap .i64 _), f_y581_sectors, f_y581_pending, r_y581_left, jnE8 hsf330 hm⟩
              ·
               replace hm := bif_f hm hc339
               refine Wp_exit ?_
               clear f_y321
               refine Wp_region ?_
               refine Rg_op rfl (op_addw rfl rfl ?_)
               refine Rg_op rfl (op_move (v := (Value.int .i64 (IntKind.wrap .i64 (v_4 + 1)))) rfl ?_)
               refine Rg_nil ?_
               exact hK297 _ _ ⟨at_2, (IntKind.wrap .i64 (v_4 + 1)), v_9, v_10, v_11, v_12, a_y324, c_y324, a_y325, c_y325, _, rfl, ⟨(by repeat (first | with_reducible exact Out.refl _ _ | refine Out.upd ?_ rfl | refine Out.updL ?_ rfl | refine Out.mix' ?_ rfl | exact Out.refl _ _)), rfl, rfl, rfl, trivial⟩, ch304, hs334, r_y320, (inK_wrap .i64 _), f_y324, f_y325, r_y326, jnE6 hsf296 hm⟩
            ·
             replace hm := bif_f hm hc305
             refine Wp_exit ?_
             refine Wp_seq ?_
             refine Wp_seq ?_
             clear f286
             refine Wp_region ?_
             refine Rg_op rfl (op_loadA (cs := [(Value.slice a_y290 v_5.length c_y290), (Value.slice a_y291 v_6.length c_y291), (Value.int .i64 v_7), (Value.bool v_8)]) (vs := [(Value.slice a_y290 v_5.length c_y290), (Value.slice a_y291 v_6.length c_y291), (Value.int .i64 v_7), (Value.bool v_8)]) (i := 2) ty25 hs300 rfl rfl rfl rfl ?_)
             replace hm := bd hm; obtain ⟨sync_1, hv620, hm⟩ := hm
             refine Rg_op rfl (op_call Try.call25 (c25_disk_Sync (d := (⟨v_5, v_6, v_7, v_8⟩ : XDisk)) hs300.ltw f_y290 f_y291 r_y292 hv620) rfl ?_)
             rintro v621 w622 ⟨hx623, h624⟩
             have hs625 := hs300.call hx623
             have p626 := Step.ext (O := ks [(some b16, Obj.cells [(Value.slice none 0 0), (Value.slice none 0 0), (Value.int .i64 0), (Value.bool false)].toArray 25), (some b11, Obj.cells [(Value.slice none 0 0), (Value.int .i64 0), (Value.int .i64 0)].toArray 52), (some b6, Obj.cells [(Value.slice a_y290 v_5.length c_y290), (Value.slice a_y291 v_6.length c_y291), (Value.int .i64 v_7), (Value.bool v_8)].toArray 25), (some b1, Obj.cells [(Value.slice a_l_records l.records.length c_l_records), (Value.int .i64 l.many), (Value.int .i64 l.synced)].toArray 52)] O) hx623
             clear hx623
             replace f_l_records := f_l_records.step p626; replace f_y290 := f_y290.step p626; replace f_y291 := f_y291.step p626; replace ch117 := ch117.trans p626; replace ch304 := ch304.trans p626; clear p626 hs300
             obtain ⟨v627, v628, rfl, h629, h630⟩ := h624
             obtain ⟨_, rfl, ⟨_, _, rfl, ⟨a_y631_sectors, c_y631_sectors, rfl, f_y631_sectors⟩, ⟨_, _, rfl, ⟨a_y631_pending, c_y631_pending, rfl, f_y631_pending⟩, ⟨_, _, rfl, ⟨rfl, r_y631_left⟩, rfl⟩⟩⟩⟩ := h629
             obtain ⟨rfl, r_y632⟩ := h630
             refine Rg_op rfl (op_move (v := (Value.tuple [(Value.agg [(Value.slice a_y631_sectors sync_1.1.sectors.length c_y631_sectors), (Value.slice a_y631_pending sync_1.1.pending.length c_y631_pending), (Value.int .i64 sync_1.1.left), (Value.bool sync_1.1.stopped)].toArray), (Value.int .i64 sync_1.2)].toArray)) rfl ?_)
             refine Rg_op rfl (op_extract (v := (Value.agg [(Value.slice a_y631_sectors sync_1.1.sectors.length c_y631_sectors), (Value.slice a_y631_pending sync_1.1.pending.length c_y631_pending), (Value.int .i64 sync_1.1.left), (Value.bool sync_1.1.stopped)].toArray)) rfl rfl ?_)
             refine Rg_op rfl (op_extract (v := (Value.int .i64 sync_1.2)) rfl rfl ?_)
             refine Rg_op_ (op_store (cs := [(Value.slice a_y290 v_5.length c_y290), (Value.slice a_y291 v_6.length c_y291), (Value.int .i64 v_7), (Value.bool v_8)]) (vs := [(Value.slice a_y631_sectors sync_1.1.sectors.length c_y631_sectors), (Value.slice a_y631_pending sync_1.1.pending.length c_y631_pending), (Value.int .i64 sync_1.1.left), (Value.bool sync_1.1.stopped)]) (cs' := [(Value.slice a_y631_sectors sync_1.1.sectors.length c_y631_sectors), (Value.slice a_y631_pending sync_1.1.pending.length c_y631_pending), (Value.int .i64 sync_1.1.left), (Value.bool sync_1.1.stopped)]) (bs' := [(some b16, Obj.cells [(Value.slice none 0 0), (Value.slice none 0 0), (Value.int .i64 0), (Value.bool false)].toArray 25), (some b11, Obj.cells [(Value.slice none 0 0), (Value.int .i64 0), (Value.int .i64 0)].toArray 52), (some b6, Obj.cells [(Value.slice a_y631_sectors sync_1.1.sectors.length c_y631_sectors), (Value.slice a_y631_pending sync_1.1.pending.length c_y631_pending), (Value.int .i64 sync_1.1.left), (Value.bool sync_1.1.stopped)].toArray 25), (some b1, Obj.cells [(Value.slice a_l_records l.records.length c_l_records), (Value.int .i64 l.many), (Value.int .i64 l.synced)].toArray 52)]) (i := 2) ty25 hs625 rfl rfl rfl rfl rfl (le_lit rfl) rfl rfl rfl ?_)
             intro w633 p634 hs635
             replace f_l_records := f_l_records.step p634; replace f_y290 := f_y290.step p634; replace f_y291 := f_y291.step p634; replace f_y631_sectors := f_y631_sectors.step p634; replace f_y631_pending := f_y631_pending.step p634; replace ch117 := ch117.trans p634; replace ch304 := ch304.trans p634; clear p634 hs625
             refine Rg_op rfl (op_assign (v := (Value.int .i64 sync_1.2)) rfl ?_)
             refine Rg_nil ?_
             refine Wp_seq ?_
             clear f_y290 f_y291
             refine Wp_region ?_
             refine Rg_op rfl (op_move (v := (Value.int .i64 sync_1.2)) rfl ?_)
             refine Rg_op rfl (op_neq rfl rfl ?_)
             refine Rg_nil ?_
             refine Wp_cond rfl (fun hc636 => ?_) (fun hc636 => ?_)
             ·
              replace hm := bif_t hm hc636
              refine Wp_seq ?_
              obtain ⟨hs637, p638⟩ := hs635.sub (bs' := [(some b16, Obj.cells [(Value.slice none 0 0), (Value.slice none 0 0), (Value.int .i64 0), (Value.bool false)].toArray 25), (some b11, Obj.cells [(Value.slice none 0 0), (Value.int .i64 0), (Value.int .i64 0)].toArray 52), (some b6, Obj.cells [(Value.slice a_y631_sectors sync_1.1.sectors.length c_y631_sectors), (Value.slice a_y631_pending sync_1.1.pending.length c_y631_pending), (Value.int .i64 sync_1.1.left), (Value.bool sync_1.1.stopped)].toArray 25)]) (.cons_cons _ (.cons_cons _ (.cons_cons _ (.cons _ List.Sublist.slnil))))
              clear f_l_records
              replace f_y631_sectors := f_y631_sectors.step p638; replace f_y631_pending := f_y631_pending.step p638; replace ch117 := ch117.trans p638; replace ch304 := ch304.trans p638; clear p638 hs635
              refine Wp_drawLR (g0 := []) (m := 3) (fl := [2]) (f := 1) (TS_inv hs637) rfl (.inl rfl) rfl (by decide +kernel) rfl ?_  -- 41
              refine Dw_eq (Value.agg [(Value.slice none 0 0), (Value.int .i64 0), (Value.int .i64 0)].toArray) (fun ρ639 w640 g hle hi ht => ?_) ?_
              ·
               obtain ⟨-, hst, -⟩ := hle
               refine StepOp_plain (op_build (vs := [(Value.slice none 0 0), (Value.int .i64 0), (Value.int .i64 0)]) (parts := []) ty52 pl52 (by simp only [List.map]; rfl) ?_)
               exact Goes.same hi rfl
              refine Dw_eq (Value.agg [(Value.slice a_y631_sectors sync_1.1.sectors.length c_y631_sectors), (Value.slice a_y631_pending sync_1.1.pending.length c_y631_pending), (Value.int .i64 sync_1.1.left), (Value.bool sync_1.1.stopped)].toArray) (fun ρ642 w643 g hle hi ht => ?_) ?_
              ·
               obtain ⟨-, hst, -⟩ := hle
               have hsn := (Step.nx hi).1
               refine StepOp_plain (op_loadA (cs := [(Value.slice a_y631_sectors sync_1.1.sectors.length c_y631_sectors), (Value.slice a_y631_pending sync_1.1.pending.length c_y631_pending), (Value.int .i64 sync_1.1.left), (Value.bool sync_1.1.stopped)]) (vs := [(Value.slice a_y631_sectors sync_1.1.sectors.length c_y631_sectors), (Value.slice a_y631_pending sync_1.1.pending.length c_y631_pending), (Value.int .i64 sync_1.1.left), (Value.bool sync_1.1.stopped)]) (i := 2) ty25 hsn (ht 3 rfl) rfl rfl rfl ?_)
               exact Goes.same hi rfl
              refine Dw_eq (Value.int .i64 sync_1.2) (fun ρ645 w646 g hle hi ht => ?_) ?_
              ·
               obtain ⟨-, hst, -⟩ := hle
               refine StepOp_plain (op_move (v := (Value.int .i64 sync_1.2)) (ht 6 rfl) ?_)
               exact Goes.same hi rfl
              refine Dw_nilL (fun w648 g649 hl650 hi651 => ?_) (fun w648 g649 hl650 hi651 => ?_)
              ·
               obtain ⟨-, hst656, -⟩ := hl650
               obtain ⟨hs658, p657⟩ := Step.nx hi651
               rintro _ rfl
               rintro _ rfl
               rintro _ rfl
               have p659 : Step (ks [(some b16, Obj.cells [(Value.slice none 0 0), (Value.slice none 0 0), (Value.int .i64 0), (Value.bool false)].toArray 25), (some b11, Obj.cells [(Value.slice none 0 0), (Value.int .i64 0), (Value.int .i64 0)].toArray 52), (some b6, Obj.cells [(Value.slice a_y631_sectors sync_1.1.sectors.length c_y631_sectors), (Value.slice a_y631_pending sync_1.1.pending.length c_y631_pending), (Value.int .i64 sync_1.1.left), (Value.bool sync_1.1.stopped)].toArray 25)] O) w633 (ks [(some b16, Obj.cells [(Value.slice none 0 0), (Value.slice none 0 0), (Value.int .i64 0), (Value.bool false)].toArray 25), (some b11, Obj.cells [(Value.slice none 0 0), (Value.int .i64 0), (Value.int .i64 0)].toArray 52), (some b6, Obj.cells [(Value.slice a_y631_sectors sync_1.1.sectors.length c_y631_sectors), (Value.slice a_y631_pending sync_1.1.pending.length c_y631_pending), (Value.int .i64 sync_1.1.left), (Value.bool sync_1.1.stopped)].toArray 25)] O) w648 := hst656.trans p657
               replace f_y631_sectors := f_y631_sectors.step p659; replace f_y631_pending := f_y631_pending.step p659; replace ch117 := ch117.trans p659; replace ch304 := ch304.trans p659; clear p659 hs637
               refine Rg_op_ (op_store (cs := [(Value.slice none 0 0), (Value.int .i64 0), (Value.int .i64 0)]) (vs := [(Value.slice none 0 0), (Value.int .i64 0), (Value.int .i64 0)]) (cs' := [(Value.slice none 0 0), (Value.int .i64 0), (Value.int .i64 0)]) (bs' := [(some b16, Obj.cells [(Value.slice none 0 0), (Value.slice none 0 0), (Value.int .i64 0), (Value.bool false)].toArray 25), (some b11, Obj.cells [(Value.slice none 0 0), (Value.int .i64 0), (Value.int .i64 0)].toArray 52), (some b6, Obj.cells [(Value.slice a_y631_sectors sync_1.1.sectors.length c_y631_sectors), (Value.slice a_y631_pending sync_1.1.pending.length c_y631_pending), (Value.int .i64 sync_1.1.left), (Value.bool sync_1.1.stopped)].toArray 25)]) (i := 1) ty52 hs658 rfl rfl rfl rfl rfl (le_lit rfl) rfl rfl rfl ?_)
               intro w660 p661 hs662
               replace f_y631_sectors := f_y631_sectors.step p661; replace f_y631_pending := f_y631_pending.step p661; replace ch117 := ch117.trans p661; replace ch304 := ch304.trans p661; clear p661 hs658
               refine Rg_op_ (op_store (cs := [(Value.slice none 0 0), (Value.slice none 0 0), (Value.int .i64 0), (Value.bool false)]) (vs := [(Value.slice a_y631_sectors sync_1.1.sectors.length c_y631_sectors), (Value.slice a_y631_pending sync_1.1.pending.length c_y631_pending), (Value.int .i64 sync_1.1.left), (Value.bool sync_1.1.stopped)]) (cs' := [(Value.slice a_y631_sectors sync_1.1.sectors.length c_y631_sectors), (Value.slice a_y631_pending sync_1.1.pending.length c_y631_pending), (Value.int .i64 sync_1.1.left), (Value.bool sync_1.1.stopped)]) (bs' := [(some b16, Obj.cells [(Value.slice a_y631_sectors sync_1.1.sectors.length c_y631_sectors), (Value.slice a_y631_pending sync_1.1.pending.length c_y631_pending), (Value.int .i64 sync_1.1.left), (Value.bool sync_1.1.stopped)].toArray 25), (some b11, Obj.cells [(Value.slice none 0 0), (Value.int .i64 0), (Value.int .i64 0)].toArray 52), (some b6, Obj.cells [(Value.slice a_y631_sectors sync_1.1.sectors.length c_y631_sectors), (Value.slice a_y631_pending sync_1.1.pending.length c_y631_pending), (Value.int .i64 sync_1.1.left), (Value.bool sync_1.1.stopped)].toArray 25)]) (i := 0) ty25 hs662 rfl rfl rfl rfl rfl (le_lit rfl) rfl rfl rfl ?_)
               intro w663 p664 hs665
               replace f_y631_sectors := f_y631_sectors.step p664; replace f_y631_pending := f_y631_pending.step p664; replace ch117 := ch117.trans p664; replace ch304 := ch304.trans p664; clear p664 hs662
               refine Rg_op rfl (op_assign (v := (Value.int .i64 sync_1.2)) rfl ?_)
               refine Rg_nil ?_
               refine Wp_ret ?_
               have hz := step_all hs665
               replace f_y631_sectors := f_y631_sectors.step hz; replace f_y631_pending := f_y631_pending.step hz
               refine ⟨_, (show Closes [] _ _ from rfl), [(Value.agg [(Value.slice none 0 0), (Value.int .i64 0), (Value.int .i64 0)].toArray), (Value.agg [(Value.slice a_y631_sectors sync_1.1.sectors.length c_y631_sectors), (Value.slice a_y631_pending sync_1.1.pending.length c_y631_pending), (Value.int .i64 sync_1.1.left), (Value.bool sync_1.1.stopped)].toArray), (Value.int .i64 sync_1.2)], ⟨resA (cs := [(Value.slice none 0 0), (Value.int .i64 0), (Value.int .i64 0)]) (vs := [(Value.slice none 0 0), (Value.int .i64 0), (Value.int .i64 0)]) ty52 (i := 1) hs665 rfl rfl rfl rfl, resA (cs := [(Value.slice a_y631_sectors sync_1.1.sectors.length c_y631_sectors), (Value.slice a_y631_pending sync_1.1.pending.length c_y631_pending), (Value.int .i64 sync_1.1.left), (Value.bool sync_1.1.stopped)]) (vs := [(Value.slice a_y631_sectors sync_1.1.sectors.length c_y631_sectors), (Value.slice a_y631_pending sync_1.1.pending.length c_y631_pending), (Value.int .i64 sync_1.1.left), (Value.bool sync_1.1.stopped)]) ty25 (i := 0) hs665 rfl rfl rfl rfl, rfl, trivial⟩, hs665.ext, ?_⟩
               exact Vr.eq (a := (vT3 (vA rXJournal) (vA rXDisk) (vI .i64))) (x := ((⟨([] : List (List UInt8)), 0, 0⟩ : XJournal), sync_1.1, sync_1.2)) (mkT3 (mkA (mkVia (mk_pair (mk_sl SlR.nil_) (mk_pair (mk_int (show InK .i64 0 from by decide)) (mk_int (show InK .i64 0 from by decide)))))) (mkA (mkVia (mk_pair (mk_sl f_y631_sectors) (mk_pair (mk_sl f_y631_pending) (mk_pair (mk_int r_y631_left) mkBool))))) ⟨rfl, r_y632⟩) (Option.some.inj hm)
              ·
               obtain ⟨-, hst670, -⟩ := hl650
               obtain ⟨hs672, p671⟩ := Step.nx hi651
               rintro _ rfl
               rintro _ rfl
               have p673 : Step (ks [(some b16, Obj.cells [(Value.slice none 0 0), (Value.slice none 0 0), (Value.int .i64 0), (Value.bool false)].toArray 25), (some b11, Obj.cells [(Value.slice none 0 0), (Value.int .i64 0), (Value.int .i64 0)].toArray 52), (some b6, Obj.cells [(Value.slice a_y631_sectors sync_1.1.sectors.length c_y631_sectors), (Value.slice a_y631_pending sync_1.1.pending.length c_y631_pending), (Value.int .i64 sync_1.1.left), (Value.bool sync_1.1.stopped)].toArray 25)] O) w633 (ks [(some b16, Obj.cells [(Value.slice none 0 0), (Value.slice none 0 0), (Value.int .i64 0), (Value.bool false)].toArray 25), (some b11, Obj.cells [(Value.slice none 0 0), (Value.int .i64 0), (Value.int .i64 0)].toArray 52), (some b6, Obj.cells [(Value.slice a_y631_sectors sync_1.1.sectors.length c_y631_sectors), (Value.slice a_y631_pending sync_1.1.pending.length c_y631_pending), (Value.int .i64 sync_1.1.left), (Value.bool sync_1.1.stopped)].toArray 25)] O) w648 := hst670.trans p671
               replace f_y631_sectors := f_y631_sectors.step p673; replace f_y631_pending := f_y631_pending.step p673; replace ch117 := ch117.trans p673; replace ch304 := ch304.trans p673; clear p673 hs637
               refine TailP_go rfl rfl (by decide) rfl (by decide) ?_ ?_
               ·
                refine StepOp_plain_ (op_store (cs := [(Value.slice none 0 0), (Value.int .i64 0), (Value.int .i64 0)]) (vs := [(Value.slice none 0 0), (Value.int .i64 0), (Value.int .i64 0)]) (cs' := [(Value.slice none 0 0), (Value.int .i64 0), (Value.int .i64 0)]) (bs' := [(some b16, Obj.cells [(Value.slice none 0 0), (Value.slice none 0 0), (Value.int .i64 0), (Value.bool false)].toArray 25), (some b11, Obj.cells [(Value.slice none 0 0), (Value.int .i64 0), (Value.int .i64 0)].toArray 52), (some b6, Obj.cells [(Value.slice a_y631_sectors sync_1.1.sectors.length c_y631_sectors), (Value.slice a_y631_pending sync_1.1.pending.length c_y631_pending), (Value.int .i64 sync_1.1.left), (Value.bool sync_1.1.stopped)].toArray 25)]) (i := 1) ty52 hs672 rfl rfl rfl rfl rfl (le_lit rfl) rfl rfl rfl ?_)
                intro w674 p675 hs676
                replace f_y631_sectors := f_y631_sectors.step p675; replace f_y631_pending := f_y631_pending.step p675; replace ch117 := ch117.trans p675; replace ch304 := ch304.trans p675; clear p675 hs672
                refine TailP_fin rfl (by decide) (.inr (by decide +kernel)) ?_
                refine StepOp_plain (op_loadA (cs := [(Value.slice a_y631_sectors sync_1.1.sectors.length c_y631_sectors), (Value.slice a_y631_pending sync_1.1.pending.length c_y631_pending), (Value.int .i64 sync_1.1.left), (Value.bool sync_1.1.stopped)]) (vs := [(Value.slice a_y631_sectors sync_1.1.sectors.length c_y631_sectors), (Value.slice a_y631_pending sync_1.1.pending.length c_y631_pending), (Value.int .i64 sync_1.1.left), (Value.bool sync_1.1.stopped)]) (i := 2) ty25 hs676 rfl rfl rfl rfl ?_)
                refine Rg_op_ (op_store (cs := [(Value.slice none 0 0), (Value.slice none 0 0), (Value.int .i64 0), (Value.bool false)]) (vs := [(Value.slice a_y631_sectors sync_1.1.sectors.length c_y631_sectors), (Value.slice a_y631_pending sync_1.1.pending.length c_y631_pending), (Value.int .i64 sync_1.1.left), (Value.bool sync_1.1.stopped)]) (cs' := [(Value.slice a_y631_sectors sync_1.1.sectors.length c_y631_sectors), (Value.slice a_y631_pending sync_1.1.pending.length c_y631_pending), (Value.int .i64 sync_1.1.left), (Value.bool sync_1.1.stopped)]) (bs' := [(some b16, Obj.cells [(Value.slice a_y631_sectors sync_1.1.sectors.length c_y631_sectors), (Value.slice a_y631_pending sync_1.1.pending.length c_y631_pending), (Value.int .i64 sync_1.1.left), (Value.bool sync_1.1.stopped)].toArray 25), (some b11, Obj.cells [(Value.slice none 0 0), (Value.int .i64 0), (Value.int .i64 0)].toArray 52), (some b6, Obj.cells [(Value.slice a_y631_sectors sync_1.1.sectors.length c_y631_sectors), (Value.slice a_y631_pending sync_1.1.pending.length c_y631_pending), (Value.int .i64 sync_1.1.left), (Value.bool sync_1.1.stopped)].toArray 25)]) (i := 0) ty25 hs676 rfl rfl rfl rfl rfl (le_lit rfl) rfl rfl rfl ?_)
                intro w677 p678 hs679
                replace f_y631_sectors := f_y631_sectors.step p678; replace f_y631_pending := f_y631_pending.step p678; replace ch117 := ch117.trans p678; replace ch304 := ch304.trans p678; clear p678 hs676
                refine Rg_op rfl (op_assign (v := (Value.int .i64 sync_1.2)) rfl ?_)
                refine Rg_nil ?_
                refine Wp_ret ?_
                have hz := step_all hs679
                replace f_y631_sectors := f_y631_sectors.step hz; replace f_y631_pending := f_y631_pending.step hz
                refine ⟨_, (show Closes [] _ _ from rfl), [(Value.agg [(Value.slice none 0 0), (Value.int .i64 0), (Value.int .i64 0)].toArray), (Value.agg [(Value.slice a_y631_sectors sync_1.1.sectors.length c_y631_sectors), (Value.slice a_y631_pending sync_1.1.pending.length c_y631_pending), (Value.int .i64 sync_1.1.left), (Value.bool sync_1.1.stopped)].toArray), (Value.int .i64 sync_1.2)], ⟨resA (cs := [(Value.slice none 0 0), (Value.int .i64 0), (Value.int .i64 0)]) (vs := [(Value.slice none 0 0), (Value.int .i64 0), (Value.int .i64 0)]) ty52 (i := 1) hs679 rfl rfl rfl rfl, resA (cs := [(Value.slice a_y631_sectors sync_1.1.sectors.length c_y631_sectors), (Value.slice a_y631_pending sync_1.1.pending.length c_y631_pending), (Value.int .i64 sync_1.1.left), (Value.bool sync_1.1.stopped)]) (vs := [(Value.slice a_y631_sectors sync_1.1.sectors.length c_y631_sectors), (Value.slice a_y631_pending sync_1.1.pending.length c_y631_pending), (Value.int .i64 sync_1.1.left), (Value.bool sync_1.1.stopped)]) ty25 (i := 0) hs679 rfl rfl rfl rfl, rfl, trivial⟩, hs679.ext, ?_⟩
                exact Vr.eq (a := (vT3 (vA rXJournal) (vA rXDisk) (vI .i64))) (x := ((⟨([] : List (List UInt8)), 0, 0⟩ : XJournal), sync_1.1, sync_1.2)) (mkT3 (mkA (mkVia (mk_pair (mk_sl SlR.nil_) (mk_pair (mk_int (show InK .i64 0 from by decide)) (mk_int (show InK .i64 0 from by decide)))))) (mkA (mkVia (mk_pair (mk_sl f_y631_sectors) (mk_pair (mk_sl f_y631_pending) (mk_pair (mk_int r_y631_left) mkBool))))) ⟨rfl, r_y632⟩) (Option.some.inj hm)
               ·
                refine StepOp_plain (op_loadA (cs := [(Value.slice a_y631_sectors sync_1.1.sectors.length c_y631_sectors), (Value.slice a_y631_pending sync_1.1.pending.length c_y631_pending), (Value.int .i64 sync_1.1.left), (Value.bool sync_1.1.stopped)]) (vs := [(Value.slice a_y631_sectors sync_1.1.sectors.length c_y631_sectors), (Value.slice a_y631_pending sync_1.1.pending.length c_y631_pending), (Value.int .i64 sync_1.1.left), (Value.bool sync_1.1.stopped)]) (i := 2) ty25 hs672 rfl rfl rfl rfl ?_)
                refine Rg_op_ (op_store (cs := [(Value.slice none 0 0), (Value.int .i64 0), (Value.int .i64 0)]) (vs := [(Value.slice none 0 0), (Value.int .i64 0), (Value.int .i64 0)]) (cs' := [(Value.slice none 0 0), (Value.int .i64 0), (Value.int .i64 0)]) (bs' := [(some b16, Obj.cells [(Value.slice none 0 0), (Value.slice none 0 0), (Value.int .i64 0), (Value.bool false)].toArray 25), (some b11, Obj.cells [(Value.slice none 0 0), (Value.int .i64 0), (Value.int .i64 0)].toArray 52), (some b6, Obj.cells [(Value.slice a_y631_sectors sync_1.1.sectors.length c_y631_sectors), (Value.slice a_y631_pending sync_1.1.pending.length c_y631_pending), (Value.int .i64 sync_1.1.left), (Value.bool sync_1.1.stopped)].toArray 25)]) (i := 1) ty52 hs672 rfl rfl rfl rfl rfl (le_lit rfl) rfl rfl rfl ?_)
                intro w680 p681 hs682
                replace f_y631_sectors := f_y631_sectors.step p681; replace f_y631_pending := f_y631_pending.step p681; replace ch117 := ch117.trans p681; replace ch304 := ch304.trans p681; clear p681 hs672
                refine Rg_op_ (op_store (cs := [(Value.slice none 0 0), (Value.slice none 0 0), (Value.int .i64 0), (Value.bool false)]) (vs := [(Value.slice a_y631_sectors sync_1.1.sectors.length c_y631_sectors), (Value.slice a_y631_pending sync_1.1.pending.length c_y631_pending), (Value.int .i64 sync_1.1.left), (Value.bool sync_1.1.stopped)]) (cs' := [(Value.slice a_y631_sectors sync_1.1.sectors.length c_y631_sectors), (Value.slice a_y631_pending sync_1.1.pending.length c_y631_pending), (Value.int .i64 sync_1.1.left), (Value.bool sync_1.1.stopped)]) (bs' := [(some b16, Obj.cells [(Value.slice a_y631_sectors sync_1.1.sectors.length c_y631_sectors), (Value.slice a_y631_pending sync_1.1.pending.length c_y631_pending), (Value.int .i64 sync_1.1.left), (Value.bool sync_1.1.stopped)].toArray 25), (some b11, Obj.cells [(Value.slice none 0 0), (Value.int .i64 0), (Value.int .i64 0)].toArray 52), (some b6, Obj.cells [(Value.slice a_y631_sectors sync_1.1.sectors.length c_y631_sectors), (Value.slice a_y631_pending sync_1.1.pending.length c_y631_pending), (Value.int .i64 sync_1.1.left), (Value.bool sync_1.1.stopped)].toArray 25)]) (i := 0) ty25 hs682 rfl rfl rfl rfl rfl (le_lit rfl) rfl rfl rfl ?_)
                intro w683 p684 hs685
                replace f_y631_sectors := f_y631_sectors.step p684; replace f_y631_pending := f_y631_pending.step p684; replace ch117 := ch117.trans p684; replace ch304 := ch304.trans p684; clear p684 hs682
                refine Rg_op rfl (op_assign (v := (Value.int .i64 sync_1.2)) rfl ?_)
                refine Rg_nil ?_
                refine Wp_ret ?_
                have hz := step_all hs685
                replace f_y631_sectors := f_y631_sectors.step hz; replace f_y631_pending := f_y631_pending.step hz
                refine ⟨_, (show Closes [] _ _ from rfl), [(Value.agg [(Value.slice none 0 0), (Value.int .i64 0), (Value.int .i64 0)].toArray), (Value.agg [(Value.slice a_y631_sectors sync_1.1.sectors.length c_y631_sectors), (Value.slice a_y631_pending sync_1.1.pending.length c_y631_pending), (Value.int .i64 sync_1.1.left), (Value.bool sync_1.1.stopped)].toArray), (Value.int .i64 sync_1.2)], ⟨resA (cs := [(Value.slice none 0 0), (Value.int .i64 0), (Value.int .i64 0)]) (vs := [(Value.slice none 0 0), (Value.int .i64 0), (Value.int .i64 0)]) ty52 (i := 1) hs685 rfl rfl rfl rfl, resA (cs := [(Value.slice a_y631_sectors sync_1.1.sectors.length c_y631_sectors), (Value.slice a_y631_pending sync_1.1.pending.length c_y631_pending), (Value.int .i64 sync_1.1.left), (Value.bool sync_1.1.stopped)]) (vs := [(Value.slice a_y631_sectors sync_1.1.sectors.length c_y631_sectors), (Value.slice a_y631_pending sync_1.1.pending.length c_y631_pending), (Value.int .i64 sync_1.1.left), (Value.bool sync_1.1.stopped)]) ty25 (i := 0) hs685 rfl rfl rfl rfl, rfl, trivial⟩, hs685.ext, ?_⟩
                exact Vr.eq (a := (vT3 (vA rXJournal) (vA rXDisk) (vI .i64))) (x := ((⟨([] : List (List UInt8)), 0, 0⟩ : XJournal), sync_1.1, sync_1.2)) (mkT3 (mkA (mkVia (mk_pair (mk_sl SlR.nil_) (mk_pair (mk_int (show InK .i64 0 from by decide)) (mk_int (show InK .i64 0 from by decide)))))) (mkA (mkVia (mk_pair (mk_sl f_y631_sectors) (mk_pair (mk_sl f_y631_pending) (mk_pair (mk_int r_y631_left) mkBool))))) ⟨rfl, r_y632⟩) (Option.some.inj hm)
             ·
              replace hm := bif_f hm hc636
              refine Wp_skip ?_
              refine Wp_seq ?_
              refine Wp_region ?_
              refine Rg_op rfl (op_fieldAddr ty52 rfl ty22 (by decide) rfl (rfl : _ = (⟨_, 0, none⟩ : Addr)) ?_)
              refine Rg_op rfl (op_load (cs := [(Value.slice a_l_records l.records.length c_l_records), (Value.int .i64 l.many), (Value.int .i64 l.synced)]) (i := 3) ty22 hs635 rfl rfl rfl ?_)
              refine Rg_op rfl (op_len Try.underlying22 rfl ?_)
              have rl686 := inK_len f_l_records
              refine Rg_op rfl (op_fieldAddr ty52 rfl ty3 (by decide) rfl (rfl : _ = (⟨_, 2, none⟩ : Addr)) ?_)
              refine Rg_op_ (op_store (cs := [(Value.slice a_l_records l.records.length c_l_records), (Value.int .i64 l.many), (Value.int .i64 l.synced)]) (vs := [(Value.int .i64 (l.records.length : Int))]) (cs' := [(Value.slice a_l_records l.records.length c_l_records), (Value.int .i64 l.many), (Value.int .i64 (l.records.length : Int))]) (bs' := [(some b16, Obj.cells [(Value.slice none 0 0), (Value.slice none 0 0), (Value.int .i64 0), (Value.bool false)].toArray 25), (some b11, Obj.cells [(Value.slice none 0 0), (Value.int .i64 0), (Value.int .i64 0)].toArray 52), (some b6, Obj.cells [(Value.slice a_y631_sectors sync_1.1.sectors.length c_y631_sectors), (Value.slice a_y631_pending sync_1.1.pending.length c_y631_pending), (Value.int .i64 sync_1.1.left), (Value.bool sync_1.1.stopped)].toArray 25), (some b1, Obj.cells [(Value.slice a_l_records l.records.length c_l_records), (Value.int .i64 l.many), (Value.int .i64 (l.records.length : Int))].toArray 52)]) (i := 3) ty3 hs635 rfl rfl rfl rfl rfl (le_lit rfl) rfl rfl rfl ?_)
              intro w687 p688 hs689
              replace f_l_records := f_l_records.step p688; replace f_y631_sectors := f_y631_sectors.step p688; replace f_y631_pending := f_y631_pending.step p688; replace ch117 := ch117.trans p688; replace ch304 := ch304.trans p688; clear p688 hs635
              refine Rg_nil ?_
              refine Wp_seq ?_
              refine Wp_drawLR (g0 := []) (m := 2) (fl := []) (f := 1) (TS_inv hs689) rfl (.inl rfl) rfl (by decide +kernel) rfl ?_  -- 43
              refine Dw_eq (Value.agg [(Value.slice a_l_records l.records.length c_l_records), (Value.int .i64 l.many), (Value.int .i64 (l.records.length : Int))].toArray) (fun ρ690 w691 g hle hi ht => ?_) ?_
              ·
               obtain ⟨-, hst, -⟩ := hle
               have hsn := (Step.nx hi).1
               refine StepOp_plain (op_loadA (cs := [(Value.slice a_l_records l.records.length c_l_records), (Value.int .i64 l.many), (Value.int .i64 (l.records.length : Int))]) (vs := [(Value.slice a_l_records l.records.length c_l_records), (Value.int .i64 l.many), (Value.int .i64 (l.records.length : Int))]) (i := 3) ty52 hsn (ht 2 rfl) rfl rfl rfl ?_)
               exact Goes.same hi rfl
              refine Dw_eq (Value.agg [(Value.slice a_y631_sectors sync_1.1.sectors.length c_y631_sectors), (Value.slice a_y631_pending sync_1.1.pending.length c_y631_pending), (Value.int .i64 sync_1.1.left), (Value.bool sync_1.1.stopped)].toArray) (fun ρ693 w694 g hle hi ht => ?_) ?_
              ·
               obtain ⟨-, hst, -⟩ := hle
               have hsn := (Step.nx hi).1
               refine StepOp_plain (op_loadA (cs := [(Value.slice a_y631_sectors sync_1.1.sectors.length c_y631_sectors), (Value.slice a_y631_pending sync_1.1.pending.length c_y631_pending), (Value.int .i64 sync_1.1.left), (Value.bool sync_1.1.stopped)]) (vs := [(Value.slice a_y631_sectors sync_1.1.sectors.length c_y631_sectors), (Value.slice a_y631_pending sync_1.1.pending.length c_y631_pending), (Value.int .i64 sync_1.1.left), (Value.bool sync_1.1.stopped)]) (i := 2) ty25 hsn (ht 3 rfl) rfl rfl rfl ?_)
               exact Goes.same hi rfl
              refine Dw_nilL (fun w696 g697 hl698 hi699 => ?_) (fun w696 g697 hl698 hi699 => ?_)
              ·
               obtain ⟨-, hst704, -⟩ := hl698
               obtain ⟨hs706, p705⟩ := Step.nx hi699
               rintro _ rfl
               rintro _ rfl
               have p707 : Step (ks [(some b16, Obj.cells [(Value.slice none 0 0), (Value.slice none 0 0), (Value.int .i64 0), (Value.bool false)].toArray 25), (some b11, Obj.cells [(Value.slice none 0 0), (Value.int .i64 0), (Value.int .i64 0)].toArray 52), (some b6, Obj.cells [(Value.slice a_y631_sectors sync_1.1.sectors.length c_y631_sectors), (Value.slice a_y631_pending sync_1.1.pending.length c_y631_pending), (Value.int .i64 sync_1.1.left), (Value.bool sync_1.1.stopped)].toArray 25), (some b1, Obj.cells [(Value.slice a_l_records l.records.length c_l_records), (Value.int .i64 l.many), (Value.int .i64 (l.records.length : Int))].toArray 52)] O) w687 (ks [(some b16, Obj.cells [(Value.slice none 0 0), (Value.slice none 0 0), (Value.int .i64 0), (Value.bool false)].toArray 25), (some b11, Obj.cells [(Value.slice none 0 0), (Value.int .i64 0), (Value.int .i64 0)].toArray 52), (some b6, Obj.cells [(Value.slice a_y631_sectors sync_1.1.sectors.length c_y631_sectors), (Value.slice a_y631_pending sync_1.1.pending.length c_y631_pending), (Value.int .i64 sync_1.1.left), (Value.bool sync_1.1.stopped)].toArray 25), (some b1, Obj.cells [(Value.slice a_l_records l.records.length c_l_records), (Value.int .i64 l.many), (Value.int .i64 (l.records.length : Int))].toArray 52)] O) w696 := hst704.trans p705
               replace f_l_records := f_l_records.step p707; replace f_y631_sectors := f_y631_sectors.step p707; replace f_y631_pending := f_y631_pending.step p707; replace ch117 := ch117.trans p707; replace ch304 := ch304.trans p707; clear p707 hs689
               refine Rg_op_ (op_store (cs := [(Value.slice none 0 0), (Value.int .i64 0), (Value.int .i64 0)]) (vs := [(Value.slice a_l_records l.records.length c_l_records), (Value.int .i64 l.many), (Value.int .i64 (l.records.length : Int))]) (cs' := [(Value.slice a_l_records l.records.length c_l_records), (Value.int .i64 l.many), (Value.int .i64 (l.records.length : Int))]) (bs' := [(some b16, Obj.cells [(Value.slice none 0 0), (Value.slice none 0 0), (Value.int .i64 0), (Value.bool false)].toArray 25), (some b11, Obj.cells [(Value.slice a_l_records l.records.length c_l_records), (Value.int .i64 l.many), (Value.int .i64 (l.records.length : Int))].toArray 52), (some b6, Obj.cells [(Value.slice a_y631_sectors sync_1.1.sectors.length c_y631_sectors), (Value.slice a_y631_pending sync_1.1.pending.length c_y631_pending), (Value.int .i64 sync_1.1.left), (Value.bool sync_1.1.stopped)].toArray 25), (some b1, Obj.cells [(Value.slice a_l_records l.records.length c_l_records), (Value.int .i64 l.many), (Value.int .i64 (l.records.length : Int))].toArray 52)]) (i := 1) ty52 hs706 rfl rfl rfl rfl rfl (le_lit rfl) rfl rfl rfl ?_)
               intro w708 p709 hs710
               replace f_l_records := f_l_records.step p709; replace f_y631_sectors := f_y631_sectors.step p709; replace f_y631_pending := f_y631_pending.step p709; replace ch117 := ch117.trans p709; replace ch304 := ch304.trans p709; clear p709 hs706
               refine Rg_op_ (op_store (cs := [(Value.slice none 0 0), (Value.slice none 0 0), (Value.int .i64 0), (Value.bool false)]) (vs := [(Value.slice a_y631_sectors sync_1.1.sectors.length c_y631_sectors), (Value.slice a_y631_pending sync_1.1.pending.length c_y631_pending), (Value.int .i64 sync_1.1.left), (Value.bool sync_1.1.stopped)]) (cs' := [(Value.slice a_y631_sectors sync_1.1.sectors.length c_y631_sectors), (Value.slice a_y631_pending sync_1.1.pending.length c_y631_pending), (Value.int .i64 sync_1.1.left), (Value.bool sync_1.1.stopped)]) (bs' := [(some b16, Obj.cells [(Value.slice a_y631_sectors sync_1.1.sectors.length c_y631_sectors), (Value.slice a_y631_pending sync_1.1.pending.length c_y631_pending), (Value.int .i64 sync_1.1.left), (Value.bool sync_1.1.stopped)].toArray 25), (some b11, Obj.cells [(Value.slice a_l_records l.records.length c_l_records), (Value.int .i64 l.many), (Value.int .i64 (l.records.length : Int))].toArray 52), (some b6, Obj.cells [(Value.slice a_y631_sectors sync_1.1.sectors.length c_y631_sectors), (Value.slice a_y631_pending sync_1.1.pending.length c_y631_pending), (Value.int .i64 sync_1.1.left), (Value.bool sync_1.1.stopped)].toArray 25), (some b1, Obj.cells [(Value.slice a_l_records l.records.length c_l_records), (Value.int .i64 l.many), (Value.int .i64 (l.records.length : Int))].toArray 52)]) (i := 0) ty25 hs710 rfl rfl rfl rfl rfl (le_lit rfl) rfl rfl rfl ?_)
               intro w711 p712 hs713
               replace f_l_records := f_l_records.step p712; replace f_y631_sectors := f_y631_sectors.step p712; replace f_y631_pending := f_y631_pending.step p712; replace ch117 := ch117.trans p712; replace ch304 := ch304.trans p712; clear p712 hs710
               refine Rg_op rfl (op_assign (v := (Value.int .i64 0)) rfl ?_)
               refine Rg_nil ?_
               refine Wp_ret ?_
               have hz := step_all hs713
               replace f_l_records := f_l_records.step hz; replace f_y631_sectors := f_y631_sectors.step hz; replace f_y631_pending := f_y631_pending.step hz
               refine ⟨_, (show Closes [] _ _ from rfl), [(Value.agg [(Value.slice a_l_records l.records.length c_l_records), (Value.int .i64 l.many), (Value.int .i64 (l.records.length : Int))].toArray), (Value.agg [(Value.slice a_y631_sectors sync_1.1.sectors.length c_y631_sectors), (Value.slice a_y631_pending sync_1.1.pending.length c_y631_pending), (Value.int .i64 sync_1.1.left), (Value.bool sync_1.1.stopped)].toArray), (Value.int .i64 0)], ⟨resA (cs := [(Value.slice a_l_records l.records.length c_l_records), (Value.int .i64 l.many), (Value.int .i64 (l.records.length : Int))]) (vs := [(Value.slice a_l_records l.records.length c_l_records), (Value.int .i64 l.many), (Value.int .i64 (l.records.length : Int))]) ty52 (i := 1) hs713 rfl rfl rfl rfl, resA (cs := [(Value.slice a_y631_sectors sync_1.1.sectors.length c_y631_sectors), (Value.slice a_y631_pending sync_1.1.pending.length c_y631_pending), (Value.int .i64 sync_1.1.left), (Value.bool sync_1.1.stopped)]) (vs := [(Value.slice a_y631_sectors sync_1.1.sectors.length c_y631_sectors), (Value.slice a_y631_pending sync_1.1.pending.length c_y631_pending), (Value.int .i64 sync_1.1.left), (Value.bool sync_1.1.stopped)]) ty25 (i := 0) hs713 rfl rfl rfl rfl, rfl, trivial⟩, hs713.ext, ?_⟩
               exact Vr.eq (a := (vT3 (vA rXJournal) (vA rXDisk) (vI .i64))) (x := ((⟨l.records, l.many, (l.records.length : Int)⟩ : XJournal), sync_1.1, 0)) (mkT3 (mkA (mkVia (mk_pair (mk_sl f_l_records) (mk_pair (mk_int r_l_many) (mk_int rl686))))) (mkA (mkVia (mk_pair (mk_sl f_y631_sectors) (mk_pair (mk_sl f_y631_pending) (mk_pair (mk_int r_y631_left) mkBool))))) ⟨rfl, (show InK .i64 0 from by decide)⟩) (Option.some.inj hm)
              ·
               obtain ⟨-, hst718, -⟩ := hl698
               obtain ⟨hs720, p719⟩ := Step.nx hi699
               rintro _ rfl
               have p721 : Step (ks [(some b16, Obj.cells [(Value.slice none 0 0), (Value.slice none 0 0), (Value.int .i64 0), (Value.bool false)].toArray 25), (some b11, Obj.cells [(Value.slice none 0 0), (Value.int .i64 0), (Value.int .i64 0)].toArray 52), (some b6, Obj.cells [(Value.slice a_y631_sectors sync_1.1.sectors.length c_y631_sectors), (Value.slice a_y631_pending sync_1.1.pending.length c_y631_pending), (Value.int .i64 sync_1.1.left), (Value.bool sync_1.1.stopped)].toArray 25), (some b1, Obj.cells [(Value.slice a_l_records l.records.length c_l_records), (Value.int .i64 l.many), (Value.int .i64 (l.records.length : Int))].toArray 52)] O) w687 (ks [(some b16, Obj.cells [(Value.slice none 0 0), (Value.slice none 0 0), (Value.int .i64 0), (Value.bool false)].toArray 25), (some b11, Obj.cells [(Value.slice none 0 0), (Value.int .i64 0), (Value.int .i64 0)].toArray 52), (some b6, Obj.cells [(Value.slice a_y631_sectors sync_1.1.sectors.length c_y631_sectors), (Value.slice a_y631_pending sync_1.1.pending.length c_y631_pending), (Value.int .i64 sync_1.1.left), (Value.bool sync_1.1.stopped)].toArray 25), (some b1, Obj.cells [(Value.slice a_l_records l.records.length c_l_records), (Value.int .i64 l.many), (Value.int .i64 (l.records.length : Int))].toArray 52)] O) w696 := hst718.trans p719
               replace f_l_records := f_l_records.step p721; replace f_y631_sectors := f_y631_sectors.step p721; replace f_y631_pending := f_y631_pending.step p721; replace ch117 := ch117.trans p721; replace ch304 := ch304.trans p721; clear p721 hs689
               refine TailP_go rfl rfl (by decide) rfl (by decide) ?_ ?_
               ·
                refine StepOp_plain_ (op_store (cs := [(Value.slice none 0 0), (Value.int .i64 0), (Value.int .i64 0)]) (vs := [(Value.slice a_l_records l.records.length c_l_records), (Value.int .i64 l.many), (Value.int .i64 (l.records.length : Int))]) (cs' := [(Value.slice a_l_records l.records.length c_l_records), (Value.int .i64 l.many), (Value.int .i64 (l.records.length : Int))]) (bs' := [(some b16, Obj.cells [(Value.slice none 0 0), (Value.slice none 0 0), (Value.int .i64 0), (Value.bool false)].toArray 25), (some b11, Obj.cells [(Value.slice a_l_records l.records.length c_l_records), (Value.int .i64 l.many), (Value.int .i64 (l.records.length : Int))].toArray 52), (some b6, Obj.cells [(Value.slice a_y631_sectors sync_1.1.sectors.length c_y631_sectors), (Value.slice a_y631_pending sync_1.1.pending.length c_y631_pending), (Value.int .i64 sync_1.1.left), (Value.bool sync_1.1.stopped)].toArray 25), (some b1, Obj.cells [(Value.slice a_l_records l.records.length c_l_records), (Value.int .i64 l.many), (Value.int .i64 (l.records.length : Int))].toArray 52)]) (i := 1) ty52 hs720 rfl rfl rfl rfl rfl (le_lit rfl) rfl rfl rfl ?_)
                intro w722 p723 hs724
                replace f_l_records := f_l_records.step p723; replace f_y631_sectors := f_y631_sectors.step p723; replace f_y631_pending := f_y631_pending.step p723; replace ch117 := ch117.trans p723; replace ch304 := ch304.trans p723; clear p723 hs720
                refine TailP_fin rfl (by decide) (.inr (by decide +kernel)) ?_
                refine StepOp_plain (op_loadA (cs := [(Value.slice a_y631_sectors sync_1.1.sectors.length c_y631_sectors), (Value.slice a_y631_pending sync_1.1.pending.length c_y631_pending), (Value.int .i64 sync_1.1.left), (Value.bool sync_1.1.stopped)]) (vs := [(Value.slice a_y631_sectors sync_1.1.sectors.length c_y631_sectors), (Value.slice a_y631_pending sync_1.1.pending.length c_y631_pending), (Value.int .i64 sync_1.1.left), (Value.bool sync_1.1.stopped)]) (i := 2) ty25 hs724 rfl rfl rfl rfl ?_)
                refine Rg_op_ (op_store (cs := [(Value.slice none 0 0), (Value.slice none 0 0), (Value.int .i64 0), (Value.bool false)]) (vs := [(Value.slice a_y631_sectors sync_1.1.sectors.length c_y631_sectors), (Value.slice a_y631_pending sync_1.1.pending.length c_y631_pending), (Value.int .i64 sync_1.1.left), (Value.bool sync_1.1.stopped)]) (cs' := [(Value.slice a_y631_sectors sync_1.1.sectors.length c_y631_sectors), (Value.slice a_y631_pending sync_1.1.pending.length c_y631_pending), (Value.int .i64 sync_1.1.left), (Value.bool sync_1.1.stopped)]) (bs' := [(some b16, Obj.cells [(Value.slice a_y631_sectors sync_1.1.sectors.length c_y631_sectors), (Value.slice a_y631_pending sync_1.1.pending.length c_y631_pending), (Value.int .i64 sync_1.1.left), (Value.bool sync_1.1.stopped)].toArray 25), (some b11, Obj.cells [(Value.slice a_l_records l.records.length c_l_records), (Value.int .i64 l.many), (Value.int .i64 (l.records.length : Int))].toArray 52), (some b6, Obj.cells [(Value.slice a_y631_sectors sync_1.1.sectors.length c_y631_sectors), (Value.slice a_y631_pending sync_1.1.pending.length c_y631_pending), (Value.int .i64 sync_1.1.left), (Value.bool sync_1.1.stopped)].toArray 25), (some b1, Obj.cells [(Value.slice a_l_records l.records.length c_l_records), (Value.int .i64 l.many), (Value.int .i64 (l.records.length : Int))].toArray 52)]) (i := 0) ty25 hs724 rfl rfl rfl rfl rfl (le_lit rfl) rfl rfl rfl ?_)
                intro w725 p726 hs727
                replace f_l_records := f_l_records.step p726; replace f_y631_sectors := f_y631_sectors.step p726; replace f_y631_pending := f_y631_pending.step p726; replace ch117 := ch117.trans p726; replace ch304 := ch304.trans p726; clear p726 hs724
                refine Rg_op rfl (op_assign (v := (Value.int .i64 0)) rfl ?_)
                refine Rg_nil ?_
                refine Wp_ret ?_
                have hz := step_all hs727
                replace f_l_records := f_l_records.step hz; replace f_y631_sectors := f_y631_sectors.step hz; replace f_y631_pending := f_y631_pending.step hz
                refine ⟨_, (show Closes [] _ _ from rfl), [(Value.agg [(Value.slice a_l_records l.records.length c_l_records), (Value.int .i64 l.many), (Value.int .i64 (l.records.length : Int))].toArray), (Value.agg [(Value.slice a_y631_sectors sync_1.1.sectors.length c_y631_sectors), (Value.slice a_y631_pending sync_1.1.pending.length c_y631_pending), (Value.int .i64 sync_1.1.left), (Value.bool sync_1.1.stopped)].toArray), (Value.int .i64 0)], ⟨resA (cs := [(Value.slice a_l_records l.records.length c_l_records), (Value.int .i64 l.many), (Value.int .i64 (l.records.length : Int))]) (vs := [(Value.slice a_l_records l.records.length c_l_records), (Value.int .i64 l.many), (Value.int .i64 (l.records.length : Int))]) ty52 (i := 1) hs727 rfl rfl rfl rfl, resA (cs := [(Value.slice a_y631_sectors sync_1.1.sectors.length c_y631_sectors), (Value.slice a_y631_pending sync_1.1.pending.length c_y631_pending), (Value.int .i64 sync_1.1.left), (Value.bool sync_1.1.stopped)]) (vs := [(Value.slice a_y631_sectors sync_1.1.sectors.length c_y631_sectors), (Value.slice a_y631_pending sync_1.1.pending.length c_y631_pending), (Value.int .i64 sync_1.1.left), (Value.bool sync_1.1.stopped)]) ty25 (i := 0) hs727 rfl rfl rfl rfl, rfl, trivial⟩, hs727.ext, ?_⟩
                exact Vr.eq (a := (vT3 (vA rXJournal) (vA rXDisk) (vI .i64))) (x := ((⟨l.records, l.many, (l.records.length : Int)⟩ : XJournal), sync_1.1, 0)) (mkT3 (mkA (mkVia (mk_pair (mk_sl f_l_records) (mk_pair (mk_int r_l_many) (mk_int rl686))))) (mkA (mkVia (mk_pair (mk_sl f_y631_sectors) (mk_pair (mk_sl f_y631_pending) (mk_pair (mk_int r_y631_left) mkBool))))) ⟨rfl, (show InK .i64 0 from by decide)⟩) (Option.some.inj hm)
               ·
                refine StepOp_plain (op_loadA (cs := [(Value.slice a_y631_sectors sync_1.1.sectors.length c_y631_sectors), (Value.slice a_y631_pending sync_1.1.pending.length c_y631_pending), (Value.int .i64 sync_1.1.left), (Value.bool sync_1.1.stopped)]) (vs := [(Value.slice a_y631_sectors sync_1.1.sectors.length c_y631_sectors), (Value.slice a_y631_pending sync_1.1.pending.length c_y631_pending), (Value.int .i64 sync_1.1.left), (Value.bool sync_1.1.stopped)]) (i := 2) ty25 hs720 rfl rfl rfl rfl ?_)
                refine Rg_op_ (op_store (cs := [(Value.slice none 0 0), (Value.int .i64 0), (Value.int .i64 0)]) (vs := [(Value.slice a_l_records l.records.length c_l_records), (Value.int .i64 l.many), (Value.int .i64 (l.records.length : Int))]) (cs' := [(Value.slice a_l_records l.records.length c_l_records), (Value.int .i64 l.many), (Value.int .i64 (l.records.length : Int))]) (bs' := [(some b16, Obj.cells [(Value.slice none 0 0), (Value.slice none 0 0), (Value.int .i64 0), (Value.bool false)].toArray 25), (some b11, Obj.cells [(Value.slice a_l_records l.records.length c_l_records), (Value.int .i64 l.many), (Value.int .i64 (l.records.length : Int))].toArray 52), (some b6, Obj.cells [(Value.slice a_y631_sectors sync_1.1.sectors.length c_y631_sectors), (Value.slice a_y631_pending sync_1.1.pending.length c_y631_pending), (Value.int .i64 sync_1.1.left), (Value.bool sync_1.1.stopped)].toArray 25), (some b1, Obj.cells [(Value.slice a_l_records l.records.length c_l_records), (Value.int .i64 l.many), (Value.int .i64 (l.records.length : Int))].toArray 52)]) (i := 1) ty52 hs720 rfl rfl rfl rfl rfl (le_lit rfl) rfl rfl rfl ?_)
                intro w728 p729 hs730
                replace f_l_records := f_l_records.step p729; replace f_y631_sectors := f_y631_sectors.step p729; replace f_y631_pending := f_y631_pending.step p729; replace ch117 := ch117.trans p729; replace ch304 := ch304.trans p729; clear p729 hs720
                refine Rg_op_ (op_store (cs := [(Value.slice none 0 0), (Value.slice none 0 0), (Value.int .i64 0), (Value.bool false)]) (vs := [(Value.slice a_y631_sectors sync_1.1.sectors.length c_y631_sectors), (Value.slice a_y631_pending sync_1.1.pending.length c_y631_pending), (Value.int .i64 sync_1.1.left), (Value.bool sync_1.1.stopped)]) (cs' := [(Value.slice a_y631_sectors sync_1.1.sectors.length c_y631_sectors), (Value.slice a_y631_pending sync_1.1.pending.length c_y631_pending), (Value.int .i64 sync_1.1.left), (Value.bool sync_1.1.stopped)]) (bs' := [(some b16, Obj.cells [(Value.slice a_y631_sectors sync_1.1.sectors.length c_y631_sectors), (Value.slice a_y631_pending sync_1.1.pending.length c_y631_pending), (Value.int .i64 sync_1.1.left), (Value.bool sync_1.1.stopped)].toArray 25), (some b11, Obj.cells [(Value.slice a_l_records l.records.length c_l_records), (Value.int .i64 l.many), (Value.int .i64 (l.records.length : Int))].toArray 52), (some b6, Obj.cells [(Value.slice a_y631_sectors sync_1.1.sectors.length c_y631_sectors), (Value.slice a_y631_pending sync_1.1.pending.length c_y631_pending), (Value.int .i64 sync_1.1.left), (Value.bool sync_1.1.stopped)].toArray 25), (some b1, Obj.cells [(Value.slice a_l_records l.records.length c_l_records), (Value.int .i64 l.many), (Value.int .i64 (l.records.length : Int))].toArray 52)]) (i := 0) ty25 hs730 rfl rfl rfl rfl rfl (le_lit rfl) rfl rfl rfl ?_)
                intro w731 p732 hs733
                replace f_l_records := f_l_records.step p732; replace f_y631_sectors := f_y631_sectors.step p732; replace f_y631_pending := f_y631_pending.step p732; replace ch117 := ch117.trans p732; replace ch304 := ch304.trans p732; clear p732 hs730
                refine Rg_op rfl (op_assign (v := (Value.int .i64 0)) rfl ?_)
                refine Rg_nil ?_
                refine Wp_ret ?_
                have hz := step_all hs733
                replace f_l_records := f_l_records.step hz; replace f_y631_sectors := f_y631_sectors.step hz; replace f_y631_pending := f_y631_pending.step hz
                refine ⟨_, (show Closes [] _ _ from rfl), [(Value.agg [(Value.slice a_l_records l.records.length c_l_records), (Value.int .i64 l.many), (Value.int .i64 (l.records.length : Int))].toArray), (Value.agg [(Value.slice a_y631_sectors sync_1.1.sectors.length c_y631_sectors), (Value.slice a_y631_pending sync_1.1.pending.length c_y631_pending), (Value.int .i64 sync_1.1.left), (Value.bool sync_1.1.stopped)].toArray), (Value.int .i64 0)], ⟨resA (cs := [(Value.slice a_l_records l.records.length c_l_records), (Value.int .i64 l.many), (Value.int .i64 (l.records.length : Int))]) (vs := [(Value.slice a_l_records l.records.length c_l_records), (Value.int .i64 l.many), (Value.int .i64 (l.records.length : Int))]) ty52 (i := 1) hs733 rfl rfl rfl rfl, resA (cs := [(Value.slice a_y631_sectors sync_1.1.sectors.length c_y631_sectors), (Value.slice a_y631_pending sync_1.1.pending.length c_y631_pending), (Value.int .i64 sync_1.1.left), (Value.bool sync_1.1.stopped)]) (vs := [(Value.slice a_y631_sectors sync_1.1.sectors.length c_y631_sectors), (Value.slice a_y631_pending sync_1.1.pending.length c_y631_pending), (Value.int .i64 sync_1.1.left), (Value.bool sync_1.1.stopped)]) ty25 (i := 0) hs733 rfl rfl rfl rfl, rfl, trivial⟩, hs733.ext, ?_⟩
                exact Vr.eq (a := (vT3 (vA rXJournal) (vA rXDisk) (vI .i64))) (x := ((⟨l.records, l.many, (l.records.length : Int)⟩ : XJournal), sync_1.1, 0)) (mkT3 (mkA (mkVia (mk_pair (mk_sl f_l_records) (mk_pair (mk_int r_l_many) (mk_int rl686))))) (mkA (mkVia (mk_pair (mk_sl f_y631_sectors) (mk_pair (mk_sl f_y631_pending) (mk_pair (mk_int r_y631_left) mkBool))))) ⟨rfl, (show InK .i64 0 from by decide)⟩) (Option.some.inj hm)
        ·
         intro K210 hK210
         have ch734 := Step.refl (ks [(some b87, Obj.cells [(Value.slice a_y85_records open_1.1.records.length c_y85_records), (Value.int .i64 open_1.1.many), (Value.int .i64 open_1.1.synced)].toArray 52), (some b16, Obj.cells [(Value.slice none 0 0), (Value.slice none 0 0), (Value.int .i64 0), (Value.bool false)].toArray 25), (some b11, Obj.cells [(Value.slice none 0 0), (Value.int .i64 0), (Value.int .i64 0)].toArray 52), (some b6, Obj.cells [(Value.slice a_d_sectors d.sectors.length c_d_sectors), (Value.slice a_d_pending d.pending.length c_d_pending), (Value.int .i64 d.left), (Value.bool d.stopped)].toArray 25), (some b1, Obj.cells [(Value.slice a_l_records l.records.length c_l_records), (Value.int .i64 l.many), (Value.int .i64 l.synced)].toArray 52)] O) w112
         refine Wp_drawR (g0 := []) (m := 7) (fl := []) (TS_inv hs113) rfl (.inl rfl) rfl (by decide +kernel) ?_  -- 18
         refine Dw_eq (Value.pointer (some ⟨b87, 0, none⟩)) (fun ρ735 w736 g hle hi ht => ?_) ?_
         ·
          obtain ⟨-, hst, -⟩ := hle
          refine StepOp_plain (op_fieldAddr ty52 rfl ty22 (by decide) (ht 9 rfl) (rfl : _ = (⟨_, 0, none⟩ : Addr)) ?_)
          exact Goes.same hi rfl
         refine Dw_eq (Value.slice a_y85_records open_1.1.records.length c_y85_records) (fun ρ738 w739 g hle hi ht => ?_) ?_
         ·
          obtain ⟨-, hst, -⟩ := hle
          have hsn := (Step.nx hi).1
          refine StepOp_plain (op_load (cs := [(Value.slice a_y85_records open_1.1.records.length c_y85_records), (Value.int .i64 open_1.1.many), (Value.int .i64 open_1.1.synced)]) (i := 0) ty22 hsn (ht 74 rfl) rfl rfl ?_)
          exact Goes.same hi rfl
         refine Dw_eq (Value.pointer (some ⟨b1, 0, none⟩)) (fun ρ741 w742 g hle hi ht => ?_) ?_
         ·
          obtain ⟨-, hst, -⟩ := hle
          refine StepOp_plain (op_fieldAddr ty52 rfl ty22 (by decide) (ht 2 rfl) (rfl : _ = (⟨_, 0, none⟩ : Addr)) ?_)
          exact Goes.same hi rfl
         refine Dw_eq (Value.slice a_l_records l.records.length c_l_records) (fun ρ744 w745 g hle hi ht => ?_) ?_
         ·
          obtain ⟨-, hst, -⟩ := hle
          have hsn := (Step.nx hi).1
          refine StepOp_plain (op_load (cs := [(Value.slice a_l_records l.records.length c_l_records), (Value.int .i64 l.many), (Value.int .i64 l.synced)]) (i := 4) ty22 hsn (ht 76 rfl) rfl rfl ?_)
          exact Goes.same hi rfl
         refine Dw_eq (Value.pointer (some ⟨b1, 2, none⟩)) (fun ρ747 w748 g hle hi ht => ?_) ?_
         ·
          obtain ⟨-, hst, -⟩ := hle
          refine StepOp_plain (op_fieldAddr ty52 rfl ty3 (by decide) (ht 2 rfl) (rfl : _ = (⟨_, 2, none⟩ : Addr)) ?_)
          exact Goes.same hi rfl
         refine Dw_eq (Value.int .i64 l.synced) (fun ρ750 w751 g hle hi ht => ?_) ?_
         ·
          obtain ⟨-, hst, -⟩ := hle
          have hsn := (Step.nx hi).1
          refine StepOp_plain (op_load (cs := [(Value.slice a_l_records l.records.length c_l_records), (Value.int .i64 l.many), (Value.int .i64 l.synced)]) (i := 4) ty3 hsn (ht 78 rfl) rfl rfl ?_)
          exact Goes.same hi rfl
         replace hm := ck_some hm; obtain ⟨hc756, hm⟩ := hm
         refine Dw_op (VD O [(some b87, Obj.cells [(Value.slice a_y85_records open_1.1.records.length c_y85_records), (Value.int .i64 open_1.1.many), (Value.int .i64 open_1.1.synced)].toArray 52), (some b16, Obj.cells [(Value.slice none 0 0), (Value.slice none 0 0), (Value.int .i64 0), (Value.bool false)].toArray 25), (some b11, Obj.cells [(Value.slice none 0 0), (Value.int .i64 0), (Value.int .i64 0)].toArray 52), (some b6, Obj.cells [(Value.slice a_d_sectors d.sectors.length c_d_sectors), (Value.slice a_d_pending d.pending.length c_d_pending), (Value.int .i64 d.left), (Value.bool d.stopped)].toArray 25), (some b1, Obj.cells [(Value.slice a_l_records l.records.length c_l_records), (Value.int .i64 l.many), (Value.int .i64 l.synced)].toArray 52)] (vC (rSl (rSl rU8))) ((l.records.drop 0).take (l.synced.toNat - 0))) (VD.stab _ _) (fun ρ753 w754 g hle hi ht => ?_) ?_
         ·
          obtain ⟨-, hst, -⟩ := hle
          replace f_l_records := f_l_records.step hst
          refine StepOp_plain (op_slice (q := (rSl rU8)) (l := 0) (h := l.synced.toNat) (m := c_l_records) ty22 ty41 (ht 77 rfl) f_l_records rfl rfl (bndI (ht 79 rfl) (by omega)) rfl (by decide) (by omega) (by omega) (by have h_ : l.records.length ≤ c_l_records := f_l_records.le; omega) (by have h_ : l.records.length ≤ c_l_records := f_l_records.le; omega) ?_)
          intro a757 f758
          exact Goes.same hi (show Vr.vd (vC (rSl (rSl rU8))) _ _ _ _ from (mkC (mk_sl f758)))
         refine Dw_nil fun w763 g764 hl765 hi766 => ?_
         obtain ⟨-, hst767, -⟩ := hl765
         obtain ⟨hs769, p768⟩ := Step.nx hi766
         rintro v770 h771
         replace h771 : Vr.vd (vC (rSl (rSl rU8))) _ _ _ _ := h771
         obtain ⟨a_y772, c_y772, rfl, f_y772⟩ := un_sl h771
         rintro _ rfl
         rintro _ rfl
         rintro _ rfl
         rintro _ rfl
         rintro _ rfl
         rintro _ rfl
         have p773 : Step (ks [(some b87, Obj.cells [(Value.slice a_y85_records open_1.1.records.length c_y85_records), (Value.int .i64 open_1.1.many), (Value.int .i64 open_1.1.synced)].toArray 52), (some b16, Obj.cells [(Value.slice none 0 0), (Value.slice none 0 0), (Value.int .i64 0), (Value.bool false)].toArray 25), (some b11, Obj.cells [(Value.slice none 0 0), (Value.int .i64 0), (Value.int .i64 0)].toArray 52), (some b6, Obj.cells [(Value.slice a_d_sectors d.sectors.length c_d_sectors), (Value.slice a_d_pending d.pending.length c_d_pending), (Value.int .i64 d.left), (Value.bool d.stopped)].toArray 25), (some b1, Obj.cells [(Value.slice a_l_records l.records.length c_l_records), (Value.int .i64 l.many), (Value.int .i64 l.synced)].toArray 52)] O) w112 (ks [(some b87, Obj.cells [(Value.slice a_y85_records open_1.1.records.length c_y85_records), (Value.int .i64 open_1.1.many), (Value.int .i64 open_1.1.synced)].toArray 52), (some b16, Obj.cells [(Value.slice none 0 0), (Value.slice none 0 0), (Value.int .i64 0), (Value.bool false)].toArray 25), (some b11, Obj.cells [(Value.slice none 0 0), (Value.int .i64 0), (Value.int .i64 0)].toArray 52), (some b6, Obj.cells [(Value.slice a_d_sectors d.sectors.length c_d_sectors), (Value.slice a_d_pending d.pending.length c_d_pending), (Value.int .i64 d.left), (Value.bool d.stopped)].toArray 25), (some b1, Obj.cells [(Value.slice a_l_records l.records.length c_l_records), (Value.int .i64 l.many), (Value.int .i64 l.synced)].toArray 52)] O) w763 := hst767.trans p768
         replace f_y772 := f_y772.step p768; replace f_l_records := f_l_records.step p773; replace f_d_sectors := f_d_sectors.step p773; replace f_d_pending := f_d_pending.step p773; replace f_y85_records := f_y85_records.step p773; replace ch117 := ch117.trans p773; replace ch734 := ch734.trans p773; clear p773 hs113
         have F776 : CallsTo2 Try.prog w763 (ks [(some b87, Obj.cells [(Value.slice a_y85_records open_1.1.records.length c_y85_records), (Value.int .i64 open_1.1.many), (Value.int .i64 open_1.1.synced)].toArray 52), (some b16, Obj.cells [(Value.slice none 0 0), (Value.slice none 0 0), (Value.int .i64 0), (Value.bool false)].toArray 25), (some b11, Obj.cells [(Value.slice none 0 0), (Value.int .i64 0), (Value.int .i64 0)].toArray 52), (some b6, Obj.cells [(Value.slice a_d_sectors d.sectors.length c_d_sectors), (Value.slice a_d_pending d.pending.length c_d_pending), (Value.int .i64 d.left), (Value.bool d.stopped)].toArray 25), (some b1, Obj.cells [(Value.slice a_l_records l.records.length c_l_records), (Value.int .i64 l.many), (Value.int .i64 l.synced)].toArray 52)] O) (Value.func (.func 62) #[] #[]) (vC (rSl rU8)) (vC (rSl rU8)) vB (fun x774 x775 => m62_bytes_Equal x774 x775) := by
          intro w777 O778 st779 hO780 v783 v784 x774 x775 y781 h785 h786 hy782
          obtain ⟨a_y787, c_y787, rfl, f_y787⟩ := un_sl h785
          obtain ⟨a_y788, c_y788, rfl, f_y788⟩ := un_sl h786
          exact ⟨62, #[], #[], rfl, Try.call62, c62_bytes_Equal (a := x774) (b := x775) hO780 f_y787 f_y788 hy782⟩
         have F791 : CallsTo2 Try.prog w763 (ks [(some b87, Obj.cells [(Value.slice a_y85_records open_1.1.records.length c_y85_records), (Value.int .i64 open_1.1.many), (Value.int .i64 open_1.1.synced)].toArray 52), (some b16, Obj.cells [(Value.slice none 0 0), (Value.slice none 0 0), (Value.int .i64 0), (Value.bool false)].toArray 25), (some b11, Obj.cells [(Value.slice none 0 0), (Value.int .i64 0), (Value.int .i64 0)].toArray 52), (some b6, Obj.cells [(Value.slice a_d_sectors d.sectors.length c_d_sectors), (Value.slice a_d_pending d.pending.length c_d_pending), (Value.int .i64 d.left), (Value.bool d.stopped)].toArray 25), (some b1, Obj.cells [(Value.slice a_l_records l.records.length c_l_records), (Value.int .i64 l.many), (Value.int .i64 l.synced)].toArray 52)] O) (Value.func (.func 62) #[] #[]) (vC (rSl rU8)) (vC (rSl rU8)) vB (fun x789 x790 => m62_bytes_Equal x789 x790) := by
          intro w792 O793 st794 hO795 v798 v799 x789 x790 y796 h800 h801 hy797
          obtain ⟨a_y802, c_y802, rfl, f_y802⟩ := un_sl h800
          obtain ⟨a_y803, c_y803, rfl, f_y803⟩ := un_sl h801
          exact ⟨62, #[], #[], rfl, Try.call62, c62_bytes_Equal (a := x789) (b := x790) hO795 f_y802 f_y803 hy797⟩
         replace hm := bd hm; obtain ⟨equalfunc_1, hv804, hm⟩ := hm
         have F812 : CallsTo2 Try.prog w763 (ks [(some b87, Obj.cells [(Value.slice a_y85_records open_1.1.records.length c_y85_records), (Value.int .i64 open_1.1.many), (Value.int .i64 open_1.1.synced)].toArray 52), (some b16, Obj.cells [(Value.slice none 0 0), (Value.slice none 0 0), (Value.int .i64 0), (Value.bool false)].toArray 25), (some b11, Obj.cells [(Value.slice none 0 0), (Value.int .i64 0), (Value.int .i64 0)].toArray 52), (some b6, Obj.cells [(Value.slice a_d_sectors d.sectors.length c_d_sectors), (Value.slice a_d_pending d.pending.length c_d_pending), (Value.int .i64 d.left), (Value.bool d.stopped)].toArray 25), (some b1, Obj.cells [(Value.slice a_l_records l.records.length c_l_records), (Value.int .i64 l.many), (Value.int .i64 l.synced)].toArray 52)] O) (Value.func (.func 62) #[] #[]) (vC (rSl rU8)) (vC (rSl rU8)) vB (fun x810 x811 => m62_bytes_Equal x810 x811) := by
          intro w813 O814 st815 hO816 v819 v820 x810 x811 y817 h821 h822 hy818
          obtain ⟨a_y823, c_y823, rfl, f_y823⟩ := un_sl h821
          obtain ⟨a_y824, c_y824, rfl, f_y824⟩ := un_sl h822
          exact ⟨62, #[], #[], rfl, Try.call62, c62_bytes_Equal (a := x810) (b := x811) hO816 f_y823 f_y824 hy818⟩
         refine Rg_op rfl (op_call Try.call61 (c61_slices_EqualFuncbyte_byte_byte_byte_ (s1_ := open_1.1.records) (s2_ := ((l.records.drop 0).take (l.synced.toNat - 0))) (eq := (fun x789 x790 => m62_bytes_Equal x789 x790)) hs769.ltw f_y85_records f_y772 F791 hv804) rfl ?_)
         rintro v805 w806 ⟨hx807, h808⟩
         have hs809 := hs769.call hx807
         have p825 := Step.ext (O := ks [(some b87, Obj.cells [(Value.slice a_y85_records open_1.1.records.length c_y85_records), (Value.int .i64 open_1.1.many), (Value.int .i64 open_1.1.synced)].toArray 52), (some b16, Obj.cells [(Value.slice none 0 0), (Value.slice none 0 0), (Value.int .i64 0), (Value.bool false)].toArray 25), (some b11, Obj.cells [(Value.slice none 0 0), (Value.int .i64 0), (Value.int .i64 0)].toArray 52), (some b6, Obj.cells [(Value.slice a_d_sectors d.sectors.length c_d_sectors), (Value.slice a_d_pending d.pending.length c_d_pending), (Value.int .i64 d.left), (Value.bool d.stopped)].toArray 25), (some b1, Obj.cells [(Value.slice a_l_records l.records.length c_l_records), (Value.int .i64 l.many), (Value.int .i64 l.synced)].toArray 52)] O) hx807
         clear hx807
         replace f_l_records := f_l_records.step p825; replace f_d_sectors := f_d_sectors.step p825; replace f_d_pending := f_d_pending.step p825; replace f_y85_records := f_y85_records.step p825; replace f_y772 := f_y772.step p825; replace F776 := F776.step p825; replace F791 := F791.step p825; replace F812 := F812.step p825; replace ch117 := ch117.trans p825; replace ch734 := ch734.trans p825; clear p825 hs769
         obtain rfl := h808
         refine Rg_op rfl (op_not rfl ?_)
         refine Rg_op rfl (op_move (v := (Value.bool (!equalfunc_1))) rfl ?_)
         refine Rg_case (fun hg827 => ?_) (fun hg827 => ?_)
         ·
          replace hm := bif_t hm hg827
          iterate 3 refine Rg_opx rfl (asB_ne rfl rfl) rfl ?_
          refine Rg_op rfl (op_pick_t (v := (Value.bool true)) rfl rfl ?_)
          refine Rg_nil ?_
          exact hK210 _ _ ⟨true, _, rfl, ⟨(by repeat (first | with_reducible exact Out.refl _ _ | refine Out.upd ?_ rfl | refine Out.updL ?_ rfl | refine Out.mix' ?_ rfl | exact Out.refl _ _)), rfl, rfl, trivial⟩, ch734, hs809, hm⟩
         ·
          replace hm := bif_f hm hg827
          refine Rg_opg rfl rfl rfl (op_move (v := (Value.int .u64 generation_1)) rfl ?_)
          refine Rg_opg rfl rfl rfl (op_shr rfl rfl (by decide) ?_)
          refine Rg_opg rfl rfl rfl (op_neq rfl rfl ?_)
          refine Rg_op rfl (op_pick_f (v := (Value.bool (decide ((generation_1 / 2 ^ min 32 (IntKind.bits .u64)) ≠ 0)))) rfl rfl ?_)
          refine Rg_nil ?_
          exact hK210 _ _ ⟨(decide ((generation_1 / 2 ^ min 32 (IntKind.bits .u64)) ≠ 0)), _, rfl, ⟨(by repeat (first | with_reducible exact Out.refl _ _ | refine Out.upd ?_ rfl | refine Out.updL ?_ rfl | refine Out.mix' ?_ rfl | exact Out.refl _ _)), rfl, rfl, trivial⟩, ch734, hs809, hm⟩
   ·
    intro K59 hK59
    have ch828 := Step.refl (ks [(some b16, Obj.cells [(Value.slice none 0 0), (Value.slice none 0 0), (Value.int .i64 0), (Value.bool false)].toArray 25), (some b11, Obj.cells [(Value.slice none 0 0), (Value.int .i64 0), (Value.int .i64 0)].toArray 52), (some b6, Obj.cells [(Value.slice a_d_sectors d.sectors.length c_d_sectors), (Value.slice a_d_pending d.pending.length c_d_pending), (Value.int .i64 d.left), (Value.bool d.stopped)].toArray 25), (some b1, Obj.cells [(Value.slice a_l_records l.records.length c_l_records), (Value.int .i64 l.many), (Value.int .i64 l.synced)].toArray 52)] O) w40
    refine Wp_region ?_
    refine Rg_op rfl (op_fieldAddr ty52 rfl ty3 (by decide) rfl (rfl : _ = (⟨_, 1, none⟩ : Addr)) ?_)
    refine Rg_op rfl (op_load (cs := [(Value.slice a_l_records l.records.length c_l_records), (Value.int .i64 l.many), (Value.int .i64 l.synced)]) (i := 3) ty3 hs43 rfl rfl rfl ?_)
    refine Rg_op rfl (op_fieldAddr ty25 rfl ty22 (by decide) rfl (rfl : _ = (⟨_, 0, none⟩ : Addr)) ?_)
    refine Rg_op rfl (op_load (cs := [(Value.slice a_d_sectors d.sectors.length c_d_sectors), (Value.slice a_d_pending d.pending.length c_d_pending), (Value.int .i64 d.left), (Value.bool d.stopped)]) (i := 2) ty22 hs43 rfl rfl rfl ?_)
    refine Rg_op rfl (op_len Try.underlying22 rfl ?_)
    have rl829 := inK_len f_d_sectors
    refine Rg_op rfl (op_neq rfl rfl ?_)
    refine Rg_op rfl (op_move (v := (Value.bool (decide (l.many ≠ (d.sectors.length : Int))))) rfl ?_)
    refine Rg_case (fun hg830 => ?_) (fun hg830 => ?_)
    ·
     replace hm := bif_t hm hg830
     refine Rg_opg rfl rfl rfl (op_fieldAddr ty25 rfl ty4 (by decide) rfl (rfl : _ = (⟨_, 3, none⟩ : Addr)) ?_)
     refine Rg_opg rfl rfl rfl (op_load (cs := [(Value.slice a_d_sectors d.sectors.length c_d_sectors), (Value.slice a_d_pending d.pending.length c_d_pending), (Value.int .i64 d.left), (Value.bool d.stopped)]) (i := 2) ty4 hs43 rfl rfl rfl ?_)
     refine Rg_opg rfl rfl rfl (op_not rfl ?_)
     refine Rg_op rfl (op_pick_t (v := (Value.bool (!d.stopped))) rfl rfl ?_)
     refine Rg_nil ?_
     exact hK59 _ _ ⟨(!d.stopped), _, rfl, ⟨(by repeat (first | with_reducible exact Out.refl _ _ | refine Out.upd ?_ rfl | refine Out.updL ?_ rfl | refine Out.mix' ?_ rfl | exact Out.refl _ _)), rfl, rfl, trivial⟩, ch828, hs43, hm⟩
    ·
     replace hm := bif_f hm hg830
     iterate 3 refine Rg_opx rfl (asB_ne rfl rfl) rfl ?_
     refine Rg_op rfl (op_pick_f (v := (Value.bool false)) rfl rfl ?_)
     refine Rg_nil ?_
     exact hK59 _ _ ⟨false, _, rfl, ⟨(by repeat (first | with_reducible exact Out.refl _ _ | refine Out.upd ?_ rfl | refine Out.updL ?_ rfl | refine Out.mix' ?_ rfl | exact Out.refl _ _)), rfl, rfl, trivial⟩, ch828, hs43, hm⟩

end Go.Fx


