/- The law JournalSurvives holds for every number of sectors and every script of crashes. -/
import Derived.Test.YtegomkljijgjjaaSurv6
import Derived.Test.YtegomkljijgjjaaRows
import Derived.WalkKit
import Derived.ShutString
/- What Append and Sync answer, on journals that fit. -/
set_option linter.unusedSimpArgs false
set_option linter.unusedVariables false
namespace Go.Fx
open Go Go.RowKit
theorem secI_eq {n : Nat} (h : n ≤ 4611686018427387904) : secI (n : Int) = (secN n : Int) := by
  unfold secI secN
  rw [wrap_i64 (m := (n : Int) + 112) (by omega) (by omega), wrap_i64 (m := (n : Int) + 112 - 1) (by omega) (by omega)]
  have e : ((n : Int) + 112 - 1).tdiv 112 = (((n + 111) / 112 : Nat) : Int) := by
    rw [show (n : Int) + 112 - 1 = ((n + 111 : Nat) : Int) by omega]; rfl
  rw [e, wrap_i64 (by omega) (by omega)]
  omega
theorem usedF_fit : ∀ (l : List (List UInt8)) (s : Nat), s + usedN l ≤ 1000000 → usedF (s : Int) l = ((s + usedN l : Nat) : Int)
  | [], s, _ => by simp [usedF, usedN]
  | b :: t, s, h => by
    rw [show usedN (b :: t) = secN b.length + usedN t by simp [usedN]] at h ⊢
    have hb : b.length ≤ 4611686018427387904 := by unfold secN at h; omega
    unfold usedF
    rw [secI_eq hb, wrap_i64 (by omega) (by omega), show (s : Int) + (secN b.length : Int) = ((s + secN b.length : Nat) : Int) by omega, usedF_fit t (s + secN b.length) (by omega), Nat.add_assoc]
theorem usedF_fit0 {l : List (List UInt8)} (h : usedN l ≤ 1000000) : usedF 0 l = (usedN l : Int) := by
  have := usedF_fit l 0 (by omega); simpa using this
theorem usedN_len (l : List (List UInt8)) : l.length ≤ usedN l := by
  induction l with
  | nil => simp
  | cons b t ih => rw [show usedN (b :: t) = secN b.length + usedN t by simp [usedN]]; have := secN_pos b.length; simp only [List.length_cons]; omega
/-- a journal that fits its sectors -/
structure Fit (m : Nat) (recs : List (List UInt8)) (s : Int) : Prop where
  one : 1 ≤ m
  len : m ≤ 40
  use : usedN recs ≤ m
  s0 : 0 ≤ s
  s1 : s ≤ (recs.length : Int)
theorem Fit.good {m : Nat} {recs : List (List UInt8)} {s : Int} (h : Fit m recs s) : badJ ⟨recs, (m : Int), s⟩ = false := by
  obtain ⟨h1, h2, h3, h4, h5⟩ := h
  unfold badJ
  simp only [usedF_fit0 (show usedN recs ≤ 1000000 by omega), Bool.or_eq_false_iff, decide_eq_false_iff_not]
  omega
/-- a record put behind the others, where it fits -/
def addN (m : Nat) (recs : List (List UInt8)) (b : List UInt8) : List (List UInt8) := if usedN recs + secN b.length ≤ m then recs ++ [b] else recs
theorem app_yes {m : Nat} {recs : List (List UInt8)} {s : Int} {b : List UInt8} (h : Fit m recs s) (hb : b.length ≤ 140737488351232) (hf : usedN recs + secN b.length ≤ m) : m30_journal_Append ⟨recs, (m : Int), s⟩ b = some (⟨recs ++ [b], (m : Int), s⟩, 0) := by
  have hu := usedN_len recs
  have h3 := h.use; have h2 := h.len
  rw [m30_eq _ _ (by simp only; omega) hb]
  unfold appJ
  rw [h.good, cond_false]
  simp only
  rw [usedF_fit0 (by omega), wrap_i64 (by omega) (by omega), secI_eq (by omega), decide_eq_false (by omega)]; rfl
theorem app_no {m : Nat} {recs : List (List UInt8)} {s : Int} {b : List UInt8} (h : Fit m recs s) (hb : b.length ≤ 140737488351232) (hf : ¬ usedN recs + secN b.length ≤ m) : m30_journal_Append ⟨recs, (m : Int), s⟩ b = some (⟨[], 0, 0⟩, 2) := by
  have hu := usedN_len recs
  have h3 := h.use; have h2 := h.len
  rw [m30_eq _ _ (by simp only; omega) hb]
  unfold appJ
  rw [h.good, cond_false]
  simp only
  rw [usedF_fit0 (by omega), wrap_i64 (by omega) (by omega), secI_eq (by omega), decide_eq_true (by omega)]; rfl
theorem addN_fit {m : Nat} {recs : List (List UInt8)} {s : Int} {b : List UInt8} (h : Fit m recs s) : Fit m (addN m recs b) s ∧ recs.length ≤ (addN m recs b).length ∧ recs <+: addN m recs b := by
  obtain ⟨h1, h2, h3, h4, h5⟩ := h
  unfold addN
  split
  · rename_i hf
    exact ⟨⟨h1, h2, by rw [usedN_app]; exact hf, h4, by simp; omega⟩, by simp, List.prefix_append _ _⟩
  · exact ⟨⟨h1, h2, h3, h4, h5⟩, Nat.le_refl _, List.prefix_refl _⟩
theorem m61_refl (a : List (List UInt8)) (ha : a.length < 9223372036854775807) : m61_slices_EqualFuncbyte_byte_byte_byte_ a a (fun x y => m62_bytes_Equal x y) = some true := by
  unfold m61_slices_EqualFuncbyte_byte_byte_byte_
  rw [decide_eq_false (by simp), cond_false]
  refine up_list0 (B := m61_slices_EqualFuncbyte_byte_byte_byte__B0 a a _) (fun _ => some true) a ha ?_ ?_ (by omega)
  · intro sf; unfold m61_slices_EqualFuncbyte_byte_byte_byte__B0; rw [decide_eq_false (Int.lt_irrefl _)]; rfl
  · intro sf i x t h1 h2 h3 ih
    unfold m61_slices_EqualFuncbyte_byte_byte_byte__B0
    rw [decide_eq_true (ipos h1), cond_true, ck_eq (by omega), ck_eq (by omega)]
    show (some (decide (a.getD (i : Int).toNat default = a.getD (i : Int).toNat default))).bind _ = _
    rw [decide_eq_true rfl, Option.bind_some, h3, ih]; rfl
section
variable {S kept new : List (List UInt8)} {B : Nat} {left : Int}
/-- a disk with writes that wait -/
def pen (S : List (List UInt8)) (p : List XWrite) (left : Int) : XDisk := ⟨S, p, left, false⟩
theorem pen_chk {p : List XWrite} (h1 : 1 ≤ S.length) (h2 : S.length ≤ 40) (h7 : ∀ s ∈ S, s.length = 128) (hl : -1 ≤ left) (hl' : left ≤ 65536) (hp : p.length ≤ 100) (hw : ∀ w ∈ p, 0 ≤ w.at_ ∧ w.at_ < (S.length : Int) ∧ w.data.length = 128) : chk (pen S p left) = true :=
  chk_of h1 (by show S.length ≤ 4096; omega) (by show p.length ≤ 4096; omega) hl hl' hw h7
theorem write_one {p : List XWrite} {n : Nat} {s : List UInt8} (h1 : 1 ≤ S.length) (h2 : S.length ≤ 40) (h7 : ∀ s ∈ S, s.length = 128) (hl : -1 ≤ left) (hl' : left ≤ 65536) (hp : p.length ≤ 100) (hw : ∀ w ∈ p, 0 ≤ w.at_ ∧ w.at_ < (S.length : Int) ∧ w.data.length = 128)
    (hn : n < S.length) (hs : s.length = 128) : m23_disk_Write (pen S p left) (n : Int) s = some (pen S (p ++ [⟨(n : Int), s⟩]) left, 0) := by
  have := pen_chk h1 h2 h7 hl hl' hp hw
  rw [wr_ok (chk_few this) this rfl (by omega) (by show (n : Int) < (S.length : Int); omega) (by show p.length ≠ 4096; omega) (by omega)]
  unfold wr; rw [pad_full hs]; rfl
/-- the sectors of one record are written -/
theorem wr_rec {G : Nat} {sf : Int → Int → List (List UInt8) → List XWrite → Int → Bool → Option (XJournal × XDisk × Int)} {v : Int} (h1 : 1 ≤ S.length) (h2 : S.length ≤ 40) (h7 : ∀ s ∈ S, s.length = 128) (hl : -1 ≤ left) (hl' : left ≤ 65536) :
    ∀ (k f n : Nat) (fb : Bool) (b : List UInt8) (p : List XWrite), k + 1 = secN b.length → n + (k + 1) ≤ S.length → p.length + (k + 1) ≤ 100 → (∀ w ∈ p, 0 ≤ w.at_ ∧ w.at_ < (S.length : Int) ∧ w.data.length = 128) → k + 1 < f →
      loop8 (m39_journal_Sync_B2 (G : Int) v sf) f (n : Int) b (kd fb false) ((k + 1 : Nat) : Int) S p left false = sf ((n + (k + 1) : Nat) : Int) (IntKind.wrap .i64 (v + 1)) S (p ++ wrs n (pcs G n fb b (k + 1))) left false
  | 0, f, n, fb, b, p, hk, hn, hp, hw, hf => by
    obtain ⟨f, rfl⟩ : ∃ f', f = f' + 2 := ⟨f - 2, by omega⟩
    have hb := secN_one hk.symm
    have hm : (min (b.length : Int) 112).toNat = b.length := by omega
    have hkd : UInt8.ofNat (Go.bits .or .u8 ((kd fb false).toNat : Int) 2).toNat = kd fb true := by cases fb <;> rfl
    rw [loop8_succ]
    generalize hL : loop8 (m39_journal_Sync_B2 (G : Int) v sf) (f + 1) = L
    unfold m39_journal_Sync_B2
    rw [decide_eq_true (by decide), cond_true, decide_eq_true (by rfl), cond_true, ck_eq (by omega), hm, hkd, Nat.sub_zero, List.drop_zero, List.take_length, m63_eq (by omega) hb, Option.bind_some]
    rw [show (⟨S, p, left, false⟩ : XDisk) = pen S p left from rfl, write_one h1 h2 h7 hl hl' (by omega) hw (by omega) (enc_len hb), Option.bind_some]
    simp only [ne_eq, not_true_eq_false, decide_false, cond_false, pen]
    rw [ck_eq (by omega), wrapS (by omega), ← hL, loop8_succ]
    unfold m39_journal_Sync_B2
    rw [decide_eq_false (show ¬ (0 : Int) < IntKind.wrap .i64 (((0 + 1 : Nat) : Int) - 1) by decide), cond_false]
    simp only [Nat.zero_add, pcs, wrs, Int.natCast_add, Int.natCast_one]
  | k + 1, f, n, fb, b, p, hk, hn, hp, hw, hf => by
    obtain ⟨f, rfl⟩ : ∃ f', f = f' + 1 := ⟨f - 1, by omega⟩
    obtain ⟨hb, hk2⟩ := secN_two hk.symm
    have ht : (b.take 112).length = 112 := by rw [List.length_take]; omega
    have hm : (min (b.length : Int) 112).toNat = 112 := by omega
    rw [loop8_succ]
    generalize hL : loop8 (m39_journal_Sync_B2 (G : Int) v sf) f = L
    unfold m39_journal_Sync_B2
    rw [decide_eq_true (by omega), cond_true, decide_eq_false (by omega), cond_false, ck_eq (by omega), hm, Nat.sub_zero, List.drop_zero, m63_eq (by omega) (by omega), Option.bind_some]
    rw [show (⟨S, p, left, false⟩ : XDisk) = pen S p left from rfl, write_one h1 h2 h7 hl hl' (by omega) hw (by omega) (enc_len (by omega)), Option.bind_some]
    simp only [ne_eq, not_true_eq_false, decide_false, cond_false, pen]
    have hd : (b.drop 112).take (b.length - 112) = b.drop 112 := by rw [← List.length_drop]; exact List.take_length
    rw [ck_eq (by omega), wrapS (by omega), hd, ← hL, show (n : Int) + 1 = ((n + 1 : Nat) : Int) by omega, show IntKind.wrap .i64 (((k + 1 + 1 : Nat) : Int) - 1) = ((k + 1 : Nat) : Int) by rw [wrap_i64 (by omega) (by omega)]; omega]
    have := wr_rec (G := G) (sf := sf) (v := v) h1 h2 h7 hl hl' k f (n + 1) false (b.drop 112) (p ++ [⟨(n : Int), enc G n (kd fb false) (b.take 112)⟩]) (by rw [List.length_drop]; omega) (by omega) (by simp; omega) (fun w hw' => by
      rcases List.mem_append.1 hw' with h | h
      · exact hw w h
      · rw [List.mem_singleton.1 h]; exact ⟨by simp, by simp only; omega, enc_len (by omega)⟩) (by omega)
    refine this.trans ?_
    rw [show n + 1 + (k + 1) = n + (k + 1 + 1) by omega]
    simp [pcs, wrs]
/-- what a sync comes to, when all has been written -/
def endS (l : XJournal) (D : XDisk) : Option (XJournal × XDisk × Int) :=
  (m25_disk_Sync D).bind fun sync_1 =>
    bif (decide (sync_1.2 ≠ 0)) then
      some ((⟨([] : List (List UInt8)), 0, 0⟩ : XJournal), sync_1.1, sync_1.2)
    else
      some ((⟨l.records, l.many, (l.records.length : Int)⟩ : XJournal), sync_1.1, 0)
theorem wr_all {G : Nat} {l : XJournal} {m : Nat} (h1 : 1 ≤ S.length) (h2 : S.length ≤ 40) (h7 : ∀ s ∈ S, s.length = 128) (hl : -1 ≤ left) (hl' : left ≤ 65536) (hs : l.synced.toNat = m) (hnew : l.records.drop m = new) (u : Nat) (hu : u + usedN new ≤ S.length) (f : Nat) (hf : new.length < f) :
    loop6 (m39_journal_Sync_B1 l (G : Int)) f (u : Int) 0 S [] left false = endS l (pen S (wrs u (news G u new)) left) := by
  have hrest : (l.records.drop l.synced.toNat).take (l.records.length - l.synced.toNat) = new := by rw [hs, hnew, ← hnew, ← List.length_drop]; exact List.take_length
  have hlen := usedN_len new
  have key : ∀ (t : List (List UInt8)) (i f u : Nat) (p : List XWrite), new.drop i = t → i ≤ new.length → t.length < f → u + usedN t ≤ S.length → p.length + usedN t ≤ 100 → (∀ w ∈ p, 0 ≤ w.at_ ∧ w.at_ < (S.length : Int) ∧ w.data.length = 128) →
      loop6 (m39_journal_Sync_B1 l (G : Int)) f (u : Int) (i : Int) S p left false = endS l (pen S (p ++ wrs u (news G u t)) left) := by
    intro t
    induction t with
    | nil =>
      intro i f u p hd hi hf hu hp hw
      have he : new.length ≤ i := by have := congrArg List.length hd; simp at this; omega
      obtain ⟨f, rfl⟩ : ∃ f', f = f' + 1 := ⟨f - 1, by simp at hf; omega⟩
      rw [loop6_succ]; unfold m39_journal_Sync_B1
      rw [hrest, decide_eq_false (by omega), cond_false]
      simp only [news, wrs, List.append_nil]; rfl
    | cons b t ih =>
      intro i f u p hd hi hf hu hp hw
      obtain ⟨f, rfl⟩ : ∃ f', f = f' + 1 := ⟨f - 1, by simp at hf; omega⟩
      have hlt : i < new.length := by have := congrArg List.length hd; simp at this; omega
      have hx : new[i] = b := by rw [List.drop_eq_getElem_cons hlt] at hd; exact (List.cons.inj hd).1
      have ht : new.drop (i + 1) = t := by rw [List.drop_eq_getElem_cons hlt] at hd; exact (List.cons.inj hd).2
      have hub : usedN (b :: t) = secN b.length + usedN t := by simp [usedN]
      rw [hub] at hu hp
      obtain ⟨k, hk⟩ : ∃ k, secN b.length = k + 1 := ⟨secN b.length - 1, by have := secN_pos b.length; omega⟩
      rw [loop6_succ]
      generalize hL : loop6 (m39_journal_Sync_B1 l (G : Int)) f = L
      unfold m39_journal_Sync_B1
      rw [hrest, decide_eq_true (ipos hlt), cond_true, ck_eq (by omega), Int.toNat_natCast, getD_len hlt, hx, m54_eq, Option.bind_some, secI_eq (by unfold secN at hu; omega), hk]
      have := wr_rec (G := G) (sf := L) (v := (i : Int)) h1 h2 h7 hl hl' k 1000000 u true b p hk.symm (by omega) (by omega) hw (by omega)
      refine this.trans ?_
      rw [wrapS (by omega), ← hL, show (i : Int) + 1 = ((i + 1 : Nat) : Int) by omega, ← hk]
      rw [ih (i + 1) f (u + secN b.length) _ ht (by omega) (by simp at hf; omega) (by omega) (by rw [List.length_append, wrs_len, pcs_len]; omega) (fun w hw' => by
        rcases List.mem_append.1 hw' with h | h
        · exact hw w h
        · obtain ⟨a1, a2, a3⟩ := wrs_mem h
          rw [pcs_len] at a2
          obtain ⟨m, kk, c, e1, e2⟩ := pcs_mem _ _ _ _ _ rfl a3
          exact ⟨by omega, by omega, by rw [e1]; exact enc_len e2⟩)]
      simp only [news]
      rw [wrs_app, pcs_len, List.append_assoc]
  have := key new 0 f u [] rfl (Nat.zero_le _) hf hu (by simp; omega) (by simp)
  simpa using this
theorem gen_loop {l : XJournal} {d : XDisk} {o : XJournal × Int} (h7 : ∀ s ∈ d.sectors, s.length = 128) (hlen : d.sectors.length ≤ 40) (hb : ∀ s ∈ d.sectors, getN (s.take 4) ≤ B ∧ getN (s.drop 124) ≤ B) (hB : B < 4294967290) :
    loop2 (m39_journal_Sync_B0 l d o) (((d.sectors.length : Int) - 0).toNat + 1) 1 0 = m39_journal_Sync_B0 l d o (fun _ _ => none) (genS 1 d.sectors : Int) (d.sectors.length : Int) := by
  refine (up_listB (B := m39_journal_Sync_B0 l d o) (σ := Int) (fun _ s => ∃ k : Nat, k ≤ B + 1 ∧ s = (k : Int)) (fun _ t s => m39_journal_Sync_B0 l d o (fun _ _ => none) (genS s.toNat t : Int) (d.sectors.length : Int)) d.sectors (by omega) ?_ ?_ (by omega) ⟨1, by omega, rfl⟩).trans rfl
  · rintro sf s ⟨k, hk, rfl⟩
    unfold m39_journal_Sync_B0
    rw [decide_eq_false (Int.lt_irrefl _)]; rfl
  · rintro sf i s x t h1 h2 h3 ⟨k, hk, rfl⟩ ih
    obtain ⟨_, hx⟩ := List.getElem?_eq_some_iff.1 h2
    have hm : x ∈ d.sectors := List.mem_of_getElem? h2
    have hx7 := h7 x hm
    obtain ⟨b1, b2⟩ := hb x hm
    have e : ∀ M : Option (XJournal × XDisk × Int), m39_journal_Sync_B0 l d o sf (k : Int) (i : Int) = sf (max (max (k : Int) (IntKind.wrap .u64 ((getN (x.take 4) : Int) + 1))) (IntKind.wrap .u64 ((getN (x.drop 124) : Int) + 1))) (IntKind.wrap .i64 ((i : Int) + 1)) := by
      intro _
      unfold m39_journal_Sync_B0
      have g1 : d.sectors.getD (i : Int).toNat default = x := getD_of h2
      rw [decide_eq_true (ipos h1), cond_true, ck_eq (by omega), g1, ck_eq (by rw [hx7]; decide)]
      rw [show (x.drop 0).take (4 - 0) = x.take 4 from rfl, (m60_eq (x.take 4) (by rw [List.length_take]; omega)).1, Option.bind_some, ck_eq (by rw [hx7]; decide)]
      rw [show (x.drop 124).take (x.length - 124) = x.drop 124 by rw [← List.length_drop]; exact List.take_length, (m60_eq (x.drop 124) (by rw [List.length_drop]; omega)).1, Option.bind_some]
    rw [e none, IntKind.wrap_u64, IntKind.wrap_u64, h3]
    have e2 : max (max (k : Int) (((getN (x.take 4) : Int) + 1) % 18446744073709551616)) (((getN (x.drop 124) : Int) + 1) % 18446744073709551616) = ((max (max k (getN (x.take 4) + 1)) (getN (x.drop 124) + 1) : Nat) : Int) := by omega
    rw [e2, ih _ ⟨_, by omega, rfl⟩]; rfl
/-- what Sync answers on a disk that bears the records that were synced -/
theorem sync_eq (h : Jd S kept B) (hB : B < 1000) (hl : -1 ≤ left) (hl' : left ≤ 65536) (hfit : usedN kept + usedN new ≤ S.length) :
    m39_journal_Sync ⟨kept ++ new, (S.length : Int), (kept.length : Int)⟩ (pen S [] left) =
      if new = [] then some (⟨kept ++ new, (S.length : Int), (kept.length : Int)⟩, pen S [] left, 0) else endS ⟨kept ++ new, (S.length : Int), (kept.length : Int)⟩ (pen S (wrs (usedN kept) (news (genS 1 S) (usedN kept) new)) left) := by
  have hfitJ : Fit S.length (kept ++ new) (kept.length : Int) := ⟨h.one, h.len, by rw [usedN_two]; exact hfit, by omega, by rw [List.length_append]; omega⟩
  have hul := usedN_len (kept ++ new)
  rw [usedN_two] at hul
  have hlen := h.len
  have hck : chk (pen S [] left) = true := pen_chk h.one h.len h.all hl hl' (by simp) (by simp)
  obtain ⟨gl, l1, l2⟩ := h.lay
  have hop := open_eq (d := pen S [] left) hck rfl rfl l1 l2
  have hbl : badJ ⟨kept ++ new, (S.length : Int), (kept.length : Int)⟩ = false := hfitJ.good
  unfold m39_journal_Sync
  rw [m32_eq _ (by simp only; omega), hbl, m18_eq _ (chk_few hck), hck, hop]
  simp only [Option.bind_some, cond_false, cond_true, ne_eq, not_true_eq_false, decide_false, jn_eq]
  rw [show (pen S [] left).sectors = S from rfl, decide_eq_false (show ¬ ¬ ((S.length : Int) = (S.length : Int)) by simp), cond_false]
  have hgl := gen_loop (l := ⟨kept ++ new, (S.length : Int), (kept.length : Int)⟩) (d := pen S [] left) (o := (⟨kept, ((pen S [] left).sectors.length : Int), (kept.length : Int)⟩, 0)) h.all h.len h.gens (by omega)
  refine hgl.trans ?_
  have hG : genS 1 S ≤ B + 1 := genS_le S 1 (by omega) h.gens
  unfold m39_journal_Sync_B0
  rw [show (pen S [] left).sectors = S from rfl, decide_eq_false (Int.lt_irrefl _), cond_false]
  have hc : (0 : Int) ≤ (kept.length : Int) ∧ (kept.length : Int) ≤ ((kept ++ new).length : Int) := by rw [List.length_append]; omega
  have htk : ((kept ++ new).drop 0).take ((kept.length : Int).toNat - 0) = kept := by rw [List.drop_zero, Nat.sub_zero, Int.toNat_natCast, List.take_left]
  have hge : (genS 1 S : Int) / 2 ^ min 32 (IntKind.bits .u64) = 0 := by
    rw [show (2 : Int) ^ min 32 (IntKind.bits .u64) = 4294967296 from rfl]; omega
  simp only [jn_eq, ck_eq hc, htk]
  rw [m61_refl kept (by omega), Option.bind_some, hge]
  simp only [Bool.not_true, cond_false, ne_eq, not_true_eq_false, decide_false]
  rw [m55_eq kept (by omega), usedF_fit0 (by omega), Option.bind_some]
  by_cases hn : new = []
  · subst hn
    rw [decide_eq_true (by simp), cond_true, if_pos rfl]
  · have : 0 < new.length := List.length_pos_iff.2 hn
    rw [decide_eq_false (by simp; omega), cond_false, if_neg hn]
    exact wr_all (G := genS 1 S) (l := ⟨kept ++ new, (S.length : Int), (kept.length : Int)⟩) (m := kept.length) h.one h.len h.all hl hl' (Int.toNat_natCast _) List.drop_left (usedN kept) hfit _ (by simp only [Int.toNat_natCast, List.drop_left]; simp)
end
end Go.Fx



/- Syncs that go through, and journals to which records are put. -/
set_option linter.unusedSimpArgs false
set_option linter.unusedVariables false
namespace Go.Fx
open Go Go.RowKit
section
variable {S kept new : List (List UInt8)} {B : Nat} {left : Int}
theorem Jd.mono {B' : Nat} (h : Jd S kept B) (hB : B ≤ B') : Jd S kept B' := ⟨h.one, h.len, h.all, fun s hs => by have := h.gens s hs; omega, h.lay⟩
theorem Jd.chk0 (h : Jd S kept B) (hl : -1 ≤ left) (hl' : left ≤ 65536) : chk (pen S [] left) = true := pen_chk h.one h.len h.all hl hl' (by simp) (by simp)
theorem Jd.opens (h : Jd S kept B) : m38_journal_Open (pen S [] (-1)) = some (⟨kept, (S.length : Int), (kept.length : Int)⟩, 0) := by
  obtain ⟨gl, l1, l2⟩ := h.lay
  exact open_eq (d := pen S [] (-1)) (h.chk0 (by decide) (by decide)) rfl rfl l1 l2
theorem news_ok {G u : Nat} (h : Jd S kept B) (hu : u + usedN new ≤ S.length) : ∀ w ∈ wrs u (news G u new), 0 ≤ w.at_ ∧ w.at_ < (S.length : Int) ∧ w.data.length = 128 := by
  intro w hw
  obtain ⟨a1, a2, a3⟩ := wrs_mem hw
  rw [news_len] at a2
  obtain ⟨m, kk, c, e1, e2⟩ := news_mem a3
  exact ⟨by omega, by omega, by rw [e1]; exact enc_len e2⟩
end
theorem app_addN {m : Nat} {recs : List (List UInt8)} {s : Int} {b : List UInt8} (h : Fit m recs s) (hb : b.length ≤ 140737488351232) :
    ∃ r, m30_journal_Append ⟨recs, (m : Int), s⟩ b = some r ∧ ((r.2 = 0 ∧ r.1 = ⟨addN m recs b, (m : Int), s⟩) ∨ (r.2 ≠ 0 ∧ addN m recs b = recs)) := by
  by_cases hf : usedN recs + secN b.length ≤ m
  · exact ⟨_, app_yes h hb hf, .inl ⟨rfl, by unfold addN; rw [if_pos hf]⟩⟩
  · exact ⟨_, app_no h hb hf, .inr ⟨by decide, by unfold addN; rw [if_neg hf]⟩⟩
end Go.Fx



/- JournalSurvives. -/
set_option linter.unusedSimpArgs false
set_option linter.unusedVariables false
namespace Go.Fx
open Go Go.RowKit
theorem stop_ok {S kept : List (List UInt8)} {B : Nat} {n : Int} (h : Jd S kept B) (h0 : 0 ≤ n) (h1 : n ≤ 65536) : m22_disk_Stop (pen S [] (-1)) n = some (pen S [] n, 0) := by
  have hck := h.chk0 (left := -1) (by decide) (by decide)
  unfold m22_disk_Stop
  rw [m47_eq _ (chk_few hck), hck, Option.bind_some]
  simp only [jn_eq]
  rw [decide_eq_false (show ¬ n < 0 by omega), decide_eq_false (show ¬ 65536 < n by omega)]; rfl
/-- a sync on a disk that may stop: it goes through, or what is read behind it is a beginning -/
theorem sync_any {S kept new : List (List UInt8)} {B : Nat} {left : Int} (h : Jd S kept B) (hB : B < 1000) (hl : -1 ≤ left) (hl' : left ≤ 65536) (hfit : usedN kept + usedN new ≤ S.length) :
    (∃ S' left', m39_journal_Sync ⟨kept ++ new, (S.length : Int), (kept.length : Int)⟩ (pen S [] left) = some (⟨kept ++ new, (S.length : Int), ((kept ++ new).length : Int)⟩, pen S' [] left', 0) ∧ Jd S' (kept ++ new) (B + 1) ∧ S'.length = S.length) ∨
    (0 ≤ left ∧ ∃ S' i, m39_journal_Sync ⟨kept ++ new, (S.length : Int), (kept.length : Int)⟩ (pen S [] left) = some (⟨[], 0, 0⟩, ⟨S', [], 0, true⟩, 440) ∧ i ≤ new.length ∧ Jd S' (kept ++ new.take i) (B + 1) ∧ S'.length = S.length) := by
  have hs := sync_eq h hB hl hl' hfit
  by_cases hn : new = []
  · subst hn
    rw [if_pos rfl] at hs
    exact .inl ⟨S, left, by rw [hs]; simp, by simpa using h.mono (Nat.le_succ B), rfl⟩
  rw [if_neg hn] at hs
  have hlen := h.len
  have hN := news_len (genS 1 S) new (usedN kept)
  obtain ⟨D, hD⟩ : ∃ D, D = pen S (wrs (usedN kept) (news (genS 1 S) (usedN kept) new)) left := ⟨_, rfl⟩
  have hck : chk D = true := by rw [hD]; exact pen_chk h.one h.len h.all hl hl' (by rw [wrs_len, hN]; omega) (news_ok h hfit)
  rw [← hD] at hs
  have hDl : D.left = left := by rw [hD]; rfl
  have hDp : D.pending = wrs (usedN kept) (news (genS 1 S) (usedN kept) new) := by rw [hD]; rfl
  have hDs : D.sectors = S := by rw [hD]; rfl
  have hpl : D.pending.length = usedN new := by rw [hDp, wrs_len, hN]
  have hsn := sn_ok hck (by rw [hD]; rfl)
  unfold endS at hs
  by_cases hc : 0 ≤ left ∧ left < (usedN new : Int)
  · refine .inr ⟨hc.1, ?_⟩
    rw [hDl, hpl, decide_eq_true hc.1, decide_eq_true hc.2, Bool.and_self, cond_true] at hsn
    rw [hsn] at hs
    obtain ⟨J, rfl⟩ : ∃ J : Nat, left = (J : Int) := ⟨left.toNat, by omega⟩
    have hJ : J < usedN new := by omega
    obtain ⟨i, i1, i2⟩ := h.tear (by omega) hfit hJ
    refine ⟨(stp D).sectors, i, ?_, i1, ?_, ?_⟩
    · rw [hs]; rfl
    · have hw : D.pending.getD J default = ⟨((usedN kept + J : Nat) : Int), (news (genS 1 S) (usedN kept) new)[J]'(by omega)⟩ := by
        rw [hDp, List.getD_eq_getElem?_getD, wrs_get _ _ _ (by omega)]; rfl
      have e : (stp D).sectors = (perf S (wrs (usedN kept) ((news (genS 1 S) (usedN kept) new).take J))).set (usedN kept + J) (torn (S.getD (usedN kept + J) default) ((news (genS 1 S) (usedN kept) new).getD J default)) := by
        unfold stp
        simp only
        rw [hDl, Int.toNat_natCast, hw, hDs]
        simp only [Int.toNat_natCast]
        rw [hDp, wrs_take, getD_len (show J < (news (genS 1 S) (usedN kept) new).length by omega)]
        congr 2
        rw [List.getD_eq_getElem?_getD, perf_wrs _ _ _ _ (by rw [List.length_take]; omega), if_neg (by rw [List.length_take]; omega), List.getD_eq_getElem?_getD]
      rw [e]; exact i2
    · unfold stp; simp only; rw [List.length_set, perf_len, hDs]
  · refine .inl ?_
    have hcd : (decide (0 ≤ left) && decide (left < (usedN new : Int))) = false := by
      rw [Bool.and_eq_false_iff]
      by_cases h0 : 0 ≤ left
      · exact .inr (decide_eq_false (by omega))
      · exact .inl (decide_eq_false h0)
    rw [hDl, hpl, hcd, cond_false] at hsn
    rw [hsn] at hs
    refine ⟨perf S (wrs (usedN kept) (news (genS 1 S) (usedN kept) new)), bif decide (0 ≤ left) then left - (D.pending.length : Int) else left, ?_, h.sync (by omega) hfit hn, perf_len _ _⟩
    rw [hs]
    show some (_, snc D, (0 : Int)) = _
    unfold snc
    rw [hDs, hDp, hDl]; rfl
theorem step_ok {sectors : UInt8} {script : List XCrash} {S kept recs : List (List UInt8)} {B : Nat} {v1 : Int} {k61 : (List (List UInt8)) → (List (List UInt8)) → (List XWrite) → Int → Bool → Option Bool} {sf : Int → (List (List UInt8)) → Int → Int → Option Bool} {n : Nat}
    (hn : n = ((script.getD v1.toNat default).records).length) (h : Jd S kept B) (hB : B < 1000) (hF : Fit S.length recs (kept.length : Int)) (hpre : kept <+: recs)
    (hk : ∀ S' kept', Jd S' kept' (B + 1) → S'.length = S.length → k61 kept' S' [] (-1) false = some true) :
    m12_overflightlaw45_JournalSurvives_B1 sectors script kept v1 S [] (-1) false k61 sf (n : Int) recs (S.length : Int) (kept.length : Int) = some true := by
  obtain ⟨new, rfl⟩ := hpre
  have hu := hF.use
  have hm := h.len
  have hul := usedN_len (kept ++ new)
  rw [usedN_two] at hu hul
  unfold m12_overflightlaw45_JournalSurvives_B1
  rw [decide_eq_false (by omega), cond_false, decide_eq_false (show ¬ ((kept ++ new).length : Int) < (kept.length : Int) by rw [List.length_append]; omega), cond_false]
  have hSR : m37_overflightref45_SameRecords (kept ++ new) (kept ++ new) = some true := by rw [m37_eq _ _ (by omega), decide_eq_true rfl]
  have good : ∀ left, -1 ≤ left → left ≤ 65536 → ∀ (M : XJournal × XDisk × Int → Option Bool), (∀ S' left', Jd S' (kept ++ new) (B + 1) → S'.length = S.length → M (⟨kept ++ new, (S.length : Int), ((kept ++ new).length : Int)⟩, pen S' [] left', 0) = some true) →
      (0 ≤ left → ∀ S' i, i ≤ new.length → Jd S' (kept ++ new.take i) (B + 1) → S'.length = S.length → M (⟨[], 0, 0⟩, ⟨S', [], 0, true⟩, 440) = some true) →
      (m39_journal_Sync (⟨kept ++ new, (S.length : Int), (kept.length : Int)⟩ : XJournal) (pen S [] left)).bind M = some true := by
    intro left hl hl' M h1 h2
    rcases sync_any h hB hl hl' hu with ⟨S', left', e1, e2, e3⟩ | ⟨h0, S', i, e1, e2, e3, e4⟩
    · rw [e1, Option.bind_some]; exact h1 S' left' e2 e3
    · rw [e1, Option.bind_some]; exact h2 h0 S' i e2 e3 e4
  rw [jn_eq]
  cases hst : (script.getD v1.toNat default).stop
  · rw [cond_false]
    refine good (-1) (by decide) (by decide) _ (fun S' left' j l => ?_) (fun h0 => absurd h0 (by decide))
    simp only [decide_true, cond_true, jn_eq, ne_eq, not_true_eq_false, decide_false, cond_false, hSR, Option.bind_some, Bool.not_true]
    exact hk S' _ j l
  · rw [cond_true]
    have hb : ∃ q : Nat, ((UInt8.ofNat ((((script.getD v1.toNat default).left).toNat : Int).tmod 40).toNat).toNat : Int) = (q : Int) ∧ q < 256 := ⟨_, rfl, u8lt _⟩
    obtain ⟨q, hq, hq2⟩ := hb
    rw [hq, show (⟨S, [], -1, false⟩ : XDisk) = pen S [] (-1) from rfl, stop_ok h (by omega) (by omega), Option.bind_some]
    simp only [ne_eq, not_true_eq_false, decide_false, cond_false]
    refine good (q : Int) (by omega) (by omega) _ (fun S' left' j l => ?_) (fun _ S' i hi j l => ?_)
    · simp only [decide_true, cond_true, jn_eq, ne_eq, not_true_eq_false, decide_false, cond_false, hSR, Option.bind_some, Bool.not_true]
      exact hk S' _ j l
    · have ho : m38_journal_Open (⟨S', [], -1, false⟩ : XDisk) = some (⟨kept ++ new.take i, (S'.length : Int), ((kept ++ new.take i).length : Int)⟩, 0) := j.opens
      have e1 : ((kept ++ new).drop 0).take ((kept ++ new.take i).length - 0) = kept ++ new.take i := by
        rw [List.drop_zero, Nat.sub_zero, List.length_append, List.take_length_add_append, List.length_take, Nat.min_eq_left hi]
      have hl2 : (kept ++ new.take i).length ≤ (kept ++ new).length := by simp only [List.length_append, List.length_take]; omega
      have hl1 : kept.length ≤ (kept ++ new.take i).length := by simp
      have hSR2 : m37_overflightref45_SameRecords (kept ++ new.take i) (((kept ++ new).drop 0).take ((kept ++ new.take i).length - 0)) = some true := by rw [e1, m37_eq _ _ (by omega), decide_eq_true rfl]
      rw [decide_eq_false (show ¬ (440 : Int) = 0 by decide), cond_false]
      simp only [decide_true, cond_true, jn_eq, ne_eq, not_true_eq_false, decide_false, cond_false, m20_disk_Restart, Option.bind_some, ho, Bool.not_true]
      rw [decide_eq_false (show ¬ ((kept ++ new.take i).length : Int) < (kept.length : Int) by omega), cond_false, decide_eq_false (show ¬ ((kept ++ new).length : Int) < ((kept ++ new.take i).length : Int) by omega), cond_false, ck_eq (by omega), hSR2]
      simp only [Option.bind_some, Bool.not_true, cond_false]
      exact hk S' _ j l
theorem JournalSurvives_law (sectors : UInt8) (script : List XCrash) (h1 : SmT sectors) (h2 : SmLB 32 smXCrash script) : m12_overflightlaw45_JournalSurvives sectors script = some true := by
  unfold m12_overflightlaw45_JournalSurvives
  rw [sane45, Option.bind_some]
  simp only [Bool.not_true, cond_false]
  by_cases hs : (8 : Int) < (script.length : Int)
  · rw [decide_eq_true hs]; rfl
  rw [decide_eq_false hs, cond_false]
  obtain ⟨m, hm, hm1, hm2⟩ : ∃ m : Nat, IntKind.wrap .i64 (((UInt8.ofNat ((sectors.toNat : Int).tmod 30).toNat).toNat : Int) + 1) = (m : Int) ∧ 1 ≤ m ∧ m ≤ 40 := by
    have e : ((sectors.toNat : Int).tmod 30).toNat = sectors.toNat % 30 := by
      have : (sectors.toNat : Int).tmod 30 = ((sectors.toNat % 30 : Nat) : Int) := rfl
      rw [this, Int.toNat_natCast]
    rw [e]
    have e2 : (UInt8.ofNat (sectors.toNat % 30)).toNat = sectors.toNat % 30 := by simp; omega
    rw [e2, wrap_i64 (by omega) (by omega)]
    exact ⟨sectors.toNat % 30 + 1, by omega, by omega, by omega⟩
  rw [hm, m15_ok hm1 hm2, Option.bind_some]
  simp only [ne_eq, not_true_eq_false, decide_false, cond_false]
  have J0 : Jd (List.replicate m (List.replicate 128 0)) [] 0 := Jd.start hm1 hm2
  refine up_list (L := fun n i (st : List (List UInt8) × List (List UInt8)) => loop6 (m12_overflightlaw45_JournalSurvives_B0 sectors script) n st.1 i st.2 [] (-1) false) (fun i st => Jd st.2 st.1 i) (fun _ _ _ => some true) script (by omega) ?_ ?_ _ ([], List.replicate m (List.replicate 128 0)) (by omega) J0
  · rintro n ⟨kept, S⟩ h
    simp only [loop6_succ] at h ⊢
    unfold m12_overflightlaw45_JournalSurvives_B0
    rw [decide_eq_false (Int.lt_irrefl _), cond_false, show (⟨S, [], -1, false⟩ : XDisk) = pen S [] (-1) from rfl, h.opens, Option.bind_some]
    have hk := h.fits; have hl := h.len; have := usedN_len kept
    rw [decide_eq_true rfl, cond_true, m37_eq _ _ (by simp only; omega), Option.bind_some, decide_eq_true rfl]
  · rintro n i ⟨kept, S⟩ x t g1 g2 g3 h ih
    simp only [loop6_succ] at h ⊢
    generalize hL : loop6 (m12_overflightlaw45_JournalSurvives_B0 sectors script) n = L at ih
    have hfit := h.fits; have hl := h.len; have hone := h.one; have hkl := usedN_len kept
    have gx : script.getD (i : Int).toNat default = x := getD_of g2
    have hx := h2.2 x (List.mem_of_getElem? g2)
    have hxl : x.records.length ≤ 140737488351232 := by have := hx.1.1; omega
    have hxb : ∀ b ∈ x.records, b.length ≤ 140737488351232 := fun b hb => (hx.1.2 b hb).1
    unfold m12_overflightlaw45_JournalSurvives_B0
    rw [decide_eq_true (ipos g1), cond_true]
    simp only [jn_eq]
    rw [ck_eq (by omega), m29_eq _ _ (by rw [gx]; omega), Option.bind_some]
    cases fewJ (⟨S, [], -1, false⟩ : XDisk) (script.getD (i : Int).toNat default).records
    · rfl
    have hSR : m37_overflightref45_SameRecords kept kept = some true := by rw [m37_eq _ _ (by omega), decide_eq_true rfl]
    rw [show (⟨S, [], -1, false⟩ : XDisk) = pen S [] (-1) from rfl, h.opens]
    simp only [Bool.not_true, cond_false, Option.bind_some, ne_eq, not_true_eq_false, decide_false, hSR]
    rw [g3]
    have F0 : Fit S.length kept (kept.length : Int) := ⟨by omega, hl, hfit, by omega, by omega⟩
    refine up_list (L := fun n j (st : List (List UInt8)) => loop4 (m12_overflightlaw45_JournalSurvives_B1 sectors script kept (i : Int) S [] (-1) false fun kept_2 v_6 v_7 v_8 v_9 => L kept_2 ((i : Int) + 1) v_6 v_7 v_8 v_9) n j st (S.length : Int) (kept.length : Int)) (fun _ st => Fit S.length st (kept.length : Int) ∧ kept <+: st) (fun _ _ _ => some true) x.records (by omega) ?_ ?_ _ kept (by rw [gx]; omega) ⟨F0, List.prefix_refl _⟩
    · rintro n' st ⟨hst, hpre⟩
      simp only [loop4_succ]
      exact step_ok (by rw [gx]) h (by omega) hst hpre fun S' kept' j l => ih (kept', S') j
    · rintro n' j st y t' q1 q2 q3 ⟨hst, hpre⟩ ih'
      simp only [loop4_succ]
      generalize hL' : loop4 (m12_overflightlaw45_JournalSurvives_B1 sectors script kept (i : Int) S [] (-1) false fun kept_2 v_6 v_7 v_8 v_9 => L kept_2 ((i : Int) + 1) v_6 v_7 v_8 v_9) n' = L' at ih'
      unfold m12_overflightlaw45_JournalSurvives_B1
      have gy : x.records.getD (j : Int).toNat default = y := getD_of q2
      obtain ⟨r, e1, e2⟩ := app_addN (b := y) hst (hxb y (List.mem_of_getElem? q2))
      rw [gx, decide_eq_true (ipos q1), cond_true, ck_eq (by omega), gy, e1, Option.bind_some, q3]
      rcases e2 with ⟨e2, e3⟩ | ⟨e2, e3⟩
      · rw [decide_eq_true e2, cond_true, e3]
        exact ih' _ ⟨(addN_fit hst).1, hpre.trans (addN_fit hst).2.2⟩
      · rw [decide_eq_false e2, cond_false]
        exact ih' _ ⟨hst, hpre⟩
end Go.Fx



namespace Go.Proofs.Ytegomkljijgjjaa.lawJournalSurvives
open Go Go.Proofs Go.ChangeShapes Go.WideShapes Go.ChangeAt Go.RowKit Go.Fx
open Go.ChangeMaps (open_string shut_string)
set_option linter.unusedVariables false
set_option maxRecDepth 100000
theorem own : ownKnob Try.prog.godebug = none := by kernel_rfl
theorem laidOut : laidOutB Try.prog = true := by kernel_rfl
set_option maxRecDepth 100000 in
set_option maxHeartbeats 1000000 in
theorem lifted (os : Os) (started : os.Started) (H : Type) (enc : TypeId × Value → H) :
    ReturnsInHanded {} Try.checked os 12 .any (Rows.journalSurvivesSpec.pre6 enc Try.prog Try.f12 Rows.journalSurvivesRow.domain false) (Rows.journalSurvivesSpec.post enc Try.prog Try.f12 false true false false) := by
  refine returnsInHanded_of_change_sized (C := Try.checked) own started (by kernel_rfl) Try.func12
    (ChangeSpec.witness6 (enc := enc) (C := Try.checked) false ⟨#[], #[(.int .u8 0), (.slice none 0 0)], []⟩ 8 (by kernel_rfl) (by kernel_rfl) (by kernel_rfl) (by kernel_rfl)) ?_
  intro W base args ds gs before hval0 hW hcnd hsz _
  have hval : ∀ (j : Nat) t v, Try.f12.params[j]? = some t → args[j]? = some v → Value.okWide Try.prog W .any base t v := hval0
  have hW' := hW
  obtain ⟨p, q, hA0, hV, rfl, hfz, hnd⟩ := hW
  have hA : DataW.TrodAll enc Try.prog W 0 (fun _ => true) true Try.f12.params.toList args.toList ds p := hA0
  rw [Try.params12] at hA hval
  obtain ⟨v0, vs0, d0, ds0, p0, q0, hargs, rfl, rfl, h0, r0⟩ := trodAll_cons hA
  obtain ⟨v1, vs1, d1, ds1, p1, q1, rfl, rfl, rfl, h1, r1⟩ := trodAll_cons r0
  obtain ⟨rfl, rfl, rfl⟩ := trodAll_nil r1
  obtain rfl : args = #[v0, v1] := by cases args; simp_all
  obtain ⟨rfl, rfl⟩ := trodVars_none hV
  have k0 := h0
  have lt0 : ∀ x ∈ p0, x.block < W.heap.size := by obtain ⟨m, hm⟩ := k0; exact DataW.trod_lt m _ _ _ hm
  obtain ⟨fu0, hf0⟩ := h0
  obtain ⟨sectors, rr0, sm0⟩ := rd5.2 _ _ _ hf0
  replace sm0 := sm0 (fun n hn => by have := List.all_eq_true.1 hsz n (DataW.weights_mem_each (j := 0) (t := 5) rfl rfl n hn); simpa using this)
  obtain ⟨n0, rfl⟩ := okWide_int Try.underlying5 (hval 0 5 v0 rfl rfl)
  replace rr0 : rU8.rd W [] [.int .u8 n0] sectors := rr0
  obtain rfl : n0 = (sectors.toNat : Int) := by have := un_u8 rr0; simpa using this
  have k1 := h1
  have lt1 : ∀ x ∈ p1, x.block < W.heap.size := by obtain ⟨m, hm⟩ := k1; exact DataW.trod_lt m _ _ _ hm
  obtain ⟨fu1, hf1⟩ := h1
  obtain ⟨script, rr1, sm1⟩ := rd68.2 _ _ _ hf1
  replace sm1 := sm1 (fun n hn => by have := List.all_eq_true.1 hsz n (DataW.weights_mem_each (j := 1) (t := 68) rfl rfl n hn); simpa using this)
  obtain ⟨b1, l1, c1, rfl⟩ := okWide_slice Try.underlying68 (hval 1 68 v1 rfl rfl)
  replace rr1 : (rSl rXCrash).rd W [] [.slice b1 l1 c1] script := rr1
  obtain ⟨a_script, c_script, e1, f_script⟩ := un_sl rr1
  simp only [Value.slice.injEq] at e1
  obtain ⟨rfl, rfl, rfl⟩ := e1
  have hm : m12_overflightlaw45_JournalSurvives sectors script = some true := JournalSurvives_law _ _ sm0 sm1
  have hc := Fn.calls (c12_overflightlaw45_JournalSurvives (sectors := sectors) (script := script) (w := W) (O := []) (by simp) f_script hm)
  clear hA0 hval0
  refine Calls.mono hc ?_
  rintro e W' ⟨v, rfl, bel, hv⟩
  replace bel := bel.below; obtain rfl : v = .bool true := hv
  exact ⟨_, rfl, _, _, _, [], _, [], hW', trodAll_mk1 (shut_bool Try.underlying4 _), (trodAll_cons_mk (Below.trod laidOut (by kernel_rfl) (of_decide_eq_true (by kernel_rfl)) k0 bel lt0) (trodAll_cons_mk (Below.trod laidOut (by kernel_rfl) (of_decide_eq_true (by kernel_rfl)) k1 bel lt1) trodAll_mk0)), rfl, bel.frame _, fun h => by cases h⟩
theorem over : Rows.journalSurvivesRow.holds Try.pinned (OpenSpec.ofChange Rows.journalSurvivesSpec) :=
  OpenClaim.holds_of_wide 12 Try.f12 rfl rfl rfl rfl rfl rfl rfl ⟨rfl, rfl, rfl, rfl, rfl⟩ rfl rfl rfl rfl rfl (by kernel_rfl) Try.func12 (by kernel_rfl)
    (of_decide_eq_true (by kernel_rfl)) (by unfold Func.isWrapper; first | (rw [if_pos (by decide +kernel)]; kernel_rfl) | (rw [if_neg (by decide +kernel)]; exact ⟨rfl, rfl⟩))
    (fun os started H enc _ => lifted os started H enc)
theorem proved : Rows.JournalSurvivesSaid := over
end Go.Proofs.Ytegomkljijgjjaa.lawJournalSurvives


