/- The law JournalDamage holds for every list of records and every change of one byte. -/
import Derived.Test.YtegomkljijgjjaaDmg6
import Derived.Test.YtegomkljijgjjaaRows
import Derived.WalkKit
import Derived.ShutString
/- The records that are read off sectors. -/
set_option linter.unusedSimpArgs false
set_option linter.unusedVariables false
namespace Go.Fx
open Go Go.RowKit
/-- the sectors of a record -/
def pcs (g : Nat) : Nat → Bool → List UInt8 → Nat → List (List UInt8)
  | _, _, _, 0 => []
  | n, f, b, 1 => [enc g n (kd f true) b]
  | n, f, b, k + 2 => enc g n (kd f false) (b.take 112) :: pcs g (n + 1) false (b.drop 112) (k + 1)
theorem pcs_len (g : Nat) : ∀ (k n : Nat) (f : Bool) (b : List UInt8), (pcs g n f b k).length = k
  | 0, _, _, _ => rfl
  | 1, _, _, _ => rfl
  | k + 2, n, f, b => by show (pcs g (n + 1) false (b.drop 112) (k + 1)).length + 1 = _; rw [pcs_len g (k + 1)]
theorem secN_pos (n : Nat) : 1 ≤ secN n := by unfold secN; omega
theorem secN_one {n : Nat} (h : secN n = 1) : n ≤ 112 := by unfold secN at h; omega
theorem secN_two {n k : Nat} (h : secN n = k + 2) : 112 < n ∧ secN (n - 112) = k + 1 := by unfold secN at *; omega
section
variable {S : List (List UInt8)} {sf : Int → Int → Option (List (Int × List UInt8))}
theorem inner_bad {f n : Nat} {a last : Int} {acc : List UInt8} (hn : n < S.length) (hb : m70_journal_good S[n] (n : Int) = some false) :
    loop4 (m69_journal_records_1_B1 S sf) (f + 1) a last acc (n : Int) = some [] := by
  rw [loop4_succ]; unfold m69_journal_records_1_B1
  rw [decide_eq_true (ipos hn), cond_true, ck_eq (by omega)]
  simp only [jn_eq, Int.toNat_natCast, getD_len hn]
  rw [hb]; rfl
theorem kd1 (f l : Bool) : decide (((UInt8.ofNat (Go.bits .and .u8 ((kd f l).toNat : Int) 1).toNat).toNat : Int) ≠ 0) = f := by cases f <;> cases l <;> rfl
theorem kd2 (f l : Bool) : decide (((UInt8.ofNat (Go.bits .and .u8 ((kd f l).toNat : Int) 2).toNat).toNat : Int) ≠ 0) = l := by cases f <;> cases l <;> rfl
theorem inner_good {f a last n g : Nat} {fb l : Bool} {acc c : List UInt8} (hn : n < S.length) (hlim : S.length ≤ 5000) (hs : S[n] = enc g n (kd fb l) c) (hg : 0 < g) (hg' : g < 4294967296) (hc : c.length ≤ 112) (hl : l = false → c.length = 112) (hf : fb = false → 0 < c.length)
    (hfb : fb = decide (n = a)) (hat : a ≤ n) (h128 : ∀ s ∈ S, s.length = 128) (hh : getN ((S.getD a default).take 4) = g) (hlast : last ≤ g) (hacc : acc.length ≤ 1000000) :
    loop4 (m69_journal_records_1_B1 S sf) (f + 1) (a : Int) (last : Int) acc (n : Int) =
      bif l then yl ((n : Int) + 1, acc ++ c) (sf ((n : Int) + 1) (g : Int)) else loop4 (m69_journal_records_1_B1 S sf) f (a : Int) (last : Int) (acc ++ c) ((n : Int) + 1) := by
  rw [loop4_succ]
  generalize loop4 (m69_journal_records_1_B1 S sf) f = L
  unfold m69_journal_records_1_B1
  rw [decide_eq_true (ipos hn), cond_true, ck_eq (by omega)]
  have ha : a < S.length := by omega
  simp only [jn_eq, Int.toNat_natCast, getD_len hn]
  rw [getD_len ha] at hh
  have hal : (S.getD a default).length = 128 := by rw [getD_len ha]; exact h128 _ (List.getElem_mem ha)
  rw [hs, m70_enc hg hg' (by omega) hc hl hf, Option.bind_some]
  have l128 : (enc g n (kd fb l) c).length = 128 := enc_len hc
  have h11 : ((enc g n (kd fb l) c).getD 11 default).toNat = c.length := enc_11 hc
  have h10 : (enc g n (kd fb l) c).getD 10 default = kd fb l := rfl
  have hw : IntKind.wrap .i64 (12 + (c.length : Int)) = ((12 + c.length : Nat) : Int) := by rw [wrap_i64 (by omega) (by omega)]; omega
  have ht : ((enc g n (kd fb l) c).drop 0).take (4 - 0) = put4 g := rfl
  have hbody : ((enc g n (kd fb l) c).drop 12).take (((12 + c.length : Nat) : Int).toNat - 12) = c := by rw [show ((12 + c.length : Nat) : Int).toNat - 12 = c.length by omega]; exact enc_body
  have hwn : IntKind.wrap .i64 ((n : Int) + 1) = (n : Int) + 1 := wrapS (by omega)
  have c10 : (0 : Int) ≤ 10 ∧ 10 < ((enc g n (kd fb l) c).length : Int) := by rw [l128]; decide
  have c11 : (0 : Int) ≤ 11 ∧ 11 < ((enc g n (kd fb l) c).length : Int) := by rw [l128]; decide
  have c4 : (0 : Int) ≤ (4 : Int) ∧ (4 : Int) ≤ ((enc g n (kd fb l) c).length : Int) := by rw [l128]; decide
  have c4' : (0 : Int) ≤ (4 : Int) ∧ (4 : Int) ≤ ((S.getD a default).length : Int) := by rw [hal]; decide
  have ca : (0 : Int) ≤ (a : Int) ∧ (a : Int) < (S.length : Int) := by omega
  have c12 : (0 : Int) ≤ 12 ∧ (12 : Int) ≤ ((12 + c.length : Nat) : Int) ∧ ((12 + c.length : Nat) : Int) ≤ ((enc g n (kd fb l) c).length : Int) := by rw [l128]; omega
  have cc : (acc.length + c.length) * 1 ≤ 140737488355328 := by omega
  have e4 : m60_journal_get (put4 g) = some (g : Int) := by rw [(m60_eq (put4 g) (Nat.le_refl 4)).1, get_put hg']
  have hta : ((S.getD a default).drop 0).take (4 - 0) = (S[a]).take 4 := by rw [getD_len ha]; rfl
  have e5 : m60_journal_get (((S.getD a default).drop 0).take (4 - 0)) = some (g : Int) := by
    rw [hta, (m60_eq _ (by rw [List.length_take]; omega)).1, hh]
  have ebeq : (!(fb == decide ((n : Int) = (a : Int)))) = false := by
    have e : decide ((n : Int) = (a : Int)) = decide (n = a) := decide_eq_decide.2 (by omega)
    rw [hfb, e]; simp
  simp only [Bool.not_true, cond_false, ck_eq c10, ck_eq c11, ck_eq c4, ck_eq c4', ck_eq ca, h10, h11, hw, ht, hbody, kd1, kd2, e4, e5, Option.bind_some, ck_eq c12, ck_eq cc, ebeq, hwn, ne_eq, not_true_eq_false, decide_false]
  rw [decide_eq_false (show ¬ (g : Int) < (last : Int) by omega), cond_false]
theorem inner_rec {a last g : Nat} (hg : 0 < g) (hg' : g < 4294967296) (hlim : S.length ≤ 5000) (h128 : ∀ s ∈ S, s.length = 128) (hh : getN ((S.getD a default).take 4) = g) (hlast : last ≤ g) :
    ∀ (k f n : Nat) (fb : Bool) (b acc : List UInt8), k + 1 = secN b.length → (∀ j, j < k + 1 → S[n + j]? = (pcs g n fb b (k + 1))[j]?) → fb = decide (n = a) → (fb = false → 0 < b.length) → a ≤ n → k < f → acc.length + b.length ≤ 1000000 →
      loop4 (m69_journal_records_1_B1 S sf) f (a : Int) (last : Int) acc (n : Int) = yl (((n + (k + 1) : Nat) : Int), acc ++ b) (sf ((n + (k + 1) : Nat) : Int) (g : Int))
  | 0, f, n, fb, b, acc, hk, hp, hfb, hne, ha, hf, hacc => by
    obtain ⟨f, rfl⟩ : ∃ f', f = f' + 1 := ⟨f - 1, by omega⟩
    have h0 := hp 0 (by omega)
    obtain ⟨hn, hs⟩ := List.getElem?_eq_some_iff.1 (show S[n]? = some (enc g n (kd fb true) b) from h0)
    have hb := secN_one hk.symm
    rw [inner_good hn hlim hs hg hg' hb (by simp) hne hfb ha h128 hh hlast (by omega)]
    rfl
  | k + 1, f, n, fb, b, acc, hk, hp, hfb, hne, ha, hf, hacc => by
    obtain ⟨f, rfl⟩ : ∃ f', f = f' + 1 := ⟨f - 1, by omega⟩
    have h0 := hp 0 (by omega)
    obtain ⟨hn, hs⟩ := List.getElem?_eq_some_iff.1 (show S[n]? = some (enc g n (kd fb false) (b.take 112)) from h0)
    obtain ⟨hb, hk2⟩ := secN_two hk.symm
    have ht : (b.take 112).length = 112 := by rw [List.length_take]; omega
    rw [inner_good hn hlim hs hg hg' (by omega) (fun _ => ht) (fun _ => by omega) hfb ha h128 hh hlast (by omega), cond_false]
    have := inner_rec hg hg' hlim h128 hh hlast k f (n + 1) false (b.drop 112) (acc ++ b.take 112) (by rw [List.length_drop]; omega) (fun j hj => by have := hp (j + 1) (by omega); rw [show n + 1 + j = n + (j + 1) by omega, this]; rfl)
      (by rw [decide_eq_false]; omega) (fun _ => by rw [List.length_drop]; omega) (by omega) (by omega) (by simp only [List.length_append, List.length_drop, ht]; omega)
    rw [show (n : Int) + 1 = ((n + 1 : Nat) : Int) by omega, this, List.append_assoc, List.take_append_drop, show n + 1 + (k + 1) = n + (k + 1 + 1) by omega]
theorem inner_part {a last g : Nat} (hg : 0 < g) (hg' : g < 4294967296) (hlim : S.length ≤ 5000) (h128 : ∀ s ∈ S, s.length = 128) (hh : getN ((S.getD a default).take 4) = g) (hlast : last ≤ g) :
    ∀ (j k f n : Nat) (fb : Bool) (b acc : List UInt8), j < k → k = secN b.length → (∀ i, i < j → S[n + i]? = (pcs g n fb b k)[i]?) → (∃ s, S[n + j]? = some s ∧ m70_journal_good s ((n + j : Nat) : Int) = some false) → fb = decide (n = a) → (fb = false → 0 < b.length) → a ≤ n → j < f → acc.length + b.length ≤ 1000000 →
      loop4 (m69_journal_records_1_B1 S sf) f (a : Int) (last : Int) acc (n : Int) = some []
  | 0, k, f, n, fb, b, acc, hj, hk, hp, hbad, hfb, hne, ha, hf, hacc => by
    obtain ⟨f, rfl⟩ : ∃ f', f = f' + 1 := ⟨f - 1, by omega⟩
    obtain ⟨s, h1, h2⟩ := hbad
    obtain ⟨hn, hs⟩ := List.getElem?_eq_some_iff.1 (show S[n]? = some s from h1)
    exact inner_bad hn (by rw [hs]; exact h2)
  | j + 1, k, f, n, fb, b, acc, hj, hk, hp, hbad, hfb, hne, ha, hf, hacc => by
    obtain ⟨f, rfl⟩ : ∃ f', f = f' + 1 := ⟨f - 1, by omega⟩
    obtain ⟨k, rfl⟩ : ∃ k', k = k' + 2 := ⟨k - 2, by omega⟩
    have h0 := hp 0 (by omega)
    obtain ⟨hn, hs⟩ := List.getElem?_eq_some_iff.1 (show S[n]? = some (enc g n (kd fb false) (b.take 112)) from h0)
    obtain ⟨hb, hk2⟩ := secN_two hk.symm
    have ht : (b.take 112).length = 112 := by rw [List.length_take]; omega
    rw [inner_good hn hlim hs hg hg' (by omega) (fun _ => ht) (fun _ => by omega) hfb ha h128 hh hlast (by omega), cond_false, show (n : Int) + 1 = ((n + 1 : Nat) : Int) by omega]
    exact inner_part hg hg' hlim h128 hh hlast j (k + 1) f (n + 1) false (b.drop 112) (acc ++ b.take 112) (by omega) (by rw [List.length_drop]; omega) (fun i hi => by have := hp (i + 1) (by omega); rw [show n + 1 + i = n + (i + 1) by omega, this]; rfl)
      (by rw [show n + 1 + j = n + (j + 1) by omega]; exact hbad) (by rw [decide_eq_false]; omega) (fun _ => by rw [List.length_drop]; omega) (by omega) (by omega) (by simp only [List.length_append, List.length_drop, ht]; omega)
theorem inner_old {f a last : Nat} {acc : List UInt8} (ha : a < S.length) (hlim : S.length ≤ 5000) (h128 : ∀ s ∈ S, s.length = 128) (hold : getN ((S.getD a default).take 4) < last) :
    loop4 (m69_journal_records_1_B1 S sf) (f + 1) (a : Int) (last : Int) acc (a : Int) = some [] := by
  rw [loop4_succ]
  generalize loop4 (m69_journal_records_1_B1 S sf) f = L
  unfold m69_journal_records_1_B1
  rw [decide_eq_true (ipos ha), cond_true, ck_eq (by omega)]
  have hal : (S.getD a default).length = 128 := by rw [getD_len ha]; exact h128 _ (List.getElem_mem ha)
  simp only [jn_eq, Int.toNat_natCast]
  obtain ⟨r, h1, _⟩ := m70_eq hal a (by omega)
  rw [h1, Option.bind_some]
  cases r
  · rfl
  have c10 : (0 : Int) ≤ 10 ∧ 10 < ((S.getD a default).length : Int) := by rw [hal]; decide
  have c4 : (0 : Int) ≤ (4 : Int) ∧ (4 : Int) ≤ ((S.getD a default).length : Int) := by rw [hal]; decide
  have ca : (0 : Int) ≤ (a : Int) ∧ (a : Int) < (S.length : Int) := by omega
  have e5 : m60_journal_get (((S.getD a default).drop 0).take (4 - 0)) = some (getN ((S.getD a default).take 4) : Int) := by
    rw [(m60_eq _ (by rw [List.length_take]; omega)).1]; rfl
  simp only [Bool.not_true, cond_false, ck_eq c10, ck_eq c4, ck_eq ca, e5, Option.bind_some, ne_eq, not_true_eq_false, decide_false]
  rw [show decide ((getN ((S.getD a default).take 4) : Int) < (last : Int)) = true from decide_eq_true (by omega)]
  have key : ∀ q : Bool, (bif q then (some [] : Option (List (Int × List UInt8))) else some []) = some [] := by intro q; cases q <;> rfl
  exact key _
/-- nothing is read from here on -/
def Stops (S : List (List UInt8)) (u gl : Nat) : Prop := ∀ f, loop2 (m69_journal_records_1_B0 S) (f + 1) (u : Int) (gl : Int) = some []
theorem Stops.fin {gl : Nat} : Stops S S.length gl := by
  intro f
  rw [loop2_succ]; unfold m69_journal_records_1_B0
  rw [show ((S.length : Int) - (S.length : Int)).toNat + 1 = 0 + 1 by omega, loop4_succ]
  unfold m69_journal_records_1_B1
  rw [decide_eq_false (Int.lt_irrefl _)]; rfl
theorem Stops.old {u gl : Nat} (hu : u < S.length) (hlim : S.length ≤ 5000) (h128 : ∀ s ∈ S, s.length = 128) (hold : getN ((S.getD u default).take 4) < gl) : Stops S u gl := by
  intro f
  rw [loop2_succ]; unfold m69_journal_records_1_B0
  exact inner_old hu hlim h128 hold
theorem Stops.bad {u gl : Nat} {s : List UInt8} (hs : S[u]? = some s) (hb : m70_journal_good s (u : Int) = some false) : Stops S u gl := by
  intro f
  obtain ⟨hn, rfl⟩ := List.getElem?_eq_some_iff.1 hs
  rw [loop2_succ]; unfold m69_journal_records_1_B0
  exact inner_bad hn hb
theorem Stops.part {u gl g j : Nat} {b : List UInt8} (hg : 0 < g) (hg' : g < 4294967296) (hlim : S.length ≤ 5000) (h128 : ∀ s ∈ S, s.length = 128) (hlast : gl ≤ g) (hj : j < secN b.length) (hbl : b.length ≤ 1000000)
    (hp : ∀ i, i < j → S[u + i]? = (pcs g u true b (secN b.length))[i]?) (hbad : ∃ s, S[u + j]? = some s ∧ m70_journal_good s ((u + j : Nat) : Int) = some false) : Stops S u gl := by
  cases j with
  | zero => obtain ⟨s, h1, h2⟩ := hbad; exact Stops.bad h1 h2
  | succ j =>
    intro f
    rw [loop2_succ]; unfold m69_journal_records_1_B0
    obtain ⟨k, hk⟩ : ∃ k, secN b.length = k + 2 := ⟨secN b.length - 2, by omega⟩
    have h0 := hp 0 (by omega)
    rw [hk] at h0
    obtain ⟨hn, hs⟩ := List.getElem?_eq_some_iff.1 (show S[u]? = some (enc g u (kd true false) (b.take 112)) from h0)
    obtain ⟨s, h1, h2⟩ := hbad
    have hlt := (List.getElem?_eq_some_iff.1 h1).1
    exact inner_part hg hg' hlim h128 (by rw [getD_len hn, hs, enc_take4, get_put hg']) hlast (j + 1) _ _ u true b [] hj rfl hp ⟨s, h1, h2⟩ (by simp) (by simp) (Nat.le_refl _) (by omega) (by simpa using hbl)
end
/-- records that stand on sectors, from a sector on, none of an earlier generation; to what sector, and of what generation the last is -/
inductive Lay (S : List (List UInt8)) : Nat → Nat → List (List UInt8) → Nat → Nat → Prop
  | nil (a last : Nat) : Lay S a last [] a last
  | cons {a last g : Nat} {b : List UInt8} {bs : List (List UInt8)} {u gl : Nat} (hp : ∀ j, j < secN b.length → S[a + j]? = (pcs g a true b (secN b.length))[j]?) (hl : last ≤ g) (hg : 0 < g) (hg' : g < 4294967296) (t : Lay S (a + secN b.length) g bs u gl) : Lay S a last (b :: bs) u gl
section
variable {S S' : List (List UInt8)} {a last u gl : Nat} {bs : List (List UInt8)}
theorem pcs_head {g n k : Nat} {f : Bool} {b : List UInt8} : ∃ l c, (pcs g n f b (k + 1))[0]? = some (enc g n (kd f l) c) := by
  cases k with
  | zero => exact ⟨true, b, rfl⟩
  | succ k => exact ⟨false, b.take 112, rfl⟩
theorem Lay.use (h : Lay S a last bs u gl) : u = a + usedN bs := by
  induction h with
  | nil => simp [usedN]
  | cons hp hl hg hg' t ih => rw [ih]; simp [usedN]; omega
theorem Lay.lim (h : Lay S a last bs u gl) (ha : a ≤ S.length) : u ≤ S.length := by
  induction h with
  | nil => exact ha
  | @cons a last g b bs u gl hp hl hg hg' t ih =>
    refine ih ?_
    have hpos := secN_pos b.length
    have h1 := hp (secN b.length - 1) (by omega)
    have hlt : secN b.length - 1 < (pcs g a true b (secN b.length)).length := by rw [pcs_len]; omega
    rw [List.getElem?_eq_getElem hlt] at h1
    have := (List.getElem?_eq_some_iff.1 h1).1
    omega
theorem Lay.le (h : Lay S a last bs u gl) : a ≤ u ∧ bs.length ≤ u - a := by
  induction h with
  | nil => simp
  | @cons a last g b bs u gl hp hl hg hg' t ih => have := secN_pos b.length; simp only [List.length_cons]; omega
theorem Lay.congr (h : Lay S a last bs u gl) (hS : ∀ i, i < u → S'[i]? = S[i]?) : Lay S' a last bs u gl := by
  induction h with
  | nil => exact .nil _ _
  | @cons a last g b bs u gl hp hl hg hg' t ih =>
    exact .cons (fun j hj => by rw [hS _ (by have := t.le.1; omega)]; exact hp j hj) hl hg hg' (ih hS)
theorem Lay.append {bs' : List (List UInt8)} {u' gl' : Nat} (h : Lay S a last bs u gl) (h' : Lay S u gl bs' u' gl') : Lay S a last (bs ++ bs') u' gl' := by
  induction h with
  | nil => exact h'
  | cons hp hl hg hg' t ih => exact .cons hp hl hg hg' (ih h')
theorem Lay.gen {B : Nat} (h : Lay S a last bs u gl) (hl : last ≤ B) (hB : ∀ s ∈ S, getN (s.take 4) ≤ B) : gl ≤ B := by
  induction h with
  | nil => exact hl
  | @cons a last g b bs u gl hp hl' hg hg' t ih =>
    refine ih ?_
    obtain ⟨k, hk⟩ : ∃ k, secN b.length = k + 1 := ⟨secN b.length - 1, by have := secN_pos b.length; omega⟩
    have h1 := hp 0 (by omega)
    rw [hk] at h1
    obtain ⟨l, c, h2⟩ := pcs_head (g := g) (n := a) (k := k) (f := true) (b := b)
    rw [h2] at h1
    have := hB _ (List.mem_of_getElem? h1)
    rwa [enc_take4, get_put hg'] at this
theorem Lay.read (h : Lay S a last bs u gl) (hs : Stops S u gl) (hlim : S.length ≤ 5000) (h128 : ∀ s ∈ S, s.length = 128) : ∀ f, bs.length < f → ∃ ps, loop2 (m69_journal_records_1_B0 S) f (a : Int) (last : Int) = some ps ∧ ps.map Prod.snd = bs := by
  induction h with
  | nil => intro f hf; obtain ⟨f, rfl⟩ : ∃ f', f = f' + 1 := ⟨f - 1, by simp at hf; omega⟩; exact ⟨[], hs f, rfl⟩
  | @cons a last g b bs u gl hp hl hg hg' t ih =>
    intro f hf
    obtain ⟨f, rfl⟩ : ∃ f', f = f' + 1 := ⟨f - 1, by omega⟩
    obtain ⟨ps, h1, h2⟩ := ih hs f (by simp at hf; omega)
    obtain ⟨k, hk⟩ : ∃ k, secN b.length = k + 1 := ⟨secN b.length - 1, by have := secN_pos b.length; omega⟩
    have h0 := hp 0 (by omega)
    rw [hk] at h0
    obtain ⟨l, c, h3⟩ := pcs_head (g := g) (n := a) (k := k) (f := true) (b := b)
    rw [h3] at h0
    obtain ⟨hn, hs'⟩ := List.getElem?_eq_some_iff.1 (show S[a]? = some _ from h0)
    have hend : a + secN b.length ≤ S.length := by
      have h4 := hp (secN b.length - 1) (by omega)
      have hlt : secN b.length - 1 < (pcs g a true b (secN b.length)).length := by rw [pcs_len]; omega
      rw [List.getElem?_eq_getElem hlt] at h4
      have := (List.getElem?_eq_some_iff.1 h4).1
      omega
    have hbl : b.length ≤ 1000000 := by unfold secN at hend; omega
    rw [hk] at hp
    have := inner_rec (sf := loop2 (m69_journal_records_1_B0 S) f) hg hg' hlim h128 (by rw [getD_len hn, hs', enc_take4, get_put hg']) hl k (((S.length : Int) - (a : Int)).toNat + 1) a true b [] hk.symm hp (by simp) (by simp) (Nat.le_refl _) (by omega) (by simpa using hbl)
    refine ⟨(((a + (k + 1) : Nat) : Int), b) :: ps, ?_, by simp [h2]⟩
    rw [loop2_succ]
    unfold m69_journal_records_1_B0
    refine this.trans ?_
    rw [← hk, h1]; rfl
end
theorem open_rng : ∀ (ps : List (Int × List UInt8)) (acc : List (List UInt8)) (K : List (List UInt8) → Option (XJournal × Int)), acc.length + ps.length ≤ 5000 → rng1 m38_journal_Open_B0 K ps acc = K (acc ++ ps.map Prod.snd)
  | [], acc, K, _ => by rw [rng1_nil]; simp
  | p :: ps, acc, K, h => by
    rw [rng1_cons]
    simp only [List.length_cons] at h
    show ck _ _ = _
    rw [ck_eq (by simp; omega), open_rng ps (acc ++ [p.2]) K (by simp; omega)]; simp
theorem open_eq {d : XDisk} {bs : List (List UInt8)} {u gl : Nat} (hk : chk d = true) (hst : d.stopped = false) (hpn : d.pending = []) (h : Lay d.sectors 0 0 bs u gl) (hs : Stops d.sectors u gl) : m38_journal_Open d = some (⟨bs, (d.sectors.length : Int), (bs.length : Int)⟩, 0) := by
  obtain ⟨p1, p2, p3, p4, p5, p6, p7⟩ := chk_props hk
  have hu := h.lim (by omega)
  have hb := h.le.2
  obtain ⟨ps, h1, h2⟩ := h.read hs (by omega) p7 1000000 (by omega)
  have hpl : ps.length = bs.length := by rw [← h2]; simp
  unfold m38_journal_Open
  rw [m18_eq d (chk_few hk), hk, hst, hpn]
  have hm : m59_journal_records d.sectors = some ps := by
    unfold m59_journal_records m69_journal_records_1
    have h1' : loop2 (m69_journal_records_1_B0 d.sectors) 1000000 0 0 = some ps := h1
    rw [h1']; rfl
  rw [hm]
  simp only [Option.bind_some, jn_eq]
  rw [open_rng ps [] _ (by simp; omega), List.nil_append, h2]
  rfl
end Go.Fx



/- What a sync writes, and how the sectors read behind it. -/
set_option linter.unusedSimpArgs false
set_option linter.unusedVariables false
namespace Go.Fx
open Go Go.RowKit
/-- the generation that comes -/
def genS (G : Nat) : List (List UInt8) → Nat
  | [] => G
  | s :: t => genS (max (max G (getN (s.take 4) + 1)) (getN (s.drop 124) + 1)) t
theorem genS_ge : ∀ (S : List (List UInt8)) (G : Nat), G ≤ genS G S ∧ ∀ s ∈ S, getN (s.take 4) < genS G S ∧ getN (s.drop 124) < genS G S
  | [], G => ⟨Nat.le_refl _, fun _ h => by cases h⟩
  | s :: t, G => by
    obtain ⟨h1, h2⟩ := genS_ge t (max (max G (getN (s.take 4) + 1)) (getN (s.drop 124) + 1))
    refine ⟨?_, fun x hx => ?_⟩
    · show G ≤ genS _ t; omega
    · rcases List.mem_cons.1 hx with rfl | hx
      · show _ < genS _ t ∧ _ < genS _ t; omega
      · exact h2 x hx
theorem genS_le {B : Nat} : ∀ (S : List (List UInt8)) (G : Nat), G ≤ B + 1 → (∀ s ∈ S, getN (s.take 4) ≤ B ∧ getN (s.drop 124) ≤ B) → genS G S ≤ B + 1
  | [], G, h, _ => h
  | s :: t, G, h, hs => genS_le t _ (by have := hs s (by simp); omega) fun x hx => hs x (by simp [hx])
/-- writes one behind the other -/
def wrs : Nat → List (List UInt8) → List XWrite
  | _, [] => []
  | n, s :: t => ⟨(n : Int), s⟩ :: wrs (n + 1) t
theorem wrs_len : ∀ (l : List (List UInt8)) (n : Nat), (wrs n l).length = l.length
  | [], _ => rfl
  | _ :: t, n => by simp [wrs, wrs_len t]
theorem wrs_app : ∀ (l m : List (List UInt8)) (n : Nat), wrs n (l ++ m) = wrs n l ++ wrs (n + l.length) m
  | [], _, _ => by simp [wrs]
  | s :: t, m, n => by
    show _ :: wrs (n + 1) (t ++ m) = _
    rw [wrs_app t m (n + 1), List.length_cons, show n + 1 + t.length = n + (t.length + 1) by omega]; rfl
theorem wrs_mem {l : List (List UInt8)} {n : Nat} {w : XWrite} (h : w ∈ wrs n l) : (n : Int) ≤ w.at_ ∧ w.at_ < (n : Int) + l.length ∧ w.data ∈ l := by
  induction l generalizing n with
  | nil => cases h
  | cons s t ih =>
    rcases List.mem_cons.1 h with rfl | h
    · simp; omega
    · obtain ⟨h1, h2, h3⟩ := ih h
      simp only [List.length_cons, List.mem_cons]
      exact ⟨by omega, by omega, .inr h3⟩
theorem perf_wrs : ∀ (l : List (List UInt8)) (S : List (List UInt8)) (n i : Nat), n + l.length ≤ S.length → (perf S (wrs n l))[i]? = if n ≤ i ∧ i < n + l.length then l[i - n]? else S[i]?
  | [], S, n, i, h => by rw [if_neg (by rw [List.length_nil]; omega)]; rfl
  | s :: t, S, n, i, h => by
    simp only [List.length_cons] at h
    show (perf (S.set (n : Int).toNat s) (wrs (n + 1) t))[i]? = _
    rw [perf_wrs t _ (n + 1) i (by simp; omega), Int.toNat_natCast]
    simp only [List.length_cons]
    by_cases h1 : n + 1 ≤ i ∧ i < n + 1 + t.length
    · rw [if_pos h1, if_pos (by omega), show i - n = (i - (n + 1)) + 1 by omega]; rfl
    · rw [if_neg h1]
      by_cases h2 : i = n
      · subst h2; rw [if_pos (by omega), List.getElem?_set_self (by omega), Nat.sub_self]; rfl
      · rw [if_neg (by omega), List.getElem?_set_ne (fun e => h2 e.symm)]
/-- the sectors of further records -/
def news (g : Nat) : Nat → List (List UInt8) → List (List UInt8)
  | _, [] => []
  | n, b :: bs => pcs g n true b (secN b.length) ++ news g (n + secN b.length) bs
theorem news_len (g : Nat) : ∀ (bs : List (List UInt8)) (n : Nat), (news g n bs).length = usedN bs
  | [], _ => rfl
  | b :: bs, n => by
    show (pcs g n true b (secN b.length) ++ news g (n + secN b.length) bs).length = _
    rw [List.length_append, pcs_len, news_len g bs]; simp [usedN]
theorem pcs_mem {g : Nat} : ∀ (k n : Nat) (f : Bool) (b s : List UInt8), k = secN b.length → s ∈ pcs g n f b k → ∃ m kk c, s = enc g m kk c ∧ c.length ≤ 112
  | 0, _, _, _, _, _, h => by cases h
  | 1, n, f, b, s, hk, h => by
    rcases List.mem_singleton.1 h with rfl
    exact ⟨n, _, b, rfl, secN_one hk.symm⟩
  | k + 2, n, f, b, s, hk, h => by
    rcases List.mem_cons.1 h with rfl | h
    · exact ⟨n, _, b.take 112, rfl, by rw [List.length_take]; omega⟩
    · exact pcs_mem (k + 1) (n + 1) false (b.drop 112) s (by rw [List.length_drop]; exact (secN_two hk.symm).2.symm) h
theorem pcs_at {g : Nat} : ∀ (k n : Nat) (f : Bool) (b : List UInt8) (j : Nat) (h : j < (pcs g n f b k).length), k = secN b.length → ∃ kk c, (pcs g n f b k)[j] = enc g (n + j) kk c ∧ c.length ≤ 112
  | 0, _, _, _, j, h, _ => by exact absurd h (Nat.not_lt_zero _)
  | 1, n, f, b, 0, h, hk => ⟨_, b, rfl, secN_one hk.symm⟩
  | 1, n, f, b, j + 1, h, hk => by exact absurd h (by show ¬ j + 1 < 1; omega)
  | k + 2, n, f, b, 0, h, hk => ⟨_, b.take 112, rfl, by rw [List.length_take]; omega⟩
  | k + 2, n, f, b, j + 1, h, hk => by
    have hj : j < (pcs g (n + 1) false (b.drop 112) (k + 1)).length := by simpa [pcs] using h
    obtain ⟨kk, c, h1, h2⟩ := pcs_at (k + 1) (n + 1) false (b.drop 112) j hj (by rw [List.length_drop]; exact (secN_two hk.symm).2.symm)
    exact ⟨kk, c, by show (pcs g (n + 1) false (b.drop 112) (k + 1))[j] = _; rw [h1, show n + 1 + j = n + (j + 1) by omega], h2⟩
theorem news_at {g : Nat} : ∀ (bs : List (List UInt8)) (n j : Nat) (h : j < (news g n bs).length), ∃ kk c, (news g n bs)[j] = enc g (n + j) kk c ∧ c.length ≤ 112
  | [], _, j, h => by exact absurd h (Nat.not_lt_zero _)
  | b :: bs, n, j, h => by
    simp only [news]
    by_cases hj : j < (pcs g n true b (secN b.length)).length
    · rw [List.getElem_append_left hj]; exact pcs_at _ n true b j hj rfl
    · rw [List.getElem_append_right (by omega)]
      obtain ⟨kk, c, h1, h2⟩ := news_at (g := g) bs (n + secN b.length) (j - (pcs g n true b (secN b.length)).length) (by simp only [news, List.length_append] at h; omega)
      rw [pcs_len] at hj
      refine ⟨kk, c, h1.trans ?_, h2⟩
      rw [pcs_len, show n + secN b.length + (j - secN b.length) = n + j by omega]
theorem news_mem {g n : Nat} {bs : List (List UInt8)} {s : List UInt8} (h : s ∈ news g n bs) : ∃ m kk c, s = enc g m kk c ∧ c.length ≤ 112 := by
  obtain ⟨j, hj, rfl⟩ := List.getElem_of_mem h
  obtain ⟨kk, c, h1, h2⟩ := news_at bs n j hj
  exact ⟨_, kk, c, h1, h2⟩
/-- where all of it stands -/
theorem lay_news {S : List (List UInt8)} {g : Nat} (hg : 0 < g) (hg' : g < 4294967296) : ∀ (bs : List (List UInt8)) (u last : Nat), last ≤ g → (∀ j, j < usedN bs → S[u + j]? = (news g u bs)[j]?) →
    ∃ gl, Lay S u last bs (u + usedN bs) gl ∧ (bs = [] ∧ gl = last ∨ gl = g)
  | [], u, last, hl, _ => ⟨last, by simpa [usedN] using Lay.nil u last, .inl ⟨rfl, rfl⟩⟩
  | b :: bs, u, last, hl, hS => by
    have hu : usedN (b :: bs) = secN b.length + usedN bs := by simp [usedN]
    rw [hu] at hS ⊢
    obtain ⟨gl, h1, h2⟩ := lay_news hg hg' bs (u + secN b.length) g (Nat.le_refl _) fun j hj => by
      have := hS (secN b.length + j) (by omega)
      rw [show u + secN b.length + j = u + (secN b.length + j) by omega, this]
      simp only [news]
      rw [List.getElem?_append_right (by rw [pcs_len]; omega), pcs_len, Nat.add_sub_cancel_left]
    refine ⟨gl, .cons (fun j hj => ?_) hl hg hg' (by rw [← Nat.add_assoc]; exact h1), .inr (h2.elim (fun h => h.2) id)⟩
    rw [hS j (by omega)]
    simp only [news]
    rw [List.getElem?_append_left (by rw [pcs_len]; exact hj)]
/-- where only the first J sectors stand, and then a bad one -/
theorem lay_part {S : List (List UInt8)} {g : Nat} (hg : 0 < g) (hg' : g < 4294967296) (hlim : S.length ≤ 5000) (h128 : ∀ s ∈ S, s.length = 128) : ∀ (bs : List (List UInt8)) (u last J : Nat), last ≤ g → J < usedN bs → (∀ b ∈ bs, b.length ≤ 1000000) → (∀ j, j < J → S[u + j]? = (news g u bs)[j]?) →
    (∃ s, S[u + J]? = some s ∧ m70_journal_good s ((u + J : Nat) : Int) = some false) → ∃ i gl, (i < bs.length ∧ usedN (bs.take i) ≤ J ∧ J < usedN (bs.take (i + 1))) ∧ Lay S u last (bs.take i) (u + usedN (bs.take i)) gl ∧ Stops S (u + usedN (bs.take i)) gl
  | [], u, last, J, hl, hJ, _, _, _ => by simp [usedN] at hJ
  | b :: bs, u, last, J, hl, hJ, hbl, hS, hbad => by
    have hu : usedN (b :: bs) = secN b.length + usedN bs := by simp [usedN]
    rw [hu] at hJ
    by_cases hj : J < secN b.length
    · refine ⟨0, last, ⟨by simp, by simp [usedN], by simpa [usedN] using hj⟩, by simpa [usedN] using Lay.nil u last, ?_⟩
      have : Stops S u last := Stops.part hg hg' hlim h128 hl hj (hbl b (by simp)) (fun i hi => by
        rw [hS i hi]; simp only [news]; rw [List.getElem?_append_left (by rw [pcs_len]; omega)]) hbad
      simpa [usedN] using this
    · obtain ⟨i, gl, h1, h2, h3⟩ := lay_part hg hg' hlim h128 bs (u + secN b.length) g (J - secN b.length) (Nat.le_refl _) (by omega) (fun x hx => hbl x (by simp [hx])) (fun j hj' => by
        have := hS (secN b.length + j) (by omega)
        rw [show u + secN b.length + j = u + (secN b.length + j) by omega, this]
        simp only [news]
        rw [List.getElem?_append_right (by rw [pcs_len]; omega), pcs_len, Nat.add_sub_cancel_left]) (by rw [show u + secN b.length + (J - secN b.length) = u + J by omega]; exact hbad)
      have e : usedN ((b :: bs).take (i + 1)) = secN b.length + usedN (bs.take i) := by simp [usedN]
      have e' : usedN ((b :: bs).take (i + 1 + 1)) = secN b.length + usedN (bs.take (i + 1)) := by simp [usedN]
      refine ⟨i + 1, gl, ⟨by simp; omega, by omega, by omega⟩, ?_, ?_⟩
      · rw [e, ← Nat.add_assoc]
        refine .cons (fun j hj' => ?_) hl hg hg' h2
        rw [hS j (by omega)]; simp only [news]; rw [List.getElem?_append_left (by rw [pcs_len]; exact hj')]
      · rw [e, ← Nat.add_assoc]; exact h3
/-- sectors that bear these records -/
structure Jd (S : List (List UInt8)) (recs : List (List UInt8)) (B : Nat) : Prop where
  one : 1 ≤ S.length
  len : S.length ≤ 40
  all : ∀ s ∈ S, s.length = 128
  gens : ∀ s ∈ S, getN (s.take 4) ≤ B ∧ getN (s.drop 124) ≤ B
  lay : ∃ gl, Lay S 0 0 recs (usedN recs) gl ∧ Stops S (usedN recs) gl
theorem Jd.start {m : Nat} (h1 : 1 ≤ m) (h2 : m ≤ 40) : Jd (List.replicate m (List.replicate 128 0)) [] 0 := by
  refine ⟨by simpa using h1, by simpa using h2, fun s hs => ?_, fun s hs => ?_, 0, Lay.nil 0 0, ?_⟩
  · rw [List.eq_of_mem_replicate hs]; rfl
  · rw [List.eq_of_mem_replicate hs]; decide
  · refine Stops.bad (s := List.replicate 128 0) ?_ (bad_zero 0)
    show (List.replicate m _)[0]? = _
    rw [List.getElem?_replicate, if_pos (by omega)]
theorem Jd.fits {S recs : List (List UInt8)} {B : Nat} (h : Jd S recs B) : usedN recs ≤ S.length := by
  obtain ⟨gl, h1, _⟩ := h.lay; exact h1.lim (Nat.zero_le _)
theorem usedN_two (a b : List (List UInt8)) : usedN (a ++ b) = usedN a + usedN b := by simp [usedN]
theorem usedN_big {l : List (List UInt8)} {b : List UInt8} (h : b ∈ l) : secN b.length ≤ usedN l := by
  induction l with
  | nil => cases h
  | cons x t ih =>
    rw [show usedN (x :: t) = secN x.length + usedN t by simp [usedN]]
    rcases List.mem_cons.1 h with rfl | h
    · omega
    · have := ih h; omega
section
variable {S kept new : List (List UInt8)} {B : Nat}
theorem Jd.sync (h : Jd S kept B) (hB : B + 1 < 4294967296) (hfit : usedN kept + usedN new ≤ S.length) (hne : new ≠ []) :
    Jd (perf S (wrs (usedN kept) (news (genS 1 S) (usedN kept) new))) (kept ++ new) (B + 1) := by
  obtain ⟨G, hG⟩ : ∃ G, G = genS 1 S := ⟨_, rfl⟩
  rw [← hG]
  obtain ⟨g1, g2⟩ := genS_ge S 1
  rw [← hG] at g1 g2
  have g3 : G ≤ B + 1 := by rw [hG]; exact genS_le S 1 (by omega) h.gens
  have hN := news_len G new (usedN kept)
  have hlen : (perf S (wrs (usedN kept) (news G (usedN kept) new))).length = S.length := perf_len _ _
  have hget : ∀ i, (perf S (wrs (usedN kept) (news G (usedN kept) new)))[i]? = if usedN kept ≤ i ∧ i < usedN kept + usedN new then (news G (usedN kept) new)[i - usedN kept]? else S[i]? := fun i => by rw [perf_wrs _ _ _ _ (by omega), hN]
  have hall : ∀ s ∈ perf S (wrs (usedN kept) (news G (usedN kept) new)), s.length = 128 ∧ getN (s.take 4) ≤ B + 1 ∧ getN (s.drop 124) ≤ B + 1 := by
    intro s hs
    obtain ⟨i, hi⟩ := List.mem_iff_getElem?.1 hs
    rw [hget] at hi
    split at hi
    · obtain ⟨m, kk, c, rfl, hc⟩ := news_mem (List.mem_of_getElem? hi)
      refine ⟨enc_len hc, ?_, ?_⟩
      · rw [enc_take4, get_put (by omega)]; exact g3
      · rw [enc_drop124 hc, get_put (by omega)]; exact g3
    · have hm := List.mem_of_getElem? hi
      have := h.gens s hm
      exact ⟨h.all s hm, by omega, by omega⟩
  obtain ⟨gl, l1, l2⟩ := h.lay
  have hgl : gl ≤ B := l1.gen (Nat.zero_le _) fun s hs => (h.gens s hs).1
  have hgl' : gl ≤ G := l1.gen (Nat.zero_le _) fun s hs => Nat.le_of_lt (g2 s hs).1
  obtain ⟨gl2, n1, n2⟩ := lay_news (S := perf S (wrs (usedN kept) (news G (usedN kept) new))) (g := G) (by omega) (by omega) new (usedN kept) gl hgl' fun j hj => by
    rw [hget, if_pos (by omega), Nat.add_sub_cancel_left]
  have n3 : gl2 = G := n2.elim (fun e => absurd e.1 hne) id
  subst n3
  refine ⟨by rw [hlen]; exact h.one, by rw [hlen]; exact h.len, fun s hs => (hall s hs).1, fun s hs => (hall s hs).2, gl2, ?_, ?_⟩
  · rw [usedN_two]
    refine Lay.append (l1.congr fun i hi => by rw [hget, if_neg (by omega)]) n1
  · rw [usedN_two]
    by_cases he : usedN kept + usedN new = S.length
    · rw [he, ← hlen]; exact Stops.fin
    · have hlt : usedN kept + usedN new < S.length := by omega
      refine Stops.old (by rw [hlen]; exact hlt) (by rw [hlen]; have := h.len; omega) (fun s hs => (hall s hs).1) ?_
      have e : (perf S (wrs (usedN kept) (news gl2 (usedN kept) new))).getD (usedN kept + usedN new) default = S[usedN kept + usedN new] := by
        rw [List.getD_eq_getElem?_getD, hget, if_neg (by omega), List.getElem?_eq_getElem hlt]; rfl
      rw [e]; exact (g2 _ (List.getElem_mem hlt)).1
end
end Go.Fx



/- What Append and Sync answer, on journals that fit. -/
set_option linter.unusedSimpArgs false
set_option linter.unusedVariables false
namespace Go.Fx
open Go Go.RowKit
theorem secI_eq {n : Nat} (h : n ≤ 4611686018427387904) : secI (n : Int) = (secN n : Int) := by
  unfold secI secN
  rw [wrap_i64 (m := (n : Int) + 112) (by omega) (by omega), wrap_i64 (m := (n : Int) + 112 - 1) (by omega) (by omega)]
  have e : ((n : Int) + 112 - 1).tdiv 112 = (((n + 111) / 112 : Nat) : Int) := by
    rw [show (n : Int) + 112 - 1 = ((n + 111 : Nat) : Int) by omega]; rfl
  rw [e, wrap_i64 (by omega) (by omega)]
  omega
theorem usedF_fit : ∀ (l : List (List UInt8)) (s : Nat), s + usedN l ≤ 1000000 → usedF (s : Int) l = ((s + usedN l : Nat) : Int)
  | [], s, _ => by simp [usedF, usedN]
  | b :: t, s, h => by
    rw [show usedN (b :: t) = secN b.length + usedN t by simp [usedN]] at h ⊢
    have hb : b.length ≤ 4611686018427387904 := by unfold secN at h; omega
    unfold usedF
    rw [secI_eq hb, wrap_i64 (by omega) (by omega), show (s : Int) + (secN b.length : Int) = ((s + secN b.length : Nat) : Int) by omega, usedF_fit t (s + secN b.length) (by omega), Nat.add_assoc]
theorem usedF_fit0 {l : List (List UInt8)} (h : usedN l ≤ 1000000) : usedF 0 l = (usedN l : Int) := by
  have := usedF_fit l 0 (by omega); simpa using this
theorem usedN_len (l : List (List UInt8)) : l.length ≤ usedN l := by
  induction l with
  | nil => simp
  | cons b t ih => rw [show usedN (b :: t) = secN b.length + usedN t by simp [usedN]]; have := secN_pos b.length; simp only [List.length_cons]; omega
/-- a journal that fits its sectors -/
structure Fit (m : Nat) (recs : List (List UInt8)) (s : Int) : Prop where
  one : 1 ≤ m
  len : m ≤ 40
  use : usedN recs ≤ m
  s0 : 0 ≤ s
  s1 : s ≤ (recs.length : Int)
theorem Fit.good {m : Nat} {recs : List (List UInt8)} {s : Int} (h : Fit m recs s) : badJ ⟨recs, (m : Int), s⟩ = false := by
  obtain ⟨h1, h2, h3, h4, h5⟩ := h
  unfold badJ
  simp only [usedF_fit0 (show usedN recs ≤ 1000000 by omega), Bool.or_eq_false_iff, decide_eq_false_iff_not]
  omega
theorem app_yes {m : Nat} {recs : List (List UInt8)} {s : Int} {b : List UInt8} (h : Fit m recs s) (hb : b.length ≤ 140737488351232) (hf : usedN recs + secN b.length ≤ m) : m30_journal_Append ⟨recs, (m : Int), s⟩ b = some (⟨recs ++ [b], (m : Int), s⟩, 0) := by
  have hu := usedN_len recs
  have h3 := h.use; have h2 := h.len
  rw [m30_eq _ _ (by simp only; omega) hb]
  unfold appJ
  rw [h.good, cond_false]
  simp only
  rw [usedF_fit0 (by omega), wrap_i64 (by omega) (by omega), secI_eq (by omega), decide_eq_false (by omega)]; rfl
theorem app_no {m : Nat} {recs : List (List UInt8)} {s : Int} {b : List UInt8} (h : Fit m recs s) (hb : b.length ≤ 140737488351232) (hf : ¬ usedN recs + secN b.length ≤ m) : m30_journal_Append ⟨recs, (m : Int), s⟩ b = some (⟨[], 0, 0⟩, 2) := by
  have hu := usedN_len recs
  have h3 := h.use; have h2 := h.len
  rw [m30_eq _ _ (by simp only; omega) hb]
  unfold appJ
  rw [h.good, cond_false]
  simp only
  rw [usedF_fit0 (by omega), wrap_i64 (by omega) (by omega), secI_eq (by omega), decide_eq_true (by omega)]; rfl
theorem m61_refl (a : List (List UInt8)) (ha : a.length < 9223372036854775807) : m61_slices_EqualFuncbyte_byte_byte_byte_ a a (fun x y => m62_bytes_Equal x y) = some true := by
  unfold m61_slices_EqualFuncbyte_byte_byte_byte_
  rw [decide_eq_false (by simp), cond_false]
  refine up_list0 (B := m61_slices_EqualFuncbyte_byte_byte_byte__B0 a a _) (fun _ => some true) a ha ?_ ?_ (by omega)
  · intro sf; unfold m61_slices_EqualFuncbyte_byte_byte_byte__B0; rw [decide_eq_false (Int.lt_irrefl _)]; rfl
  · intro sf i x t h1 h2 h3 ih
    unfold m61_slices_EqualFuncbyte_byte_byte_byte__B0
    rw [decide_eq_true (ipos h1), cond_true, ck_eq (by omega), ck_eq (by omega)]
    show (some (decide (a.getD (i : Int).toNat default = a.getD (i : Int).toNat default))).bind _ = _
    rw [decide_eq_true rfl, Option.bind_some, h3, ih]; rfl
section
variable {S kept new : List (List UInt8)} {B : Nat} {left : Int}
/-- a disk with writes that wait -/
def pen (S : List (List UInt8)) (p : List XWrite) (left : Int) : XDisk := ⟨S, p, left, false⟩
theorem pen_chk {p : List XWrite} (h1 : 1 ≤ S.length) (h2 : S.length ≤ 40) (h7 : ∀ s ∈ S, s.length = 128) (hl : -1 ≤ left) (hl' : left ≤ 65536) (hp : p.length ≤ 100) (hw : ∀ w ∈ p, 0 ≤ w.at_ ∧ w.at_ < (S.length : Int) ∧ w.data.length = 128) : chk (pen S p left) = true :=
  chk_of h1 (by show S.length ≤ 4096; omega) (by show p.length ≤ 4096; omega) hl hl' hw h7
theorem write_one {p : List XWrite} {n : Nat} {s : List UInt8} (h1 : 1 ≤ S.length) (h2 : S.length ≤ 40) (h7 : ∀ s ∈ S, s.length = 128) (hl : -1 ≤ left) (hl' : left ≤ 65536) (hp : p.length ≤ 100) (hw : ∀ w ∈ p, 0 ≤ w.at_ ∧ w.at_ < (S.length : Int) ∧ w.data.length = 128)
    (hn : n < S.length) (hs : s.length = 128) : m23_disk_Write (pen S p left) (n : Int) s = some (pen S (p ++ [⟨(n : Int), s⟩]) left, 0) := by
  have := pen_chk h1 h2 h7 hl hl' hp hw
  rw [wr_ok (chk_few this) this rfl (by omega) (by show (n : Int) < (S.length : Int); omega) (by show p.length ≠ 4096; omega) (by omega)]
  unfold wr; rw [pad_full hs]; rfl
/-- the sectors of one record are written -/
theorem wr_rec {G : Nat} {sf : Int → Int → List (List UInt8) → List XWrite → Int → Bool → Option (XJournal × XDisk × Int)} {v : Int} (h1 : 1 ≤ S.length) (h2 : S.length ≤ 40) (h7 : ∀ s ∈ S, s.length = 128) (hl : -1 ≤ left) (hl' : left ≤ 65536) :
    ∀ (k f n : Nat) (fb : Bool) (b : List UInt8) (p : List XWrite), k + 1 = secN b.length → n + (k + 1) ≤ S.length → p.length + (k + 1) ≤ 100 → (∀ w ∈ p, 0 ≤ w.at_ ∧ w.at_ < (S.length : Int) ∧ w.data.length = 128) → k + 1 < f →
      loop8 (m39_journal_Sync_B2 (G : Int) v sf) f (n : Int) b (kd fb false) ((k + 1 : Nat) : Int) S p left false = sf ((n + (k + 1) : Nat) : Int) (IntKind.wrap .i64 (v + 1)) S (p ++ wrs n (pcs G n fb b (k + 1))) left false
  | 0, f, n, fb, b, p, hk, hn, hp, hw, hf => by
    obtain ⟨f, rfl⟩ : ∃ f', f = f' + 2 := ⟨f - 2, by omega⟩
    have hb := secN_one hk.symm
    have hm : (min (b.length : Int) 112).toNat = b.length := by omega
    have hkd : UInt8.ofNat (Go.bits .or .u8 ((kd fb false).toNat : Int) 2).toNat = kd fb true := by cases fb <;> rfl
    rw [loop8_succ]
    generalize hL : loop8 (m39_journal_Sync_B2 (G : Int) v sf) (f + 1) = L
    unfold m39_journal_Sync_B2
    rw [decide_eq_true (by decide), cond_true, decide_eq_true (by rfl), cond_true, ck_eq (by omega), hm, hkd, Nat.sub_zero, List.drop_zero, List.take_length, m63_eq (by omega) hb, Option.bind_some]
    rw [show (⟨S, p, left, false⟩ : XDisk) = pen S p left from rfl, write_one h1 h2 h7 hl hl' (by omega) hw (by omega) (enc_len hb), Option.bind_some]
    simp only [ne_eq, not_true_eq_false, decide_false, cond_false, pen]
    rw [ck_eq (by omega), wrapS (by omega), ← hL, loop8_succ]
    unfold m39_journal_Sync_B2
    rw [decide_eq_false (show ¬ (0 : Int) < IntKind.wrap .i64 (((0 + 1 : Nat) : Int) - 1) by decide), cond_false]
    simp only [Nat.zero_add, pcs, wrs, Int.natCast_add, Int.natCast_one]
  | k + 1, f, n, fb, b, p, hk, hn, hp, hw, hf => by
    obtain ⟨f, rfl⟩ : ∃ f', f = f' + 1 := ⟨f - 1, by omega⟩
    obtain ⟨hb, hk2⟩ := secN_two hk.symm
    have ht : (b.take 112).length = 112 := by rw [List.length_take]; omega
    have hm : (min (b.length : Int) 112).toNat = 112 := by omega
    rw [loop8_succ]
    generalize hL : loop8 (m39_journal_Sync_B2 (G : Int) v sf) f = L
    unfold m39_journal_Sync_B2
    rw [decide_eq_true (by omega), cond_true, decide_eq_false (by omega), cond_false, ck_eq (by omega), hm, Nat.sub_zero, List.drop_zero, m63_eq (by omega) (by omega), Option.bind_some]
    rw [show (⟨S, p, left, false⟩ : XDisk) = pen S p left from rfl, write_one h1 h2 h7 hl hl' (by omega) hw (by omega) (enc_len (by omega)), Option.bind_some]
    simp only [ne_eq, not_true_eq_false, decide_false, cond_false, pen]
    have hd : (b.drop 112).take (b.length - 112) = b.drop 112 := by rw [← List.length_drop]; exact List.take_length
    rw [ck_eq (by omega), wrapS (by omega), hd, ← hL, show (n : Int) + 1 = ((n + 1 : Nat) : Int) by omega, show IntKind.wrap .i64 (((k + 1 + 1 : Nat) : Int) - 1) = ((k + 1 : Nat) : Int) by rw [wrap_i64 (by omega) (by omega)]; omega]
    have := wr_rec (G := G) (sf := sf) (v := v) h1 h2 h7 hl hl' k f (n + 1) false (b.drop 112) (p ++ [⟨(n : Int), enc G n (kd fb false) (b.take 112)⟩]) (by rw [List.length_drop]; omega) (by omega) (by simp; omega) (fun w hw' => by
      rcases List.mem_append.1 hw' with h | h
      · exact hw w h
      · rw [List.mem_singleton.1 h]; exact ⟨by simp, by simp only; omega, enc_len (by omega)⟩) (by omega)
    refine this.trans ?_
    rw [show n + 1 + (k + 1) = n + (k + 1 + 1) by omega]
    simp [pcs, wrs]
/-- what a sync comes to, when all has been written -/
def endS (l : XJournal) (D : XDisk) : Option (XJournal × XDisk × Int) :=
  (m25_disk_Sync D).bind fun sync_1 =>
    bif (decide (sync_1.2 ≠ 0)) then
      some ((⟨([] : List (List UInt8)), 0, 0⟩ : XJournal), sync_1.1, sync_1.2)
    else
      some ((⟨l.records, l.many, (l.records.length : Int)⟩ : XJournal), sync_1.1, 0)
theorem wr_all {G : Nat} {l : XJournal} {m : Nat} (h1 : 1 ≤ S.length) (h2 : S.length ≤ 40) (h7 : ∀ s ∈ S, s.length = 128) (hl : -1 ≤ left) (hl' : left ≤ 65536) (hs : l.synced.toNat = m) (hnew : l.records.drop m = new) (u : Nat) (hu : u + usedN new ≤ S.length) (f : Nat) (hf : new.length < f) :
    loop6 (m39_journal_Sync_B1 l (G : Int)) f (u : Int) 0 S [] left false = endS l (pen S (wrs u (news G u new)) left) := by
  have hrest : (l.records.drop l.synced.toNat).take (l.records.length - l.synced.toNat) = new := by rw [hs, hnew, ← hnew, ← List.length_drop]; exact List.take_length
  have hlen := usedN_len new
  have key : ∀ (t : List (List UInt8)) (i f u : Nat) (p : List XWrite), new.drop i = t → i ≤ new.length → t.length < f → u + usedN t ≤ S.length → p.length + usedN t ≤ 100 → (∀ w ∈ p, 0 ≤ w.at_ ∧ w.at_ < (S.length : Int) ∧ w.data.length = 128) →
      loop6 (m39_journal_Sync_B1 l (G : Int)) f (u : Int) (i : Int) S p left false = endS l (pen S (p ++ wrs u (news G u t)) left) := by
    intro t
    induction t with
    | nil =>
      intro i f u p hd hi hf hu hp hw
      have he : new.length ≤ i := by have := congrArg List.length hd; simp at this; omega
      obtain ⟨f, rfl⟩ : ∃ f', f = f' + 1 := ⟨f - 1, by simp at hf; omega⟩
      rw [loop6_succ]; unfold m39_journal_Sync_B1
      rw [hrest, decide_eq_false (by omega), cond_false]
      simp only [news, wrs, List.append_nil]; rfl
    | cons b t ih =>
      intro i f u p hd hi hf hu hp hw
      obtain ⟨f, rfl⟩ : ∃ f', f = f' + 1 := ⟨f - 1, by simp at hf; omega⟩
      have hlt : i < new.length := by have := congrArg List.length hd; simp at this; omega
      have hx : new[i] = b := by rw [List.drop_eq_getElem_cons hlt] at hd; exact (List.cons.inj hd).1
      have ht : new.drop (i + 1) = t := by rw [List.drop_eq_getElem_cons hlt] at hd; exact (List.cons.inj hd).2
      have hub : usedN (b :: t) = secN b.length + usedN t := by simp [usedN]
      rw [hub] at hu hp
      obtain ⟨k, hk⟩ : ∃ k, secN b.length = k + 1 := ⟨secN b.length - 1, by have := secN_pos b.length; omega⟩
      rw [loop6_succ]
      generalize hL : loop6 (m39_journal_Sync_B1 l (G : Int)) f = L
      unfold m39_journal_Sync_B1
      rw [hrest, decide_eq_true (ipos hlt), cond_true, ck_eq (by omega), Int.toNat_natCast, getD_len hlt, hx, m54_eq, Option.bind_some, secI_eq (by unfold secN at hu; omega), hk]
      have := wr_rec (G := G) (sf := L) (v := (i : Int)) h1 h2 h7 hl hl' k 1000000 u true b p hk.symm (by omega) (by omega) hw (by omega)
      refine this.trans ?_
      rw [wrapS (by omega), ← hL, show (i : Int) + 1 = ((i + 1 : Nat) : Int) by omega, ← hk]
      rw [ih (i + 1) f (u + secN b.length) _ ht (by omega) (by simp at hf; omega) (by omega) (by rw [List.length_append, wrs_len, pcs_len]; omega) (fun w hw' => by
        rcases List.mem_append.1 hw' with h | h
        · exact hw w h
        · obtain ⟨a1, a2, a3⟩ := wrs_mem h
          rw [pcs_len] at a2
          obtain ⟨m, kk, c, e1, e2⟩ := pcs_mem _ _ _ _ _ rfl a3
          exact ⟨by omega, by omega, by rw [e1]; exact enc_len e2⟩)]
      simp only [news]
      rw [wrs_app, pcs_len, List.append_assoc]
  have := key new 0 f u [] rfl (Nat.zero_le _) hf hu (by simp; omega) (by simp)
  simpa using this
theorem gen_loop {l : XJournal} {d : XDisk} {o : XJournal × Int} (h7 : ∀ s ∈ d.sectors, s.length = 128) (hlen : d.sectors.length ≤ 40) (hb : ∀ s ∈ d.sectors, getN (s.take 4) ≤ B ∧ getN (s.drop 124) ≤ B) (hB : B < 4294967290) :
    loop2 (m39_journal_Sync_B0 l d o) (((d.sectors.length : Int) - 0).toNat + 1) 1 0 = m39_journal_Sync_B0 l d o (fun _ _ => none) (genS 1 d.sectors : Int) (d.sectors.length : Int) := by
  refine (up_listB (B := m39_journal_Sync_B0 l d o) (σ := Int) (fun _ s => ∃ k : Nat, k ≤ B + 1 ∧ s = (k : Int)) (fun _ t s => m39_journal_Sync_B0 l d o (fun _ _ => none) (genS s.toNat t : Int) (d.sectors.length : Int)) d.sectors (by omega) ?_ ?_ (by omega) ⟨1, by omega, rfl⟩).trans rfl
  · rintro sf s ⟨k, hk, rfl⟩
    unfold m39_journal_Sync_B0
    rw [decide_eq_false (Int.lt_irrefl _)]; rfl
  · rintro sf i s x t h1 h2 h3 ⟨k, hk, rfl⟩ ih
    obtain ⟨_, hx⟩ := List.getElem?_eq_some_iff.1 h2
    have hm : x ∈ d.sectors := List.mem_of_getElem? h2
    have hx7 := h7 x hm
    obtain ⟨b1, b2⟩ := hb x hm
    have e : ∀ M : Option (XJournal × XDisk × Int), m39_journal_Sync_B0 l d o sf (k : Int) (i : Int) = sf (max (max (k : Int) (IntKind.wrap .u64 ((getN (x.take 4) : Int) + 1))) (IntKind.wrap .u64 ((getN (x.drop 124) : Int) + 1))) (IntKind.wrap .i64 ((i : Int) + 1)) := by
      intro _
      unfold m39_journal_Sync_B0
      have g1 : d.sectors.getD (i : Int).toNat default = x := getD_of h2
      rw [decide_eq_true (ipos h1), cond_true, ck_eq (by omega), g1, ck_eq (by rw [hx7]; decide)]
      rw [show (x.drop 0).take (4 - 0) = x.take 4 from rfl, (m60_eq (x.take 4) (by rw [List.length_take]; omega)).1, Option.bind_some, ck_eq (by rw [hx7]; decide)]
      rw [show (x.drop 124).take (x.length - 124) = x.drop 124 by rw [← List.length_drop]; exact List.take_length, (m60_eq (x.drop 124) (by rw [List.length_drop]; omega)).1, Option.bind_some]
    rw [e none, IntKind.wrap_u64, IntKind.wrap_u64, h3]
    have e2 : max (max (k : Int) (((getN (x.take 4) : Int) + 1) % 18446744073709551616)) (((getN (x.drop 124) : Int) + 1) % 18446744073709551616) = ((max (max k (getN (x.take 4) + 1)) (getN (x.drop 124) + 1) : Nat) : Int) := by omega
    rw [e2, ih _ ⟨_, by omega, rfl⟩]; rfl
/-- what Sync answers on a disk that bears the records that were synced -/
theorem sync_eq (h : Jd S kept B) (hB : B < 1000) (hl : -1 ≤ left) (hl' : left ≤ 65536) (hfit : usedN kept + usedN new ≤ S.length) :
    m39_journal_Sync ⟨kept ++ new, (S.length : Int), (kept.length : Int)⟩ (pen S [] left) =
      if new = [] then some (⟨kept ++ new, (S.length : Int), (kept.length : Int)⟩, pen S [] left, 0) else endS ⟨kept ++ new, (S.length : Int), (kept.length : Int)⟩ (pen S (wrs (usedN kept) (news (genS 1 S) (usedN kept) new)) left) := by
  have hfitJ : Fit S.length (kept ++ new) (kept.length : Int) := ⟨h.one, h.len, by rw [usedN_two]; exact hfit, by omega, by rw [List.length_append]; omega⟩
  have hul := usedN_len (kept ++ new)
  rw [usedN_two] at hul
  have hlen := h.len
  have hck : chk (pen S [] left) = true := pen_chk h.one h.len h.all hl hl' (by simp) (by simp)
  obtain ⟨gl, l1, l2⟩ := h.lay
  have hop := open_eq (d := pen S [] left) hck rfl rfl l1 l2
  have hbl : badJ ⟨kept ++ new, (S.length : Int), (kept.length : Int)⟩ = false := hfitJ.good
  unfold m39_journal_Sync
  rw [m32_eq _ (by simp only; omega), hbl, m18_eq _ (chk_few hck), hck, hop]
  simp only [Option.bind_some, cond_false, cond_true, ne_eq, not_true_eq_false, decide_false, jn_eq]
  rw [show (pen S [] left).sectors = S from rfl, decide_eq_false (show ¬ ¬ ((S.length : Int) = (S.length : Int)) by simp), cond_false]
  have hgl := gen_loop (l := ⟨kept ++ new, (S.length : Int), (kept.length : Int)⟩) (d := pen S [] left) (o := (⟨kept, ((pen S [] left).sectors.length : Int), (kept.length : Int)⟩, 0)) h.all h.len h.gens (by omega)
  refine hgl.trans ?_
  have hG : genS 1 S ≤ B + 1 := genS_le S 1 (by omega) h.gens
  unfold m39_journal_Sync_B0
  rw [show (pen S [] left).sectors = S from rfl, decide_eq_false (Int.lt_irrefl _), cond_false]
  have hc : (0 : Int) ≤ (kept.length : Int) ∧ (kept.length : Int) ≤ ((kept ++ new).length : Int) := by rw [List.length_append]; omega
  have htk : ((kept ++ new).drop 0).take ((kept.length : Int).toNat - 0) = kept := by rw [List.drop_zero, Nat.sub_zero, Int.toNat_natCast, List.take_left]
  have hge : (genS 1 S : Int) / 2 ^ min 32 (IntKind.bits .u64) = 0 := by
    rw [show (2 : Int) ^ min 32 (IntKind.bits .u64) = 4294967296 from rfl]; omega
  simp only [jn_eq, ck_eq hc, htk]
  rw [m61_refl kept (by omega), Option.bind_some, hge]
  simp only [Bool.not_true, cond_false, ne_eq, not_true_eq_false, decide_false]
  rw [m55_eq kept (by omega), usedF_fit0 (by omega), Option.bind_some]
  by_cases hn : new = []
  · subst hn
    rw [decide_eq_true (by simp), cond_true, if_pos rfl]
  · have : 0 < new.length := List.length_pos_iff.2 hn
    rw [decide_eq_false (by simp; omega), cond_false, if_neg hn]
    exact wr_all (G := genS 1 S) (l := ⟨kept ++ new, (S.length : Int), (kept.length : Int)⟩) (m := kept.length) h.one h.len h.all hl hl' (Int.toNat_natCast _) List.drop_left (usedN kept) hfit _ (by simp only [Int.toNat_natCast, List.drop_left]; simp)
end
end Go.Fx



/- Syncs that go through, and journals to which records are put. -/
set_option linter.unusedSimpArgs false
set_option linter.unusedVariables false
namespace Go.Fx
open Go Go.RowKit
section
variable {S kept new : List (List UInt8)} {B : Nat} {left : Int}
theorem Jd.mono {B' : Nat} (h : Jd S kept B) (hB : B ≤ B') : Jd S kept B' := ⟨h.one, h.len, h.all, fun s hs => by have := h.gens s hs; omega, h.lay⟩
theorem Jd.chk0 (h : Jd S kept B) (hl : -1 ≤ left) (hl' : left ≤ 65536) : chk (pen S [] left) = true := pen_chk h.one h.len h.all hl hl' (by simp) (by simp)
theorem Jd.opens (h : Jd S kept B) : m38_journal_Open (pen S [] (-1)) = some (⟨kept, (S.length : Int), (kept.length : Int)⟩, 0) := by
  obtain ⟨gl, l1, l2⟩ := h.lay
  exact open_eq (d := pen S [] (-1)) (h.chk0 (by decide) (by decide)) rfl rfl l1 l2
theorem news_ok {G u : Nat} (h : Jd S kept B) (hu : u + usedN new ≤ S.length) : ∀ w ∈ wrs u (news G u new), 0 ≤ w.at_ ∧ w.at_ < (S.length : Int) ∧ w.data.length = 128 := by
  intro w hw
  obtain ⟨a1, a2, a3⟩ := wrs_mem hw
  rw [news_len] at a2
  obtain ⟨m, kk, c, e1, e2⟩ := news_mem a3
  exact ⟨by omega, by omega, by rw [e1]; exact enc_len e2⟩
/-- a sync that goes through -/
theorem sync_ok (h : Jd S kept B) (hB : B < 1000) (hfit : usedN kept + usedN new ≤ S.length) :
    ∃ S', m39_journal_Sync ⟨kept ++ new, (S.length : Int), (kept.length : Int)⟩ (pen S [] (-1)) = some (⟨kept ++ new, (S.length : Int), ((kept ++ new).length : Int)⟩, pen S' [] (-1), 0) ∧ Jd S' (kept ++ new) (B + 1) ∧ S'.length = S.length ∧
      (new = [] → S' = S) ∧ (new ≠ [] → S' = perf S (wrs (usedN kept) (news (genS 1 S) (usedN kept) new))) := by
  have hs := sync_eq h hB (left := -1) (by decide) (by decide) hfit
  by_cases hn : new = []
  · subst hn
    rw [if_pos rfl] at hs
    refine ⟨S, by rw [hs]; simp, by simpa using h.mono (Nat.le_succ B), rfl, fun _ => rfl, fun h => absurd rfl h⟩
  · rw [if_neg hn] at hs
    have hlen := h.len
    have hck : chk (pen S (wrs (usedN kept) (news (genS 1 S) (usedN kept) new)) (-1)) = true := pen_chk h.one h.len h.all (by decide) (by decide) (by rw [wrs_len, news_len]; omega) (news_ok h hfit)
    refine ⟨_, ?_, h.sync (by omega) hfit hn, perf_len _ _, fun h => absurd h hn, fun _ => rfl⟩
    rw [hs]; unfold endS
    rw [sn_ok hck rfl]; rfl
end
end Go.Fx



/- JournalDamage. -/
set_option linter.unusedSimpArgs false
set_option linter.unusedVariables false
namespace Go.Fx
open Go Go.RowKit
/-- the sector that is damaged -/
def dmgK (sector : Int) (ends_1 : List Int) : Int := IntKind.wrap .i64 ((IntKind.wrap .u64 sector).tmod (IntKind.wrap .u64 (ends_1.getD (IntKind.wrap .i64 ((ends_1.length : Int) - 1)).toNat default)))
/-- what comes when all records are put -/
def dmgT (sector at_ : Int) (by_ : UInt8) (new_1 : XDisk × Int) (ends_1 : List Int) (v_3 : List (List UInt8)) (v_4 v_5 : Int) : Option Bool :=
    (m39_journal_Sync (⟨v_3, v_4, v_5⟩ : XJournal) new_1.1).bind fun sync_3 =>
    jn (fun (v_10 : Bool) =>
      bif v_10 then
        some (decide (sync_3.2.2 = 0))
      else
        ck ((0 : Int) ≤ (IntKind.wrap .i64 ((ends_1.length : Int) - 1)) ∧ (IntKind.wrap .i64 ((ends_1.length : Int) - 1)) < (ends_1.length : Int)) <|
        ck (((IntKind.wrap .u64 (ends_1.getD (IntKind.wrap .i64 ((ends_1.length : Int) - 1)).toNat default)) : Int) ≠ 0) <|
        jn (fun (v_11 : Bool) =>
          bif v_11 then
            some false
          else
            ck ((0 : Int) ≤ (dmgK sector ends_1) ∧ (dmgK sector ends_1) < (sync_3.2.1.sectors.length : Int)) <|
            ck ((([] : List UInt8).length + (sync_3.2.1.sectors.getD (dmgK sector ends_1).toNat default).length) * 1 ≤ 140737488355328) <|
            ck ((0 : Int) ≤ ((IntKind.wrap .u64 at_).tmod 128) ∧ ((IntKind.wrap .u64 at_).tmod 128) < ((([] : List UInt8) ++ (sync_3.2.1.sectors.getD (dmgK sector ends_1).toNat default)).length : Int)) <|
            ck ((0 : Int) ≤ ((IntKind.wrap .u64 at_).tmod 128) ∧ ((IntKind.wrap .u64 at_).tmod 128) < ((([] : List UInt8) ++ (sync_3.2.1.sectors.getD (dmgK sector ends_1).toNat default)).length : Int)) <|
            (m23_disk_Write sync_3.2.1 (dmgK sector ends_1) ((([] : List UInt8) ++ (sync_3.2.1.sectors.getD (dmgK sector ends_1).toNat default)).set ((IntKind.wrap .u64 at_).tmod 128).toNat (UInt8.ofNat (Go.bits .xor .u8 (((([] : List UInt8) ++ (sync_3.2.1.sectors.getD (dmgK sector ends_1).toNat default)).getD ((IntKind.wrap .u64 at_).tmod 128).toNat default).toNat : Int) (by_.toNat : Int)).toNat))).bind fun write_2 =>
            (m25_disk_Sync write_2.1).bind fun sync_4 =>
            (m38_journal_Open sync_4.1).bind fun open_3 =>
            jn (fun (want_3 : Int) =>
              jn (fun (v_12 : Bool) =>
                some v_12)
              (fun k708 =>
                bif (decide (write_2.2 = 0)) then
                  bif (decide (sync_4.2 = 0)) then
                    bif (decide (open_3.2 = 0)) then
                      ck ((0 : Int) ≤ want_3 ∧ want_3 ≤ (v_3.length : Int)) <|
                      (m37_overflightref45_SameRecords open_3.1.records ((v_3.drop 0).take (want_3.toNat - 0))).bind fun samerecords_2 =>
                      k708 samerecords_2
                    else
                      k708 false
                  else
                    k708 false
                else
                  k708 false))
            (fun k698 =>
              loop1 (m10_overflightlaw45_JournalDamage_B1 sector ends_1 k698) (1000000) 0))
        (fun k589 =>
          bif (decide ((sync_3.2.1.sectors.length : Int) ≤ (dmgK sector ends_1))) then
            k589 true
          else
            bif (decide ((v_3.length : Int) < (ends_1.length : Int))) then
              k589 true
            else
              ck ((0 : Int) ≤ (dmgK sector ends_1) ∧ (dmgK sector ends_1) < (sync_3.2.1.sectors.length : Int)) <|
              k589 (decide (((sync_3.2.1.sectors.getD (dmgK sector ends_1).toNat default).length : Int) ≠ 128))))
    (fun k567 =>
      bif (decide (sync_3.2.2 ≠ 0)) then
        k567 true
      else
        k567 (decide ((ends_1.length : Int) = 0)))
/-- where the records end -/
def endsOf (recs : List (List UInt8)) : List Int := (List.range recs.length).map fun j => (usedN (recs.take (j + 1)) : Int)
theorem endsOf_len (recs : List (List UInt8)) : (endsOf recs).length = recs.length := by simp [endsOf]
theorem endsOf_get {recs : List (List UInt8)} {j : Nat} (h : j < recs.length) : (endsOf recs).getD j default = (usedN (recs.take (j + 1)) : Int) := by
  rw [getD_len (by rw [endsOf_len]; exact h)]; simp [endsOf]
theorem endsOf_app (recs : List (List UInt8)) (b : List UInt8) : endsOf (recs ++ [b]) = endsOf recs ++ [((usedN recs + secN b.length : Nat) : Int)] := by
  unfold endsOf
  rw [List.length_append, List.length_singleton, List.range_succ, List.map_append]
  congr 1
  · refine List.map_congr_left fun j hj => ?_
    rw [List.mem_range] at hj
    rw [List.take_append_of_le_length (by omega)]
  · simp only [List.map_cons, List.map_nil]
    rw [List.take_of_length_le (by simp), usedN_app]
theorem endsOf_last {recs : List (List UInt8)} (h : recs ≠ []) (hl : recs.length < 1000000) : (endsOf recs).getD (IntKind.wrap .i64 (((endsOf recs).length : Int) - 1)).toNat default = (usedN recs : Int) := by
  have hp := List.length_pos_iff.2 h
  rw [endsOf_len, wrap_i64 (by omega) (by omega), show ((recs.length : Int) - 1).toNat = recs.length - 1 by omega, endsOf_get (by omega), show recs.length - 1 + 1 = recs.length by omega, List.take_length]
theorem want_loop {sector : Int} {ends : List Int} {k : Int → Option Bool} {i : Nat} (hi : i ≤ ends.length) (hlen : ends.length < 1000) (hlow : ∀ j, j < i → ends.getD j default ≤ dmgK sector ends) (hup : i < ends.length → ¬ ends.getD i default ≤ dmgK sector ends) :
    ∀ (n f w : Nat), w + n = i → n < f → loop1 (m10_overflightlaw45_JournalDamage_B1 sector ends k) f (w : Int) = k (i : Int) := by
  intro n
  induction n with
  | zero =>
    intro f w hw hf
    obtain ⟨f, rfl⟩ : ∃ f', f = f' + 1 := ⟨f - 1, by omega⟩
    have e : w = i := by omega
    subst e
    rw [loop1_succ]; unfold m10_overflightlaw45_JournalDamage_B1
    simp only [jn_eq, Int.toNat_natCast]
    by_cases h : w < ends.length
    · rw [decide_eq_true (ipos h), cond_true, ck_eq (by omega)]
      have : decide (ends.getD w default ≤ IntKind.wrap .i64 ((IntKind.wrap .u64 sector).tmod (IntKind.wrap .u64 (ends.getD (IntKind.wrap .i64 ((ends.length : Int) - 1)).toNat default)))) = false := decide_eq_false (hup h)
      rw [this]; rfl
    · rw [decide_eq_false (by omega)]; rfl
  | succ n ih =>
    intro f w hw hf
    obtain ⟨f, rfl⟩ : ∃ f', f = f' + 1 := ⟨f - 1, by omega⟩
    have := ih f (w + 1) (by omega) (by omega)
    rw [loop1_succ]
    generalize loop1 (m10_overflightlaw45_JournalDamage_B1 sector ends k) f = L at this ⊢
    unfold m10_overflightlaw45_JournalDamage_B1
    simp only [jn_eq, Int.toNat_natCast]
    have hlt : w < ends.length := by omega
    rw [decide_eq_true (ipos hlt), cond_true, ck_eq (by omega)]
    have hd : decide (ends.getD w default ≤ IntKind.wrap .i64 ((IntKind.wrap .u64 sector).tmod (IntKind.wrap .u64 (ends.getD (IntKind.wrap .i64 ((ends.length : Int) - 1)).toNat default)))) = true := decide_eq_true (hlow w (by omega))
    rw [hd, cond_true, wrapS (by omega)]; exact this
theorem want0 {sector : Int} {ends : List Int} {k : Int → Option Bool} {i fu : Nat} (hfu : 1000 < fu) (hi : i ≤ ends.length) (hlen : ends.length < 1000) (hlow : ∀ j, j < i → ends.getD j default ≤ dmgK sector ends) (hup : i < ends.length → ¬ ends.getD i default ≤ dmgK sector ends) :
    loop1 (m10_overflightlaw45_JournalDamage_B1 sector ends k) fu 0 = k (i : Int) := want_loop hi hlen hlow hup i fu 0 (by omega) (by omega)
theorem usedN_take_mono {l : List (List UInt8)} {i j : Nat} (h : i ≤ j) : usedN (l.take i) ≤ usedN (l.take j) := by
  obtain ⟨d, rfl⟩ : ∃ d, j = i + d := ⟨j - i, by omega⟩
  rw [List.take_add, usedN_two]; omega
theorem dmg_true {recs S : List (List UInt8)} {sector at_ : Int} {by_ : UInt8} {e : Int} (J0 : Jd S [] 0) (F : Fit S.length recs 0) (hby : by_ ≠ 0) :
    dmgT sector at_ by_ (pen S [] (-1), e) (endsOf recs) recs (S.length : Int) 0 = some true := by
  have hu := F.use; have hm := F.len; have hl := usedN_len recs
  obtain ⟨S1, s1, j1, l1, n1, n2⟩ := sync_ok (new := recs) J0 (by decide) (by simp [usedN]; exact hu)
  simp only [List.nil_append, List.length_nil, Int.natCast_zero] at s1 j1
  have s1' : m39_journal_Sync (⟨recs, (S.length : Int), 0⟩ : XJournal) (pen S [] (-1), e).1 = some (⟨recs, (S.length : Int), (recs.length : Int)⟩, pen S1 [] (-1), 0) := s1
  unfold dmgT
  obtain ⟨fu, hfu⟩ : ∃ n : Nat, n = 1000000 := ⟨_, rfl⟩
  rw [← hfu]
  rw [s1', Option.bind_some]
  simp only [jn_eq, ne_eq, not_true_eq_false, decide_false, cond_false]
  by_cases he : recs = []
  · rw [decide_eq_true (show ((endsOf recs).length : Int) = 0 by rw [endsOf_len, he]; rfl), cond_true, decide_eq_true trivial]
  have hp := List.length_pos_iff.2 he
  rw [decide_eq_false (show ¬ ((endsOf recs).length : Int) = 0 by rw [endsOf_len]; omega), cond_false]
  have hlast := endsOf_last he (by omega)
  have hw : IntKind.wrap .i64 (((endsOf recs).length : Int) - 1) = (recs.length : Int) - 1 := by rw [endsOf_len, wrap_i64 (by omega) (by omega)]
  have hup : 0 < usedN recs := by omega
  have hwu : IntKind.wrap .u64 (usedN recs : Int) = (usedN recs : Int) := by rw [IntKind.wrap_u64]; omega
  obtain ⟨k, hk, hku⟩ : ∃ k : Nat, dmgK sector (endsOf recs) = (k : Int) ∧ k < usedN recs := by
    unfold dmgK
    rw [hlast, hwu, IntKind.wrap_u64]
    have h0 : 0 ≤ sector % 18446744073709551616 := Int.emod_nonneg _ (by decide)
    rw [Int.tmod_eq_emod_of_nonneg h0]
    have h1 := Int.emod_nonneg (sector % 18446744073709551616) (show (usedN recs : Int) ≠ 0 by omega)
    have h2 := Int.emod_lt_of_pos (sector % 18446744073709551616) (show (0 : Int) < (usedN recs : Int) by omega)
    exact ⟨(sector % 18446744073709551616 % (usedN recs : Int)).toNat, by rw [wrap_i64 (by omega) (by omega)]; omega, by omega⟩
  obtain ⟨p, hpa, hp128⟩ : ∃ p : Nat, (IntKind.wrap .u64 at_).tmod 128 = (p : Int) ∧ p < 128 := by
    rw [IntKind.wrap_u64]
    have h0 : 0 ≤ at_ % 18446744073709551616 := Int.emod_nonneg _ (by decide)
    rw [Int.tmod_eq_emod_of_nonneg h0]
    exact ⟨(at_ % 18446744073709551616 % 128).toNat, by omega, by omega⟩
  have hG1 := (genS_ge S 1).1
  have hG2 : genS 1 S ≤ 0 + 1 := genS_le S 1 (by omega) J0.gens
  have hS1 : S1 = perf S (wrs 0 (news (genS 1 S) 0 recs)) := n2 he
  have hkS : k < S1.length := by omega
  have hN := news_len (genS 1 S) recs 0
  have hget : ∀ j, j < usedN recs → S1[j]? = (news (genS 1 S) 0 recs)[j]? := fun j hj => by
    rw [hS1, perf_wrs _ _ _ _ (by omega), if_pos (by omega), Nat.sub_zero]
  obtain ⟨kk, c, hc1, hc2⟩ := news_at (g := genS 1 S) recs 0 k (by omega)
  have hsk : S1[k] = enc (genS 1 S) k kk c := by
    have h := hget k hku
    rw [List.getElem?_eq_getElem hkS, List.getElem?_eq_getElem (by omega), hc1, Nat.zero_add] at h
    exact Option.some.inj h
  have hs128 : S1[k].length = 128 := j1.all _ (List.getElem_mem hkS)
  rw [hk, hlast, hw, endsOf_len, hpa]
  simp only [show (pen S1 [] (-1)).sectors = S1 from rfl, Int.toNat_natCast, getD_len hkS, List.nil_append, List.length_nil]
  have hq : (S1[k]).getD p default = (S1[k])[p]'(by omega) := getD_len (by omega)
  rw [ck_eq (by omega), ck_eq (by rw [hwu]; omega)]
  rw [decide_eq_false (show ¬ (S1.length : Int) ≤ (k : Int) by omega), cond_false, decide_eq_false (show ¬ (recs.length : Int) < (recs.length : Int) by omega), cond_false, ck_eq (by omega), hs128, decide_eq_false (show ¬ ¬ ((128 : Nat) : Int) = 128 by decide), cond_false]
  rw [ck_eq (by omega), ck_eq (by decide), ck_eq (by omega), ck_eq (by omega), hq]
  obtain ⟨v, hv⟩ : ∃ v, v = UInt8.ofNat (Go.bits .xor .u8 (((S1[k])[p]'(by omega)).toNat : Int) (by_.toNat : Int)).toNat := ⟨_, rfl⟩
  have hvne : v ≠ (S1[k])[p]'(by omega) := by
    intro h
    have h2 := congrArg UInt8.toNat (hv.symm.trans h)
    rw [u8_xor_nat _ _ (u8lt _) (u8lt _), Int.toNat_natCast] at h2
    have hlt : ((S1[k])[p]'(by omega)).toNat ^^^ by_.toNat < 256 := Nat.xor_lt_two_pow (n := 8) (u8lt _) (u8lt _)
    have h3 : (UInt8.ofNat (((S1[k])[p]'(by omega)).toNat ^^^ by_.toNat)).toNat = ((S1[k])[p]'(by omega)).toNat ^^^ by_.toNat := by rw [UInt8.toNat_ofNat']; omega
    rw [h3] at h2
    have h4 : ((S1[k])[p]'(by omega)).toNat ^^^ by_.toNat = ((S1[k])[p]'(by omega)).toNat ^^^ 0 := by rw [h2, Nat.xor_zero]
    have h5 := xor_cancel' h4
    exact hby (UInt8.toNat_inj.1 (by rw [h5]; rfl))
  rw [← hv]
  obtain ⟨s', hs'⟩ : ∃ s', s' = (S1[k]).set p v := ⟨_, rfl⟩
  have hs'l : s'.length = 128 := by rw [hs', List.length_set, hs128]
  rw [← hs']
  have hwr := write_one (S := S1) (left := -1) (p := []) (n := k) (s := s') j1.one j1.len j1.all (by decide) (by decide) (by simp) (by simp) hkS hs'l
  rw [hwr, Option.bind_some]
  have hpw : ∀ w ∈ ([⟨(k : Int), s'⟩] : List XWrite), 0 ≤ w.at_ ∧ w.at_ < (S1.length : Int) ∧ w.data.length = 128 := by
    intro w hw; rw [List.mem_singleton.1 hw]; exact ⟨by simp, by simp only; omega, hs'l⟩
  have hck : chk (pen S1 ([] ++ [⟨(k : Int), s'⟩]) (-1)) = true := pen_chk j1.one j1.len j1.all (by decide) (by decide) (by simp) hpw
  have hsn : m25_disk_Sync (pen S1 ([] ++ [⟨(k : Int), s'⟩]) (-1)) = some (pen (S1.set k s') [] (-1), 0) := by
    rw [sn_ok hck rfl]; rfl
  simp only
  rw [hsn, Option.bind_some]
  have hall : ∀ s ∈ S1.set k s', s.length = 128 := by
    intro s hs
    rcases List.mem_or_eq_of_mem_set hs with h | h
    · exact j1.all s h
    · rw [h]; exact hs'l
  have hbad : m70_journal_good s' (k : Int) = some false := by
    have hlt : p < (S1[k]).length := by omega
    rw [hs', hsk]
    refine bad_damage (by omega) hc2 hp128 fun h => hvne ?_
    have h5 : (S1[k])[p]? = some v := by rw [hsk]; exact h
    rw [List.getElem?_eq_getElem hlt] at h5
    exact (Option.some.inj h5).symm
  obtain ⟨i, gl, ⟨i1, i2, i3⟩, i4, i5⟩ := lay_part (S := S1.set k s') (g := genS 1 S) (by omega) (by omega) (by rw [List.length_set]; omega) hall recs 0 0 k (Nat.zero_le _) hku (fun b hb => by have := usedN_big hb; unfold secN at this; omega)
    (fun j hj => by rw [Nat.zero_add, List.getElem?_set_ne (by omega)]; exact hget j (by omega)) ⟨s', by rw [Nat.zero_add]; exact List.getElem?_set_self (by omega), by rw [Nat.zero_add]; exact hbad⟩
  have hck2 : chk (pen (S1.set k s') [] (-1)) = true := pen_chk (by rw [List.length_set]; exact j1.one) (by rw [List.length_set]; exact j1.len) hall (by decide) (by decide) (by simp) (by simp)
  have hop := open_eq (d := pen (S1.set k s') [] (-1)) hck2 rfl rfl i4 i5
  simp only
  rw [hop, Option.bind_some]
  rw [want0 (sector := sector) (ends := endsOf recs) (i := i) (fu := fu) (by omega) (by rw [endsOf_len]; omega) (by rw [endsOf_len]; omega)
    (fun j hj => by rw [endsOf_get (by omega), hk]; have := usedN_take_mono (l := recs) (show j + 1 ≤ i by omega); omega) (fun h => by rw [endsOf_get i1, hk]; omega)]
  simp only [decide_true, cond_true]
  rw [ck_eq (by omega), Int.toNat_natCast, Nat.sub_zero, List.drop_zero, m37_eq _ _ (by rw [List.length_take]; omega), Option.bind_some, decide_eq_true rfl]
theorem JournalDamage_law (records : List (List UInt8)) (sector at_ : Int) (by_ : UInt8) (hr : SmLB 24 (SmL SmT) records) (h2 : InK .i64 sector) (h3 : InK .i64 at_) (h4 : SmT by_) : m10_overflightlaw45_JournalDamage records sector at_ by_ = some true := by
  have hrl : records.length ≤ 140737488351232 := by have := hr.1; omega
  have hrb : ∀ b ∈ records, b.length ≤ 140737488351232 := fun b hb => (hr.2 b hb).1
  have hnew : m15_disk_New 40 = some (⟨List.replicate 40 (List.replicate 128 0), [], -1, false⟩, 0) := m15_ok (k := 40) (by decide) (by decide)
  obtain ⟨S, hS⟩ : ∃ S : List (List UInt8), S = List.replicate 40 (List.replicate 128 0) := ⟨_, rfl⟩
  have hSl : S.length = 40 := by rw [hS, List.length_replicate]
  have J0 : Jd S [] 0 := by rw [hS]; exact Jd.start (by decide) (by decide)
  unfold m10_overflightlaw45_JournalDamage
  rw [sane45, Option.bind_some, hnew, ← hS]
  simp only [Option.bind_some, Bool.not_true, cond_false, jn_eq, ne_eq, not_true_eq_false, decide_false]
  rw [m29_eq _ _ (by omega), Option.bind_some]
  cases fewJ (⟨S, [], -1, false⟩ : XDisk) records
  · rfl
  simp only [Bool.not_true, cond_false]
  cases decide ((records.length : Int) = 0)
  rotate_left
  · rfl
  rw [cond_false]
  by_cases hby0 : (by_.toNat : Int) = 0
  · rw [decide_eq_true hby0]; rfl
  have hby : by_ ≠ 0 := fun h => hby0 (by rw [h]; rfl)
  rw [decide_eq_false hby0, cond_false, show (⟨S, [], -1, false⟩ : XDisk) = pen S [] (-1) from rfl, J0.opens, Option.bind_some]
  simp only [ne_eq, not_true_eq_false, decide_false, cond_false]
  have F0 : Fit S.length ([] : List (List UInt8)) 0 := ⟨by omega, by omega, by simp [usedN], by decide, by simp⟩
  refine up_list (L := fun n i (st : List (List UInt8)) => loop5 (m10_overflightlaw45_JournalDamage_B0 records sector at_ by_ (pen S [] (-1), 0)) n (endsOf st) i st (S.length : Int) 0) (fun _ st => Fit S.length st 0) (fun _ _ _ => some true) records (by omega) ?_ ?_ _ [] (by omega) F0
  · intro n st hst
    simp only [loop5_succ]
    have : m10_overflightlaw45_JournalDamage_B0 records sector at_ by_ (pen S [] (-1), 0) (loop5 (m10_overflightlaw45_JournalDamage_B0 records sector at_ by_ (pen S [] (-1), 0)) n) (endsOf st) (records.length : Int) st (S.length : Int) 0 = dmgT sector at_ by_ (pen S [] (-1), 0) (endsOf st) st (S.length : Int) 0 := by
      generalize loop5 (m10_overflightlaw45_JournalDamage_B0 records sector at_ by_ (pen S [] (-1), 0)) n = L
      unfold m10_overflightlaw45_JournalDamage_B0
      rw [decide_eq_false (Int.lt_irrefl _)]; rfl
    exact this.trans (dmg_true J0 hst hby)
  · intro n i st x t g1 g2 g3 hst ih
    simp only [loop5_succ]
    generalize hL : loop5 (m10_overflightlaw45_JournalDamage_B0 records sector at_ by_ (pen S [] (-1), 0)) n = L at ih
    have gx : records.getD (i : Int).toNat default = x := getD_of g2
    have hx := hrb x (List.mem_of_getElem? g2)
    have hu := hst.use; have hm := hst.len; have hul := usedN_len st
    by_cases hf : usedN st + secN x.length ≤ S.length
    · have ha := app_yes hst hx hf
      have ihx := ih (st ++ [x]) ⟨hst.one, hst.len, by rw [usedN_app]; exact hf, by decide, by omega⟩
      rw [endsOf_app] at ihx
      unfold m10_overflightlaw45_JournalDamage_B0
      rw [decide_eq_true (ipos g1), cond_true, ck_eq (by omega), gx, ha, Option.bind_some]
      simp only [ne_eq, not_true_eq_false, decide_false, cond_false]
      have hsec : max (1 : Int) (IntKind.wrap .i64 ((IntKind.wrap .i64 ((x.length : Int) + 111)).tdiv 112)) = (secN x.length : Int) := by
        rw [wrap_i64 (m := (x.length : Int) + 111) (by omega) (by omega), show (x.length : Int) + 111 = ((x.length + 111 : Nat) : Int) by omega]
        have e : (((x.length + 111 : Nat) : Int)).tdiv 112 = (((x.length + 111) / 112 : Nat) : Int) := rfl
        rw [e, wrap_i64 (by omega) (by omega)]
        unfold secN; omega
      rw [hsec]
      by_cases hz : st = []
      · subst hz
        rw [decide_eq_false (show ¬ (0 : Int) < ((endsOf []).length : Int) by decide), cond_false, ck_eq (by rw [endsOf_len]; simp), g3]
        have e0 : ((usedN [] + secN x.length : Nat) : Int) = (secN x.length : Int) := by simp [usedN]
        rw [e0] at ihx; exact ihx
      · have hp := List.length_pos_iff.2 hz
        rw [decide_eq_true (show (0 : Int) < ((endsOf st).length : Int) by rw [endsOf_len]; omega), cond_true, endsOf_last hz (by omega)]
        rw [ck_eq (by rw [endsOf_len, wrap_i64 (by omega) (by omega)]; omega), ck_eq (by rw [endsOf_len]; simp; omega), g3]
        rw [show IntKind.wrap .i64 ((secN x.length : Int) + (usedN st : Int)) = ((usedN st + secN x.length : Nat) : Int) by rw [wrap_i64 (by omega) (by omega)]; omega]
        exact ihx
    · have ha := app_no hst hx hf
      refine Eq.trans ?_ (dmg_true (sector := sector) (at_ := at_) (e := 0) J0 hst hby)
      unfold m10_overflightlaw45_JournalDamage_B0
      rw [decide_eq_true (ipos g1), cond_true, ck_eq (by omega), gx, ha]
      rfl
end Go.Fx



namespace Go.Proofs.Ytegomkljijgjjaa.lawJournalDamage
open Go Go.Proofs Go.ChangeShapes Go.WideShapes Go.ChangeAt Go.RowKit Go.Fx
open Go.ChangeMaps (open_string shut_string)
set_option linter.unusedVariables false
set_option maxRecDepth 100000
theorem own : ownKnob Try.prog.godebug = none := by kernel_rfl
theorem laidOut : laidOutB Try.prog = true := by kernel_rfl
set_option maxRecDepth 100000 in
set_option maxHeartbeats 1000000 in
theorem lifted (os : Os) (started : os.Started) (H : Type) (enc : TypeId × Value → H) :
    ReturnsInHanded {} Try.checked os 10 .any (Rows.journalDamageSpec.pre6 enc Try.prog Try.f10 Rows.journalDamageRow.domain false) (Rows.journalDamageSpec.post enc Try.prog Try.f10 false true false false) := by
  refine returnsInHanded_of_change_sized (C := Try.checked) own started (by kernel_rfl) Try.func10
    (ChangeSpec.witness6 (enc := enc) (C := Try.checked) false ⟨#[], #[(.slice none 0 0), (.int .i64 0), (.int .i64 0), (.int .u8 0)], []⟩ 8 (by kernel_rfl) (by kernel_rfl) (by kernel_rfl) (by kernel_rfl)) ?_
  intro W base args ds gs before hval0 hW hcnd hsz _
  have hval : ∀ (j : Nat) t v, Try.f10.params[j]? = some t → args[j]? = some v → Value.okWide Try.prog W .any base t v := hval0
  have hW' := hW
  obtain ⟨p, q, hA0, hV, rfl, hfz, hnd⟩ := hW
  have hA : DataW.TrodAll enc Try.prog W 0 (fun _ => true) true Try.f10.params.toList args.toList ds p := hA0
  rw [Try.params10] at hA hval
  obtain ⟨v0, vs0, d0, ds0, p0, q0, hargs, rfl, rfl, h0, r0⟩ := trodAll_cons hA
  obtain ⟨v1, vs1, d1, ds1, p1, q1, rfl, rfl, rfl, h1, r1⟩ := trodAll_cons r0
  obtain ⟨v2, vs2, d2, ds2, p2, q2, rfl, rfl, rfl, h2, r2⟩ := trodAll_cons r1
  obtain ⟨v3, vs3, d3, ds3, p3, q3, rfl, rfl, rfl, h3, r3⟩ := trodAll_cons r2
  obtain ⟨rfl, rfl, rfl⟩ := trodAll_nil r3
  obtain rfl : args = #[v0, v1, v2, v3] := by cases args; simp_all
  obtain ⟨rfl, rfl⟩ := trodVars_none hV
  have k0 := h0
  have lt0 : ∀ x ∈ p0, x.block < W.heap.size := by obtain ⟨m, hm⟩ := k0; exact DataW.trod_lt m _ _ _ hm
  obtain ⟨fu0, hf0⟩ := h0
  obtain ⟨records, rr0, sm0⟩ := rd22.2 _ _ _ hf0
  replace sm0 := sm0 (fun n hn => by have := List.all_eq_true.1 hsz n (DataW.weights_mem_each (j := 0) (t := 22) rfl rfl n hn); simpa using this)
  obtain ⟨b0, l0, c0, rfl⟩ := okWide_slice Try.underlying22 (hval 0 22 v0 rfl rfl)
  replace rr0 : (rSl (rSl rU8)).rd W [] [.slice b0 l0 c0] records := rr0
  obtain ⟨a_records, c_records, e0, f_records⟩ := un_sl rr0
  simp only [Value.slice.injEq] at e0
  obtain ⟨rfl, rfl, rfl⟩ := e0
  have k1 := h1
  have lt1 : ∀ x ∈ p1, x.block < W.heap.size := by obtain ⟨m, hm⟩ := k1; exact DataW.trod_lt m _ _ _ hm
  obtain ⟨fu1, hf1⟩ := h1
  obtain ⟨sector, rr1, sm1⟩ := rd3.2 _ _ _ hf1
  replace sm1 := sm1 (fun n hn => by have := List.all_eq_true.1 hsz n (DataW.weights_mem_each (j := 1) (t := 3) rfl rfl n hn); simpa using this)
  obtain ⟨n1, rfl⟩ := okWide_int Try.underlying3 (hval 1 3 v1 rfl rfl)
  replace rr1 : (rInt .i64).rd W [] [.int .i64 n1] sector := rr1
  obtain ⟨e1, r_sector⟩ := un_int rr1
  obtain rfl : sector = n1 := by simpa using e1.symm
  have k2 := h2
  have lt2 : ∀ x ∈ p2, x.block < W.heap.size := by obtain ⟨m, hm⟩ := k2; exact DataW.trod_lt m _ _ _ hm
  obtain ⟨fu2, hf2⟩ := h2
  obtain ⟨at_, rr2, sm2⟩ := rd3.2 _ _ _ hf2
  replace sm2 := sm2 (fun n hn => by have := List.all_eq_true.1 hsz n (DataW.weights_mem_each (j := 2) (t := 3) rfl rfl n hn); simpa using this)
  obtain ⟨n2, rfl⟩ := okWide_int Try.underlying3 (hval 2 3 v2 rfl rfl)
  replace rr2 : (rInt .i64).rd W [] [.int .i64 n2] at_ := rr2
  obtain ⟨e2, r_at_⟩ := un_int rr2
  obtain rfl : at_ = n2 := by simpa using e2.symm
  have k3 := h3
  have lt3 : ∀ x ∈ p3, x.block < W.heap.size := by obtain ⟨m, hm⟩ := k3; exact DataW.trod_lt m _ _ _ hm
  obtain ⟨fu3, hf3⟩ := h3
  obtain ⟨by_, rr3, sm3⟩ := rd5.2 _ _ _ hf3
  replace sm3 := sm3 (fun n hn => by have := List.all_eq_true.1 hsz n (DataW.weights_mem_each (j := 3) (t := 5) rfl rfl n hn); simpa using this)
  obtain ⟨n3, rfl⟩ := okWide_int Try.underlying5 (hval 3 5 v3 rfl rfl)
  replace rr3 : rU8.rd W [] [.int .u8 n3] by_ := rr3
  obtain rfl : n3 = (by_.toNat : Int) := by have := un_u8 rr3; simpa using this
  have hm : m10_overflightlaw45_JournalDamage records sector at_ by_ = some true := JournalDamage_law _ _ _ _ sm0 sm1 sm2 sm3
  have hc := Fn.calls (c10_overflightlaw45_JournalDamage (records := records) (sector := sector) (at_ := at_) (by_ := by_) (w := W) (O := []) (by simp) f_records r_sector r_at_ hm)
  clear hA0 hval0
  refine Calls.mono hc ?_
  rintro e W' ⟨v, rfl, bel, hv⟩
  replace bel := bel.below; obtain rfl : v = .bool true := hv
  exact ⟨_, rfl, _, _, _, [], _, [], hW', trodAll_mk1 (shut_bool Try.underlying4 _), (trodAll_cons_mk (Below.trod laidOut (by kernel_rfl) (of_decide_eq_true (by kernel_rfl)) k0 bel lt0) (trodAll_cons_mk (Below.trod laidOut (by kernel_rfl) (of_decide_eq_true (by kernel_rfl)) k1 bel lt1) (trodAll_cons_mk (Below.trod laidOut (by kernel_rfl) (of_decide_eq_true (by kernel_rfl)) k2 bel lt2) (trodAll_cons_mk (Below.trod laidOut (by kernel_rfl) (of_decide_eq_true (by kernel_rfl)) k3 bel lt3) trodAll_mk0)))), rfl, bel.frame _, fun h => by cases h⟩
theorem over : Rows.journalDamageRow.holds Try.pinned (OpenSpec.ofChange Rows.journalDamageSpec) :=
  OpenClaim.holds_of_wide 10 Try.f10 rfl rfl rfl rfl rfl rfl rfl ⟨rfl, rfl, rfl, rfl, rfl⟩ rfl rfl rfl rfl rfl (by kernel_rfl) Try.func10 (by kernel_rfl)
    (of_decide_eq_true (by kernel_rfl)) (by unfold Func.isWrapper; first | (rw [if_pos (by decide +kernel)]; kernel_rfl) | (rw [if_neg (by decide +kernel)]; exact ⟨rfl, rfl⟩))
    (fun os started H enc _ => lifted os started H enc)
theorem proved : Rows.JournalDamageSaid := over
end Go.Proofs.Ytegomkljijgjjaa.lawJournalDamage


