/- Words, names, splitting: what the natives compute. -/
import Derived.Test.YtcjgmffbebjddaaGreatDoorNat2
import Derived.Test.YtcjgmffbebjddaaGreatDoorEng
set_option linter.all false
namespace Go.Proofs.YtcjgmffbebjddaaGreatDoor
open Go Go.Eng

def letterN (n : Nat) : Bool := (decide (97 ≤ n) && decide (n ≤ 122)) || (decide (48 ≤ n) && decide (n ≤ 57)) || n == 45 || n == 95 || n == 46
def letter (c : UInt8) : Bool := letterN c.toNat
def word (l : Str) : Bool := !l.isEmpty && decide (l.length ≤ 64) && !(l == [46]) && !(l == [46, 46]) && l.all letter
def name (l : Str) : Bool := word l && !l.contains 46

theorem isLetter_nat (n : Nat) : address_isLetter (n : Int) = some (letterN n) := by
  unfold address_isLetter letterN
  by_cases h1 : 97 ≤ n <;> by_cases h2 : n ≤ 122 <;> by_cases h3 : 48 ≤ n <;> by_cases h4 : n ≤ 57 <;> by_cases h5 : n = 45 <;> by_cases h6 : n = 95 <;> by_cases h7 : n = 46 <;>
    first
    | omega
    | (have e1 : decide ((n : Int) ≥ 97) = decide (97 ≤ n) := by simp; omega
       have e2 : decide ((n : Int) ≤ 122) = decide (n ≤ 122) := by simp; omega
       have e3 : decide ((n : Int) ≥ 48) = decide (48 ≤ n) := by simp; omega
       have e4 : decide ((n : Int) ≤ 57) = decide (n ≤ 57) := by simp; omega
       have e5 : ((n : Int) == 45) = decide (n = 45) := by rw [Bool.eq_iff_iff]; simp; omega
       have e6 : ((n : Int) == 95) = decide (n = 95) := by rw [Bool.eq_iff_iff]; simp; omega
       have e7 : ((n : Int) == 46) = decide (n = 46) := by rw [Bool.eq_iff_iff]; simp; omega
       rw [e1, e2, e3, e4, e5, e6, e7]
       simp [h1, h2, h3, h4, h5, h6, h7])

theorem ref_letter_nat (n : Nat) : ref06_letter (n : Int) = some (letterN n) := isLetter_nat n

theorem letterN_high {n : Nat} (h : 128 ≤ n) : letterN n = false := by
  unfold letterN
  have : ¬ n ≤ 122 := by omega
  have : ¬ n ≤ 57 := by omega
  have : n ≠ 45 := by omega
  have : n ≠ 95 := by omega
  have : n ≠ 46 := by omega
  simp [*]

theorem indexFunc_L2 (fu : Nat) (l : Str) : ∀ (n i : Nat), l.length < n + i → i ≤ l.length →
    ∃ r, strings_indexFunc_L2 fu n (bs l) i true = some r ∧ (((l.drop i).all letter = true ∧ r = .inr ((), ())) ∨ ((l.drop i).all letter = false ∧ ∃ k : Nat, r = .inl ((), ((k : Int), ())))) := by
  intro n
  induction n with
  | zero => intro i h hi; omega
  | succ n ih =>
    intro i h hi
    rw [strings_indexFunc_L2]
    by_cases hlt : i < l.length
    · have hd : l.drop i = l[i] :: l.drop (i + 1) := List.drop_eq_getElem_cons hlt
      have hg : l[i]? = some l[i] := List.getElem?_eq_getElem hlt
      by_cases hc : l[i].toNat < 128
      · rw [Go.Eng.decode_ascii hg hc]
        simp only [bs_size, hlt, decide_true, cond_true, address_isWord_1, isLetter_nat, Option.bind_some, hd, List.all_cons]
        cases hl : letterN l[i].toNat
        · refine ⟨_, rfl, .inr ⟨by simp [letter, hl], i, rfl⟩⟩
        · obtain ⟨r, h1, h2⟩ := ih (i + 1) (by omega) (by omega)
          refine ⟨r, h1, ?_⟩
          simpa [letter, hl] using h2
      · have hh := Go.Eng.decode_high hg (by omega)
        have hn : letterN l[i].toNat = false := letterN_high (by omega)
        simp only [bs_size, hlt, decide_true, cond_true, address_isWord_1, isLetter_nat, letterN_high hh, Option.bind_some, hd, List.all_cons]
        exact ⟨_, rfl, .inr ⟨by simp [letter, hn], i, rfl⟩⟩
    · have hd : l.drop i = [] := List.drop_eq_nil_of_le (by omega)
      simp only [bs_size, hlt, decide_false, cond_false, hd]
      exact ⟨_, rfl, .inl ⟨rfl, rfl⟩⟩

theorem ContainsFunc_eq {fu : Nat} {l : Str} (h : l.length < fu) : strings_ContainsFunc fu (bs l) = some (!l.all letter) := by
  obtain ⟨r, h1, h2⟩ := indexFunc_L2 fu l fu 0 (by omega) (by omega)
  simp only [strings_ContainsFunc, strings_IndexFunc, strings_indexFunc, h1, Option.bind_some]
  rw [List.drop_zero] at h2
  rcases h2 with ⟨h2, rfl⟩ | ⟨h2, k, rfl⟩
  · simp [h2]
  · simp [h2]

theorem isWord_eq {fu : Nat} {l : Str} (h : l.length < fu) : address_isWord fu (bs l) = some (word l) := by
  unfold address_isWord word
  simp only [seq_bs, bs_size, ContainsFunc_eq h, Option.bind_some]
  cases l with
  | nil => rfl
  | cons a l =>
    have e : decide (((List.length (a :: l) : Nat) : Int) ≤ 64) = decide ((a :: l).length ≤ 64) := by simp; omega
    rw [e]
    cases decide ((a :: l).length ≤ 64) <;> cases (a :: l == [46]) <;> cases (a :: l == [46, 46]) <;> simp

theorem isName_eq {fu : Nat} {l : Str} (h : l.length < fu) : address_isName fu (bs l) = some (name l) := by
  unfold address_isName name
  simp only [isWord_eq h, strings_Contains_bs, Option.bind_some]
  cases word l <;> rfl

theorem ref_Word_L4 (fu : Nat) (l : Str) (hs : l.length ≤ 1000000) : ∀ (n i : Nat), l.length < n + i → i ≤ l.length →
    ref06_Word_L4 fu n (bs l) (i : Int) = some (if (l.drop i).all letter then .inr ((), ()) else .inl ((), (false, ()))) := by
  intro n
  induction n with
  | zero => intro i h hi; omega
  | succ n ih =>
    intro i h hi
    rw [ref06_Word_L4]
    by_cases hlt : i < l.length
    · have hd : l.drop i = l[i] :: l.drop (i + 1) := List.drop_eq_getElem_cons hlt
      have hg : l.getD i 0 = l[i] := by simp [List.getD_eq_getElem?_getD, hlt]
      have e : decide ((i : Int) < ((l.length : Nat) : Int)) = true := by simp; exact hlt
      simp only [bs_size, e, cond_true, nat?_nat, Option.bind_some, hlt, if_true, chr_bs, hg, ref_letter_nat, hd, List.all_cons]
      rw [w64_succ (by omega), ih (i + 1) (by omega) (by omega)]
      cases hl : letterN l[i].toNat <;> simp [letter, hl]
    · have hd : l.drop i = [] := List.drop_eq_nil_of_le (by omega)
      have e : decide ((i : Int) < ((l.length : Nat) : Int)) = false := by simp; omega
      simp [hlt, hd]

theorem ref_Word_eq {fu : Nat} {l : Str} (h : l.length < fu) (hs : l.length ≤ 1000000) : ref06_Word fu (bs l) = some (word l) := by
  unfold ref06_Word word
  have hz := ref_Word_L4 fu l hs fu 0 (by omega) (by omega)
  simp only [seq_bs, bs_size]
  rw [show ((0 : Int)) = ((0 : Nat) : Int) from rfl, hz]
  cases l with
  | nil => rfl
  | cons a l =>
    have e : decide (((List.length (a :: l) : Nat) : Int) > 64) = !decide ((a :: l).length ≤ 64) := by rw [Bool.eq_iff_iff]; simp; omega
    have e2 : (((List.length (a :: l) : Nat) : Int) == ((0 : Nat) : Int)) = false := by simp; omega
    rw [e, e2]
    cases decide ((a :: l).length ≤ 64) <;> cases (a :: l == [46]) <;> cases (a :: l == [46, 46]) <;> cases h5 : (a :: l).all letter <;> simp [h5]

theorem ref_has_L2 (fu : Nat) (l : Str) (hs : l.length ≤ 1000000) (c : UInt8) : ∀ (n i : Nat), l.length < n + i → i ≤ l.length →
    ref06_has_L2 fu n (bs l) ((c.toNat : Nat) : Int) (i : Int) = some (if (l.drop i).contains c then .inl ((), (true, ())) else .inr ((), ())) := by
  intro n
  induction n with
  | zero => intro i h hi; omega
  | succ n ih =>
    intro i h hi
    rw [ref06_has_L2]
    by_cases hlt : i < l.length
    · have hd : l.drop i = l[i] :: l.drop (i + 1) := List.drop_eq_getElem_cons hlt
      have hg : l.getD i 0 = l[i] := by simp [List.getD_eq_getElem?_getD, hlt]
      have e : decide ((i : Int) < ((l.length : Nat) : Int)) = true := by simp; exact hlt
      have e2 : (((l[i].toNat : Nat) : Int) == ((c.toNat : Nat) : Int)) = (c == l[i]) := by
        rw [Bool.eq_iff_iff]; simp only [beq_iff_eq]
        constructor
        · intro hh; exact (UInt8.toNat_inj.1 (by omega))
        · intro hh; rw [hh]
      simp only [bs_size, e, cond_true, nat?_nat, Option.bind_some, hlt, if_true, chr_bs, hg, hd, List.contains_cons, e2]
      rw [w64_succ (by omega), ih (i + 1) (by omega) (by omega)]
      cases hl : (c == l[i]) <;> simp
    · have hd : l.drop i = [] := List.drop_eq_nil_of_le (by omega)
      have e : decide ((i : Int) < ((l.length : Nat) : Int)) = false := by simp; omega
      simp [hlt, hd]

theorem ref_has_eq {fu : Nat} {l : Str} (h : l.length < fu) (hs : l.length ≤ 1000000) (c : UInt8) : ref06_has fu (bs l) ((c.toNat : Nat) : Int) = some (l.contains c) := by
  have := ref_has_L2 fu l hs c fu 0 (by omega) (by omega)
  unfold ref06_has
  rw [show ((0 : Int)) = ((0 : Nat) : Int) from rfl, this]
  rw [List.drop_zero]
  cases l.contains c <;> simp

theorem ref_Name_eq {fu : Nat} {l : Str} (h : l.length < fu) (hs : l.length ≤ 1000000) : ref06_Name fu (bs l) = some (name l) := by
  unfold ref06_Name name
  simp only [ref_Word_eq h hs, Option.bind_some]
  rw [show (46 : Int) = (((46 : UInt8).toNat : Nat) : Int) from rfl, ref_has_eq h hs]
  cases word l <;> simp
end Go.Proofs.YtcjgmffbebjddaaGreatDoor
