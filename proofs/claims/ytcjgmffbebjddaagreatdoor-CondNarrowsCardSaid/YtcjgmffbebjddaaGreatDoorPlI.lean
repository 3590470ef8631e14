/- Valid conditions: the code and the reference. -/
import Derived.Test.YtcjgmffbebjddaaGreatDoorPlH
set_option linter.all false
namespace Go.Proofs.YtcjgmffbebjddaaGreatDoor
open Go Go.Eng

def ascG {α : Type} (le : α → α → Bool) : List α → Bool
  | a :: b :: r => !(le b a) && ascG le (b :: r)
  | _ => true
def leS (b a : Str) : Bool := Op.bytesLess b a || b == a
def leI (b a : Int) : Bool := decide (b ≤ a)
def country : Str → Bool
  | [a, b] => decide (97 ≤ a.toNat) && decide (a.toNat ≤ 122) && decide (97 ≤ b.toNat) && decide (b.toNat ≤ 122)
  | _ => false
def siteOK (n : Int) : Bool := decide (0 ≤ n) && decide (n < 64)

/-- A condition. -/
structure Cnd where
  fr : Int
  to : Int
  p : Str
  cl : List Str
  co : List Str
  si : List Int
  us : Int

def validC (c : Cnd) : Bool :=
  decide (0 ≤ c.fr) && decide (c.fr ≤ 1099511627776) && decide (0 ≤ c.to) && decide (c.to ≤ 1099511627777) && decide (0 ≤ c.us) && decide (c.us ≤ 1073741824) &&
  (c.p == [] || (compile c.p).isSome) && (c.cl.all name && ascG leS c.cl && decide (c.cl.length ≤ 32)) && (c.co.all country && ascG leS c.co && decide (c.co.length ≤ 32)) &&
  (c.si.all siteOK && ascG leI c.si && decide (c.si.length ≤ 64))

/-- Sizes. -/
def SmC (c : Cnd) : Prop := c.p.length ≤ 1000000 ∧ c.cl.length ≤ 1000 ∧ c.co.length ≤ 1000 ∧ c.si.length ≤ 1000 ∧ (∀ w ∈ c.cl, w.length ≤ 1000000) ∧ ∀ w ∈ c.co, w.length ≤ 1000000

theorem prevRel {α : Type} (l : List α) (i : Nat) (h0 : 0 < i) (h : i < l.length) : ∃ p a, l[i - 1]? = some p ∧ l[i]? = some a ∧ l.drop (i - 1) = p :: l.drop i ∧ l.drop i = a :: l.drop (i + 1) := by
  have e : i - 1 + 1 = i := by omega
  refine ⟨l[i - 1]'(by omega), l[i]'h, List.getElem?_eq_getElem _, List.getElem?_eq_getElem _, ?_, List.drop_eq_getElem_cons h⟩
  have := List.drop_eq_getElem_cons (l := l) (i := i - 1) (by omega)
  rw [e] at this
  exact this

theorem ascG_end {α : Type} (le : α → α → Bool) (l : List α) (i : Nat) (h : l.length ≤ i) : ascG le (l.drop (i - 1)) = true := by
  have : (l.drop (i - 1)).length ≤ 1 := by simp; omega
  match hl : l.drop (i - 1), this with
  | [], _ => rfl
  | [a], _ => rfl
  | a :: b :: r, h => simp at h

theorem cname_eq {fu : Nat} {s : Str} (hf : 1000 < fu) (h : s.length < fu) (hs : s.length ≤ 1000000) : cond_isName fu (bs s) = some (name s) := by
  unfold cond_isName
  simp only [seq_bs, strings_Contains_bs, Option.bind_some, Valid_eq h hs (by omega)]
  by_cases h42 : s = [42]
  · subst h42; rfl
  · have e : (s == [42]) = false := by simpa using h42
    rw [e]
    cases hc : s.contains 47
    · have : splitL 47 s = [s] := splitL_none fun a ha he => by
        subst he
        simp at hc
        exact hc ha
      unfold compile
      rw [this]
      simp only [e, Bool.false_or, List.length_nil, Nat.zero_le, decide_true, Bool.and_true, compParts]
      cases name s <;> simp
    · simp only [Bool.not_false, Bool.not_true, cond_true, cond_false]
      cases hn : name s with
      | false => rfl
      | true =>
        exfalso
        have := name_word hn
        unfold word at this
        simp only [Bool.and_eq_true] at this
        have h2 := List.all_eq_true.1 this.2 47 (by simpa using hc)
        cases h2

theorem ccountry_eq (s : Str) : cond_isCountry (bs s) = some (country s) := by
  unfold cond_isCountry
  match s with
  | [] => rfl
  | [a] => rfl
  | a :: b :: c :: r =>
    have : ((((bs (a :: b :: c :: r)).size : Nat) : Int) == 2) = false := by
      rw [Bool.eq_false_iff]; intro h; rw [beq_iff_eq, bs_size] at h; simp at h; omega
    rw [this]; rfl
  | [a, b] =>
    have e0 : ((((bs [a, b]).size : Nat) : Int) == 2) = true := rfl
    have s2 : (bs [a, b]).size = 2 := rfl
    have c0 : chr (bs [a, b]) (Int.toNat 0) = ((a.toNat : Nat) : Int) := rfl
    have c1 : chr (bs [a, b]) (Int.toNat 1) = ((b.toNat : Nat) : Int) := rfl
    rw [e0, s2, c0, c1]
    have h0 : Int.toNat 0 < 2 := by decide
    have h1 : Int.toNat 1 < 2 := by decide
    have hc : country [a, b] = (decide (97 ≤ a.toNat) && decide (a.toNat ≤ 122) && decide (97 ≤ b.toNat) && decide (b.toNat ≤ 122)) := rfl
    simp only [cond_true]
    rw [if_pos h0, if_pos h1, hc]
    have e1 : decide ((if ((b.toNat : Nat) : Int) < ((a.toNat : Nat) : Int) then ((b.toNat : Nat) : Int) else ((a.toNat : Nat) : Int)) ≥ 97) = (decide (97 ≤ a.toNat) && decide (97 ≤ b.toNat)) := by
      rw [Bool.eq_iff_iff]; simp only [decide_eq_true_eq, Bool.and_eq_true]; split <;> omega
    have e2 : decide ((if ((b.toNat : Nat) : Int) > ((a.toNat : Nat) : Int) then ((b.toNat : Nat) : Int) else ((a.toNat : Nat) : Int)) ≤ 122) = (decide (a.toNat ≤ 122) && decide (b.toNat ≤ 122)) := by
      rw [Bool.eq_iff_iff]; simp only [decide_eq_true_eq, Bool.and_eq_true]; split <;> omega
    rw [e1, e2]
    cases decide (97 ≤ a.toNat) <;> cases decide (97 ≤ b.toNat) <;> cases decide (a.toNat ≤ 122) <;> cases decide (b.toNat ≤ 122) <;> rfl

theorem rcountry_eq (s : Str) : ref21_Country (bs s) = some (country s) := by
  unfold ref21_Country
  match s with
  | [] => rfl
  | [a] => rfl
  | a :: b :: c :: r =>
    have : ((((bs (a :: b :: c :: r)).size : Nat) : Int) == 2) = false := by
      rw [Bool.eq_false_iff]; intro h; rw [beq_iff_eq, bs_size] at h; simp at h; omega
    rw [this]; rfl
  | [a, b] =>
    have e0 : ((((bs [a, b]).size : Nat) : Int) == 2) = true := rfl
    have s2 : (bs [a, b]).size = 2 := rfl
    have c0 : chr (bs [a, b]) (Int.toNat 0) = ((a.toNat : Nat) : Int) := rfl
    have c1 : chr (bs [a, b]) (Int.toNat 1) = ((b.toNat : Nat) : Int) := rfl
    rw [e0, s2, c0, c1]
    have h0 : Int.toNat 0 < 2 := by decide
    have h1 : Int.toNat 1 < 2 := by decide
    have hc : country [a, b] = (decide (97 ≤ a.toNat) && decide (a.toNat ≤ 122) && decide (97 ≤ b.toNat) && decide (b.toNat ≤ 122)) := rfl
    simp only [cond_true]
    rw [if_pos h0, if_pos h1, hc]
    have e1 : decide (((a.toNat : Nat) : Int) ≥ 97) = decide (97 ≤ a.toNat) := by rw [Bool.eq_iff_iff]; simp only [decide_eq_true_eq]; omega
    have e2 : decide (((a.toNat : Nat) : Int) ≤ 122) = decide (a.toNat ≤ 122) := by rw [Bool.eq_iff_iff]; simp only [decide_eq_true_eq]; omega
    have e3 : decide (((b.toNat : Nat) : Int) ≥ 97) = decide (97 ≤ b.toNat) := by rw [Bool.eq_iff_iff]; simp only [decide_eq_true_eq]; omega
    have e4 : decide (((b.toNat : Nat) : Int) ≤ 122) = decide (b.toNat ≤ 122) := by rw [Bool.eq_iff_iff]; simp only [decide_eq_true_eq]; omega
    rw [e1, e2, e3, e4]
    cases decide (97 ≤ a.toNat) <;> cases decide (97 ≤ b.toNat) <;> cases decide (a.toNat ≤ 122) <;> cases decide (b.toNat ≤ 122) <;> rfl

theorem isSite_eq (n : Int) : cond_isSite n = some (siteOK n) := by
  unfold cond_isSite siteOK
  have e : decide (n ≥ 0) = decide (0 ≤ n) := rfl
  rw [e]
  cases decide (0 ≤ n) <;> rfl

theorem pred_pos {i : Nat} (h : 0 < i) (h2 : i ≤ 1000000) : w64 ((i : Int) - 1) = ((i - 1 : Nat) : Int) := by
  rw [w64_id (by omega) (by omega)]; omega

theorem isSet_L2 {fu : Nat} (hf : 1000 < fu) (m : Int) (l : List Str) (hn : l.length ≤ 1000) (hw : ∀ w ∈ l, w.length ≤ 1000000 ∧ w.length < fu) : ∀ (n i : Nat), l.length < n + i → i ≤ l.length →
    cond_isSet_string_L2 fu n (l.map dB) m (l.map dB) ((l.length : Nat) : Int) (i : Int) = some (if ((l.drop i).all name && ascG leS (l.drop (i - 1))) then .inr ((), (l.map dB, m, ())) else .inl ((), (l.map dB, m, false, ()))) := by
  intro n
  induction n with
  | zero => intro i h; omega
  | succ n ih =>
    intro i h hi
    rw [cond_isSet_string_L2]
    by_cases hlt : i < l.length
    · have e1 : decide ((i : Int) < ((l.length : Nat) : Int)) = true := by rw [decide_eq_true_eq]; omega
      have e1' : i < (l.map dB).length := by simp; exact hlt
      simp only [e1, cond_true, nat?_nat, Option.bind_some, if_pos e1', rdS_map]
      rcases dropRel l i with ⟨a, ga, da, la⟩ | ⟨ga, da, da2, la⟩
      · have hal := hw a (List.mem_of_getElem? ga)
        simp only [ga, Option.map_some, Option.bind_some, cname_eq hf hal.2 hal.1]
        rw [da, List.all_cons]
        rcases Bool.eq_false_or_eq_true (name a) with hna | hna
        · simp only [hna, Bool.not_true, cond_false, Bool.true_and]
          by_cases h0 : 0 < i
          · obtain ⟨p, a', gp, ga', dp, da'⟩ := prevRel l i h0 hlt
            obtain rfl : a = a' := by rw [ga] at ga'; exact Option.some.inj ga'
            have e2 : decide ((i : Int) > 0) = true := by rw [decide_eq_true_eq]; omega
            have e3 : i - 1 < (l.map dB).length := by simp; omega
            rw [pred_pos h0 (by omega)]
            simp only [e2, cond_true, nat?_nat, Option.bind_some, if_pos e3, gp, Option.map_some, slt_bs, seq_bs]
            rw [w64_succ (by omega), ih (i + 1) (by omega) (by omega), dp, da]
            simp only [ascG, Nat.add_sub_cancel, da]
            have e4 : (Op.bytesLess a p || a == p) = leS a p := rfl
            rw [e4]
            rcases Bool.eq_false_or_eq_true (leS a p) with hl | hl <;> simp [hl]
          · have e2 : decide ((i : Int) > 0) = false := by rw [decide_eq_false_iff_not]; omega
            have i0 : i = 0 := by omega
            subst i0
            simp only [e2, cond_false]
            rw [w64_succ (by omega), ih 1 (by omega) (by omega)]
        · simp only [hna, Bool.not_false, cond_true, Bool.false_and, Bool.false_eq_true, if_false]
      · omega
    · have e1 : decide ((i : Int) < ((l.length : Nat) : Int)) = false := by rw [decide_eq_false_iff_not]; omega
      rw [e1, List.drop_eq_nil_of_le (by omega), ascG_end leS l i (by omega)]
      rfl
theorem isSet_eq {fu : Nat} (hf : 1000 < fu) {m : Nat} (hm : m ≤ 1000) {l : List Str} (hn : l.length ≤ 1000) (hw : ∀ w ∈ l, w.length ≤ 1000000 ∧ w.length < fu) : cond_isSet_string fu (l.map dB) (m : Int) = some (l.all name && ascG leS l && decide (l.length ≤ m)) := by
  unfold cond_isSet_string
  have := isSet_L2 hf (m : Int) l hn hw fu 0 (by omega) (by omega)
  rw [List.length_map, show ((0 : Int)) = ((0 : Nat) : Int) from rfl, this]
  simp only [List.drop_zero, Nat.zero_sub]
  rcases Bool.eq_false_or_eq_true (l.all name && ascG leS l) with h | h
  · simp only [h, if_true, Option.bind_some, Bool.true_and]
    congr 1
    rw [List.length_map, Bool.eq_iff_iff]; simp
  · simp [h]

theorem isSet2_L2 {fu : Nat} (m : Int) (l : List Str) (hn : l.length ≤ 1000) : ∀ (n i : Nat), l.length < n + i → i ≤ l.length →
    cond_isSet_string_L2_8 fu n (l.map dB) m (l.map dB) ((l.length : Nat) : Int) (i : Int) = some (if ((l.drop i).all country && ascG leS (l.drop (i - 1))) then .inr ((), (l.map dB, m, ())) else .inl ((), (l.map dB, m, false, ()))) := by
  intro n
  induction n with
  | zero => intro i h; omega
  | succ n ih =>
    intro i h hi
    rw [cond_isSet_string_L2_8]
    by_cases hlt : i < l.length
    · have e1 : decide ((i : Int) < ((l.length : Nat) : Int)) = true := by rw [decide_eq_true_eq]; omega
      have e1' : i < (l.map dB).length := by simp; exact hlt
      simp only [e1, cond_true, nat?_nat, Option.bind_some, if_pos e1', rdS_map]
      rcases dropRel l i with ⟨a, ga, da, la⟩ | ⟨ga, da, da2, la⟩
      · simp only [ga, Option.map_some, Option.bind_some, ccountry_eq]
        rw [da, List.all_cons]
        rcases Bool.eq_false_or_eq_true (country a) with hna | hna
        · simp only [hna, Bool.not_true, cond_false, Bool.true_and]
          by_cases h0 : 0 < i
          · obtain ⟨p, a', gp, ga', dp, da'⟩ := prevRel l i h0 hlt
            obtain rfl : a = a' := by rw [ga] at ga'; exact Option.some.inj ga'
            have e2 : decide ((i : Int) > 0) = true := by rw [decide_eq_true_eq]; omega
            have e3 : i - 1 < (l.map dB).length := by simp; omega
            rw [pred_pos h0 (by omega)]
            simp only [e2, cond_true, nat?_nat, Option.bind_some, if_pos e3, gp, Option.map_some, slt_bs, seq_bs]
            rw [w64_succ (by omega), ih (i + 1) (by omega) (by omega), dp, da]
            simp only [ascG, Nat.add_sub_cancel, da]
            have e4 : (Op.bytesLess a p || a == p) = leS a p := rfl
            rw [e4]
            rcases Bool.eq_false_or_eq_true (leS a p) with hl | hl <;> simp [hl]
          · have e2 : decide ((i : Int) > 0) = false := by rw [decide_eq_false_iff_not]; omega
            have i0 : i = 0 := by omega
            subst i0
            simp only [e2, cond_false]
            rw [w64_succ (by omega), ih 1 (by omega) (by omega)]
        · simp only [hna, Bool.not_false, cond_true, Bool.false_and, Bool.false_eq_true, if_false]
      · omega
    · have e1 : decide ((i : Int) < ((l.length : Nat) : Int)) = false := by rw [decide_eq_false_iff_not]; omega
      rw [e1, List.drop_eq_nil_of_le (by omega), ascG_end leS l i (by omega)]
      rfl
theorem isSet2_eq {fu : Nat} (hf : 1000 < fu) {m : Nat} (hm : m ≤ 1000) {l : List Str} (hn : l.length ≤ 1000) : cond_isSet_string_31 fu (l.map dB) (m : Int) = some (l.all country && ascG leS l && decide (l.length ≤ m)) := by
  unfold cond_isSet_string_31
  have := isSet2_L2 (fu := fu) (m : Int) l hn fu 0 (by omega) (by omega)
  rw [List.length_map, show ((0 : Int)) = ((0 : Nat) : Int) from rfl, this]
  simp only [List.drop_zero, Nat.zero_sub]
  rcases Bool.eq_false_or_eq_true (l.all country && ascG leS l) with h | h
  · simp only [h, if_true, Option.bind_some, Bool.true_and]
    congr 1
    rw [List.length_map, Bool.eq_iff_iff]; simp
  · simp [h]

theorem isSet3_L2 {fu : Nat} (m : Int) (l : List Int) (hn : l.length ≤ 1000) : ∀ (n i : Nat), l.length < n + i → i ≤ l.length →
    cond_isSet_int_L2 fu n (l.map dI) m (l.map dI) ((l.length : Nat) : Int) (i : Int) = some (if ((l.drop i).all siteOK && ascG leI (l.drop (i - 1))) then .inr ((), (l.map dI, m, ())) else .inl ((), (l.map dI, m, false, ()))) := by
  intro n
  induction n with
  | zero => intro i h; omega
  | succ n ih =>
    intro i h hi
    rw [cond_isSet_int_L2]
    by_cases hlt : i < l.length
    · have e1 : decide ((i : Int) < ((l.length : Nat) : Int)) = true := by rw [decide_eq_true_eq]; omega
      have e1' : i < (l.map dI).length := by simp; exact hlt
      simp only [e1, cond_true, nat?_nat, Option.bind_some, if_pos e1', rdI_map]
      rcases dropRel l i with ⟨a, ga, da, la⟩ | ⟨ga, da, da2, la⟩
      · simp only [ga, Option.bind_some, isSite_eq]
        rw [da, List.all_cons]
        rcases Bool.eq_false_or_eq_true (siteOK a) with hna | hna
        · simp only [hna, Bool.not_true, cond_false, Bool.true_and]
          by_cases h0 : 0 < i
          · obtain ⟨p, a', gp, ga', dp, da'⟩ := prevRel l i h0 hlt
            obtain rfl : a = a' := by rw [ga] at ga'; exact Option.some.inj ga'
            have e2 : decide ((i : Int) > 0) = true := by rw [decide_eq_true_eq]; omega
            have e3 : i - 1 < (l.map dI).length := by simp; omega
            rw [pred_pos h0 (by omega)]
            simp only [e2, cond_true, nat?_nat, Option.bind_some, if_pos e3, gp]
            rw [w64_succ (by omega), ih (i + 1) (by omega) (by omega), dp, da]
            simp only [ascG, Nat.add_sub_cancel, da]
            have e4 : decide (a ≤ p) = leI a p := rfl
            rw [e4]
            rcases Bool.eq_false_or_eq_true (leI a p) with hl | hl <;> simp [hl]
          · have e2 : decide ((i : Int) > 0) = false := by rw [decide_eq_false_iff_not]; omega
            have i0 : i = 0 := by omega
            subst i0
            simp only [e2, cond_false]
            rw [w64_succ (by omega), ih 1 (by omega) (by omega)]
        · simp only [hna, Bool.not_false, cond_true, Bool.false_and, Bool.false_eq_true, if_false]
      · omega
    · have e1 : decide ((i : Int) < ((l.length : Nat) : Int)) = false := by rw [decide_eq_false_iff_not]; omega
      rw [e1, List.drop_eq_nil_of_le (by omega), ascG_end leI l i (by omega)]
      rfl
theorem isSet3_eq {fu : Nat} (hf : 1000 < fu) {m : Nat} (hm : m ≤ 1000) {l : List Int} (hn : l.length ≤ 1000) : cond_isSet_int fu (l.map dI) (m : Int) = some (l.all siteOK && ascG leI l && decide (l.length ≤ m)) := by
  unfold cond_isSet_int
  have := isSet3_L2 (fu := fu) (m : Int) l hn fu 0 (by omega) (by omega)
  rw [List.length_map, show ((0 : Int)) = ((0 : Nat) : Int) from rfl, this]
  simp only [List.drop_zero, Nat.zero_sub]
  rcases Bool.eq_false_or_eq_true (l.all siteOK && ascG leI l) with h | h
  · simp only [h, if_true, Option.bind_some, Bool.true_and]
    congr 1
    rw [List.length_map, Bool.eq_iff_iff]; simp
  · simp [h]

theorem Valid_cond {fu : Nat} (hf : 1000001 < fu) (c : Cnd) (hc : SmC c) : cond_Valid fu c.fr c.to (bs c.p) (c.cl.map dB) (c.co.map dB) (c.si.map dI) c.us = some (validC c) := by
  obtain ⟨c1, c2, c3, c4, c5, c6⟩ := hc
  unfold cond_Valid validC
  rw [show (32 : Int) = ((32 : Nat) : Int) from rfl, show (64 : Int) = ((64 : Nat) : Int) from rfl]
  rw [isSet_eq (by omega) (by omega) c2 (fun w hw => ⟨c5 w hw, by have := c5 w hw; omega⟩), isSet2_eq (by omega) (by omega) c3, isSet3_eq (by omega) (by omega) c4, Valid_eq (by omega) c1 (by omega), seq_bs]
  simp only [Option.bind_some]
  have f1 : decide (c.fr ≥ 0) = decide (0 ≤ c.fr) := rfl
  have f2 : decide (c.to ≥ 0) = decide (0 ≤ c.to) := rfl
  have f3 : decide (c.us ≥ 0) = decide (0 ≤ c.us) := rfl
  rw [f1, f2, f3]
  generalize (c.cl.all name && ascG leS c.cl && decide (c.cl.length ≤ 32)) = A
  generalize (c.co.all country && ascG leS c.co && decide (c.co.length ≤ 32)) = B
  generalize (c.si.all siteOK && ascG leI c.si && decide (c.si.length ≤ 64)) = G
  generalize (compile c.p).isSome = H
  generalize (c.p == []) = I
  cases decide (0 ≤ c.fr) <;> cases decide (c.fr ≤ 1099511627776) <;> cases decide (0 ≤ c.to) <;> cases decide (c.to ≤ 1099511627777) <;> cases decide (0 ≤ c.us) <;> cases decide (c.us ≤ 1073741824) <;> try rfl
  cases I <;> cases H <;> cases A <;> cases B <;> cases G <;> rfl
end Go.Proofs.YtcjgmffbebjddaaGreatDoor
