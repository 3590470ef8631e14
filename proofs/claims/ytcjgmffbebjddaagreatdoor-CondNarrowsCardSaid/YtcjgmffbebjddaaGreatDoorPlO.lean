/- Few, Same, and the law CondMeetsAsSpecified. -/
import Derived.Test.YtcjgmffbebjddaaGreatDoorPlN
set_option linter.all false
namespace Go.Proofs.YtcjgmffbebjddaaGreatDoor
open Go Go.Eng

def fewC (c : Cnd) : Bool := decide (c.cl.length ≤ 40) && decide (c.co.length ≤ 40) && decide (c.si.length ≤ 70) && decide (c.p.length ≤ 1000) && c.cl.all (fun w => decide (w.length ≤ 100)) && c.co.all (fun w => decide (w.length ≤ 100))
theorem few_sm {c : Cnd} (h : fewC c = true) : SmC c := by
  unfold fewC at h
  simp only [Bool.and_eq_true, decide_eq_true_eq, List.all_eq_true] at h
  obtain ⟨⟨⟨⟨⟨h1, h2⟩, h3⟩, h4⟩, h5⟩, h6⟩ := h
  exact ⟨by omega, by omega, by omega, by omega, fun w hw => by have := h5 w hw; omega, fun w hw => by have := h6 w hw; omega⟩

theorem few_L4 {fu : Nat} (x0 x1 : Int) (x2 : ByteArray) (x4 x5 : List D) (x6 : Int) (l : List Str) (hn : l.length ≤ 40) : ∀ (n i : Nat), l.length < n + i → i ≤ l.length →
    ref21_Few_L4 fu n x0 x1 x2 (l.map dB) x4 x5 x6 (i : Int) = some (if (l.drop i).all (fun w => decide (w.length ≤ 100)) then .inr (((x0, x1, x2, l.map dB, x4, x5, x6, ()), ()), ((), ())) else .inl (((x0, x1, x2, l.map dB, x4, x5, x6, ()), ()), ((), false, ()))) := by
  intro n
  induction n with
  | zero => intro i h; omega
  | succ n ih =>
    intro i h hi
    rw [ref21_Few_L4, List.length_map]
    rcases dropRel l i with ⟨a, ga, da, la⟩ | ⟨ga, da, da2, la⟩
    · have e : decide ((((bs a).size : Nat) : Int) > 100) = !decide (a.length ≤ 100) := by rw [Bool.eq_iff_iff]; simp; omega
      simp only [intLt la, cond_true, nat?_nat, Option.bind_some, if_pos la, rdS_map, ga, Option.map_some, e]
      rw [w64_succ (by omega), ih (i + 1) (by omega) (by omega), da, List.all_cons]
      rcases Bool.eq_false_or_eq_true (decide (a.length ≤ 100)) with hm | hm
      · simp only [hm, Bool.not_true, cond_false, Bool.true_and]
      · simp only [hm, Bool.not_false, cond_true, Bool.false_and, Bool.false_eq_true, if_false]
    · rw [intNotLt la, da]; rfl
theorem few_L9 {fu : Nat} (x0 x1 : Int) (x2 : ByteArray) (x3 x5 : List D) (x6 : Int) (l : List Str) (hn : l.length ≤ 40) : ∀ (n i : Nat), l.length < n + i → i ≤ l.length →
    ref21_Few_L9 fu n x0 x1 x2 x3 (l.map dB) x5 x6 (i : Int) = some (if (l.drop i).all (fun w => decide (w.length ≤ 100)) then .inr ((), ()) else .inl ((), (false, ()))) := by
  intro n
  induction n with
  | zero => intro i h; omega
  | succ n ih =>
    intro i h hi
    rw [ref21_Few_L9, List.length_map]
    rcases dropRel l i with ⟨a, ga, da, la⟩ | ⟨ga, da, da2, la⟩
    · have e : decide ((((bs a).size : Nat) : Int) > 100) = !decide (a.length ≤ 100) := by rw [Bool.eq_iff_iff]; simp; omega
      simp only [intLt la, cond_true, nat?_nat, Option.bind_some, if_pos la, rdS_map, ga, Option.map_some, e]
      rw [w64_succ (by omega), ih (i + 1) (by omega) (by omega), da, List.all_cons]
      rcases Bool.eq_false_or_eq_true (decide (a.length ≤ 100)) with hm | hm
      · simp only [hm, Bool.not_true, cond_false, Bool.true_and]
      · simp only [hm, Bool.not_false, cond_true, Bool.false_and, Bool.false_eq_true, if_false]
    · rw [intNotLt la, da]; rfl
theorem Few_eq {fu : Nat} (hf : 100 < fu) (c : Cnd) : ref21_Few fu c.fr c.to (bs c.p) (c.cl.map dB) (c.co.map dB) (c.si.map dI) c.us = some (fewC c) := by
  unfold ref21_Few fewC
  have e1 : decide ((((c.cl.map dB).length : Nat) : Int) > 40) = !decide (c.cl.length ≤ 40) := by rw [List.length_map, Bool.eq_iff_iff]; simp; omega
  have e2 : decide ((((c.co.map dB).length : Nat) : Int) > 40) = !decide (c.co.length ≤ 40) := by rw [List.length_map, Bool.eq_iff_iff]; simp; omega
  have e3 : decide ((((c.si.map dI).length : Nat) : Int) > 70) = !decide (c.si.length ≤ 70) := by rw [List.length_map, Bool.eq_iff_iff]; simp; omega
  have e4 : decide ((((bs c.p).size : Nat) : Int) > 1000) = !decide (c.p.length ≤ 1000) := by rw [bs_size, Bool.eq_iff_iff]; simp; omega
  rw [e1, e2, e3, e4]
  by_cases h1 : c.cl.length ≤ 40
  · by_cases h2 : c.co.length ≤ 40
    · rw [decide_eq_true h1, decide_eq_true h2]
      have L4 := few_L4 (fu := fu) c.fr c.to (bs c.p) (c.co.map dB) (c.si.map dI) c.us c.cl h1 fu 0 (by omega) (by omega)
      have L9 := few_L9 (fu := fu) c.fr c.to (bs c.p) (c.cl.map dB) (c.si.map dI) c.us c.co h2 fu 0 (by omega) (by omega)
      rw [List.drop_zero] at L4 L9
      rw [show (0 : Int) = ((0 : Nat) : Int) from rfl, L4]
      rcases Bool.eq_false_or_eq_true (c.cl.all (fun w => decide (w.length ≤ 100))) with h3 | h3
      · simp only [h3, if_true, Option.bind_some]
        rw [L9]
        rcases Bool.eq_false_or_eq_true (c.co.all (fun w => decide (w.length ≤ 100))) with h4 | h4
        · simp only [h4, if_true, Option.bind_some]
          cases decide (c.si.length ≤ 70) <;> cases decide (c.p.length ≤ 1000) <;> rfl
        · simp only [h4, Bool.false_eq_true, if_false, Option.bind_some]
          cases decide (c.si.length ≤ 70) <;> cases decide (c.p.length ≤ 1000) <;> rfl
      · simp only [h3, Bool.false_eq_true, if_false, Option.bind_some]
        cases decide (c.si.length ≤ 70) <;> cases decide (c.p.length ≤ 1000) <;> rfl
    · rw [decide_eq_true h1, decide_eq_false h2]; rfl
  · rw [decide_eq_false h1]; rfl

/-! ### Same -/
theorem eqDrop {α : Type} [BEq α] [LawfulBEq α] {l m : List α} {i : Nat} {a b : α} (ha : l.drop i = a :: l.drop (i + 1)) (hb : m.drop i = b :: m.drop (i + 1)) : (l.drop i == m.drop i) = (a == b && l.drop (i + 1) == m.drop (i + 1)) := by
  rw [ha, hb]; rfl

theorem same_L4 {fu : Nat} (x0 x1 : Int) (x2 : ByteArray) (x4 x5 : List D) (x6 x7 x8 : Int) (x9 : ByteArray) (x11 x12 : List D) (x13 : Int) (l m : List Str) (hl : l.length = m.length) (hn : l.length ≤ 1000) : ∀ (n i : Nat), l.length < n + i → i ≤ l.length →
    ref21_Same_L4 fu n x0 x1 x2 (l.map dB) x4 x5 x6 x7 x8 x9 (m.map dB) x11 x12 x13 (i : Int) = some (if l.drop i == m.drop i then .inr (((x0, x1, x2, l.map dB, x4, x5, x6, ()), (x7, x8, x9, m.map dB, x11, x12, x13, ()), ()), ((), (), ())) else .inl (((x0, x1, x2, l.map dB, x4, x5, x6, ()), (x7, x8, x9, m.map dB, x11, x12, x13, ()), ()), ((), (), false, ()))) := by
  intro n
  induction n with
  | zero => intro i h; omega
  | succ n ih =>
    intro i h hi
    rw [ref21_Same_L4, List.length_map, List.length_map]
    rcases dropRel l i with ⟨a, ga, da, la⟩ | ⟨ga, da, da2, la⟩
    · rcases dropRel m i with ⟨b, gb, db, lb⟩ | ⟨gb, db, db2, lb⟩
      · simp only [intLt la, cond_true, nat?_nat, Option.bind_some, if_pos la, if_pos lb, rdS_map, ga, gb, Option.map_some, seq_bs]
        rw [w64_succ (by omega), ih (i + 1) (by omega) (by omega), eqDrop da db]
        rcases Bool.eq_false_or_eq_true (a == b) with hm | hm
        · simp only [hm, Bool.not_true, cond_false, Bool.true_and]
        · simp only [hm, Bool.not_false, cond_true, Bool.false_and, Bool.false_eq_true, if_false]
      · omega
    · have : m.drop i = [] := List.drop_eq_nil_of_le (by omega)
      rw [intNotLt la, da, this]; rfl
theorem same_L9 {fu : Nat} (x0 x1 : Int) (x2 : ByteArray) (x3 x5 : List D) (x6 x7 x8 : Int) (x9 : ByteArray) (x10 x12 : List D) (x13 : Int) (l m : List Str) (hl : l.length = m.length) (hn : l.length ≤ 1000) : ∀ (n i : Nat), l.length < n + i → i ≤ l.length →
    ref21_Same_L9 fu n x0 x1 x2 x3 (l.map dB) x5 x6 x7 x8 x9 x10 (m.map dB) x12 x13 (i : Int) = some (if l.drop i == m.drop i then .inr (((x0, x1, x2, x3, l.map dB, x5, x6, ()), (x7, x8, x9, x10, m.map dB, x12, x13, ()), ()), ((), (), ())) else .inl (((x0, x1, x2, x3, l.map dB, x5, x6, ()), (x7, x8, x9, x10, m.map dB, x12, x13, ()), ()), ((), (), false, ()))) := by
  intro n
  induction n with
  | zero => intro i h; omega
  | succ n ih =>
    intro i h hi
    rw [ref21_Same_L9, List.length_map, List.length_map]
    rcases dropRel l i with ⟨a, ga, da, la⟩ | ⟨ga, da, da2, la⟩
    · rcases dropRel m i with ⟨b, gb, db, lb⟩ | ⟨gb, db, db2, lb⟩
      · simp only [intLt la, cond_true, nat?_nat, Option.bind_some, if_pos la, if_pos lb, rdS_map, ga, gb, Option.map_some, seq_bs]
        rw [w64_succ (by omega), ih (i + 1) (by omega) (by omega), eqDrop da db]
        rcases Bool.eq_false_or_eq_true (a == b) with hm | hm
        · simp only [hm, Bool.not_true, cond_false, Bool.true_and]
        · simp only [hm, Bool.not_false, cond_true, Bool.false_and, Bool.false_eq_true, if_false]
      · omega
    · have : m.drop i = [] := List.drop_eq_nil_of_le (by omega)
      rw [intNotLt la, da, this]; rfl
theorem same_L14 {fu : Nat} (x0 x1 : Int) (x2 : ByteArray) (x3 x4 : List D) (x6 x7 x8 : Int) (x9 : ByteArray) (x10 x11 : List D) (x13 : Int) (l m : List Int) (hl : l.length = m.length) (hn : l.length ≤ 1000) : ∀ (n i : Nat), l.length < n + i → i ≤ l.length →
    ref21_Same_L14 fu n x0 x1 x2 x3 x4 (l.map dI) x6 x7 x8 x9 x10 x11 (m.map dI) x13 (i : Int) = some (if l.drop i == m.drop i then .inr ((), ()) else .inl ((), (false, ()))) := by
  intro n
  induction n with
  | zero => intro i h; omega
  | succ n ih =>
    intro i h hi
    rw [ref21_Same_L14, List.length_map, List.length_map]
    rcases dropRel l i with ⟨a, ga, da, la⟩ | ⟨ga, da, da2, la⟩
    · rcases dropRel m i with ⟨b, gb, db, lb⟩ | ⟨gb, db, db2, lb⟩
      · simp only [intLt la, cond_true, nat?_nat, Option.bind_some, if_pos la, if_pos lb, rdI_map, ga, gb]
        rw [w64_succ (by omega), ih (i + 1) (by omega) (by omega), eqDrop da db]
        unfold bne
        rcases Bool.eq_false_or_eq_true (a == b) with hm | hm
        · simp only [hm, Bool.not_true, cond_false, Bool.true_and]
        · simp only [hm, Bool.not_false, cond_true, Bool.false_and, Bool.false_eq_true, if_false]
      · omega
    · have : m.drop i = [] := List.drop_eq_nil_of_le (by omega)
      rw [intNotLt la, da, this]; rfl

def sameC (a b : Cnd) : Bool := a.fr == b.fr && a.to == b.to && a.p == b.p && a.us == b.us && a.cl == b.cl && a.co == b.co && a.si == b.si
theorem Same_eq {fu : Nat} (hf : 1000 < fu) (a b : Cnd) (ha : a.cl.length ≤ 1000) (ha2 : a.co.length ≤ 1000) (ha3 : a.si.length ≤ 1000) :
    ref21_Same fu a.fr a.to (bs a.p) (a.cl.map dB) (a.co.map dB) (a.si.map dI) a.us b.fr b.to (bs b.p) (b.cl.map dB) (b.co.map dB) (b.si.map dI) b.us = some (sameC a b) := by
  unfold ref21_Same sameC bne
  have e1 : ((((a.cl.map dB).length : Nat) : Int) == (((b.cl.map dB).length : Nat) : Int)) = decide (a.cl.length = b.cl.length) := by rw [List.length_map, List.length_map, Bool.eq_iff_iff]; simp; omega
  have e2 : ((((a.co.map dB).length : Nat) : Int) == (((b.co.map dB).length : Nat) : Int)) = decide (a.co.length = b.co.length) := by rw [List.length_map, List.length_map, Bool.eq_iff_iff]; simp; omega
  have e3 : ((((a.si.map dI).length : Nat) : Int) == (((b.si.map dI).length : Nat) : Int)) = decide (a.si.length = b.si.length) := by rw [List.length_map, List.length_map, Bool.eq_iff_iff]; simp; omega
  rw [e1, e2, e3, seq_bs]
  have ne : ∀ {α : Type} [BEq α] [LawfulBEq α] (l m : List α), ¬ l.length = m.length → (l == m) = false := fun l m h => by
    rw [Bool.eq_false_iff]; intro h2; rw [beq_iff_eq] at h2; exact h (by rw [h2])
  by_cases h1 : a.cl.length = b.cl.length
  · by_cases h2 : a.co.length = b.co.length
    · by_cases h3 : a.si.length = b.si.length
      · rw [decide_eq_true h1, decide_eq_true h2, decide_eq_true h3]
        have L4 := same_L4 (fu := fu) a.fr a.to (bs a.p) (a.co.map dB) (a.si.map dI) a.us b.fr b.to (bs b.p) (b.co.map dB) (b.si.map dI) b.us a.cl b.cl h1 ha fu 0 (by omega) (by omega)
        have L9 := same_L9 (fu := fu) a.fr a.to (bs a.p) (a.cl.map dB) (a.si.map dI) a.us b.fr b.to (bs b.p) (b.cl.map dB) (b.si.map dI) b.us a.co b.co h2 ha2 fu 0 (by omega) (by omega)
        have L14 := same_L14 (fu := fu) a.fr a.to (bs a.p) (a.cl.map dB) (a.co.map dB) a.us b.fr b.to (bs b.p) (b.cl.map dB) (b.co.map dB) b.us a.si b.si h3 ha3 fu 0 (by omega) (by omega)
        rw [List.drop_zero, List.drop_zero] at L4 L9 L14
        rw [show (((0 : Nat) : Int)) = (0 : Int) from rfl] at L4 L9 L14
        rw [L4]
        rcases Bool.eq_false_or_eq_true (a.cl == b.cl) with k1 | k1
        · simp only [k1, if_true, Option.bind_some]
          rw [L9]
          rcases Bool.eq_false_or_eq_true (a.co == b.co) with k2 | k2
          · simp only [k2, if_true, Option.bind_some]
            rw [L14]
            rcases Bool.eq_false_or_eq_true (a.si == b.si) with k3 | k3
            · simp only [k3, if_true, Option.bind_some]
              cases (a.fr == b.fr) <;> cases (a.to == b.to) <;> cases (a.p == b.p) <;> cases (a.us == b.us) <;> rfl
            · simp only [k3, Bool.false_eq_true, if_false, Option.bind_some]
              cases (a.fr == b.fr) <;> cases (a.to == b.to) <;> cases (a.p == b.p) <;> cases (a.us == b.us) <;> rfl
          · simp only [k2, Bool.false_eq_true, if_false, Option.bind_some]
            cases (a.fr == b.fr) <;> cases (a.to == b.to) <;> cases (a.p == b.p) <;> cases (a.us == b.us) <;> rfl
        · simp only [k1, Bool.false_eq_true, if_false, Option.bind_some]
          cases (a.fr == b.fr) <;> cases (a.to == b.to) <;> cases (a.p == b.p) <;> cases (a.us == b.us) <;> rfl
      · rw [decide_eq_false h3, ne a.si b.si h3]
        cases (a.fr == b.fr) <;> cases (a.to == b.to) <;> cases (a.p == b.p) <;> cases (a.us == b.us) <;> cases decide (a.cl.length = b.cl.length) <;> cases decide (a.co.length = b.co.length) <;> cases (a.cl == b.cl) <;> cases (a.co == b.co) <;> rfl
    · rw [decide_eq_false h2, ne a.co b.co h2]
      cases (a.fr == b.fr) <;> cases (a.to == b.to) <;> cases (a.p == b.p) <;> cases (a.us == b.us) <;> cases decide (a.cl.length = b.cl.length) <;> cases (a.cl == b.cl) <;> rfl
  · rw [decide_eq_false h1, ne a.cl b.cl h1]
    cases (a.fr == b.fr) <;> cases (a.to == b.to) <;> cases (a.p == b.p) <;> cases (a.us == b.us) <;> rfl
theorem sameC_refl (a : Cnd) : sameC a a = true := by simp [sameC]

theorem ite_or {α : Type} {P : Prop} [Decidable P] (a b : α) : (if P then a else b) = a ∨ (if P then a else b) = b := by
  by_cases h : P
  · exact .inl (if_pos h)
  · exact .inr (if_neg h)
theorem meetC_cases (a b : Cnd) : meetC a b = zeroC ∨ meetC a b = ⟨(if b.fr > a.fr then b.fr else a.fr), (if b.to < a.to then b.to else a.to), (patM a.p b.p).1, (bothG a.cl b.cl).1, (bothG a.co b.co).1, (bothG a.si b.si).1, usesM a.us b.us⟩ := ite_or _ _
theorem meetS_len (a b : Cnd) (ha : SmC a) (hb : SmC b) : (meetS a b).1.cl.length ≤ 1000 ∧ (meetS a b).1.co.length ≤ 1000 ∧ (meetS a b).1.si.length ≤ 1000 := by
  have z : zeroC.cl.length ≤ 1000 ∧ zeroC.co.length ≤ 1000 ∧ zeroC.si.length ≤ 1000 := by simp [zeroC]
  unfold meetS
  split
  · rcases meetC_cases a b with h | h
    · rw [h]; exact z
    · rw [h]; exact ⟨bothG_len _ _ ha.2.1 hb.2.1, bothG_len _ _ ha.2.2.1 hb.2.2.1, bothG_len _ _ ha.2.2.2.1 hb.2.2.2.1⟩
  · exact z

/-- The law, at whatever conditions. -/
theorem meets_law {fu : Nat} (hf : 1000001 < fu) (hsan : law21_sanity 1000 = some true) (a b : Cnd) :
    law21_CondMeetsAsSpecified fu a.fr a.to (bs a.p) (a.cl.map dB) (a.co.map dB) (a.si.map dI) a.us b.fr b.to (bs b.p) (b.cl.map dB) (b.co.map dB) (b.si.map dI) b.us = some true := by
  unfold law21_CondMeetsAsSpecified
  rw [Few_eq (by omega), Few_eq (by omega), hsan]
  simp only [Option.bind_some]
  rcases Bool.eq_false_or_eq_true (fewC a) with h1 | h1
  · rcases Bool.eq_false_or_eq_true (fewC b) with h2 | h2
    · have ha := few_sm h1
      have hb := few_sm h2
      obtain ⟨l1, l2, l3⟩ := meetS_len a b ha hb
      rw [h1, h2, Meet_cond hf a b ha hb, Implies_cond hf a b ha hb, Within_cond hf a b ha hb, ref_Meet_cond hf a b ha hb, Implies_ref hf a b ha hb, Within_ref hf a b ha hb]
      simp only [Bool.not_true, cond_false, Option.bind_some, cond_true, encC]
      rw [Same_eq (by omega) (meetS a b).1 (meetS a b).1 l1 l2 l3, sameC_refl]
      simp
    · rw [h1, h2]; rfl
  · rw [h1]; rfl
end Go.Proofs.YtcjgmffbebjddaaGreatDoor
