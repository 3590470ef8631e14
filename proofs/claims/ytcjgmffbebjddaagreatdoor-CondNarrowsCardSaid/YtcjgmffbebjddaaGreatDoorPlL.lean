/- Meeting of conditions: the code. -/
import Derived.Test.YtcjgmffbebjddaaGreatDoorPlK
set_option linter.all false
namespace Go.Proofs.YtcjgmffbebjddaaGreatDoor
open Go Go.Eng

def dT (b : Bool) : D := .v (.bool b)
theorem rdT_map (l : List Bool) (i : Nat) : rdB (l.map dT) i = l[i]? := rdB_map l i

theorem idxBool_L2 {fu : Nat} (l : List Bool) (s : Bool) (hn : l.length ≤ 1000) : ∀ (n i : Nat), l.length < n + i → i ≤ l.length →
    ∃ r, slices_Index_bool_bool_L2 fu n (l.map dT) s ((l.length : Nat) : Int) (i : Int) = some r ∧ (((l.drop i).contains s = true ∧ ∃ k : Nat, r = .inl ((), ((k : Int), ()))) ∨ ((l.drop i).contains s = false ∧ r = .inr ((), ()))) := by
  intro n
  induction n with
  | zero => intro i h; omega
  | succ n ih =>
    intro i h hi
    rw [slices_Index_bool_bool_L2, List.length_map]
    rcases dropRel l i with ⟨a, ga, da, la⟩ | ⟨ga, da, da2, la⟩
    · simp only [intLt la, cond_true, nat?_nat, Option.bind_some, if_pos la, rdT_map, ga]
      rw [w64_succ (by omega), da, List.contains_cons]
      rcases Bool.eq_false_or_eq_true (s == a) with hm | hm
      · simp only [hm, cond_true, Bool.true_or]
        exact ⟨_, rfl, .inl ⟨trivial, i, rfl⟩⟩
      · simp only [hm, cond_false, Bool.false_or]
        exact ih (i + 1) (by omega) (by omega)
    · rw [intNotLt la, da]
      exact ⟨_, rfl, .inr ⟨rfl, rfl⟩⟩
theorem containsBool_eq {fu : Nat} (hf : 1000 < fu) (l : List Bool) (s : Bool) (hn : l.length ≤ 1000) : slices_Contains_bool_bool fu (l.map dT) s = some (l.contains s) := by
  unfold slices_Contains_bool_bool slices_Index_bool_bool
  obtain ⟨r, h1, h2⟩ := idxBool_L2 (fu := fu) l s hn fu 0 (by omega) (by omega)
  rw [List.length_map, show (0 : Int) = ((0 : Nat) : Int) from rfl, h1]
  rw [List.drop_zero] at h2
  rcases h2 with ⟨h2, k, rfl⟩ | ⟨h2, rfl⟩
  · rw [h2]; simp
  · rw [h2]; rfl

theorem cmpOr_eq {fu : Nat} (hf : 1000 < fu) (p q : Str) : cmp_Or_string fu [D.v (.string (bs p)), D.v (.string (bs q))] = some (bs (if p = [] then q else p)) := by
  obtain ⟨k, rfl⟩ : ∃ k, fu = k + 3 := ⟨fu - 3, by omega⟩
  unfold cmp_Or_string
  rw [cmp_Or_string_L3]
  have e0 : [D.v (.string (bs p)), D.v (.string (bs q))] = [p, q].map dB := rfl
  have l2 : ([p, q].map dB).length = 2 := rfl
  rw [e0, l2]
  have d0 : decide ((0 : Int) < ((2 : Nat) : Int)) = true := rfl
  have d1 : decide ((w64 (0 + 1)) < ((2 : Nat) : Int)) = true := rfl
  have d2 : decide ((w64 (w64 (0 + 1) + 1)) < ((2 : Nat) : Int)) = false := rfl
  have n0 : nat? 0 = some 0 := rfl
  have n1 : nat? (w64 (0 + 1)) = some 1 := rfl
  have r0 : rdS ([p, q].map dB) 0 = some (bs p) := rfl
  have r1 : rdS ([p, q].map dB) 1 = some (bs q) := rfl
  simp only [d0, cond_true, n0, Option.bind_some, if_pos (by decide : 0 < 2), r0, seq_bs]
  by_cases hp : p = []
  · subst hp
    have : (([] : Str) == []) = true := rfl
    simp only [this, Bool.not_true, cond_false, if_true]
    rw [cmp_Or_string_L3]
    simp only [l2, d1, cond_true, n1, Option.bind_some, if_pos (by decide : 1 < 2), r1, seq_bs]
    by_cases hq : q = []
    · subst hq
      simp only [this, Bool.not_true, cond_false]
      rw [cmp_Or_string_L3]
      simp only [d2, cond_false, Option.bind_some]
    · have e : (q == []) = false := by simpa using hq
      simp only [e, Bool.not_false, cond_true, Option.bind_some]
  · have e : (p == []) = false := by simpa using hp
    simp only [e, Bool.not_false, cond_true, Option.bind_some, if_neg hp]

/-- A leaf of Meet. -/
theorem meet_leaf {fu : Nat} (hf : 1000 < fu) (g : Bool) (l : List D) (b0 b1 b2 b3 : Bool) (hl : l = [b0, b1, b2, b3].map dT) (Z R : Option (CT × Int × Unit)) :
    (bif g then Z else (slices_Contains_bool_bool fu l false).bind fun v => bif v then Z else R) = if (g || !b3 || !b0 || !b1 || !b2) then Z else R := by
  rw [hl, containsBool_eq hf _ _ (by simp)]
  cases g <;> cases b0 <;> cases b1 <;> cases b2 <;> cases b3 <;> rfl

theorem BothS_patM {p q : Str} (hp : p ≠ []) (hq : q ≠ []) : (BothS p q).1 = bs (patM p q).1 ∧ (BothS p q).2.1 = (patM p q).2 := by
  unfold BothS patM
  rw [if_neg hp, if_neg hq]
  cases bothR p q with
  | none => exact ⟨rfl, rfl⟩
  | some o => cases o <;> exact ⟨rfl, rfl⟩

set_option maxHeartbeats 4000000 in
theorem Meet_cond {fu : Nat} (hf : 1000001 < fu) (a b : Cnd) (ha : SmC a) (hb : SmC b) :
    cond_Meet fu a.fr a.to (bs a.p) (a.cl.map dB) (a.co.map dB) (a.si.map dI) a.us b.fr b.to (bs b.p) (b.cl.map dB) (b.co.map dB) (b.si.map dI) b.us =
      some (encC (meetS a b).1, (meetS a b).2, ()) := by
  have va := Valid_cond hf a ha
  have vb := Valid_cond hf b hb
  obtain ⟨a1, a2, a3, a4, a5, a6⟩ := ha
  obtain ⟨b1, b2, b3, b4, b5, b6⟩ := hb
  unfold cond_Meet meetS
  rw [va, vb, cmpOr_eq (by omega), cboth_eq a2 b2, cboth_eq a3 b3, cbothI_eq a4 b4, Both_eq (by omega) (by omega) (by omega) a1 b1, seq_bs, seq_bs]
  simp only [Option.bind_some]
  rcases Bool.eq_false_or_eq_true (validC a) with h1 | h1
  · rcases Bool.eq_false_or_eq_true (validC b) with h2 | h2
    · have ua : 0 ≤ a.us := by
        unfold validC at h1
        simp only [Bool.and_eq_true, decide_eq_true_eq] at h1
        exact h1.1.1.1.1.1.2
      have ub : 0 ≤ b.us := by
        unfold validC at h2
        simp only [Bool.and_eq_true, decide_eq_true_eq] at h2
        exact h2.1.1.1.1.1.2
      simp only [h1, h2, Bool.not_true, cond_false, Bool.and_self, if_true]
      have hU1 : a.us > 0 → b.us > 0 → (if b.us < a.us then b.us else a.us) = usesM a.us b.us := fun h3 h4 => by
        have : usesM a.us b.us = if b.us < a.us then b.us else a.us := by unfold usesM; rw [if_neg (by omega : ¬ a.us = 0), if_neg (by omega : ¬ b.us = 0)]
        rw [this]
      have hU2 : a.us > 0 → ¬ b.us > 0 → (if b.us > a.us then b.us else a.us) = usesM a.us b.us := fun h3 h4 => by
        have : usesM a.us b.us = a.us := by unfold usesM; rw [if_neg (by omega : ¬ a.us = 0), if_pos (by omega : b.us = 0)]
        rw [this, if_neg (by omega)]
      have hU3 : ¬ a.us > 0 → (if b.us > a.us then b.us else a.us) = usesM a.us b.us := fun h3 => by
        have : usesM a.us b.us = b.us := by unfold usesM; rw [if_pos (by omega : a.us = 0)]
        rw [this]; split <;> omega
      -- the leaf, at a pattern and a number of uses
      have leaf : ∀ (P : ByteArray) (U : Int) (l : List D), P = bs (patM a.p b.p).1 → U = usesM a.us b.us → l = [(bothG a.cl b.cl).2, (bothG a.co b.co).2, (bothG a.si b.si).2, (patM a.p b.p).2].map dT →
          (bif decide ((if b.fr > a.fr then b.fr else a.fr) ≥ (if b.to < a.to then b.to else a.to)) then some (((0 : Int), (0 : Int), (bs []), ([] : List D), ([] : List D), ([] : List D), (0 : Int), ()), (0 : Int), ())
           else (slices_Contains_bool_bool fu l false).bind fun v => bif v then some (((0 : Int), (0 : Int), (bs []), ([] : List D), ([] : List D), ([] : List D), (0 : Int), ()), (0 : Int), ())
            else some (((if b.fr > a.fr then b.fr else a.fr), (if b.to < a.to then b.to else a.to), P, (bothG a.cl b.cl).1.map dB, (bothG a.co b.co).1.map dB, (bothG a.si b.si).1.map dI, U, ()), (0 : Int), ())) =
          some (encC (meetC a b), (0 : Int), ()) := by
        rintro P U l rfl rfl hl
        refine (meet_leaf (by omega) _ l _ _ _ _ hl _ _).trans ?_
        unfold meetC
        rcases Bool.eq_false_or_eq_true (decide ((if b.fr > a.fr then b.fr else a.fr) ≥ (if b.to < a.to then b.to else a.to)) || !(patM a.p b.p).2 || !(bothG a.cl b.cl).2 || !(bothG a.co b.co).2 || !(bothG a.si b.si).2) with h3 | h3
        · simp only [h3, if_true]; rfl
        · simp only [h3, Bool.false_eq_true, if_false]; rfl
      have pat : ∀ (U : Int), U = usesM a.us b.us → _ := fun U hU => leaf (bs (patM a.p b.p).1) U ([(bothG a.cl b.cl).2, (bothG a.co b.co).2, (bothG a.si b.si).2, (patM a.p b.p).2].map dT) rfl hU rfl
      by_cases hp : a.p = []
      · have pm : patM a.p b.p = (b.p, true) := by unfold patM; rw [if_pos hp]
        have e1 : (a.p == []) = true := by simpa using hp
        rw [pm] at pat
        simp only [e1, Bool.not_true, cond_false, if_pos hp]
        by_cases u1 : a.us > 0
        · have d1 : decide (a.us > 0) = true := decide_eq_true u1
          by_cases u2 : b.us > 0
          · have d2 : decide (b.us > 0) = true := decide_eq_true u2
            simp only [d1, d2, cond_true]
            exact pat _ (hU1 u1 u2)
          · have d2 : decide (b.us > 0) = false := decide_eq_false u2
            simp only [d1, d2, cond_true, cond_false]
            exact pat _ (hU2 u1 u2)
        · have d1 : decide (a.us > 0) = false := decide_eq_false u1
          simp only [d1, cond_false]
          exact pat _ (hU3 u1)
      · have e1 : (a.p == []) = false := by simpa using hp
        by_cases hq : b.p = []
        · have pm : patM a.p b.p = (a.p, true) := by unfold patM; rw [if_neg hp, if_pos hq]
          have e2 : (b.p == []) = true := by simpa using hq
          rw [pm] at pat
          simp only [e1, e2, Bool.not_true, Bool.not_false, cond_false, cond_true, if_neg hp]
          by_cases u1 : a.us > 0
          · have d1 : decide (a.us > 0) = true := decide_eq_true u1
            by_cases u2 : b.us > 0
            · have d2 : decide (b.us > 0) = true := decide_eq_true u2
              simp only [d1, d2, cond_true]
              exact pat _ (hU1 u1 u2)
            · have d2 : decide (b.us > 0) = false := decide_eq_false u2
              simp only [d1, d2, cond_true, cond_false]
              exact pat _ (hU2 u1 u2)
          · have d1 : decide (a.us > 0) = false := decide_eq_false u1
            simp only [d1, cond_false]
            exact pat _ (hU3 u1)
        · have e2 : (b.p == []) = false := by simpa using hq
          obtain ⟨m1, m2⟩ := BothS_patM hp hq
          rw [← m1, ← m2] at pat
          simp only [e1, e2, Bool.not_false, cond_true, if_neg hp]
          by_cases u1 : a.us > 0
          · have d1 : decide (a.us > 0) = true := decide_eq_true u1
            by_cases u2 : b.us > 0
            · have d2 : decide (b.us > 0) = true := decide_eq_true u2
              simp only [d1, d2, cond_true]
              exact pat _ (hU1 u1 u2)
            · have d2 : decide (b.us > 0) = false := decide_eq_false u2
              simp only [d1, d2, cond_true, cond_false]
              exact pat _ (hU2 u1 u2)
          · have d1 : decide (a.us > 0) = false := decide_eq_false u1
            simp only [d1, cond_false]
            exact pat _ (hU3 u1)
    · simp only [h1, h2, Bool.not_true, Bool.not_false, cond_false, cond_true, Bool.and_false, Bool.false_eq_true, if_false]; rfl
  · simp only [h1, Bool.not_false, cond_true, Bool.false_and, Bool.false_eq_true, if_false]; rfl
end Go.Proofs.YtcjgmffbebjddaaGreatDoor
