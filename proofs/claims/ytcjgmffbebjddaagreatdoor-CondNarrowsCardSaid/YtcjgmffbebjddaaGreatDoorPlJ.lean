/- The reference's lists and conditions. -/
import Derived.Test.YtcjgmffbebjddaaGreatDoorPlI
set_option linter.all false
namespace Go.Proofs.YtcjgmffbebjddaaGreatDoor
open Go Go.Eng

theorem intLt {a b : Nat} (h : a < b) : decide ((a : Int) < (b : Int)) = true := by rw [decide_eq_true_eq]; omega
theorem intNotLt {a b : Nat} (h : ¬ a < b) : decide ((a : Int) < (b : Int)) = false := by rw [decide_eq_false_iff_not]; omega

/-! ### Valid -/
theorem rValid_L6 {fu : Nat} (x0 x1 : Int) (x2 : ByteArray) (x4 x5 : List D) (x6 : Int) (l : List Str) (hn : l.length ≤ 1000) (hw : ∀ w ∈ l, w.length ≤ 1000000 ∧ w.length < fu) : ∀ (n i : Nat), l.length < n + i → i ≤ l.length →
    ref21_Valid_L6 fu n x0 x1 x2 (l.map dB) x4 x5 x6 (i : Int) = some (if (l.drop i).all name then .inr (((x0, x1, x2, l.map dB, x4, x5, x6, ()), ()), ((), ())) else .inl (((x0, x1, x2, l.map dB, x4, x5, x6, ()), ()), ((), false, ()))) := by
  intro n
  induction n with
  | zero => intro i h; omega
  | succ n ih =>
    intro i h hi
    rw [ref21_Valid_L6, List.length_map]
    rcases dropRel l i with ⟨a, ga, da, la⟩ | ⟨ga, da, da2, la⟩
    · have hal := hw a (List.mem_of_getElem? ga)
      simp only [intLt la, cond_true, nat?_nat, Option.bind_some, if_pos la, rdS_map, ga, Option.map_some, ref_Name_eq hal.2 hal.1]
      rw [w64_succ (by omega), ih (i + 1) (by omega) (by omega), da, List.all_cons]
      rcases Bool.eq_false_or_eq_true (name a) with hm | hm <;> simp [hm]
    · rw [intNotLt la, da]; rfl
theorem rValid_L11 {fu : Nat} (x0 x1 : Int) (x2 : ByteArray) (x3 x5 : List D) (x6 : Int) (l : List Str) (hn : l.length ≤ 1000) : ∀ (n i : Nat), l.length < n + i → i ≤ l.length →
    ref21_Valid_L11 fu n x0 x1 x2 x3 (l.map dB) x5 x6 (i : Int) = some (if (l.drop i).all country then .inr (((x0, x1, x2, x3, l.map dB, x5, x6, ()), ()), ((), ())) else .inl (((x0, x1, x2, x3, l.map dB, x5, x6, ()), ()), ((), false, ()))) := by
  intro n
  induction n with
  | zero => intro i h; omega
  | succ n ih =>
    intro i h hi
    rw [ref21_Valid_L11, List.length_map]
    rcases dropRel l i with ⟨a, ga, da, la⟩ | ⟨ga, da, da2, la⟩
    · simp only [intLt la, cond_true, nat?_nat, Option.bind_some, if_pos la, rdS_map, ga, Option.map_some, rcountry_eq]
      rw [w64_succ (by omega), ih (i + 1) (by omega) (by omega), da, List.all_cons]
      rcases Bool.eq_false_or_eq_true (country a) with hm | hm <;> simp [hm]
    · rw [intNotLt la, da]; rfl
theorem rValid_L16 {fu : Nat} (x0 x1 : Int) (x2 : ByteArray) (x3 x4 : List D) (x6 : Int) (l : List Int) (hn : l.length ≤ 1000) : ∀ (n i : Nat), l.length < n + i → i ≤ l.length →
    ref21_Valid_L16 fu n x0 x1 x2 x3 x4 (l.map dI) x6 (i : Int) = some (if ((l.drop i).all siteOK && ascG leI (l.drop (i - 1))) then .inr (((x0, x1, x2, x3, x4, l.map dI, x6, ()), ()), ((), ())) else .inl (((x0, x1, x2, x3, x4, l.map dI, x6, ()), ()), ((), false, ()))) := by
  intro n
  induction n with
  | zero => intro i h; omega
  | succ n ih =>
    intro i h hi
    rw [ref21_Valid_L16, List.length_map]
    rcases dropRel l i with ⟨a, ga, da, la⟩ | ⟨ga, da, da2, la⟩
    · simp only [intLt la, cond_true, nat?_nat, Option.bind_some, if_pos la, rdI_map, ga]
      rw [w64_succ (by omega), ih (i + 1) (by omega) (by omega), da, List.all_cons]
      have e1 : decide (a < 0) = !decide (0 ≤ a) := by rw [Bool.eq_iff_iff]; simp
      have e2 : decide (a ≥ 64) = !decide (a < 64) := by rw [Bool.eq_iff_iff]; simp
      rw [e1, e2]
      by_cases h0 : 0 < i
      · obtain ⟨p, a', gp, ga', dp, da'⟩ := prevRel l i h0 la
        obtain rfl : a = a' := by rw [ga] at ga'; exact Option.some.inj ga'
        have e3 : decide ((i : Int) > 0) = true := by rw [decide_eq_true_eq]; omega
        have e4 : i - 1 < l.length := by omega
        rw [e3, pred_pos h0 (by omega)]
        simp only [cond_true, nat?_nat, Option.bind_some, if_pos e4, gp]
        rw [dp, da]
        simp only [ascG, Nat.add_sub_cancel, da]
        have e5 : decide (a ≤ p) = leI a p := rfl
        rw [e5]
        unfold siteOK
        rcases Bool.eq_false_or_eq_true (decide (0 ≤ a)) with h1 | h1 <;> rcases Bool.eq_false_or_eq_true (decide (a < 64)) with h2 | h2 <;> rcases Bool.eq_false_or_eq_true (leI a p) with h3 | h3 <;> simp [h1, h2, h3]
      · have e3 : decide ((i : Int) > 0) = false := by rw [decide_eq_false_iff_not]; omega
        have i0 : i = 0 := by omega
        subst i0
        rw [e3]
        unfold siteOK
        rcases Bool.eq_false_or_eq_true (decide (0 ≤ a)) with h1 | h1 <;> rcases Bool.eq_false_or_eq_true (decide (a < 64)) with h2 | h2 <;> simp [h1, h2]
    · rw [intNotLt la, da, ascG_end leI l i (by omega)]; rfl
theorem ascend_L2 {fu : Nat} (l : List Str) (hn : l.length ≤ 1000) : ∀ (n i : Nat), 0 < n → l.length < n + i → 1 ≤ i →
    ref21_ascend_L2 fu n (l.map dB) (i : Int) = some (if ascG leS (l.drop (i - 1)) then .inr ((), ()) else .inl ((), (false, ()))) := by
  intro n
  induction n with
  | zero =>
    intro i h0
    omega
  | succ n ih =>
    intro i _ h hi
    rw [ref21_ascend_L2, List.length_map]
    by_cases la : i < l.length
    · obtain ⟨p, a, gp, ga, dp, da⟩ := prevRel l i (by omega) la
      have e4 : i - 1 < l.length := by omega
      rw [pred_pos (by omega) (by omega)]
      simp only [intLt la, cond_true, nat?_nat, Option.bind_some, if_pos la, rdS_map, ga, Option.map_some, if_pos e4, gp, slt_bs, seq_bs]
      rw [w64_succ (by omega), ih (i + 1) (by omega) (by omega) (by omega), dp, da]
      simp only [ascG, Nat.add_sub_cancel, da]
      have e5 : (Op.bytesLess a p || a == p) = leS a p := rfl
      rw [e5]
      rcases Bool.eq_false_or_eq_true (leS a p) with h3 | h3 <;> simp [h3]
    · rw [intNotLt la, ascG_end leS l i (by omega)]; rfl
theorem ascend_eq {fu : Nat} (hf : 1000 < fu) {l : List Str} (hn : l.length ≤ 1000) : ref21_ascend fu (l.map dB) = some (ascG leS l) := by
  unfold ref21_ascend
  rw [show (1 : Int) = ((1 : Nat) : Int) from rfl, ascend_L2 l hn fu 1 (by omega) (by omega) (by omega)]
  simp only [Nat.sub_self, List.drop_zero]
  rcases Bool.eq_false_or_eq_true (ascG leS l) with h3 | h3 <;> simp [h3]

theorem Valid_ref {fu : Nat} (hf : 1000001 < fu) (c : Cnd) (hc : SmC c) : ref21_Valid fu c.fr c.to (bs c.p) (c.cl.map dB) (c.co.map dB) (c.si.map dI) c.us = some (validC c) := by
  obtain ⟨c1, c2, c3, c4, c5, c6⟩ := hc
  unfold ref21_Valid validC
  have L6 := rValid_L6 (fu := fu) c.fr c.to (bs c.p) (c.co.map dB) (c.si.map dI) c.us c.cl c2 (fun w hw => ⟨c5 w hw, by have := c5 w hw; omega⟩) fu 0 (by omega) (by omega)
  have L11 := rValid_L11 (fu := fu) c.fr c.to (bs c.p) (c.cl.map dB) (c.si.map dI) c.us c.co c3 fu 0 (by omega) (by omega)
  have L16 := rValid_L16 (fu := fu) c.fr c.to (bs c.p) (c.cl.map dB) (c.co.map dB) c.us c.si c4 fu 0 (by omega) (by omega)
  simp only [List.drop_zero, Nat.zero_sub] at L6 L11 L16
  have a1 := ascend_eq (fu := fu) (by omega) c2
  have a2 := ascend_eq (fu := fu) (by omega) c3
  have f1 : decide (c.fr < 0) = !decide (0 ≤ c.fr) := by rw [Bool.eq_iff_iff]; simp
  have f2 : decide (c.fr > 1099511627776) = !decide (c.fr ≤ 1099511627776) := by rw [Bool.eq_iff_iff]; simp
  have f3 : decide (c.to < 0) = !decide (0 ≤ c.to) := by rw [Bool.eq_iff_iff]; simp
  have f4 : decide (c.to > 1099511627777) = !decide (c.to ≤ 1099511627777) := by rw [Bool.eq_iff_iff]; simp
  have f5 : decide (c.us < 0) = !decide (0 ≤ c.us) := by rw [Bool.eq_iff_iff]; simp
  have f6 : decide (c.us > 1073741824) = !decide (c.us ≤ 1073741824) := by rw [Bool.eq_iff_iff]; simp
  have g1 : decide ((((c.cl.map dB).length : Nat) : Int) > 32) = !decide (c.cl.length ≤ 32) := by rw [List.length_map, Bool.eq_iff_iff]; simp; omega
  have g2 : decide ((((c.co.map dB).length : Nat) : Int) > 32) = !decide (c.co.length ≤ 32) := by rw [List.length_map, Bool.eq_iff_iff]; simp; omega
  have g3 : decide ((((c.si.map dI).length : Nat) : Int) > 64) = !decide (c.si.length ≤ 64) := by rw [List.length_map, Bool.eq_iff_iff]; simp; omega
  rw [f1, f2, f3, f4, f5, f6, g1, g2, g3, ref_Valid_eq (by omega) c1 (by omega), seq_bs]
  rw [show (((0 : Nat) : Int)) = (0 : Int) from rfl] at L6 L11 L16
  rw [L6]
  rcases Bool.eq_false_or_eq_true (c.cl.all name) with h1 | h1
  · simp only [h1, if_true, Option.bind_some]
    rw [L11]
    rcases Bool.eq_false_or_eq_true (c.co.all country) with h2 | h2
    · simp only [h2, if_true, Option.bind_some]
      rw [L16]
      rcases Bool.eq_false_or_eq_true (c.si.all siteOK && ascG leI c.si) with h3 | h3
      · simp only [h3, if_true, Option.bind_some, a1, a2, Bool.true_and]
        generalize (compile c.p).isSome = H
        generalize (c.p == []) = I
        cases decide (0 ≤ c.fr) <;> cases decide (c.fr ≤ 1099511627776) <;> cases decide (0 ≤ c.to) <;> cases decide (c.to ≤ 1099511627777) <;> cases decide (0 ≤ c.us) <;> cases decide (c.us ≤ 1073741824) <;> try rfl
        cases I <;> cases H <;> cases decide (c.cl.length ≤ 32) <;> cases decide (c.co.length ≤ 32) <;> cases decide (c.si.length ≤ 64) <;> cases ascG leS c.cl <;> cases ascG leS c.co <;> rfl
      · simp only [h3, Bool.false_eq_true, if_false, Option.bind_some, Bool.true_and, Bool.false_and, Bool.and_false]
        generalize (compile c.p).isSome = H
        generalize (c.p == []) = I
        cases decide (0 ≤ c.fr) <;> cases decide (c.fr ≤ 1099511627776) <;> cases decide (0 ≤ c.to) <;> cases decide (c.to ≤ 1099511627777) <;> cases decide (0 ≤ c.us) <;> cases decide (c.us ≤ 1073741824) <;> try rfl
        cases I <;> cases H <;> cases decide (c.cl.length ≤ 32) <;> cases decide (c.co.length ≤ 32) <;> cases decide (c.si.length ≤ 64) <;> rfl
    · simp only [h2, Bool.false_eq_true, if_false, Option.bind_some, Bool.true_and, Bool.false_and, Bool.and_false]
      generalize (compile c.p).isSome = H
      generalize (c.p == []) = I
      cases decide (0 ≤ c.fr) <;> cases decide (c.fr ≤ 1099511627776) <;> cases decide (0 ≤ c.to) <;> cases decide (c.to ≤ 1099511627777) <;> cases decide (0 ≤ c.us) <;> cases decide (c.us ≤ 1073741824) <;> try rfl
      cases I <;> cases H <;> cases decide (c.cl.length ≤ 32) <;> cases decide (c.co.length ≤ 32) <;> cases decide (c.si.length ≤ 64) <;> rfl
  · simp only [h1, Bool.false_eq_true, if_false, Option.bind_some, Bool.true_and, Bool.false_and, Bool.and_false]
    generalize (compile c.p).isSome = H
    generalize (c.p == []) = I
    cases decide (0 ≤ c.fr) <;> cases decide (c.fr ≤ 1099511627776) <;> cases decide (0 ≤ c.to) <;> cases decide (c.to ≤ 1099511627777) <;> cases decide (0 ≤ c.us) <;> cases decide (c.us ≤ 1073741824) <;> try rfl
    cases I <;> cases H <;> cases decide (c.cl.length ≤ 32) <;> cases decide (c.co.length ≤ 32) <;> cases decide (c.si.length ≤ 64) <;> rfl
end Go.Proofs.YtcjgmffbebjddaaGreatDoor
