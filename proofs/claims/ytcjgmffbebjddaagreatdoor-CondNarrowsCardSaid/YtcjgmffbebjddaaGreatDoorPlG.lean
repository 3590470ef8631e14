/- The reference's patterns: covering, meeting, what both match. -/
import Derived.Test.YtcjgmffbebjddaaGreatDoorPlF
set_option linter.all false
namespace Go.Proofs.YtcjgmffbebjddaaGreatDoor
open Go Go.Eng

theorem ref_suffix_eq (w : Str) (hw : w.length ≤ 1000000000) : ref06_suffix (bs w) = some (decide (kindOf w = 1)) := by
  unfold ref06_suffix kindOf
  match w with
  | [] => simp
  | [a] => by_cases h : a = 42 <;> simp [h]
  | a :: b :: s =>
    have e : decide ((((bs (a :: b :: s)).size : Nat) : Int) > 1) = true := by simp; omega
    have e2 : ((chr (bs (a :: b :: s)) (Int.toNat 0)) == (42 : Int)) = decide (a = 42) := by
      rw [chr_bs, Bool.eq_iff_iff]
      simp only [Int.toNat_zero, List.getD_cons_zero, beq_iff_eq, decide_eq_true_eq]
      constructor
      · intro hh; apply UInt8.toNat_inj.1; show a.toNat = 42; omega
      · intro hh; rw [hh]; rfl
    rw [e, e2, cond_true, if_pos (by simp)]
    by_cases h : a = 42 <;> simp [h]

theorem ref_ends_eq (fu : Nat) (b : UInt8) (s w : Str) (hs : s.length ≤ 100000000) (hw : w.length ≤ 100000000) : ref06_ends fu (bs (42 :: b :: s)) (bs w) = some (decide ((b :: s).length < w.length) && sufx w (b :: s)) := by
  unfold ref06_ends
  have e1 : w64 ((((bs (42 :: b :: s)).size : Nat) : Int) - 1) = (((b :: s).length : Nat) : Int) := by
    rw [bs_size, w64_id (by simp; omega) (by simp; omega)]; simp
  rw [e1]
  by_cases h : (b :: s).length < w.length
  · have e2 : decide ((((bs w).size : Nat) : Int) > (((b :: s).length : Nat) : Int)) = true := by rw [decide_eq_true_eq, bs_size]; omega
    rw [e2, bs_size, w64_sub (by omega) (by omega)]
    simp only [cond_true, nat?_nat, Option.bind_some]
    rw [if_pos ⟨by omega, Nat.le_refl _⟩, if_pos ⟨by simp, Nat.le_refl _⟩]
    simp only [extract_bs, seq_bs, List.take_length, bs_size]
    unfold sufx
    rw [decide_eq_true h, decide_eq_true (by omega : (b :: s).length ≤ w.length)]
    rfl
  · have e2 : decide ((((bs w).size : Nat) : Int) > (((b :: s).length : Nat) : Int)) = false := by rw [decide_eq_false_iff_not, bs_size]; omega
    rw [e2, decide_eq_false h]
    rfl

theorem ref_covers_eq (fu : Nat) (p q : Str) (hp : p.length ≤ 10000000) (hq : q.length ≤ 10000000) : ref06_covers fu (bs p) (bs q) = some (cov p q) := by
  unfold ref06_covers
  simp only [seq_bs, ref_suffix_eq p (by omega), ref_suffix_eq q (by omega), Option.bind_some]
  rcases kindOf_cases p with ⟨k1, k2, k3⟩ | ⟨k1, k2, a, s, k3⟩ | ⟨k1, k2, k3⟩
  · have hp42 : (p == [42]) = false := by
      rw [Bool.eq_false_iff]; intro h; rw [beq_iff_eq] at h; rw [h] at k3; simp at k3
    rw [hp42, k1]
    unfold cov hasL
    rw [k1]
    rcases kindOf_cases q with ⟨j1, j2, j3⟩ | ⟨j1, j2, b, t, j3⟩ | ⟨j1, j2, j3⟩
    · rw [j1]
      cases h : (p == q) <;> simp
    · have : (p == q) = false := by
        rw [Bool.eq_false_iff]; intro h; rw [beq_iff_eq] at h; rw [h, j3] at k3; simp at k3
      rw [j1, this]; simp
    · have : (p == q) = false := by
        rw [Bool.eq_false_iff]; intro h; rw [beq_iff_eq] at h; rw [h, j3] at k3; simp at k3
      rw [j1, this]; simp
  · have hp42 : (p == [42]) = false := by
      rw [Bool.eq_false_iff]; intro h; rw [beq_iff_eq] at h; rw [h] at k3; simp at k3
    rw [hp42, k1]
    unfold cov hasL
    rw [k1]
    rcases kindOf_cases q with ⟨j1, j2, j3⟩ | ⟨j1, j2, b, t, j3⟩ | ⟨j1, j2, j3⟩
    · have : (p == q) = false := by
        rw [Bool.eq_false_iff]; intro h; rw [beq_iff_eq] at h; rw [← h, k3] at j3; simp at j3
      have hq42 : (q == [42]) = false := by
        rw [Bool.eq_false_iff]; intro h; rw [beq_iff_eq] at h; rw [h] at j3; simp at j3
      rw [j1, this, hq42, k3, ref_ends_eq fu a s q (by rw [k3] at hp; simp at hp; omega) (by omega)]
      simp
    · have hq42 : (q == [42]) = false := by
        rw [Bool.eq_false_iff]; intro h; rw [beq_iff_eq] at h; rw [h] at j3; simp at j3
      rw [j1, hq42]
      have e3 : Int.toNat 1 ≤ (bs q).size ∧ (bs q).size ≤ (bs q).size := ⟨by rw [bs_size, j3]; simp, Nat.le_refl _⟩
      have e7 : (bs q).extract (Int.toNat 1) (bs q).size = bs (b :: t) := by rw [extract_bs, bs_size, List.take_length, j3]; rfl
      have e8 : bs [97] ++ bs (b :: t) = bs (97 :: b :: t) := append_bs _ _
      rw [if_pos e3, e7, e8, if_pos (by rw [bs_size, bs_size]; rw [j3] at hq; simp at hq ⊢; omega)]
      have e5 := ref_ends_eq fu a s (97 :: b :: t : Str) (by rw [k3] at hp; simp at hp; omega) (by rw [j3] at hq; simp at hq ⊢; omega)
      rw [k3, e5, j3]
      have e6 : (decide ((a :: s).length < (97 :: b :: t : Str).length) && sufx (97 :: b :: t : Str) (a :: s)) = sufx (b :: t) (a :: s) := by
        unfold sufx
        by_cases h : (a :: s).length ≤ (b :: t).length
        · rw [decide_eq_true (by simp at h ⊢; omega : (a :: s).length < (97 :: b :: t : Str).length), decide_eq_true (by simp at h ⊢; omega : (a :: s).length ≤ (97 :: b :: t : Str).length), decide_eq_true h]
          have : (97 :: b :: t : Str).length - (a :: s).length = ((b :: t).length - (a :: s).length) + 1 := by simp at h ⊢; omega
          rw [this]
          rfl
        · rw [decide_eq_false (by simp at h ⊢; omega : ¬ (a :: s).length < (97 :: b :: t : Str).length), decide_eq_false h]
          rfl
      rw [e6]
      by_cases hpq : (42 :: a :: s : Str) = 42 :: b :: t
      · have : (a :: s : Str) = b :: t := by simpa using hpq
        rw [this]
        simp [sufx]
      · have : ((42 :: a :: s : Str) == 42 :: b :: t) = false := by rw [Bool.eq_false_iff]; simpa using hpq
        rw [this]
        simp
    · rw [j1, j3]
      have : (p == [42]) = false := hp42
      rw [this]; simp
  · rw [k3]
    unfold cov hasL
    have : kindOf [42] = 2 := rfl
    simp [this]

theorem ref_meets_eq (fu : Nat) (p q : Str) (hp : p.length ≤ 10000000) (hq : q.length ≤ 10000000) : ref06_meets fu (bs p) (bs q) = some (meetOK p q) := by
  unfold ref06_meets meetOK
  rw [ref_covers_eq fu p q hp hq, ref_covers_eq fu q p hq hp]
  cases cov p q <;> cases cov q p <;> rfl

theorem ref_Meet_L10 (fu : Nat) (x0 : Bool) (x1 : Int) (x2 : ByteArray) (x4 : Bool) (x5 : ByteArray) (x7 : Bool) (xs ys : List Str) (hn : xs.length ≤ 1000) (hx : ∀ w ∈ xs, w.length ≤ 1000000) (hy : ∀ w ∈ ys, w.length ≤ 1000000) :
    ∀ (n i : Nat), xs.length < n + i → i ≤ xs.length →
    ref06_Meet_L10 fu n x0 x1 x2 (xs.map dB) x4 x5 (ys.map dB) x7 (i : Int) = some (if okR (xs.drop i) (ys.drop i) then .inr (((x0, x1, ()), ()), ((), ())) else .inl (((false, 0, ()), ()), ((), ()))) := by
  intro n
  induction n with
  | zero => intro i h; omega
  | succ n ih =>
    intro i h hi
    rw [ref06_Meet_L10]
    by_cases hlt : i < xs.length
    · obtain ⟨a, hx0⟩ : ∃ a, a = xs[i]'hlt := ⟨_, rfl⟩
      have hd : xs.drop i = a :: xs.drop (i + 1) := by rw [hx0]; exact List.drop_eq_getElem_cons hlt
      have hg : xs[i]? = some a := by rw [hx0]; exact List.getElem?_eq_getElem hlt
      have hal := hx a (List.mem_of_getElem? hg)
      have e : decide ((i : Int) < (((xs.map dB).length : Nat) : Int)) = true := by simp; exact hlt
      have e' : i < (xs.map dB).length := by simp; exact hlt
      by_cases hlt2 : i < ys.length
      · obtain ⟨b, hy0⟩ : ∃ b, b = ys[i]'hlt2 := ⟨_, rfl⟩
        have hd2 : ys.drop i = b :: ys.drop (i + 1) := by rw [hy0]; exact List.drop_eq_getElem_cons hlt2
        have hg2 : ys[i]? = some b := by rw [hy0]; exact List.getElem?_eq_getElem hlt2
        have hbl := hy b (List.mem_of_getElem? hg2)
        have f : decide ((i : Int) < (((ys.map dB).length : Nat) : Int)) = true := by simp; exact hlt2
        have f' : i < (ys.map dB).length := by simp; exact hlt2
        simp only [e, f, cond_true, nat?_nat, Option.bind_some, if_pos e', if_pos f', rdS_map, hg, hg2, Option.map_some, ref_meets_eq fu a b (by omega) (by omega)]
        rw [w64_succ (by omega), ih (i + 1) (by omega) (by omega), hd, hd2]
        simp only [okR]
        rcases Bool.eq_false_or_eq_true (meetOK a b) with hm | hm <;> simp [hm]
      · have hd2 : ys.drop i = [] := List.drop_eq_nil_of_le (by omega)
        have f : decide ((i : Int) < (((ys.map dB).length : Nat) : Int)) = false := by simp; omega
        simp only [e, f, cond_true, cond_false]
        rw [hd2, okR_nil]
        simp
    · have hd : xs.drop i = [] := List.drop_eq_nil_of_le (by omega)
      have e : decide ((i : Int) < (((xs.map dB).length : Nat) : Int)) = false := by simp; omega
      rw [e, hd]
      simp [okR]

theorem cust_meet {p q : Str} (hp : p = [42] ∨ name p = true) (hq : q = [42] ∨ name q = true) : meetOK p q = (p == [42] || (q == [42] || p == q)) := by
  unfold meetOK cov hasL
  rcases hp with rfl | hp
  · have k : kindOf [42] = 2 := rfl
    rw [k]
    rcases kindOf_cases q with ⟨j1, j2, j3⟩ | ⟨j1, j2, b, t, j3⟩ | ⟨j1, j2, j3⟩ <;> simp [j1]
  · have k := kind_name hp
    have p42 : (p == [42]) = false := by
      rw [Bool.eq_false_iff]; intro h; rw [beq_iff_eq] at h; rw [h] at k; cases k
    rw [k, p42]
    rcases hq with rfl | hq
    · have j : kindOf [42] = 2 := rfl
      rw [j]; simp
    · have j := kind_name hq
      have q42 : (q == [42]) = false := by
        rw [Bool.eq_false_iff]; intro h; rw [beq_iff_eq] at h; rw [h] at j; cases j
      rw [j, q42]
      simp
      intro h; exact h.symm
theorem cust_W {p q : Str} (hp : p = [42] ∨ name p = true) (hq : q = [42] ∨ name q = true) (h : meetOK p q = true) : meetW p q = if p == [42] then q else p := by
  unfold meetW
  rw [cust_meet hp hq] at h
  unfold cov hasL
  rcases hp with rfl | hp
  · have k : kindOf [42] = 2 := rfl
    rw [k]
    rcases kindOf_cases q with ⟨j1, j2, j3⟩ | ⟨j1, j2, b, t, j3⟩ | ⟨j1, j2, j3⟩ <;> simp [j1]
  · have k := kind_name hp
    have p42 : (p == [42]) = false := by
      rw [Bool.eq_false_iff]; intro h; rw [beq_iff_eq] at h; rw [h] at k; cases k
    rw [k, p42]
    rcases hq with rfl | hq
    · have j : kindOf [42] = 2 := rfl
      rw [j]; simp
    · have j := kind_name hq
      rw [j]
      simp
      intro h2; exact h2.symm
theorem cust_cov {p q : Str} (hp : p = [42] ∨ name p = true) (hq : q = [42] ∨ name q = true) : cov p q = (p == [42] || p == q) := by
  unfold cov hasL
  rcases hp with rfl | hp
  · have k : kindOf [42] = 2 := rfl
    rw [k]
    rcases kindOf_cases q with ⟨j1, j2, j3⟩ | ⟨j1, j2, b, t, j3⟩ | ⟨j1, j2, j3⟩ <;> simp [j1]
  · have k := kind_name hp
    have p42 : (p == [42]) = false := by
      rw [Bool.eq_false_iff]; intro h; rw [beq_iff_eq] at h; rw [h] at k; cases k
    rw [k, p42]
    rcases hq with rfl | hq
    · have j : kindOf [42] = 2 := rfl
      rw [j, p42]; simp
    · have j := kind_name hq
      rw [j]
      simp

def MeetR (p q : Str) : Bool × Int × Unit := match bothR p q with
  | none => (false, 1, ())
  | some o => (o.isSome, 0, ())

theorem ref_Meet_eq {fu : Nat} {p q : Str} (hf : 1000 < fu) (h1 : p.length < fu) (h2 : q.length < fu) (s1 : p.length ≤ 1000000) (s2 : q.length ≤ 1000000) : ref06_Meet fu (bs p) (bs q) = some (MeetR p q) := by
  have c1 := ref_compile_eq h1 s1 (by omega)
  have c2 := ref_compile_eq h2 s2 (by omega)
  unfold CompR at c1 c2
  unfold MeetR bothR ref06_Meet
  cases e1 : compile p with
  | none =>
    rw [e1] at c1
    obtain ⟨z1, c1⟩ := c1
    rw [c1]
    cases e2 : compile q with
    | none => rw [e2] at c2; obtain ⟨z2, c2⟩ := c2; rw [c2]; rfl
    | some y => rw [e2] at c2; rw [c2]; rfl
  | some x =>
    rw [e1] at c1
    rw [c1]
    cases e2 : compile q with
    | none => rw [e2] at c2; obtain ⟨z2, c2⟩ := c2; rw [c2]; rfl
    | some y =>
      rw [e2] at c2
      rw [c2]
      obtain ⟨⟨x1, x2, x3⟩, x4, -⟩ := compile_ok e1 s1
      obtain ⟨⟨y1, y2, y3⟩, y4, -⟩ := compile_ok e2 s2
      have loop := ref_Meet_L10 fu false 0 (bs x.c) x.t (bs y.c) y.t x.ps y.ps (by omega) x3 y3 fu 0 (by omega) (by omega)
      simp only [List.drop_zero] at loop
      simp only [Option.bind_some, Bool.not_true, cond_false, seq_bs]
      rw [show ((0 : Int)) = ((0 : Nat) : Int) from rfl] at loop ⊢
      rw [loop]
      have d1 : decide ((((y.ps.map dB).length : Nat) : Int) < (((x.ps.map dB).length : Nat) : Int)) = decide (y.ps.length < x.ps.length) := by rw [Bool.eq_iff_iff]; simp
      have d2 : decide ((((x.ps.map dB).length : Nat) : Int) < (((y.ps.map dB).length : Nat) : Int)) = decide (x.ps.length < y.ps.length) := by rw [Bool.eq_iff_iff]; simp
      rw [d1, d2]
      unfold commonR
      rw [cust_meet x4 y4]
      cases (x.c == [42]) <;> cases (y.c == [42]) <;> cases (x.c == y.c) <;> cases okR x.ps y.ps <;> cases decide (y.ps.length < x.ps.length) <;> cases decide (x.ps.length < y.ps.length) <;> cases x.t <;> cases y.t <;> rfl
end Go.Proofs.YtcjgmffbebjddaaGreatDoor
