/- Patterns: what the natives compute. -/
import Derived.Test.YtcjgmffbebjddaaGreatDoorPlB
set_option linter.all false
namespace Go.Proofs.YtcjgmffbebjddaaGreatDoor
open Go Go.Eng

structure Pat where
  c : Str
  ps : List Str
  t : Bool

def starDot (l : Str) : Bool := decide (2 ≤ l.length) && l.take 2 == [42, 46]
def part (l : Str) : Bool := l == [42] || word l || (decide (l.length ≤ 34) && starDot l && word (l.drop 2))
def compParts : List Str → Option (List Str × Bool)
  | [] => some ([], false)
  | [w] => if w == [42, 42] then some ([], true) else if part w then some ([w], false) else none
  | w :: r => if part w then (compParts r).map fun p => (w :: p.1, p.2) else none
def compile (l : Str) : Option Pat := match splitL 47 l with
  | [] => none
  | c :: r => if (c == [42] || name c) && decide (r.length ≤ 32) then (compParts r).map fun p => ⟨c, p.1, p.2⟩ else none
def kindOf (w : Str) : Int := if w.head? = some 42 then (if w.length = 1 then 2 else 1) else 0
def textOf (w : Str) : Str := if w.head? = some 42 then w.drop 1 else w
def dP (w : Str) : D := .agg [dI (kindOf w), dB (textOf w)]

theorem letter42 : letter 42 = false := rfl
theorem word_head {w : Str} (h : word w = true) : w.head? ≠ some 42 := by
  intro h2
  cases w with
  | nil => cases h2
  | cons a r =>
    simp at h2
    subst h2
    simp [word, letter42] at h
theorem name_word {w : Str} (h : name w = true) : word w = true := by
  unfold name at h; exact (Bool.and_eq_true_iff.1 h).1

theorem HasPrefix_eq (l p : Str) : i_stringslite_HasPrefix (bs l) (bs p) = some (decide (p.length ≤ l.length) && l.take p.length == p) := by
  unfold i_stringslite_HasPrefix
  by_cases h : p.length ≤ l.length
  · have e : decide ((((bs l).size : Nat) : Int) ≥ (((bs p).size : Nat) : Int)) = true := by simp; exact h
    have e2 : Int.toNat (((bs p).size : Nat) : Int) = p.length := by simp
    rw [e, e2, cond_true, if_pos ⟨Nat.zero_le _, by simp; exact h⟩]
    simp [h]
  · have e : decide ((((bs l).size : Nat) : Int) ≥ (((bs p).size : Nat) : Int)) = false := by simp; omega
    rw [e, cond_false]
    simp [h]
theorem strHasPrefix_eq (fu : Nat) (l p : Str) : strings_HasPrefix fu (bs l) (bs p) = some (decide (p.length ≤ l.length) && l.take p.length == p) := by
  simp [strings_HasPrefix, HasPrefix_eq]
theorem CutPrefix_eq (fu : Nat) (l p : Str) : strings_CutPrefix fu (bs l) (bs p) = some (if (decide (p.length ≤ l.length) && l.take p.length == p) = true then (bs (l.drop p.length), true, ()) else (bs l, false, ())) := by
  unfold strings_CutPrefix i_stringslite_CutPrefix
  simp only [HasPrefix_eq, Option.bind_some]
  cases h : (decide (p.length ≤ l.length) && l.take p.length == p)
  · rfl
  · have h1 : p.length ≤ l.length := by
      have := (Bool.and_eq_true_iff.1 h).1
      exact of_decide_eq_true this
    have e2 : Int.toNat (((bs p).size : Nat) : Int) = p.length := by simp
    simp only [Bool.not_true, cond_false, e2]
    rw [if_pos ⟨by simp; exact h1, Nat.le_refl _⟩]
    simp

theorem take1 (w : Str) : (decide (([42] : Str).length ≤ w.length) && w.take ([42] : Str).length == [42]) = decide (w.head? = some 42) := by
  cases w with
  | nil => rfl
  | cons a r =>
    rw [Bool.eq_iff_iff]
    simp
theorem partOf_eq (fu : Nat) (w : Str) : address_partOf fu (bs w) = some (kindOf w, bs (textOf w), ()) := by
  unfold address_partOf kindOf textOf
  rw [CutPrefix_eq, take1]
  by_cases h : w.head? = some 42
  · rw [if_pos (decide_eq_true h), if_pos h, if_pos h]
    cases w with
    | nil => cases h
    | cons a r =>
      cases r with
      | nil => simp
      | cons b s => simp
  · rw [if_neg (by simpa using h), if_neg h, if_neg h]
    simp

theorem part42 : part [42, 42] = false := rfl

theorem if_and' {α : Type} {p q : Prop} [Decidable p] [Decidable q] {a b : α} (hp : p) (hq : q) : (if p ∧ q then a else b) = a := if_pos ⟨hp, hq⟩

/-- The loop over the parts. -/
theorem compile_L6 (fu : Nat) (x0 : Int) (x1 : ByteArray) (L : List D) (r : List Str) (hL : L.length = r.length + 1) (hr : r.length ≤ 40) (hfu : ∀ w ∈ r, w.length < fu) : ∀ (n i : Nat) (acc : List Str) (t : Bool), r.length < n + i → i ≤ r.length → acc.length ≤ i → (t = true → i = r.length) →
    (∀ ps t', compParts (r.drop i) = some (ps, t') → address_compile_L6 fu n x0 x1 (acc.map dP) t L (r.map dB) ((r.length : Nat) : Int) (i : Int) = some (.inr (((x0, x1, (acc ++ ps).map dP, (t || t'), ()), ()), ((), ())))) ∧
    (compParts (r.drop i) = none → ∃ z, address_compile_L6 fu n x0 x1 (acc.map dP) t L (r.map dB) ((r.length : Nat) : Int) (i : Int) = some (.inl ((z, ()), ((), false, ())))) := by
  intro n
  induction n with
  | zero => intro i acc t h; omega
  | succ n ih =>
    intro i acc t h hi ha ht
    rw [address_compile_L6]
    by_cases hlt : i < r.length
    · obtain ⟨w, hw⟩ : ∃ w, w = r[i]'hlt := ⟨_, rfl⟩
      have hd : r.drop i = w :: r.drop (i + 1) := by rw [hw]; exact List.drop_eq_getElem_cons hlt
      have hg : r[i]? = some w := by rw [hw]; exact List.getElem?_eq_getElem hlt
      have hmem : w ∈ r := List.mem_of_getElem? hg
      have ht0 : t = false := by
        cases t with
        | false => rfl
        | true => exact absurd (ht rfl) (by omega)
      subst ht0
      have hww : w.length < fu := hfu w hmem
      have e : decide ((i : Int) < ((r.length : Nat) : Int)) = true := by simp; exact hlt
      have e' : i < (r.map dB).length := by simp; exact hlt
      have e9 : ((i : Int) == w64 (((L.length : Nat) : Int) - 2)) = decide (i + 1 = r.length) := by
        rw [hL, w64_id (by omega) (by omega), Bool.eq_iff_iff]; simp; omega
      have push : (acc.map dP ++ [D.agg [D.v (.int .i64 (kindOf w)), D.v (.string (bs (textOf w)))]]) = (acc ++ [w]).map dP := by simp [dP, dI, dB]
      have room : (((acc.map dP).length + [D.agg [D.v (.int .i64 (kindOf w)), D.v (.string (bs (textOf w)))]].length) * 24 ≤ maxRow) := by simp [maxRow]; omega
      obtain ⟨ih1, ih2⟩ := ih (i + 1) (acc ++ [w]) false (by omega) (by omega) (by simp; omega) (by simp)
      have step : compParts (r.drop i) = if i + 1 = r.length ∧ w = [42, 42] then some ([], true) else if part w then (compParts (r.drop (i + 1))).map fun p => (w :: p.1, p.2) else none := by
        rw [hd]
        by_cases h1 : i + 1 = r.length
        · have : r.drop (i + 1) = [] := List.drop_eq_nil_of_le (by omega)
          rw [this]
          by_cases h2 : w = [42, 42]
          · simp [compParts, h1, h2]
          · simp [compParts, h1, h2]
        · obtain ⟨y, s, hs⟩ : ∃ y s, r.drop (i + 1) = y :: s := ⟨_, _, List.drop_eq_getElem_cons (by omega)⟩
          rw [hs]
          simp [compParts, h1]
      have hfin : ∀ (X : Option _), X = (if i + 1 = r.length ∧ w = [42, 42] then address_compile_L6 fu n x0 x1 (acc.map dP) true L (r.map dB) ((r.length : Nat) : Int) (((i + 1 : Nat)) : Int) else
          if part w then address_compile_L6 fu n x0 x1 ((acc ++ [w]).map dP) false L (r.map dB) ((r.length : Nat) : Int) (((i + 1 : Nat)) : Int) else some (.inl ((((x0, x1, acc.map dP, false, ()), ()), ((), false, ()))))) →
          (∀ ps t', compParts (r.drop i) = some (ps, t') → X = some (.inr (((x0, x1, (acc ++ ps).map dP, (false || t'), ()), ()), ((), ())))) ∧ (compParts (r.drop i) = none → ∃ z, X = some (.inl ((z, ()), ((), false, ())))) := by
        rintro X rfl
        rw [step]
        by_cases h1 : i + 1 = r.length ∧ w = [42, 42]
        · rw [if_pos h1, if_pos h1]
          have h3 := ih (i + 1) acc true (by omega) (by omega) (by omega) (fun _ => h1.1)
          have h4 : r.drop (i + 1) = [] := List.drop_eq_nil_of_le (by omega)
          rw [h4] at h3
          refine ⟨fun ps t' h5 => ?_, fun h5 => by cases h5⟩
          obtain ⟨rfl, rfl⟩ : [] = ps ∧ true = t' := by simpa using h5
          have := h3.1 [] false rfl
          simpa using this
        · rw [if_neg h1, if_neg h1]
          cases hp : part w
          · simp only [Bool.false_eq_true, if_false]
            exact ⟨fun ps t' h5 => (by cases h5), fun _ => ⟨_, rfl⟩⟩
          · simp only [if_true]
            refine ⟨fun ps t' h5 => ?_, fun h5 => ?_⟩
            · rw [Option.map_eq_some_iff] at h5
              obtain ⟨⟨ps1, t1⟩, h6, h7⟩ := h5
              obtain ⟨rfl, rfl⟩ : w :: ps1 = ps ∧ t1 = t' := by simpa using h7
              have := ih1 ps1 t1 h6
              simpa using this
            · exact ih2 (by simpa using h5)
      refine hfin _ ?_
      clear hfin ih1 ih2 ih step
      simp only [e, cond_true, nat?_nat, Option.bind_some, e', if_true, rdS_map, hg, Option.map_some, seq_bs, e9, partOf_eq, isWord_eq hww, strHasPrefix_eq, push, room]
      rw [w64_succ (by omega)]
      have hb34 : decide ((((bs w).size : Nat) : Int) ≤ 34) = decide (w.length ≤ 34) := by rw [Bool.eq_iff_iff]; simp; omega
      have hsd : (decide (([42, 46] : Str).length ≤ w.length) && w.take ([42, 46] : Str).length == [42, 46]) = starDot w := rfl
      rw [hb34, hsd]
      have tree : ∀ (A B : Option ((((((Int × ByteArray × List D × Bool × Unit) × Unit) × (Unit × Bool × Unit)) ⊕ (((Int × ByteArray × List D × Bool × Unit) × Unit) × (Unit × Unit)))))), (bif w == [42] then A else bif word w then A else bif decide (w.length ≤ 34) then bif starDot w then
          if Int.toNat 2 ≤ (bs w).size ∧ (bs w).size ≤ (bs w).size then (address_isWord fu ((bs w).extract (Int.toNat 2) (bs w).size)).bind fun v91 => bif v91 then A else B else none else B else B) = if part w then A else B := by
        intro A B
        unfold part
        cases h1 : (w == [42]) <;> cases h2 : word w <;> cases h3 : decide (w.length ≤ 34) <;> cases h4 : starDot w <;> simp
        have h5 : 2 ≤ w.length := by
          unfold starDot at h4
          exact of_decide_eq_true (Bool.and_eq_true_iff.1 h4).1
        rw [if_pos h5]
        have := isWord_eq (l := w.drop 2) (fu := fu) (by simp; omega)
        rw [this]
        simp only [Option.bind_some]
        cases word (w.drop 2) <;> simp
      rw [tree]
      by_cases h2 : w = [42, 42]
      · by_cases h1 : i + 1 = r.length
        · simp [h1, h2]
        · simp [h1, h2]
      · have : (w == [42, 42]) = false := by simpa using h2
        simp [this, h2]
    · have hd : r.drop i = [] := List.drop_eq_nil_of_le (by omega)
      have e : decide ((i : Int) < ((r.length : Nat) : Int)) = false := by simp; omega
      simp only [e, cond_false, hd, compParts]
      refine ⟨fun ps t' h => ?_, fun h => by cases h⟩
      obtain ⟨rfl, rfl⟩ : [] = ps ∧ false = t' := by simpa using h
      simp

theorem splitL_le (c : UInt8) : ∀ (l : Str), ∀ w ∈ splitL c l, w.length ≤ l.length := by
  intro l
  induction l with
  | nil => intro w hw; simp [splitL] at hw; subst hw; simp
  | cons a r ih =>
    intro w hw
    simp only [splitL] at hw
    split at hw
    · rcases List.mem_cons.1 hw with rfl | hw
      · simp
      · have := ih w hw; simp; omega
    · split at hw
      · simp at hw; subst hw; simp
      · rename_i h t hs
        rcases List.mem_cons.1 hw with rfl | hw
        · have := ih h (by rw [hs]; exact List.mem_cons_self ..); simp; omega
        · have := ih w (by rw [hs]; exact List.mem_cons_of_mem _ hw); simp; omega

/-- What a compiling tells. -/
def CompA (l : Str) (r : Option ((Int × ByteArray × List D × Bool × Unit) × Bool × Unit)) : Prop :=
  match compile l with
  | some p => r = some ((kindOf p.c, bs (textOf p.c), p.ps.map dP, p.t, ()), true, ())
  | none => ∃ z, r = some (z, false, ())
def CompR (l : Str) (r : Option ((ByteArray × List D × Bool × Unit) × Bool × Unit)) : Prop :=
  match compile l with
  | some p => r = some ((bs p.c, p.ps.map dB, p.t, ()), true, ())
  | none => ∃ z, r = some (z, false, ())

theorem compile_eq {fu : Nat} {l : Str} (h : l.length < fu) (hs : l.length ≤ 1000000) (h41 : 41 < fu) : CompA l (address_compile fu (bs l)) := by
  unfold CompA compile address_compile
  rw [Split_eq 47 h hs]
  simp only [Option.bind_some]
  cases hsp : splitL 47 l with
  | nil => exact absurd hsp (splitL_ne _ _)
  | cons c r =>
    have hle : ∀ w ∈ c :: r, w.length < fu := fun w hw => by
      have := splitL_le 47 l w (by rw [hsp]; exact hw); omega
    have hc : c.length < fu := hle c (List.mem_cons_self ..)
    have e1 : decide (((((c :: r).map dB).length : Nat) : Int) > 33) = !decide (r.length ≤ 32) := by rw [Bool.eq_iff_iff]; simp; omega
    have e2 : Int.toNat 0 < ((c :: r).map dB).length := by simp
    have e3 : rdS ((c :: r).map dB) (Int.toNat 0) = some (bs c) := by rw [rdS_map]; rfl
    have e4 : Int.toNat 1 ≤ ((c :: r).map dB).length ∧ ((c :: r).map dB).length ≤ ((c :: r).map dB).length := ⟨by simp, Nat.le_refl _⟩
    have e5 : ((((c :: r).map dB)).take ((c :: r).map dB).length).drop (Int.toNat 1) = r.map dB := by rw [List.take_length]; rfl
    rw [e1]
    by_cases hr : r.length ≤ 32
    · have loop := compile_L6 fu (kindOf c) (bs (textOf c)) ((c :: r).map dB) r (by simp) (by omega) (fun w hw => hle w (List.mem_cons_of_mem _ hw)) fu 0 [] false (by omega) (by omega) (by simp) (by simp)
      simp only [List.map_nil, List.drop_zero, List.nil_append, Bool.false_or] at loop
      have hfin : ∀ (X : Option ((Int × ByteArray × List D × Bool × Unit) × Bool × Unit)), X = ((address_compile_L6 fu fu (kindOf c) (bs (textOf c)) [] false ((c :: r).map dB) (r.map dB) (((r.map dB).length : Nat) : Int) 0).bind fun v105 => match v105 with
              | .inl v106 => some ((v106.1.1.1, v106.1.1.2.1, v106.1.1.2.2.1, v106.1.1.2.2.2.1, ()), v106.2.2.1, ())
              | .inr v107 => some ((v107.1.1.1, v107.1.1.2.1, v107.1.1.2.2.1, v107.1.1.2.2.2.1, ()), true, ())) →
          match (compParts r).map (fun p => (⟨c, p.1, p.2⟩ : Pat)) with
            | some p => X = some ((kindOf p.c, bs (textOf p.c), p.ps.map dP, p.t, ()), true, ())
            | none => ∃ z, X = some (z, false, ()) := by
        rintro X rfl
        rw [List.length_map]
        cases hcp : compParts r with
        | none =>
          obtain ⟨z, hz⟩ := loop.2 hcp
          rw [show ((0 : Int)) = ((0 : Nat) : Int) from rfl, hz]
          exact ⟨_, rfl⟩
        | some q =>
          have hz := loop.1 q.1 q.2 hcp
          rw [show ((0 : Int)) = ((0 : Nat) : Int) from rfl, hz]
          rfl
      simp only [hr, decide_true, Bool.not_true, cond_false, if_pos e2, e3, Option.bind_some, seq_bs, isName_eq hc, partOf_eq, if_pos e4, e5, Bool.and_true]
      cases h42 : (c == [42])
      · cases hn : name c
        · simp only [Bool.not_false, Bool.or_self, cond_true, Bool.false_eq_true, if_false]
          exact ⟨_, rfl⟩
        · simp only [Bool.not_false, Bool.not_true, cond_true, cond_false, Bool.or_true, if_true]
          exact hfin _ rfl
      · simp only [Bool.not_true, cond_false, Bool.true_or, if_true]
        exact hfin _ rfl
    · simp only [hr, decide_false, Bool.not_false, cond_true, Bool.and_false, Bool.false_eq_true, if_false]
      exact ⟨_, rfl⟩

/-! ### The reference's compiling -/
theorem word42 {s : Str} : word (42 :: s) = false := by
  cases h : word (42 :: s) with
  | false => rfl
  | true => exact absurd rfl (word_head h)
theorem ref_part_eq {fu : Nat} {l : Str} (h : l.length < fu) (hs : l.length ≤ 1000000) : ref06_part fu (bs l) = some (part l) := by
  unfold ref06_part part
  simp only [seq_bs, extract_bs, ref_Word_eq h hs, Option.bind_some]
  have e1 : decide ((((bs l).size : Nat) : Int) > 2) = decide (2 < l.length) := by rw [Bool.eq_iff_iff]; simp; omega
  have e2 : decide ((((bs l).size : Nat) : Int) ≤ 34) = decide (l.length ≤ 34) := by rw [Bool.eq_iff_iff]; simp; omega
  rw [e1, e2]
  by_cases h2 : 2 < l.length
  · have hd := ref_Word_eq (fu := fu) (l := l.drop 2) (by simp; omega) (by simp; omega)
    have e3 : List.drop (Int.toNat 2) (List.take (bs l).size l) = l.drop 2 := by rw [bs_size, List.take_length]; rfl
    rw [e3, hd]
    rw [if_pos ⟨Nat.zero_le _, by simp; omega⟩, if_pos ⟨by simp; omega, Nat.le_refl _⟩]
    have e4 : (List.drop 0 (List.take (Int.toNat 2) l) == [42, 46]) = starDot l := by
      unfold starDot
      rw [decide_eq_true (by omega : 2 ≤ l.length)]; rfl
    rw [e4, decide_eq_true h2]
    simp only [cond_true, Option.bind_some]
    cases hsd : starDot l
    · cases (l == [42]) <;> cases word l <;> simp
    · unfold starDot at hsd
      have h5 := (Bool.and_eq_true_iff.1 hsd).2
      rw [beq_iff_eq] at h5
      have hw : word l = false := by
        match l, h5, h2 with
        | a :: b :: s, h5, _ =>
          have h6 : a = 42 := by simp at h5; exact h5.1
          rw [h6]; exact word42
      have h42 : (l == [42]) = false := by
        rw [Bool.eq_false_iff]; intro hh; rw [beq_iff_eq] at hh; rw [hh] at h2; simp at h2
      rw [hw, h42]
      cases decide (l.length ≤ 34) <;> simp
  · rw [decide_eq_false h2]
    simp only [cond_false]
    have : (starDot l && word (l.drop 2)) = false := by
      match l, h2 with
      | [], _ => rfl
      | [a], _ => rfl
      | [a, b], _ => simp [word]
      | a :: b :: c :: s, h2 => simp at h2
    rw [Bool.and_assoc, this]
    cases (l == [42]) <;> cases word l <;> simp

theorem refCompile_L6 (fu : Nat) (x0 : ByteArray) (x1 : List D) (x2 : Bool) (x3 : ByteArray) (c : Str) (r : List Str) (hr : r.length ≤ 40) (hfu : ∀ w ∈ r, w.length < fu ∧ w.length ≤ 1000000) : ∀ (n i : Nat) (acc : List Str) (t : Bool), r.length < n + i → i ≤ r.length → acc.length ≤ i → (t = true → i = r.length) →
    (∀ ps t', compParts (r.drop i) = some (ps, t') → ref06_Compile_L6 fu n x0 x1 x2 x3 (acc.map dB) t ((c :: r).map dB) ((i + 1 : Nat) : Int) = some (.inr (((x0, x1, x2, ()), (x3, (acc ++ ps).map dB, (t || t'), ()), ()), ((), (), ())))) ∧
    (compParts (r.drop i) = none → ∃ z, ref06_Compile_L6 fu n x0 x1 x2 x3 (acc.map dB) t ((c :: r).map dB) ((i + 1 : Nat) : Int) = some (.inl (z, ((), false, (), ())))) := by
  intro n
  induction n with
  | zero => intro i acc t h; omega
  | succ n ih =>
    intro i acc t h hi ha ht
    rw [ref06_Compile_L6]
    by_cases hlt : i < r.length
    · obtain ⟨w, hw⟩ : ∃ w, w = r[i]'hlt := ⟨_, rfl⟩
      have hd : r.drop i = w :: r.drop (i + 1) := by rw [hw]; exact List.drop_eq_getElem_cons hlt
      have hg : r[i]? = some w := by rw [hw]; exact List.getElem?_eq_getElem hlt
      have hmem : w ∈ r := List.mem_of_getElem? hg
      have ht0 : t = false := by
        cases t with
        | false => rfl
        | true => exact absurd (ht rfl) (by omega)
      subst ht0
      obtain ⟨hww, hww2⟩ := hfu w hmem
      have e : decide (((i + 1 : Nat) : Int) < ((((c :: r).map dB).length : Nat) : Int)) = true := by simp; omega
      have e' : i + 1 < ((c :: r).map dB).length := by simp; exact hlt
      have e3 : rdS ((c :: r).map dB) (i + 1) = some (bs w) := by rw [rdS_map]; simp [hg]
      have e9 : ((((i + 1 : Nat)) : Int) == w64 (((((c :: r).map dB).length : Nat) : Int) - 1)) = decide (i + 1 = r.length) := by
        rw [List.length_map, List.length_cons, w64_id (by omega) (by omega), Bool.eq_iff_iff]; simp; omega
      have push : (acc.map dB ++ [D.v (.string (bs w))]) = (acc ++ [w]).map dB := by simp [dB]
      have room : (((acc.map dB).length + [D.v (.string (bs w))].length) * 16 ≤ maxRow) := by simp [maxRow]; omega
      obtain ⟨ih1, ih2⟩ := ih (i + 1) (acc ++ [w]) false (by omega) (by omega) (by simp; omega) (by simp)
      have step : compParts (r.drop i) = if i + 1 = r.length ∧ w = [42, 42] then some ([], true) else if part w then (compParts (r.drop (i + 1))).map fun p => (w :: p.1, p.2) else none := by
        rw [hd]
        by_cases h1 : i + 1 = r.length
        · have : r.drop (i + 1) = [] := List.drop_eq_nil_of_le (by omega)
          rw [this]
          by_cases h2 : w = [42, 42]
          · simp [compParts, h1, h2]
          · simp [compParts, h1, h2]
        · obtain ⟨y, s, hs⟩ : ∃ y s, r.drop (i + 1) = y :: s := ⟨_, _, List.drop_eq_getElem_cons (by omega)⟩
          rw [hs]
          simp [compParts, h1]
      have hfin : ∀ (X : Option _), X = (if i + 1 = r.length ∧ w = [42, 42] then ref06_Compile_L6 fu n x0 x1 x2 x3 (acc.map dB) true ((c :: r).map dB) ((i + 1 + 1 : Nat) : Int) else
          if part w then ref06_Compile_L6 fu n x0 x1 x2 x3 ((acc ++ [w]).map dB) false ((c :: r).map dB) ((i + 1 + 1 : Nat) : Int) else some (.inl (((((bs []), ([] : List D), false, ()), (x3, acc.map dB, false, ()), ()), ((), false, (), ()))))) →
          (∀ ps t', compParts (r.drop i) = some (ps, t') → X = some (.inr (((x0, x1, x2, ()), (x3, (acc ++ ps).map dB, (false || t'), ()), ()), ((), (), ())))) ∧ (compParts (r.drop i) = none → ∃ z, X = some (.inl (z, ((), false, (), ())))) := by
        rintro X rfl
        rw [step]
        by_cases h1 : i + 1 = r.length ∧ w = [42, 42]
        · rw [if_pos h1, if_pos h1]
          have h3 := ih (i + 1) acc true (by omega) (by omega) (by omega) (fun _ => h1.1)
          have h4 : r.drop (i + 1) = [] := List.drop_eq_nil_of_le (by omega)
          rw [h4] at h3
          refine ⟨fun ps t' h5 => ?_, fun h5 => by cases h5⟩
          obtain ⟨rfl, rfl⟩ : [] = ps ∧ true = t' := by simpa using h5
          have := h3.1 [] false rfl
          simpa using this
        · rw [if_neg h1, if_neg h1]
          cases hp : part w
          · simp only [Bool.false_eq_true, if_false]
            exact ⟨fun ps t' h5 => (by cases h5), fun _ => ⟨_, rfl⟩⟩
          · simp only [if_true]
            refine ⟨fun ps t' h5 => ?_, fun h5 => ?_⟩
            · rw [Option.map_eq_some_iff] at h5
              obtain ⟨⟨ps1, t1⟩, h6, h7⟩ := h5
              obtain ⟨rfl, rfl⟩ : w :: ps1 = ps ∧ t1 = t' := by simpa using h7
              have := ih1 ps1 t1 h6
              simpa using this
            · exact ih2 (by simpa using h5)
      refine hfin _ ?_
      clear hfin ih1 ih2 ih step
      simp only [e, cond_true, nat?_nat, Option.bind_some, if_pos e', e3, seq_bs, e9, ref_part_eq hww hww2, push, if_pos room]
      rw [w64_succ (by omega)]
      by_cases h2 : w = [42, 42]
      · by_cases h1 : i + 1 = r.length
        · simp [h1, h2]
        · simp [h1, h2, part42]
      · have : (w == [42, 42]) = false := by simpa using h2
        simp only [this, h2, and_false, if_false, cond_false]
        cases part w <;> simp
    · have hd : r.drop i = [] := List.drop_eq_nil_of_le (by omega)
      have e : decide (((i + 1 : Nat) : Int) < ((((c :: r).map dB).length : Nat) : Int)) = false := by simp; omega
      simp only [e, cond_false, hd, compParts]
      refine ⟨fun ps t' h => ?_, fun h => by cases h⟩
      obtain ⟨rfl, rfl⟩ : [] = ps ∧ false = t' := by simpa using h
      simp

theorem ref_compile_eq {fu : Nat} {l : Str} (h : l.length < fu) (hs : l.length ≤ 1000000) (h41 : 41 < fu) : CompR l (ref06_Compile fu (bs l)) := by
  unfold CompR compile ref06_Compile
  rw [show (47 : Int) = (((47 : UInt8).toNat : Nat) : Int) from rfl, ref_split_eq 47 h hs]
  simp only [Option.bind_some]
  cases hsp : splitL 47 l with
  | nil => exact absurd hsp (splitL_ne _ _)
  | cons c r =>
    have hcl : r.length + 1 = l.count 47 + 1 := by rw [← splitL_length, hsp]; rfl
    have hcl2 : l.count 47 ≤ l.length := List.count_le_length
    have hle : ∀ w ∈ c :: r, w.length < fu ∧ w.length ≤ 1000000 := fun w hw => by
      have := splitL_le 47 l w (by rw [hsp]; exact hw); omega
    have hc := hle c (List.mem_cons_self ..)
    have e1 : decide (w64 (((((c :: r).map dB).length : Nat) : Int) - 1) > 32) = !decide (r.length ≤ 32) := by
      rw [List.length_map, List.length_cons, w64_id (by omega) (by omega), Bool.eq_iff_iff]; simp; omega
    have e2 : Int.toNat 0 < ((c :: r).map dB).length := by simp
    have e3 : rdS ((c :: r).map dB) (Int.toNat 0) = some (bs c) := by rw [rdS_map]; rfl
    simp only [if_pos e2, e3, Option.bind_some, seq_bs, ref_Name_eq hc.1 hc.2, e1]
    by_cases hr : r.length ≤ 32
    · have loop := refCompile_L6 fu (bs []) [] false (bs c) c r (by omega) (fun w hw => hle w (List.mem_cons_of_mem _ hw)) fu 0 [] false (by omega) (by omega) (by simp) (by simp)
      simp only [List.map_nil, List.drop_zero, List.nil_append, Bool.false_or] at loop
      have hfin : ∀ (X : Option ((ByteArray × List D × Bool × Unit) × Bool × Unit)), X = ((ref06_Compile_L6 fu fu (bs []) ([] : List D) false (bs c) ([] : List D) false ((c :: r).map dB) (1 : Int)).bind fun v595 => match v595 with
              | .inl v596 => some ((v596.1.1.1, v596.1.1.2.1, v596.1.1.2.2.1, ()), v596.2.2.1, ())
              | .inr v597 => some ((v597.1.2.1.1, v597.1.2.1.2.1, v597.1.2.1.2.2.1, ()), true, ())) →
          match (compParts r).map (fun p => (⟨c, p.1, p.2⟩ : Pat)) with
            | some p => X = some ((bs p.c, p.ps.map dB, p.t, ()), true, ())
            | none => ∃ z, X = some (z, false, ()) := by
        rintro X rfl
        cases hcp : compParts r with
        | none =>
          obtain ⟨z, hz⟩ := loop.2 hcp
          rw [show ((1 : Int)) = ((0 + 1 : Nat) : Int) from rfl, hz]
          exact ⟨_, rfl⟩
        | some q =>
          have hz := loop.1 q.1 q.2 hcp
          rw [show ((1 : Int)) = ((0 + 1 : Nat) : Int) from rfl, hz]
          rfl
      simp only [hr, decide_true, Bool.not_true, cond_false, Bool.and_true]
      cases h42 : (c == [42])
      · cases hn : name c
        · simp only [Bool.not_false, Bool.or_self, cond_true, Bool.false_eq_true, if_false]
          exact ⟨_, rfl⟩
        · simp only [Bool.not_false, Bool.not_true, cond_true, cond_false, Bool.or_true, if_true]
          exact hfin _ rfl
      · simp only [Bool.not_true, cond_false, Bool.true_or, if_true]
        exact hfin _ rfl
    · simp only [hr, decide_false, Bool.not_false, cond_true, Bool.and_false, Bool.false_eq_true, if_false]
      cases h42 : (c == [42])
      · cases hn : name c
        · exact ⟨_, rfl⟩
        · exact ⟨_, rfl⟩
      · exact ⟨_, rfl⟩

theorem Valid_eq {fu : Nat} {l : Str} (h : l.length < fu) (hs : l.length ≤ 1000000) (h41 : 41 < fu) : address_Valid fu (bs l) = some (compile l).isSome := by
  have := compile_eq h hs h41
  unfold CompA at this
  unfold address_Valid
  cases hc : compile l with
  | none => rw [hc] at this; obtain ⟨z, hz⟩ := this; rw [hz]; rfl
  | some p => rw [hc] at this; rw [this]; rfl
theorem ref_Valid_eq {fu : Nat} {l : Str} (h : l.length < fu) (hs : l.length ≤ 1000000) (h41 : 41 < fu) : ref06_Valid fu (bs l) = some (compile l).isSome := by
  have := ref_compile_eq h hs h41
  unfold CompR at this
  unfold ref06_Valid
  cases hc : compile l with
  | none => rw [hc] at this; obtain ⟨z, hz⟩ := this; rw [hz]; rfl
  | some p => rw [hc] at this; rw [this]; rfl
end Go.Proofs.YtcjgmffbebjddaaGreatDoor
