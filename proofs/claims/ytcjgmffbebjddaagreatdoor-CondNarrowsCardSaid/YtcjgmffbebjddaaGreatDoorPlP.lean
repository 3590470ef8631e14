/- Patterns: an order; what both match is the greatest pattern below both; writing and reading back. -/
import Derived.Test.YtcjgmffbebjddaaGreatDoorPlO
set_option linter.all false
namespace Go.Proofs.YtcjgmffbebjddaaGreatDoor
open Go Go.Eng

theorem sufx_iff {u t : Str} : sufx u t = true ↔ t <:+ u := by
  unfold sufx
  simp only [Bool.and_eq_true, decide_eq_true_eq, beq_iff_eq]
  constructor
  · rintro ⟨h1, h2⟩
    rw [← h2]; exact List.drop_suffix _ _
  · intro h
    refine ⟨h.length_le, ?_⟩
    obtain ⟨s, rfl⟩ := h
    simp

theorem cov_refl (p : Str) : cov p p = true := by
  unfold cov hasL
  rcases kindOf_cases p with ⟨k, -, -⟩ | ⟨k, -, -⟩ | ⟨k, -, -⟩
  · simp [k]
  · simp [k, sufx_iff]
  · simp [k]
theorem cov_trans {p q r : Str} (h1 : cov p q = true) (h2 : cov q r = true) : cov p r = true := by
  unfold cov hasL at h1 h2 ⊢
  rcases kindOf_cases p with ⟨k, -, -⟩ | ⟨k, -, -⟩ | ⟨k, -, -⟩ <;> rcases kindOf_cases q with ⟨j, -, -⟩ | ⟨j, -, -⟩ | ⟨j, -, -⟩ <;> rcases kindOf_cases r with ⟨i, -, -⟩ | ⟨i, -, -⟩ | ⟨i, -, -⟩ <;>
    first
    | (simp [k, j] at h1; done)
    | (simp [j, i] at h2; done)
    | (simp [k, i]; done)
    | (simp [k, j, i, sufx_iff] at h1 h2 ⊢
       first
       | exact h1.trans h2
       | (subst h2; exact h1)
       | exact ⟨by have := h1.length_le; simp at this; omega, h1.trans h2.2⟩)
theorem cov_lam {p q r : Str} (h1 : cov p r = true) (h2 : cov q r = true) : meetOK p q = true := by
  have lam : ∀ {a b c : Str}, a <:+ c → b <:+ c → a <:+ b ∨ b <:+ a := fun {a b c} ha hb => by
    rcases Nat.le_total a.length b.length with h | h
    · exact .inl (List.suffix_of_suffix_length_le ha hb h)
    · exact .inr (List.suffix_of_suffix_length_le hb ha h)
  unfold meetOK
  unfold cov hasL at h1 h2 ⊢
  rcases kindOf_cases p with ⟨k, -, -⟩ | ⟨k, -, -⟩ | ⟨k, -, -⟩ <;> rcases kindOf_cases q with ⟨j, -, -⟩ | ⟨j, -, -⟩ | ⟨j, -, -⟩ <;> rcases kindOf_cases r with ⟨i, -, -⟩ | ⟨i, -, -⟩ | ⟨i, -, -⟩ <;>
    first
    | (simp [k, i] at h1; done)
    | (simp [j, i] at h2; done)
    | (simp [k, j]; done)
    | (simp [k, j, i, sufx_iff] at h1 h2 ⊢
       first
       | (subst h1; subst h2; simp; done)
       | (subst h1; simpa using h2)
       | (subst h2; simpa using h1)
       | exact (lam h1 h2).symm
       | exact (lam h1.2 h2.2).symm
       | exact lam h1 h2
       | exact lam h1.2 h2.2)
theorem meetW_glb {p q w : Str} (h : meetOK p q = true) : (cov (meetW p q) w = true ↔ cov p w = true ∧ cov q w = true) := by
  unfold meetOK at h
  unfold meetW
  by_cases h1 : cov p q = true
  · rw [if_pos h1]
    exact ⟨fun h => ⟨cov_trans h1 h, h⟩, fun h => h.2⟩
  · rw [if_neg h1]
    have h2 : cov q p = true := by simpa [h1] using h
    exact ⟨fun h => ⟨h, cov_trans h2 h⟩, fun h => h.1⟩

/-! ### Lists of words -/
theorem covAll_refl : ∀ (xs : List Str), covAll xs xs = true
  | [] => rfl
  | a :: xs => by simp [covAll, cov_refl, covAll_refl xs]
theorem covAll_nil (xs : List Str) : covAll xs [] = true := by cases xs <;> rfl
theorem covAll_trans : ∀ (xs ys zs : List Str), xs.length ≤ ys.length → covAll xs ys = true → covAll ys zs = true → covAll xs zs = true
  | [], ys, zs, _, _, _ => by cases zs <;> rfl
  | a :: xs, [], zs, h, _, _ => by simp at h
  | a :: xs, b :: ys, [], _, _, _ => rfl
  | a :: xs, b :: ys, c :: zs, h, h1, h2 => by
    simp only [covAll, Bool.and_eq_true] at h1 h2 ⊢
    exact ⟨cov_trans h1.1 h2.1, covAll_trans xs ys zs (by simpa using h) h1.2 h2.2⟩
theorem covAll_antisymm : ∀ (xs ys : List Str), xs.length = ys.length → covAll xs ys = true → covAll ys xs = true → xs = ys
  | [], [], _, _, _ => rfl
  | [], _ :: _, h, _, _ => by cases h
  | _ :: _, [], h, _, _ => by cases h
  | a :: xs, b :: ys, h, h1, h2 => by
    simp only [covAll, Bool.and_eq_true] at h1 h2
    rw [cov_antisymm h1.1 h2.1, covAll_antisymm xs ys (by simpa using h) h1.2 h2.2]
theorem covAll_glb : ∀ (xs ys ws : List Str), okR xs ys = true → (covAll (zipR xs ys) ws = true ↔ covAll xs ws = true ∧ covAll ys ws = true)
  | [], ys, ws, _ => by
    have : covAll [] ws = true := by cases ws <;> rfl
    simp [zipR, this]
  | a :: xs, [], ws, _ => by
    have : covAll [] ws = true := by cases ws <;> rfl
    simp [zipR, this]
  | a :: xs, b :: ys, [], _ => by simp [covAll_nil]
  | a :: xs, b :: ys, c :: ws, h => by
    simp only [okR, Bool.and_eq_true] at h
    simp only [zipR, covAll, Bool.and_eq_true]
    rw [meetW_glb h.1, covAll_glb xs ys ws h.2]
    constructor
    · rintro ⟨⟨a, b⟩, c, d⟩; exact ⟨⟨a, c⟩, b, d⟩
    · rintro ⟨⟨a, c⟩, b, d⟩; exact ⟨⟨a, b⟩, c, d⟩
theorem okR_lam : ∀ (xs ys ws : List Str), xs.length ≤ ws.length → ys.length ≤ ws.length → covAll xs ws = true → covAll ys ws = true → okR xs ys = true
  | [], ys, ws, _, _, _, _ => by cases ys <;> rfl
  | a :: xs, [], ws, _, _, _, _ => rfl
  | a :: xs, b :: ys, [], h, _, _, _ => by simp at h
  | a :: xs, b :: ys, c :: ws, h, h', h1, h2 => by
    simp only [covAll, Bool.and_eq_true] at h1 h2
    simp only [okR, Bool.and_eq_true]
    exact ⟨cov_lam h1.1 h2.1, okR_lam xs ys ws (by simpa using h) (by simpa using h') h1.2 h2.2⟩

/-! ### Patterns -/
def covX (x y : Pat) : Bool := (coversX x y).1
theorem covX_iff {x y : Pat} : covX x y = true ↔ cov x.c y.c = true ∧ x.ps.length ≤ y.ps.length ∧ (x.ps.length < y.ps.length → x.t = true) ∧ (y.t = true → x.t = true) ∧ covAll x.ps y.ps = true := by
  unfold covX
  rw [coversX_1]
  simp only [Bool.and_eq_true, Bool.not_eq_true', Bool.or_eq_false_iff, decide_eq_false_iff_not, Bool.and_eq_false_iff, Bool.not_eq_false', Nat.not_lt]
  constructor
  · rintro ⟨⟨⟨h1, h2, h3⟩, h4⟩, h5⟩
    refine ⟨h1, h2, fun h => ?_, fun h => ?_, h5⟩
    · rcases h3 with h3 | h3
      · omega
      · simpa using h3
    · rcases h4 with h4 | h4
      · rw [h] at h4; cases h4
      · simpa using h4
  · rintro ⟨h1, h2, h3, h4, h5⟩
    refine ⟨⟨⟨h1, h2, ?_⟩, ?_⟩, h5⟩
    · by_cases h : x.ps.length < y.ps.length
      · right; simpa using h3 h
      · left; omega
    · cases hy : y.t
      · left; rfl
      · right; simpa using h4 hy
theorem commonR_iff {x y z : Pat} : commonR x y = some z ↔ meetOK x.c y.c = true ∧ (x.ps.length < y.ps.length → x.t = true) ∧ (y.ps.length < x.ps.length → y.t = true) ∧ okR x.ps y.ps = true ∧ z = ⟨meetW x.c y.c, zipR x.ps y.ps, x.t && y.t⟩ := by
  unfold commonR
  constructor
  · intro h
    split at h
    · cases h
    · rename_i hc
      obtain rfl := Option.some.inj h
      simp only [Bool.or_eq_true, Bool.not_eq_true', Bool.and_eq_true, decide_eq_true_eq, not_or, not_and, Bool.not_eq_false] at hc
      exact ⟨hc.1.1.1, hc.1.1.2, hc.1.2, hc.2, rfl⟩
  · rintro ⟨h1, h2, h3, h4, rfl⟩
    rw [if_neg]
    simp only [Bool.or_eq_true, Bool.not_eq_true', Bool.and_eq_true, decide_eq_true_eq, not_or, not_and, Bool.not_eq_false]
    exact ⟨⟨⟨h1, h2⟩, h3⟩, h4⟩
theorem covX_refl (x : Pat) : covX x x = true := covX_iff.2 ⟨cov_refl _, Nat.le_refl _, fun h => by omega, fun h => h, covAll_refl _⟩
theorem covX_trans {x y z : Pat} (h1 : covX x y = true) (h2 : covX y z = true) : covX x z = true := by
  rw [covX_iff] at h1 h2 ⊢
  obtain ⟨a1, a2, a3, a4, a5⟩ := h1
  obtain ⟨b1, b2, b3, b4, b5⟩ := h2
  refine ⟨cov_trans a1 b1, by omega, fun h => ?_, fun h => a4 (b4 h), covAll_trans _ _ _ a2 a5 b5⟩
  by_cases h3 : x.ps.length < y.ps.length
  · exact a3 h3
  · exact a4 (b3 (by omega))
theorem covX_antisymm {x y : Pat} (h1 : covX x y = true) (h2 : covX y x = true) : x = y := by
  rw [covX_iff] at h1 h2
  obtain ⟨a1, a2, a3, a4, a5⟩ := h1
  obtain ⟨b1, b2, b3, b4, b5⟩ := h2
  obtain ⟨c, ps, t⟩ := x
  obtain ⟨c', ps', t'⟩ := y
  simp only at a1 a2 a3 a4 a5 b1 b2 b3 b4 b5
  obtain rfl := cov_antisymm a1 b1
  obtain rfl := covAll_antisymm ps ps' (by omega) a5 b5
  have : t = t' := by cases t <;> cases t' <;> simp at a4 b4 ⊢
  rw [this]
theorem common_glb {x y z w : Pat} (h : commonR x y = some z) : covX z w = true ↔ covX x w = true ∧ covX y w = true := by
  obtain ⟨m1, m2, m3, m4, rfl⟩ := commonR_iff.1 h
  rw [covX_iff, covX_iff, covX_iff]
  simp only [zipR_length, meetW_glb m1, covAll_glb _ _ _ m4, Bool.and_eq_true]
  constructor
  · rintro ⟨⟨a1, a2⟩, b, c, d, e1, e2⟩
    exact ⟨⟨a1, by omega, fun h => (by
      by_cases h2 : x.ps.length < y.ps.length
      · exact m2 h2
      · exact (c (by omega)).1), fun h => (d h).1, e1⟩, ⟨a2, by omega, fun h => (by
      by_cases h2 : y.ps.length < x.ps.length
      · exact m3 h2
      · exact (c (by omega)).2), fun h => (d h).2, e2⟩⟩
  · rintro ⟨⟨a1, a2, a3, a4, a5⟩, b1, b2, b3, b4, b5⟩
    exact ⟨⟨a1, b1⟩, by omega, fun h => ⟨a3 (by omega), b3 (by omega)⟩, fun h => ⟨a4 h, b4 h⟩, a5, b5⟩
theorem common_lam {x y w : Pat} (h1 : covX x w = true) (h2 : covX y w = true) : ∃ z, commonR x y = some z := by
  rw [covX_iff] at h1 h2
  obtain ⟨a1, a2, a3, a4, a5⟩ := h1
  obtain ⟨b1, b2, b3, b4, b5⟩ := h2
  exact ⟨_, commonR_iff.2 ⟨cov_lam a1 b1, fun h => a3 (by omega), fun h => b3 (by omega), okR_lam _ _ _ a2 b2 a5 b5, rfl⟩⟩
theorem common_assoc {x y z u v : Pat} (h1 : commonR x y = some u) (h2 : commonR u z = some v) : ∃ u', commonR y z = some u' ∧ commonR x u' = some v := by
  have v1 := (common_glb h2).1 (covX_refl v)
  have v2 := (common_glb h1).1 v1.1
  obtain ⟨u', g1⟩ := common_lam v2.2 v1.2
  obtain ⟨v', g2⟩ := common_lam v2.1 ((common_glb g1).2 ⟨v2.2, v1.2⟩)
  have w1 := (common_glb g2).1 (covX_refl v')
  have w2 := (common_glb g1).1 w1.2
  have e : v = v' := covX_antisymm ((common_glb h2).2 ⟨(common_glb h1).2 ⟨w1.1, w2.1⟩, w2.2⟩) ((common_glb g2).2 ⟨v2.1, (common_glb g1).2 ⟨v2.2, v1.2⟩⟩)
  exact ⟨u', g1, by rw [g2, e]⟩
theorem common_assoc' {x y z u v : Pat} (h1 : commonR y z = some u) (h2 : commonR x u = some v) : ∃ u', commonR x y = some u' ∧ commonR u' z = some v := by
  rw [commonR_comm] at h1 h2
  obtain ⟨u', g1, g2⟩ := common_assoc h1 h2
  exact ⟨u', by rw [commonR_comm]; exact g1, by rw [commonR_comm]; exact g2⟩

/-! ### Writing and reading back -/
def PatV (p : Pat) : Prop := (p.c = [42] ∨ name p.c = true) ∧ (∀ w ∈ p.ps, part w = true) ∧ p.ps.length + (if p.t then 1 else 0) ≤ 32
theorem compParts_len : ∀ (r : List Str) (ps : List Str) (t : Bool), compParts r = some (ps, t) → ps.length + (if t then 1 else 0) = r.length
  | [], ps, t, h => by
    obtain ⟨rfl, rfl⟩ : [] = ps ∧ false = t := by simpa [compParts] using h
    rfl
  | [w], ps, t, h => by
    simp only [compParts] at h
    split at h
    · obtain ⟨rfl, rfl⟩ : [] = ps ∧ true = t := by simpa using h
      rfl
    · split at h
      · obtain ⟨rfl, rfl⟩ : [w] = ps ∧ false = t := by simpa using h
        rfl
      · cases h
  | w :: v :: r, ps, t, h => by
    simp only [compParts] at h
    split at h
    · rw [Option.map_eq_some_iff] at h
      obtain ⟨⟨ps1, t1⟩, h1, h2⟩ := h
      obtain ⟨rfl, rfl⟩ : w :: ps1 = ps ∧ t1 = t := by simpa using h2
      have := compParts_len (v :: r) ps1 t1 h1
      simp at this ⊢; omega
    · cases h
theorem compile_V {l : Str} {p : Pat} (h : compile l = some p) : PatV p := by
  unfold compile at h
  split at h
  · cases h
  · rename_i c r hsp
    split at h
    · rename_i hc
      rw [Option.map_eq_some_iff] at h
      obtain ⟨⟨ps, t⟩, h1, rfl⟩ := h
      simp only [Bool.and_eq_true, Bool.or_eq_true, decide_eq_true_eq, beq_iff_eq] at hc
      have h3 := compParts_mem r ps t h1
      have h4 := compParts_len r ps t h1
      exact ⟨hc.1, fun w hw => (h3.2 w hw).2, by show ps.length + (if t then 1 else 0) ≤ 32; omega⟩
    · cases h
theorem common_V {x y z : Pat} (h : commonR x y = some z) (hx : PatV x) (hy : PatV y) : PatV z := by
  obtain ⟨m1, m2, m3, m4, rfl⟩ := commonR_iff.1 h
  obtain ⟨x1, x2, x3⟩ := hx
  obtain ⟨y1, y2, y3⟩ := hy
  refine ⟨?_, fun w hw => ?_, ?_⟩
  · show meetW x.c y.c = [42] ∨ name (meetW x.c y.c) = true
    rcases meetW_mem x.c y.c with h | h <;> rw [h] <;> assumption
  · rcases zipR_mem _ _ w hw with h | h
    · exact x2 w h
    · exact y2 w h
  · show (zipR x.ps y.ps).length + (if (x.t && y.t) = true then 1 else 0) ≤ 32
    rw [zipR_length]
    cases hx : x.t <;> cases hy : y.t <;> simp [hx, hy] at x3 y3 ⊢ <;> omega
theorem word_slash {w : Str} (h : word w = true) : ∀ a ∈ w, a ≠ 47 := by
  unfold word at h
  simp only [Bool.and_eq_true, List.all_eq_true] at h
  intro a ha e
  have := h.2 a ha
  rw [e] at this
  exact absurd this (by decide)
theorem part_slash {w : Str} (h : part w = true) : ∀ a ∈ w, a ≠ 47 := by
  unfold part at h
  simp only [Bool.or_eq_true, Bool.and_eq_true, beq_iff_eq, decide_eq_true_eq] at h
  rcases h with (h | h) | ⟨⟨h1, h2⟩, h3⟩
  · subst h; simp
  · exact word_slash h
  · unfold starDot at h2
    simp only [Bool.and_eq_true, decide_eq_true_eq, beq_iff_eq] at h2
    have e : w = [42, 46] ++ w.drop 2 := by rw [← h2.2, List.take_append_drop]
    intro a ha
    rw [e, List.mem_append] at ha
    rcases ha with ha | ha
    · rcases List.mem_cons.1 ha with rfl | ha
      · decide
      · obtain rfl := List.mem_singleton.1 ha; decide
    · exact word_slash h3 a ha
theorem splitL_join : ∀ (ws : List Str), ws ≠ [] → (∀ w ∈ ws, ∀ a ∈ w, a ≠ 47) → splitL 47 (joinL ws [47]) = ws
  | [], h, _ => absurd rfl h
  | [w], _, h => by
    have : joinL [w] [47] = w := Lib.join_one w [47]
    rw [this, splitL_none (h w (List.mem_singleton.2 rfl))]
  | w :: v :: r, _, h => by
    have : joinL (w :: v :: r) [47] = w ++ 47 :: joinL (v :: r) [47] := by simp [joinL, Lib.join, List.intercalate, List.intersperse]
    rw [this, splitL_at (h w (List.mem_cons_self ..)), splitL_join (v :: r) (by simp) fun x hx => h x (List.mem_cons_of_mem _ hx)]
theorem compParts_back (t : Bool) : ∀ (ps : List Str), (∀ w ∈ ps, part w = true) → compParts (ps ++ if t then [[42, 42]] else []) = some (ps, t)
  | [], _ => by cases t <;> rfl
  | [w], h => by
    have hw := h w (List.mem_singleton.2 rfl)
    have h2 : (w == [42, 42]) = false := by
      rw [Bool.eq_false_iff]; intro e
      rw [beq_iff_eq] at e; rw [e, part42] at hw; cases hw
    cases t
    · simp [compParts, h2, hw]
    · simp [compParts, hw]
  | w :: v :: r, h => by
    have hw := h w (List.mem_cons_self ..)
    have ih := compParts_back t (v :: r) fun x hx => h x (List.mem_cons_of_mem _ hx)
    rw [List.cons_append] at ih
    simp only [List.cons_append, compParts, hw, if_true, ih, Option.map_some]
theorem compile_patStr {p : Pat} (h : PatV p) : compile (patStr p) = some p := by
  obtain ⟨h1, h2, h3⟩ := h
  have hs : splitL 47 (patStr p) = p.c :: (p.ps ++ if p.t then [[42, 42]] else []) := by
    unfold patStr
    refine splitL_join _ (by simp) fun w hw => ?_
    rcases List.mem_cons.1 hw with rfl | hw
    · rcases h1 with h1 | h1
      · rw [h1]; simp
      · exact word_slash (name_word h1)
    · rcases List.mem_append.1 hw with hw | hw
      · exact part_slash (h2 w hw)
      · cases ht : p.t
        · rw [ht] at hw; simp at hw
        · rw [ht] at hw; simp at hw; subst hw; simp
  have hl : (p.ps ++ if p.t then [[42, 42]] else []).length ≤ 32 := by
    rw [List.length_append]
    cases ht : p.t <;> rw [ht] at h3 <;> simpa using h3
  unfold compile
  rw [hs]
  have hc : ((p.c == [42] || name p.c) && decide ((p.ps ++ if p.t then [[42, 42]] else []).length ≤ 32)) = true := by
    rw [decide_eq_true hl, Bool.and_true, Bool.or_eq_true, beq_iff_eq]; exact h1
  simp only [hc, if_true, compParts_back p.t p.ps h2, Option.map_some]
theorem patStr_ne {p : Pat} (h : PatV p) : patStr p ≠ [] := by
  intro e
  have := compile_patStr h
  rw [e] at this
  exact absurd this (by simp [compile, splitL, name, word])
end Go.Proofs.YtcjgmffbebjddaaGreatDoor
