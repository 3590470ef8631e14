/- Lists of what is allowed, uses, and conditions: Meet is associative; what is within both is within their Meet; Within is transitive. -/
import Derived.Test.YtcjgmffbebjddaaGreatDoorPlP
set_option linter.all false
namespace Go.Proofs.YtcjgmffbebjddaaGreatDoor
open Go Go.Eng

/-! ### Lists -/
section
variable {α : Type} [BEq α] [LawfulBEq α]
theorem bothG_nilL (ys : List α) : bothG [] ys = (ys, true) := by rw [bothG_eq]; rfl
theorem bothG_nilR (xs : List α) : bothG xs [] = (xs, true) := by
  rw [bothG_eq]
  cases xs <;> rfl
theorem bothG_two {xs ys : List α} (hx : xs ≠ []) (hy : ys ≠ []) : bothG xs ys = (xs.filter fun x => ys.contains x, !(xs.filter fun x => ys.contains x).isEmpty) := by
  rw [bothG_eq]
  cases xs with
  | nil => exact absurd rfl hx
  | cons a xs => cases ys with
    | nil => exact absurd rfl hy
    | cons b ys => rfl
theorem filter_both (xs ys zs : List α) : (xs.filter fun x => ys.contains x).filter (fun x => zs.contains x) = xs.filter fun x => (ys.filter fun x => zs.contains x).contains x := by
  rw [List.filter_filter]
  congr 1
  funext a
  rw [Bool.eq_iff_iff]
  simp only [Bool.and_eq_true, List.contains_iff_mem, List.mem_filter]
  exact And.comm
theorem not_empty {l : List α} : (!l.isEmpty) = true ↔ l ≠ [] := by cases l <;> simp
theorem filter_ne {l : List α} {p : α → Bool} (h : l.filter p ≠ []) : l ≠ [] := by intro e; rw [e] at h; exact h rfl
theorem bothG_assoc (x y z : List α) : ((bothG x y).2 = true ∧ (bothG (bothG x y).1 z).2 = true ↔ (bothG y z).2 = true ∧ (bothG x (bothG y z).1).2 = true) ∧
    ((bothG x y).2 = true → (bothG (bothG x y).1 z).2 = true → (bothG (bothG x y).1 z).1 = (bothG x (bothG y z).1).1) := by
  by_cases hx : x = []
  · subst hx
    simp only [bothG_nilL]
    simp
  by_cases hy : y = []
  · subst hy
    simp only [bothG_nilL, bothG_nilR]
    simp
  by_cases hz : z = []
  · subst hz
    simp only [bothG_nilR]
    simp
  rw [bothG_two hx hy, bothG_two hy hz]
  simp only [not_empty]
  by_cases h1 : (x.filter fun a => y.contains a) = []
  · have h2 : ∀ g : (y.filter fun a => z.contains a) ≠ [], (x.filter fun a => (y.filter fun a => z.contains a).contains a) = [] := fun g => by rw [← filter_both, h1]; rfl
    refine ⟨⟨fun h => absurd h1 h.1, fun h => ?_⟩, fun h => absurd h1 h⟩
    rw [bothG_two hx h.1] at h
    have := not_empty.1 h.2
    exact absurd (h2 h.1) this
  · rw [bothG_two h1 hz]
    simp only [not_empty, filter_both]
    have key : (x.filter fun a => (y.filter fun a => z.contains a).contains a) ≠ [] → (y.filter fun a => z.contains a) ≠ [] := by
      intro h e
      rw [e] at h
      apply h
      rw [List.filter_eq_nil_iff]
      intro a _; simp
    constructor
    · constructor
      · rintro ⟨_, h⟩
        refine ⟨key h, ?_⟩
        rw [bothG_two hx (key h)]; exact not_empty.2 h
      · rintro ⟨h, h'⟩
        rw [bothG_two hx h] at h'
        exact ⟨h1, not_empty.1 h'⟩
    · intro _ h
      rw [bothG_two hx (key h)]
theorem allows_both {x y : List α} (h : (bothG x y).2 = true) (a : α) : allowsG (bothG x y).1 a = (allowsG x a && allowsG y a) := by
  by_cases hx : x = []
  · subst hx; simp [bothG_nilL, allowsG]
  by_cases hy : y = []
  · subst hy; simp [bothG_nilR, allowsG]
  rw [bothG_two hx hy] at h ⊢
  have h1 := not_empty.1 h
  have e : ∀ l : List α, l ≠ [] → l.isEmpty = false := fun l h => by cases l <;> simp_all
  unfold allowsG
  rw [e _ h1, e _ hx, e _ hy, Bool.eq_iff_iff]
  simp [List.mem_filter]
theorem both_mem {x y : List α} {a : α} (h : a ∈ (bothG x y).1) : a ∈ x ∨ a ∈ y := by
  by_cases hx : x = []
  · subst hx; rw [bothG_nilL] at h; exact .inr h
  by_cases hy : y = []
  · subst hy; rw [bothG_nilR] at h; exact .inl h
  rw [bothG_two hx hy] at h
  exact .inl (List.mem_filter.1 h).1
theorem noneOut_iff {all x y : List α} : noneOut all x y = true ↔ ∀ a ∈ (if x.isEmpty then all else x), allowsG y a = true := by
  unfold noneOut outG
  rw [Option.isNone_iff_eq_none, List.find?_eq_none]
  simp
theorem noneOut_glb {all c x y : List α} (h : (bothG x y).2 = true) : noneOut all c (bothG x y).1 = (noneOut all c x && noneOut all c y) := by
  rw [Bool.eq_iff_iff, Bool.and_eq_true, noneOut_iff, noneOut_iff, noneOut_iff]
  simp only [allows_both h, Bool.and_eq_true]
  exact ⟨fun h => ⟨fun a ha => (h a ha).1, fun a ha => (h a ha).2⟩, fun h a ha => ⟨h.1 a ha, h.2 a ha⟩⟩
theorem noneOut_lam {all c x y : List α} (ha : all ≠ []) (h1 : noneOut all c x = true) (h2 : noneOut all c y = true) : (bothG x y).2 = true := by
  rw [noneOut_iff] at h1 h2
  by_cases hx : x = []
  · subst hx; rw [bothG_nilL]
  by_cases hy : y = []
  · subst hy; rw [bothG_nilR]
  rw [bothG_two hx hy]
  refine not_empty.2 ?_
  have hb : (if c.isEmpty then all else c) ≠ [] := by
    cases c with
    | nil => simpa using ha
    | cons a c => simp
  obtain ⟨a, l, e⟩ := List.exists_cons_of_ne_nil hb
  have k1 := h1 a (by rw [e]; exact List.mem_cons_self ..)
  have k2 := h2 a (by rw [e]; exact List.mem_cons_self ..)
  have e2 : ∀ l : List α, l ≠ [] → l.isEmpty = false := fun l h => by cases l <;> simp_all
  unfold allowsG at k1 k2
  rw [e2 _ hx, Bool.false_or, List.contains_iff_mem] at k1
  rw [e2 _ hy, Bool.false_or] at k2
  intro e3
  have : a ∈ x.filter fun a => y.contains a := List.mem_filter.2 ⟨k1, k2⟩
  rw [e3] at this; cases this
theorem asc_pair {le : α → α → Bool} (tr : ∀ a b c, le b a = false → le c b = false → le c a = false) : ∀ (l : List α), ascG le l = true ↔ l.Pairwise fun a b => le b a = false
  | [] => by simp [ascG]
  | [a] => by simp [ascG]
  | a :: b :: r => by
    have ih := asc_pair tr (b :: r)
    simp only [ascG, Bool.and_eq_true, ih, Bool.not_eq_true']
    rw [List.pairwise_cons (a := a)]
    constructor
    · rintro ⟨h1, h2⟩
      refine ⟨fun c hc => ?_, h2⟩
      rcases List.mem_cons.1 hc with rfl | hc
      · exact h1
      · exact tr _ _ _ h1 ((List.pairwise_cons.1 h2).1 c hc)
    · rintro ⟨h1, h2⟩
      exact ⟨h1 b (List.mem_cons_self ..), h2⟩
theorem asc_both {le : α → α → Bool} (tr : ∀ a b c, le b a = false → le c b = false → le c a = false) {x y : List α} (hx : ascG le x = true) (hy : ascG le y = true) : ascG le (bothG x y).1 = true := by
  by_cases h1 : x = []
  · subst h1; rw [bothG_nilL]; exact hy
  by_cases h2 : y = []
  · subst h2; rw [bothG_nilR]; exact hx
  rw [bothG_two h1 h2]
  rw [asc_pair tr] at hx ⊢
  exact hx.filter _
end

theorem leI_tr (a b c : Int) (h1 : leI b a = false) (h2 : leI c b = false) : leI c a = false := by
  unfold leI at *
  simp only [decide_eq_false_iff_not] at *
  omega
theorem bl_cons (a b : UInt8) (x y : Str) : Op.bytesLess (a :: x) (b :: y) = (decide (a < b) || (a == b && Op.bytesLess x y)) := by
  rw [Op.bytesLess]
theorem leS_cons (a b : UInt8) (x y : Str) : leS (a :: x) (b :: y) = false ↔ b < a ∨ (a = b ∧ leS x y = false) := by
  unfold leS
  rw [bl_cons]
  simp only [Bool.or_eq_false_iff, decide_eq_false_iff_not, Bool.and_eq_false_iff, beq_eq_false_iff_ne, UInt8.not_lt, ne_eq, List.cons.injEq, not_and]
  constructor
  · rintro ⟨⟨h1, h2⟩, h3⟩
    by_cases h : a = b
    · right
      refine ⟨h, ?_, h3 h⟩
      rcases h2 with h2 | h2
      · exact absurd h h2
      · exact h2
    · left
      rcases UInt8.lt_or_eq_of_le h1 with h4 | h4
      · exact h4
      · exact absurd h4.symm h
  · rintro (h | ⟨h, h1, h2⟩)
    · have hne : a ≠ b := fun e => by rw [e] at h; exact absurd h (UInt8.lt_irrefl _)
      exact ⟨⟨UInt8.le_of_lt h, .inl hne⟩, fun e => absurd e hne⟩
    · subst h
      exact ⟨⟨UInt8.le_refl _, .inr h1⟩, fun _ => h2⟩
theorem leS_tr : ∀ (a b c : Str), leS b a = false → leS c b = false → leS c a = false
  | a, b, [], _, h => by
    exfalso
    cases b <;> simp [leS, Op.bytesLess] at h
  | a, [], c :: z, h, _ => by
    exfalso
    cases a <;> simp [leS, Op.bytesLess] at h
  | [], b :: y, c :: z, _, _ => by simp [leS, Op.bytesLess]
  | a :: x, b :: y, c :: z, h1, h2 => by
    rw [leS_cons] at h1 h2 ⊢
    rcases h1 with h1 | ⟨rfl, h1⟩
    · rcases h2 with h2 | ⟨rfl, h2⟩
      · exact .inl (UInt8.lt_trans h1 h2)
      · exact .inl h1
    · rcases h2 with h2 | ⟨rfl, h2⟩
      · exact .inl h2
      · exact .inr ⟨rfl, leS_tr x y z h1 h2⟩

/-! ### Patterns of conditions -/
def PV (p : Str) : Prop := p = [] ∨ ∃ x, compile p = some x
theorem compile_nil : compile [] = none := by simp [compile, splitL, name, word]
theorem comp_ne {p : Str} {x : Pat} (h : compile p = some x) : p ≠ [] := by
  intro e; rw [e, compile_nil] at h; cases h
theorem patM_nilL (q : Str) : patM [] q = (q, true) := by unfold patM; rw [if_pos rfl]
theorem patM_nilR (p : Str) : patM p [] = (p, true) := by
  unfold patM
  by_cases h : p = []
  · subst h; rfl
  · rw [if_neg h, if_pos rfl]
theorem patM_two {p q : Str} {x y : Pat} (h1 : compile p = some x) (h2 : compile q = some y) : patM p q = match commonR x y with
    | some z => (patStr z, true)
    | none => ([], false) := by
  unfold patM bothR
  rw [if_neg (comp_ne h1), if_neg (comp_ne h2), h1, h2]
  dsimp only
  generalize commonR x y = o
  cases o <;> rfl
theorem patM_V {p q : Str} (hp : PV p) (hq : PV q) : PV (patM p q).1 := by
  rcases hp with rfl | ⟨x, hx⟩
  · rw [patM_nilL]; exact hq
  rcases hq with rfl | ⟨y, hy⟩
  · rw [patM_nilR]; exact .inr ⟨x, hx⟩
  rw [patM_two hx hy]
  cases h : commonR x y with
  | none => exact .inl rfl
  | some z => exact .inr ⟨z, compile_patStr (common_V h (compile_V hx) (compile_V hy))⟩
theorem patM_assoc {p q r : Str} (hp : PV p) (hq : PV q) (hr : PV r) : ((patM p q).2 = true ∧ (patM (patM p q).1 r).2 = true ↔ (patM q r).2 = true ∧ (patM p (patM q r).1).2 = true) ∧
    ((patM p q).2 = true → (patM (patM p q).1 r).2 = true → (patM (patM p q).1 r).1 = (patM p (patM q r).1).1) := by
  rcases hp with rfl | ⟨x, hx⟩
  · simp only [patM_nilL]; simp
  rcases hq with rfl | ⟨y, hy⟩
  · simp only [patM_nilL, patM_nilR]; simp
  rcases hr with rfl | ⟨z, hz⟩
  · simp only [patM_nilR]; simp
  have vx := compile_V hx
  have vy := compile_V hy
  have vz := compile_V hz
  rw [patM_two hx hy, patM_two hy hz]
  cases h1 : commonR x y with
  | none =>
    cases h2 : commonR y z with
    | none => simp
    | some u' =>
      have e := compile_patStr (common_V h2 vy vz)
      refine ⟨⟨fun h => absurd h.1 (by simp), fun h => ?_⟩, fun h => absurd h (by simp)⟩
      have h3 := h.2
      simp only [patM_two hx e] at h3
      cases h4 : commonR x u' with
      | none => rw [h4] at h3; cases h3
      | some v =>
        obtain ⟨u, g1, _⟩ := common_assoc' h2 h4
        rw [h1] at g1; cases g1
  | some u =>
    have eu := compile_patStr (common_V h1 vx vy)
    simp only [patM_two eu hz]
    cases h2 : commonR u z with
    | none =>
      refine ⟨⟨fun h => absurd h.2 (by simp), fun h => ?_⟩, fun _ h => absurd h (by simp)⟩
      cases h3 : commonR y z with
      | none => rw [h3] at h; exact absurd h.1 (by simp)
      | some u' =>
        rw [h3] at h
        have e := compile_patStr (common_V h3 vy vz)
        have h4 := h.2
        simp only [patM_two hx e] at h4
        cases h5 : commonR x u' with
        | none => rw [h5] at h4; cases h4
        | some v =>
          obtain ⟨u2, g1, g2⟩ := common_assoc' h3 h5
          rw [h1] at g1
          obtain rfl := Option.some.inj g1
          rw [h2] at g2; cases g2
    | some v =>
      obtain ⟨u', g1, g2⟩ := common_assoc h1 h2
      have e := compile_patStr (common_V g1 vy vz)
      simp only [g1, patM_two hx e, g2]
      simp
theorem part_len {w : Str} (h : part w = true) : w.length ≤ 64 := by
  unfold part at h
  simp only [Bool.or_eq_true, Bool.and_eq_true, beq_iff_eq, decide_eq_true_eq] at h
  rcases h with (h | h) | ⟨⟨h1, h2⟩, h3⟩
  · subst h; simp
  · unfold word at h
    simp only [Bool.and_eq_true, decide_eq_true_eq] at h
    exact h.1.1.1.2
  · omega
theorem patStr_len {p : Pat} (h : PatV p) : (patStr p).length ≤ 1000000 := by
  obtain ⟨h1, h2, h3⟩ := h
  have hc : p.c.length ≤ 64 := by
    rcases h1 with h1 | h1
    · rw [h1]; simp
    · have := name_word h1
      unfold word at this
      simp only [Bool.and_eq_true, decide_eq_true_eq] at this
      exact this.1.1.1.2
  have hw : ∀ w ∈ (p.ps ++ if p.t then [[42, 42]] else []), w.length ≤ 64 := by
    intro w hw
    rcases List.mem_append.1 hw with hw | hw
    · exact part_len (h2 w hw)
    · cases ht : p.t
      · rw [ht] at hw; simp at hw
      · rw [ht] at hw; simp at hw; subst hw; simp
  have hl : (p.ps ++ if p.t then [[42, 42]] else []).length ≤ 32 := by
    rw [List.length_append]
    cases ht : p.t <;> rw [ht] at h3 <;> simpa using h3
  unfold patStr
  rw [joinL_cons]
  have s := sum_le 64 [47] _ hw
  have s2 : (p.ps ++ if p.t then [[42, 42]] else []).length * (([47] : Str).length + 64) ≤ 32 * (1 + 64) := Nat.mul_le_mul hl (by simp)
  omega
theorem patM_len {p q : Str} (hp : PV p) (hq : PV q) (lp : p.length ≤ 1000000) (lq : q.length ≤ 1000000) : (patM p q).1.length ≤ 1000000 := by
  rcases hp with rfl | ⟨x, hx⟩
  · rw [patM_nilL]; exact lq
  rcases hq with rfl | ⟨y, hy⟩
  · rw [patM_nilR]; exact lp
  rw [patM_two hx hy]
  cases h : commonR x y with
  | none => simp
  | some z => exact patStr_len (common_V h (compile_V hx) (compile_V hy))
end Go.Proofs.YtcjgmffbebjddaaGreatDoor
