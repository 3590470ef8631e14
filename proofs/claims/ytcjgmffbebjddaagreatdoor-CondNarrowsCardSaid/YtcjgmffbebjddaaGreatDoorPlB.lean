/- Splitting and patterns: what the natives compute. -/
import Derived.Test.YtcjgmffbebjddaaGreatDoorPlA
set_option linter.all false
namespace Go.Proofs.YtcjgmffbebjddaaGreatDoor
open Go Go.Eng

/-! ### Splitting -/
def splitL (c : UInt8) : Str → List Str
  | [] => [[]]
  | a :: r => if a == c then [] :: splitL c r else match splitL c r with
    | [] => [[a]]
    | h :: t => (a :: h) :: t

theorem splitL_ne (c : UInt8) (l : Str) : splitL c l ≠ [] := by
  cases l with
  | nil => simp [splitL]
  | cons a r =>
    simp only [splitL]
    split
    · simp
    · split <;> simp

theorem splitL_none {c : UInt8} {p : Str} (h : ∀ a ∈ p, a ≠ c) : splitL c p = [p] := by
  induction p with
  | nil => rfl
  | cons a r ih =>
    have h1 : a ≠ c := h a (List.mem_cons_self ..)
    simp [splitL, h1, ih fun x hx => h x (List.mem_cons_of_mem _ hx)]

theorem splitL_at {c : UInt8} {p r : Str} (h : ∀ a ∈ p, a ≠ c) : splitL c (p ++ c :: r) = p :: splitL c r := by
  induction p with
  | nil => simp [splitL]
  | cons a s ih =>
    have h1 : a ≠ c := h a (List.mem_cons_self ..)
    simp [splitL, h1, ih fun x hx => h x (List.mem_cons_of_mem _ hx)]

theorem idx_split {l : Str} {c : UInt8} (h : c ∈ l) : ∃ k, idxI l c = (k : Nat) ∧ k < l.length ∧ splitL c l = l.take k :: splitL c (l.drop (k + 1)) ∧ (l.drop (k + 1)).count c + 1 = l.count c := by
  have h2 : l.idxOf c < l.length := List.idxOf_lt_length_of_mem h
  refine ⟨l.idxOf c, ?_, h2, ?_, ?_⟩
  · have : l.idxOf? c = some (l.idxOf c) := by
      rw [List.idxOf?_eq_some_iff]
      refine ⟨h2, ?_, fun j hj => ?_⟩
      · simp
      · have := List.not_of_lt_findIdx (p := (· == c)) (xs := l) hj
        simpa using this
    simp [idxI, this]
  · have e : l = l.take (l.idxOf c) ++ c :: l.drop (l.idxOf c + 1) := by
      have := List.drop_eq_getElem_cons h2
      rw [List.getElem_idxOf h2] at this
      rw [← this, List.take_append_drop]
    have hn : ∀ a ∈ l.take (l.idxOf c), a ≠ c := fun a ha => by
      obtain ⟨j, hj⟩ := List.mem_iff_getElem?.1 ha
      obtain ⟨h3, h4⟩ := List.getElem?_eq_some_iff.1 hj
      have h5 : j < l.idxOf c := by simp at h3; omega
      have := List.not_of_lt_findIdx (p := (· == c)) (xs := l) h5
      rw [List.getElem_take] at h4
      rw [← h4]
      simpa using this
    have := splitL_at (r := l.drop (l.idxOf c + 1)) hn
    rw [← e] at this
    exact this
  · have e : l = l.take (l.idxOf c) ++ c :: l.drop (l.idxOf c + 1) := by
      have := List.drop_eq_getElem_cons h2
      rw [List.getElem_idxOf h2] at this
      rw [← this, List.take_append_drop]
    have h0 : (l.take (l.idxOf c)).count c = 0 := by
      rw [List.count_eq_zero]
      intro ha
      obtain ⟨j, hj⟩ := List.mem_iff_getElem?.1 ha
      obtain ⟨h3, h4⟩ := List.getElem?_eq_some_iff.1 hj
      have h5 : j < l.idxOf c := by simp at h3; omega
      have := List.not_of_lt_findIdx (p := (· == c)) (xs := l) h5
      rw [List.getElem_take] at h4
      simp [h4] at this
    have h6 := congrArg (List.count c) e
    rw [List.count_append, List.count_cons_self, h0] at h6
    omega

theorem set_fill {α : Type} (a : List α) (z x : α) (k : Nat) : (a ++ List.replicate (k + 1) z).set a.length x = (a ++ [x]) ++ List.replicate k z := by
  induction a with
  | nil => simp [List.replicate_succ]
  | cons b a ih => simpa using ih

theorem genSplit_L11 (fu : Nat) (c : UInt8) : ∀ (n : Nat) (l : Str) (ls : List Str) (K : Nat), l.length ≤ 1000000 → K ≤ 1000000 → l.count c < n → K = ls.length + l.count c →
    ∃ pre last, splitL c l = pre ++ [last] ∧ pre.length = l.count c ∧
      strings_genSplit_L11 fu n (bs l) (bs [c]) 0 (K : Int) (ls.map dB ++ List.replicate (l.count c + 1) (dB [])) (ls.length : Nat) = some ((), (bs last, (ls ++ pre).map dB ++ [dB []], (K : Int), ())) := by
  intro n
  induction n with
  | zero => intro l ls K h1 h2 h3 h4; omega
  | succ n ih =>
    intro l ls K h1 h2 h3 h4
    rw [strings_genSplit_L11]
    by_cases hc : c ∈ l
    · obtain ⟨k, k1, k2, k3, k4⟩ := idx_split hc
      have e1 : decide (((ls.length : Nat) : Int) < (K : Int)) = true := by simp; omega
      have e2 : decide (((k : Nat) : Int) < 0) = false := by simp
      simp only [e1, cond_true, strings_Index_bs, k1, Option.bind_some, e2, cond_false]
      rw [show w64 ((k : Int) + 0) = ((k : Nat) : Int) from by rw [Int.add_zero]; exact w64_id (by omega) (by omega)]
      have e3 : k ≤ (bs l).size := by simp; omega
      have hlen : ls.length < (ls.map dB ++ List.replicate (l.count c + 1) (dB [])).length := by simp
      have hget : (ls.map dB ++ List.replicate (l.count c + 1) (dB []))[ls.length]? = some (dB []) := by
        rw [List.getElem?_append_right (by simp)]; simp
      have e5 : w64 ((k : Int) + (((bs [c]).size : Nat) : Int)) = ((k + 1 : Nat) : Int) := by
        rw [bs_size]; exact w64_succ (n := k) (by omega)
      have e6 : k + 1 ≤ (bs l).size := by simp; omega
      have hset : (ls.map dB ++ List.replicate (l.count c + 1) (dB [])).set ls.length (dB (l.take k)) = (ls ++ [l.take k]).map dB ++ List.replicate ((l.drop (k + 1)).count c + 1) (dB []) := by
        have := set_fill (ls.map dB) (dB []) (dB (l.take k)) (l.count c)
        rw [List.length_map] at this
        rw [this, ← k4]
        simp
      obtain ⟨pre, last, p1, p2, p3⟩ := ih (l.drop (k + 1)) (ls ++ [l.take k]) K (by simp; omega) h2 (by omega) (by simp; omega)
      refine ⟨l.take k :: pre, last, by rw [k3, p1]; rfl, by simp; omega, ?_⟩
      simp only [nat?_nat, Option.bind_some, e3, e6, hlen, hget, e5, Nat.zero_le, and_self, if_true, Nat.le_refl]
      rw [extract_bs, extract_bs, bs_size, List.take_length, List.drop_zero]
      have hset' : (ls.map dB ++ List.replicate (l.count c + 1) (dB [])).set ls.length (D.v (.string (bs (l.take k)))) = (ls ++ [l.take k]).map dB ++ List.replicate ((l.drop (k + 1)).count c + 1) (dB []) := hset
      rw [hset', w64_succ (by omega)]
      rw [show (ls ++ [l.take k]).length = ls.length + 1 by simp] at p3
      rw [p3]
      simp
    · have h0 : l.count c = 0 := List.count_eq_zero.2 hc
      have e1 : decide (((ls.length : Nat) : Int) < (K : Int)) = false := by simp; omega
      refine ⟨[], l, ?_, by simp [h0], ?_⟩
      · exact splitL_none fun a ha he => hc (he ▸ ha)
      · simp only [e1, cond_false, h0]
        have : ((ls.length : Nat) : Int) = (K : Int) := by omega
        rw [this]
        simp

theorem splitL_length (c : UInt8) (l : Str) : (splitL c l).length = l.count c + 1 := by
  induction l with
  | nil => rfl
  | cons a r ih =>
    simp only [splitL]
    by_cases h : a == c
    · simp [h, ih, List.count_cons]
    · simp only [h, List.count_cons]
      cases hs : splitL c r with
      | nil => exact absurd hs (splitL_ne c r)
      | cons x t => rw [hs] at ih; simpa using ih

theorem Split_eq {fu : Nat} {l : Str} (c : UInt8) (h : l.length < fu) (hs : l.length ≤ 1000000) : strings_Split fu (bs l) (bs [c]) = some ((splitL c l).map dB) := by
  have hcl : l.count c ≤ l.length := List.count_le_length
  unfold strings_Split strings_genSplit
  have f1 : ((-1 : Int) == 0) = false := rfl
  have f2 : ([c] == ([] : Str)) = false := rfl
  have f3 : decide ((-1 : Int) < 0) = true := rfl
  have a1 : w64 (((bs l).size : Nat) + 1 : Int) = ((l.length + 1 : Nat) : Int) := by rw [bs_size]; exact w64_succ (by omega)
  have a2 : w64 (((l.count c : Nat) : Int) + 1) = ((l.count c + 1 : Nat) : Int) := w64_succ (by omega)
  simp only [f1, cond_false, seq_bs, f2, f3, cond_true, strings_Count_bs, Option.bind_some, a1, a2]
  have a3 : (if ((l.length + 1 : Nat) : Int) < ((l.count c + 1 : Nat) : Int) then ((l.length + 1 : Nat) : Int) else ((l.count c + 1 : Nat) : Int)) = ((l.count c + 1 : Nat) : Int) := if_neg (by omega)
  rw [a3]
  have a4 : w64 (((l.count c + 1 : Nat) : Int) - 1) = ((l.count c : Nat) : Int) := by rw [w64_id (by omega) (by omega)]; omega
  rw [if_pos ⟨trivial, by omega, by simp [maxRow]; omega⟩, a4, Int.toNat_natCast]
  obtain ⟨pre, last, p1, p2, p3⟩ := genSplit_L11 fu c fu l [] (l.count c) hs (by omega) (by omega) (by simp)
  simp only [List.map_nil, List.nil_append, List.length_nil] at p3
  rw [show (D.v (.string (bs []))) = dB [] from rfl]
  rw [show ((0 : Int)) = ((0 : Nat) : Int) from rfl] at p3 ⊢
  rw [p3]
  simp only [Option.bind_some, nat?_nat]
  have hl : (pre.map dB ++ [dB []]).length = l.count c + 1 := by simp [p2]
  have hg : (pre.map dB ++ [dB []])[l.count c]? = some (dB []) := by
    rw [List.getElem?_append_right (by simp [p2])]; simp [p2]
  have hst : (pre.map dB ++ [dB []]).set (l.count c) (D.v (.string (bs last))) = (splitL c l).map dB := by
    have := set_fill (pre.map dB) (dB []) (dB last) 0
    rw [List.length_map, p2] at this
    rw [p1]
    simpa [dB] using this
  rw [if_pos (by rw [hl]; omega), hg]
  simp only [Option.bind_some]
  rw [hst, a2, nat?_nat]
  simp only [Option.bind_some]
  have hlen : ((splitL c l).map dB).length = l.count c + 1 := by rw [List.length_map, splitL_length]
  rw [if_pos (by omega), ← hlen, List.take_length]
  rfl

theorem ref_split_L4 (fu : Nat) (l : Str) (c : UInt8) (hs : l.length ≤ 1000000) : ∀ (n i fr : Nat) (ls : List Str), l.length < n + i → i ≤ l.length → fr ≤ i → ls.length ≤ i → (∀ a ∈ (l.take i).drop fr, a ≠ c) →
    ∃ pre fr', ref06_split_L4 fu n (bs l) ((c.toNat : Nat) : Int) (ls.map dB) (fr : Int) (i : Int) = some ((), (bs l, (ls ++ pre).map dB, ((fr' : Nat) : Int), ())) ∧ fr' ≤ l.length ∧ (ls ++ pre).length ≤ l.length ∧ splitL c (l.drop fr) = pre ++ [l.drop fr'] := by
  intro n
  induction n with
  | zero => intro i fr ls h; omega
  | succ n ih =>
    intro i fr ls h hi hf hl hp
    rw [ref06_split_L4]
    by_cases hlt : i < l.length
    · obtain ⟨x, hx⟩ : ∃ x, x = l[i]'hlt := ⟨_, rfl⟩
      have hd : l.drop i = x :: l.drop (i + 1) := by rw [hx]; exact List.drop_eq_getElem_cons hlt
      have ht : l.take (i + 1) = l.take i ++ [x] := by rw [hx, List.take_append_getElem hlt]
      have hg : l.getD i 0 = x := by rw [hx]; simp [List.getD_eq_getElem?_getD, hlt]
      have e : decide ((i : Int) < (((bs l).size : Nat) : Int)) = true := by simp; exact hlt
      have e2 : (((x.toNat : Nat) : Int) == ((c.toNat : Nat) : Int)) = (x == c) := by
        rw [Bool.eq_iff_iff]; simp only [beq_iff_eq]
        constructor
        · intro hh; exact (UInt8.toNat_inj.1 (by omega))
        · intro hh; rw [hh]
      have e' : i < (bs l).size := by simp; exact hlt
      simp only [e, cond_true, nat?_nat, Option.bind_some, e', if_true, chr_bs, hg]
      rw [w64_succ (by omega), e2]
      have hsp : l.drop fr = (l.take i).drop fr ++ l.drop i := by
        conv => lhs; rw [← List.take_append_drop i l]
        rw [List.drop_append_of_le_length (by simp; omega)]
      cases hc : (x == c)
      · simp only [cond_false]
        refine ih (i + 1) fr ls (by omega) (by omega) (by omega) (by omega) fun a ha => ?_
        rw [ht, List.drop_append_of_le_length (by simp; omega)] at ha
        rcases List.mem_append.1 ha with ha | ha
        · exact hp a ha
        · simp at ha; subst ha; simpa using hc
      · have hc' : x = c := by simpa using hc
        simp only [cond_true]
        have e6 : fr ≤ i ∧ i ≤ (bs l).size := ⟨hf, by simp; omega⟩
        rw [if_pos e6, if_pos (by simp [maxRow]; omega), extract_bs]
        have hm : ls.map dB ++ [D.v (.string (bs ((l.take i).drop fr)))] = (ls ++ [(l.take i).drop fr]).map dB := by simp [dB]
        rw [hm]
        obtain ⟨pre, fr', q1, q2, q3, q4⟩ := ih (i + 1) (i + 1) (ls ++ [(l.take i).drop fr]) (by omega) (by omega) (by omega) (by simp; omega) (fun a ha => by simp [List.drop_take] at ha)
        refine ⟨(l.take i).drop fr :: pre, fr', by rw [q1]; simp, q2, by simpa using q3, ?_⟩
        rw [hsp, hd, hc', splitL_at hp, q4]
        rfl
    · have e : decide ((i : Int) < (((bs l).size : Nat) : Int)) = false := by simp; omega
      simp only [e, cond_false]
      refine ⟨[], fr, by simp, by omega, by simp; omega, ?_⟩
      have : l.take i = l := List.take_of_length_le (by omega)
      rw [this] at hp
      exact splitL_none hp

theorem ref_split_eq {fu : Nat} {l : Str} (c : UInt8) (h : l.length < fu) (hs : l.length ≤ 1000000) : ref06_split fu (bs l) ((c.toNat : Nat) : Int) = some ((splitL c l).map dB) := by
  obtain ⟨pre, fr, q1, q2, q3, q4⟩ := ref_split_L4 fu l c hs fu 0 0 [] (by omega) (by omega) (by omega) (by simp) (fun a ha => by simp at ha)
  simp only [List.nil_append, List.map_nil] at q1
  unfold ref06_split
  rw [show ((0 : Int)) = ((0 : Nat) : Int) from rfl, q1]
  simp only [Option.bind_some, nat?_nat]
  rw [if_pos ⟨by simp; omega, Nat.le_refl _⟩, if_pos (by simp at q3 ⊢; simp [maxRow]; omega), extract_bs]
  rw [List.drop_zero] at q4
  rw [q4, bs_size, List.take_length]
  simp [dB]
end Go.Proofs.YtcjgmffbebjddaaGreatDoor
