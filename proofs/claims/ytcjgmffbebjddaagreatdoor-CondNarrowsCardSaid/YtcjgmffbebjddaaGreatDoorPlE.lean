/- Two patterns: covering, meeting, what both match. -/
import Derived.Test.YtcjgmffbebjddaaGreatDoorPlD
set_option linter.all false
namespace Go.Proofs.YtcjgmffbebjddaaGreatDoor
open Go Go.Eng

def meetOK (p q : Str) : Bool := cov p q || cov q p
def meetW (p q : Str) : Str := if cov p q then q else p
def zipR : List Str → List Str → List Str
  | a :: xs, b :: ys => meetW a b :: zipR xs ys
  | [], ys => ys
  | xs, [] => xs
def okR : List Str → List Str → Bool
  | a :: xs, b :: ys => meetOK a b && okR xs ys
  | _, _ => true
def commonR (x y : Pat) : Option Pat :=
  if (!meetOK x.c y.c || (decide (x.ps.length < y.ps.length) && !x.t) || (decide (y.ps.length < x.ps.length) && !y.t) || !okR x.ps y.ps) then none
  else some ⟨meetW x.c y.c, zipR x.ps y.ps, x.t && y.t⟩

theorem meetL_eq (p q : Str) : meetL p q = (meetW p q, meetOK p q) := by
  unfold meetL meetW meetOK
  cases cov p q <;> simp

theorem sufx_antisymm {u t : Str} (h1 : sufx u t = true) (h2 : sufx t u = true) : u = t := by
  unfold sufx at h1 h2
  simp only [Bool.and_eq_true, decide_eq_true_eq, beq_iff_eq] at h1 h2
  have : u.length = t.length := by omega
  have h3 := h1.2
  rw [this, Nat.sub_self, List.drop_zero] at h3
  exact h3
theorem cov_antisymm {p q : Str} (h1 : cov p q = true) (h2 : cov q p = true) : p = q := by
  unfold cov hasL at h1 h2
  rcases kindOf_cases p with ⟨k1, k2, k3⟩ | ⟨k1, k2, a, s, k3⟩ | ⟨k1, k2, k3⟩ <;> rcases kindOf_cases q with ⟨j1, j2, j3⟩ | ⟨j1, j2, b, t, j3⟩ | ⟨j1, j2, j3⟩
  · simpa [k1, j1] using h1
  · simp [k1, j1] at h1
  · simp [k1, j1] at h1
  · simp [k1, j1] at h2
  · simp [k1, j1] at h1 h2
    have := sufx_antisymm h1 h2
    rw [k3, j3] at this
    rw [k3, j3]
    simp only [List.tail_cons] at this
    rw [this]
  · simp [k1, j1] at h1
  · simp [k1, j1] at h2
  · simp [k1, j1] at h2
  · rw [k3, j3]
theorem meetOK_comm (p q : Str) : meetOK p q = meetOK q p := by unfold meetOK; exact Bool.or_comm _ _
theorem meetW_comm {p q : Str} (h : meetOK p q = true) : meetW p q = meetW q p := by
  unfold meetW
  unfold meetOK at h
  cases h1 : cov p q <;> cases h2 : cov q p <;> simp [h1, h2] at h ⊢
  exact (cov_antisymm h1 h2).symm
theorem okR_comm : ∀ (xs ys : List Str), okR xs ys = okR ys xs
  | [], [] => rfl
  | [], _ :: _ => rfl
  | _ :: _, [] => rfl
  | a :: xs, b :: ys => by simp only [okR]; rw [meetOK_comm, okR_comm xs ys]
theorem zipR_comm : ∀ (xs ys : List Str), okR xs ys = true → zipR xs ys = zipR ys xs
  | [], [], _ => rfl
  | [], _ :: _, _ => rfl
  | _ :: _, [], _ => rfl
  | a :: xs, b :: ys, h => by
    simp only [okR, Bool.and_eq_true] at h
    simp only [zipR]
    rw [meetW_comm h.1, zipR_comm xs ys h.2]
theorem commonR_comm (x y : Pat) : commonR x y = commonR y x := by
  unfold commonR
  rw [meetOK_comm y.c x.c, okR_comm y.ps x.ps, Bool.and_comm y.t x.t]
  have e : (!meetOK x.c y.c || (decide (x.ps.length < y.ps.length) && !x.t) || (decide (y.ps.length < x.ps.length) && !y.t) || !okR x.ps y.ps) =
      (!meetOK x.c y.c || (decide (y.ps.length < x.ps.length) && !y.t) || (decide (x.ps.length < y.ps.length) && !x.t) || !okR x.ps y.ps) := by
    cases meetOK x.c y.c <;> cases (decide (x.ps.length < y.ps.length) && !x.t) <;> cases (decide (y.ps.length < x.ps.length) && !y.t) <;> rfl
  rw [e]
  split
  · rfl
  · rename_i h
    simp only [Bool.or_eq_true, not_or, Bool.not_eq_true, Bool.not_eq_false'] at h
    rw [meetW_comm h.1.1.1, zipR_comm _ _ h.2]

theorem zipR_nil (xs : List Str) : zipR xs [] = xs := by cases xs <;> rfl
theorem okR_nil (xs : List Str) : okR xs [] = true := by cases xs <;> rfl
theorem meetW_mem (p q : Str) : meetW p q = p ∨ meetW p q = q := by unfold meetW; split <;> simp
theorem zipR_mem : ∀ (xs ys : List Str), ∀ w ∈ zipR xs ys, w ∈ xs ∨ w ∈ ys
  | [], ys, w, h => .inr (by simpa [zipR] using h)
  | a :: xs, [], w, h => .inl (by simpa [zipR] using h)
  | a :: xs, b :: ys, w, h => by
    simp only [zipR, List.mem_cons] at h
    rcases h with h | h
    · rcases meetW_mem a b with h1 | h1
      · left; rw [h, h1]; exact List.mem_cons_self ..
      · right; rw [h, h1]; exact List.mem_cons_self ..
    · rcases zipR_mem xs ys w h with h1 | h1
      · exact .inl (List.mem_cons_of_mem _ h1)
      · exact .inr (List.mem_cons_of_mem _ h1)
theorem zipR_length : ∀ (xs ys : List Str), (zipR xs ys).length = max xs.length ys.length
  | [], ys => by simp [zipR]
  | a :: xs, [] => by simp [zipR]
  | a :: xs, b :: ys => by simp only [zipR, List.length_cons, zipR_length xs ys]; omega

/-! ### The code -/
theorem common_L8 (fu : Nat) (x0 : Int) (x1 : ByteArray) (x3 : Bool) (x4 : Int) (x5 : ByteArray) (x7 : Bool) (xs ys : List Str) (hle : ys.length ≤ xs.length) (hn : xs.length ≤ 1000) (hx : ∀ w ∈ xs, w.length ≤ 1000000) (hy : ∀ w ∈ ys, w.length ≤ 1000000) :
    ∀ (n i : Nat) (acc : List Str), xs.length < n + i → i ≤ xs.length → acc.length ≤ i →
    (okR (xs.drop i) (ys.drop i) = true → address_common_L8 fu n x0 x1 (ys.map dP) x3 x4 x5 (acc.map dP) x7 (xs.map dP) ((xs.length : Nat) : Int) (i : Int) = some (.inr (((x4, x5, (acc ++ zipR (xs.drop i) (ys.drop i)).map dP, x7, ()), ()), ((), ())))) ∧
    (okR (xs.drop i) (ys.drop i) = false → ∃ z, address_common_L8 fu n x0 x1 (ys.map dP) x3 x4 x5 (acc.map dP) x7 (xs.map dP) ((xs.length : Nat) : Int) (i : Int) = some (.inl ((z, ()), ((), false, ())))) := by
  intro n
  induction n with
  | zero => intro i acc h; omega
  | succ n ih =>
    intro i acc h hi ha
    rw [address_common_L8]
    by_cases hlt : i < xs.length
    · obtain ⟨a, hx0⟩ : ∃ a, a = xs[i]'hlt := ⟨_, rfl⟩
      have hd : xs.drop i = a :: xs.drop (i + 1) := by rw [hx0]; exact List.drop_eq_getElem_cons hlt
      have hg : xs[i]? = some a := by rw [hx0]; exact List.getElem?_eq_getElem hlt
      have hal := hx a (List.mem_of_getElem? hg)
      have e : decide ((i : Int) < ((xs.length : Nat) : Int)) = true := by simp; exact hlt
      have e' : i < (xs.map dP).length := by simp; exact hlt
      have push : ∀ w : Str, (acc.map dP ++ [D.agg [D.v (.int .i64 (kindOf w)), D.v (.string (bs (textOf w)))]]) = (acc ++ [w]).map dP := fun w => by simp [dP, dI, dB]
      have room : ∀ w : Str, (((acc.map dP).length + [D.agg [D.v (.int .i64 (kindOf w)), D.v (.string (bs (textOf w)))]].length) * 24 ≤ maxRow) := fun w => by simp [maxRow]; omega
      simp only [e, cond_true, nat?_nat, Option.bind_some, if_pos e']
      by_cases hlt2 : i < ys.length
      · obtain ⟨b, hy0⟩ : ∃ b, b = ys[i]'hlt2 := ⟨_, rfl⟩
        have hd2 : ys.drop i = b :: ys.drop (i + 1) := by rw [hy0]; exact List.drop_eq_getElem_cons hlt2
        have hg2 : ys[i]? = some b := by rw [hy0]; exact List.getElem?_eq_getElem hlt2
        have hbl := hy b (List.mem_of_getElem? hg2)
        have f : decide ((i : Int) < (((ys.map dP).length : Nat) : Int)) = true := by simp; exact hlt2
        have f' : i < (ys.map dP).length := by simp; exact hlt2
        have hX : ∀ (X : Option _), X = (bif !meetOK a b then some (.inl ((((x4, x5, acc.map dP, x7, ()), ()), ((), false, ())))) else address_common_L8 fu n x0 x1 (ys.map dP) x3 x4 x5 ((acc ++ [meetW a b]).map dP) x7 (xs.map dP) ((xs.length : Nat) : Int) ((i + 1 : Nat) : Int)) →
            (okR (xs.drop i) (ys.drop i) = true → X = some (.inr (((x4, x5, (acc ++ zipR (xs.drop i) (ys.drop i)).map dP, x7, ()), ()), ((), ())))) ∧
            (okR (xs.drop i) (ys.drop i) = false → ∃ z, X = some (.inl ((z, ()), ((), false, ())))) := by
          rintro X rfl
          rw [hd, hd2]
          simp only [okR, zipR]
          cases hm : meetOK a b
          · simp
          · have := ih (i + 1) (acc ++ [meetW a b]) (by omega) (by omega) (by simp; omega)
            simpa using this
        refine hX _ ?_
        refine (rdA_bind hg _).trans ?_
        simp only [f, cond_true, if_pos f']
        refine (rdA_bind hg2 _).trans ?_
        simp only [meet_eq fu a b (by omega) (by omega), Option.bind_some, meetL_eq, push, if_pos (room _)]
        rw [w64_succ (by omega)]
      · have hd2 : ys.drop i = [] := List.drop_eq_nil_of_le (by omega)
        have hd3 : ys.drop (i + 1) = [] := List.drop_eq_nil_of_le (by omega)
        have f : decide ((i : Int) < (((ys.map dP).length : Nat) : Int)) = false := by simp; omega
        have hX : ∀ (X : Option _), X = address_common_L8 fu n x0 x1 (ys.map dP) x3 x4 x5 ((acc ++ [a]).map dP) x7 (xs.map dP) ((xs.length : Nat) : Int) ((i + 1 : Nat) : Int) →
            (okR (xs.drop i) (ys.drop i) = true → X = some (.inr (((x4, x5, (acc ++ zipR (xs.drop i) (ys.drop i)).map dP, x7, ()), ()), ((), ())))) ∧
            (okR (xs.drop i) (ys.drop i) = false → ∃ z, X = some (.inl ((z, ()), ((), false, ())))) := by
          rintro X rfl
          have := ih (i + 1) (acc ++ [a]) (by omega) (by omega) (by simp; omega)
          rw [hd3, okR_nil, zipR_nil] at this
          rw [hd2, okR_nil, zipR_nil, hd]
          simpa using this
        refine hX _ ?_
        refine (rdA_bind hg _).trans ?_
        simp only [f, cond_false, push, if_pos (room _)]
        rw [w64_succ (by omega)]
    · have hd : xs.drop i = [] := List.drop_eq_nil_of_le (by omega)
      have hd2 : ys.drop i = [] := List.drop_eq_nil_of_le (by omega)
      have e : decide ((i : Int) < ((xs.length : Nat) : Int)) = false := by simp; omega
      rw [hd, hd2]
      simp [hlt, okR, zipR]

def CommonA (x y : Pat) (r : Option ((Int × ByteArray × List D × Bool × Unit) × Bool × Unit)) : Prop :=
  match commonR x y with
  | some p => r = some ((kindOf p.c, bs (textOf p.c), p.ps.map dP, p.t, ()), true, ())
  | none => ∃ z, r = some (z, false, ())

theorem common_le {fu : Nat} (hf : 1000 < fu) (x y : Pat) (hx : PatOK x) (hy : PatOK y) (hle : y.ps.length ≤ x.ps.length) :
    CommonA x y ((address_meet fu (kindOf x.c) (bs (textOf x.c)) (kindOf y.c) (bs (textOf y.c))).bind fun v231 =>
    (bif (!v231.2.1) then
     some ((v231.1.1, v231.1.2.1, ([] : List D), false, ()), false, ())
    else
     (bif (decide ((((x.ps.map dP).length : Nat) : Int) > (((y.ps.map dP).length : Nat) : Int))) then
      (bif (!y.t) then
       some ((v231.1.1, v231.1.2.1, ([] : List D), false, ()), false, ())
      else
       (bif x.t then
        ((address_common_L8 fu fu (kindOf y.c) (bs (textOf y.c)) (y.ps.map dP) y.t v231.1.1 v231.1.2.1 ([] : List D) y.t (x.ps.map dP) (((x.ps.map dP).length : Nat) : Int) (0 : Int)).bind fun v232 =>
         (match v232 with
         | .inl v233 =>
           some ((v233.1.1.1, v233.1.1.2.1, v233.1.1.2.2.1, v233.1.1.2.2.2.1, ()), v233.2.2.1, ())
         | .inr v234 =>
           some ((v234.1.1.1, v234.1.1.2.1, v234.1.1.2.2.1, v234.1.1.2.2.2.1, ()), true, ())))
       else
        ((address_common_L8 fu fu (kindOf y.c) (bs (textOf y.c)) (y.ps.map dP) y.t v231.1.1 v231.1.2.1 ([] : List D) false (x.ps.map dP) (((x.ps.map dP).length : Nat) : Int) (0 : Int)).bind fun v235 =>
         (match v235 with
         | .inl v236 =>
           some ((v236.1.1.1, v236.1.1.2.1, v236.1.1.2.2.1, v236.1.1.2.2.2.1, ()), v236.2.2.1, ())
         | .inr v237 =>
           some ((v237.1.1.1, v237.1.1.2.1, v237.1.1.2.2.1, v237.1.1.2.2.2.1, ()), true, ())))))
     else
      (bif x.t then
       ((address_common_L8 fu fu (kindOf y.c) (bs (textOf y.c)) (y.ps.map dP) y.t v231.1.1 v231.1.2.1 ([] : List D) y.t (x.ps.map dP) (((x.ps.map dP).length : Nat) : Int) (0 : Int)).bind fun v238 =>
        (match v238 with
        | .inl v239 =>
          some ((v239.1.1.1, v239.1.1.2.1, v239.1.1.2.2.1, v239.1.1.2.2.2.1, ()), v239.2.2.1, ())
        | .inr v240 =>
          some ((v240.1.1.1, v240.1.1.2.1, v240.1.1.2.2.1, v240.1.1.2.2.2.1, ()), true, ())))
      else
       ((address_common_L8 fu fu (kindOf y.c) (bs (textOf y.c)) (y.ps.map dP) y.t v231.1.1 v231.1.2.1 ([] : List D) false (x.ps.map dP) (((x.ps.map dP).length : Nat) : Int) (0 : Int)).bind fun v241 =>
        (match v241 with
        | .inl v242 =>
          some ((v242.1.1.1, v242.1.1.2.1, v242.1.1.2.2.1, v242.1.1.2.2.2.1, ()), v242.2.2.1, ())
        | .inr v243 =>
          some ((v243.1.1.1, v243.1.1.2.1, v243.1.1.2.2.1, v243.1.1.2.2.2.1, ()), true, ()))))))) := by
  obtain ⟨x1, x2, x3⟩ := hx
  obtain ⟨y1, y2, y3⟩ := hy
  rw [meet_eq fu x.c y.c (by omega) (by omega), meetL_eq]
  simp only [Option.bind_some]
  have e1 : decide ((((x.ps.map dP).length : Nat) : Int) > (((y.ps.map dP).length : Nat) : Int)) = decide (y.ps.length < x.ps.length) := by rw [Bool.eq_iff_iff]; simp
  have e2 : decide (x.ps.length < y.ps.length) = false := by simp; omega
  have loop : ∀ tl : Bool, _ := fun tl => common_L8 fu (kindOf y.c) (bs (textOf y.c)) y.t (kindOf (meetW x.c y.c)) (bs (textOf (meetW x.c y.c))) tl x.ps y.ps hle (by omega) x3 y3 fu 0 [] (by omega) (by omega) (by simp)
  simp only [List.map_nil, List.drop_zero, List.nil_append] at loop
  unfold CommonA commonR
  rw [e1, e2, List.length_map, show ((0 : Int)) = ((0 : Nat) : Int) from rfl]
  cases hm : meetOK x.c y.c
  · simp
  · cases hok : okR x.ps y.ps
    · obtain ⟨z1, h1⟩ := (loop y.t).2 hok
      obtain ⟨z2, h2⟩ := (loop false).2 hok
      rw [h1, h2]
      cases decide (y.ps.length < x.ps.length) <;> cases y.t <;> cases x.t <;> simp
    · rw [(loop y.t).1 hok, (loop false).1 hok]
      cases hl : decide (y.ps.length < x.ps.length) <;> cases hyt : y.t <;> cases hxt : x.t <;> simp

theorem common_eq {fu : Nat} (hf : 1000 < fu) (x y : Pat) (hx : PatOK x) (hy : PatOK y) :
    CommonA x y (address_common fu (kindOf x.c) (bs (textOf x.c)) (x.ps.map dP) x.t (kindOf y.c) (bs (textOf y.c)) (y.ps.map dP) y.t) := by
  unfold address_common
  by_cases h : x.ps.length < y.ps.length
  · have e : decide ((((x.ps.map dP).length : Nat) : Int) < (((y.ps.map dP).length : Nat) : Int)) = true := by simp; exact h
    have h2 := common_le hf y x hy hx (by omega)
    unfold CommonA at h2 ⊢
    rw [commonR_comm x y]
    rw [e] at h2
    rw [e, cond_true]
    exact h2
  · have e : decide ((((x.ps.map dP).length : Nat) : Int) < (((y.ps.map dP).length : Nat) : Int)) = false := by simp; omega
    have h2 := common_le hf x y hx hy (by omega)
    rw [e, cond_false]
    exact h2
end Go.Proofs.YtcjgmffbebjddaaGreatDoor
