/- The reference's Both and Covers. -/
import Derived.Test.YtcjgmffbebjddaaGreatDoorPlG
set_option linter.all false
namespace Go.Proofs.YtcjgmffbebjddaaGreatDoor
open Go Go.Eng

theorem dropRel {α : Type} (l : List α) (i : Nat) : (∃ a, l[i]? = some a ∧ l.drop i = a :: l.drop (i + 1) ∧ i < l.length) ∨ (l[i]? = none ∧ l.drop i = [] ∧ l.drop (i + 1) = [] ∧ ¬ i < l.length) := by
  by_cases h : i < l.length
  · exact .inl ⟨l[i]'h, List.getElem?_eq_getElem h, List.drop_eq_getElem_cons h, h⟩
  · exact .inr ⟨List.getElem?_eq_none (by omega), List.drop_eq_nil_of_le (by omega), List.drop_eq_nil_of_le (by omega), h⟩

def tailS (ws : List Str) : Str := (ws.map fun w => 47 :: w).flatten
theorem tailS_cons (w : Str) (r : List Str) : tailS (w :: r) = 47 :: w ++ tailS r := by simp [tailS]

theorem ref_Both_L10 (fu : Nat) (x0 : ByteArray) (x1 : Bool) (x2 : Int) (x3 : ByteArray) (x5 : Bool) (x6 : ByteArray) (x8 : Bool) (xs ys : List Str) (hn : xs.length ≤ 40) (hn2 : ys.length ≤ 40) (hx : ∀ w ∈ xs, w.length ≤ 1000000) (hy : ∀ w ∈ ys, w.length ≤ 1000000) :
    ∀ (n i : Nat) (out : Str), max xs.length ys.length < n + i → i ≤ max xs.length ys.length → out.length ≤ (i + 1) * 1000001 →
    ref06_Both_L10 fu n x0 x1 x2 x3 (xs.map dB) x5 x6 (ys.map dB) x8 (bs out) (i : Int) = some ((((x0, x1, x2, ()), (x3, xs.map dB, x5, ()), (x6, ys.map dB, x8, ()), ()), ((), (), (), bs (out ++ tailS (zipR (xs.drop i) (ys.drop i))), ()))) := by
  intro n
  induction n with
  | zero => intro i out h; omega
  | succ n ih =>
    intro i out h hi ho
    rw [ref06_Both_L10]
    have mx : (if ((((ys.map dB).length : Nat) : Int) > (((xs.map dB).length : Nat) : Int)) then (((ys.map dB).length : Nat) : Int) else (((xs.map dB).length : Nat) : Int)) = ((max xs.length ys.length : Nat) : Int) := by
      rw [List.length_map, List.length_map]; split <;> omega
    rw [mx]
    by_cases hlt : i < max xs.length ys.length
    · have e0 : decide ((i : Int) < ((max xs.length ys.length : Nat) : Int)) = true := by rw [decide_eq_true_eq]; omega
      have room : ∀ w : Str, w.length ≤ 1000000 → (ref06_Both_L10 fu (n + 1) x0 x1 x2 x3 (xs.map dB) x5 x6 (ys.map dB) x8 (bs out) (i : Int) = ref06_Both_L10 fu (n + 1) x0 x1 x2 x3 (xs.map dB) x5 x6 (ys.map dB) x8 (bs out) (i : Int)) := fun _ _ => rfl
      have go : ∀ (w : Str) (r : List Str), w.length ≤ 1000000 → zipR (xs.drop i) (ys.drop i) = w :: zipR (xs.drop (i + 1)) (ys.drop (i + 1)) →
          (if (((bs out).size + (bs [47]).size) ≤ 9223372036854775807) then
            (if (((bs out ++ bs [47]).size + (bs w).size) ≤ 9223372036854775807) then
              ref06_Both_L10 fu n x0 x1 x2 x3 (xs.map dB) x5 x6 (ys.map dB) x8 ((bs out ++ bs [47]) ++ bs w) (w64 ((i : Int) + 1)) else none) else none) =
          some ((((x0, x1, x2, ()), (x3, xs.map dB, x5, ()), (x6, ys.map dB, x8, ()), ()), ((), (), (), bs (out ++ tailS (zipR (xs.drop i) (ys.drop i))), ()))) := by
        intro w r hw hz
        have hsmall : (i + 1) * 1000001 ≤ 41 * 1000001 := Nat.mul_le_mul_right _ (by omega)
        have s47 : (bs [47]).size = 1 := by simp
        rw [if_pos (by rw [bs_size, s47]; omega), append_bs, if_pos (by rw [bs_size, bs_size]; simp; omega), append_bs, w64_succ (by omega)]
        rw [ih (i + 1) (out ++ [47] ++ w) (by omega) (by omega) (by simp; omega), hz, tailS_cons]
        simp
      simp only [e0, cond_true]
      rcases dropRel xs i with ⟨a, ga, da, la⟩ | ⟨ga, da, da2, la⟩
      · have hal := hx a (List.mem_of_getElem? ga)
        have e1 : decide ((i : Int) < (((xs.map dB).length : Nat) : Int)) = true := by rw [List.length_map, decide_eq_true_eq]; omega
        have e1' : i < (xs.map dB).length := by simp; exact la
        simp only [e1, cond_true, nat?_nat, Option.bind_some, if_pos e1', rdS_map, ga, Option.map_some]
        rcases dropRel ys i with ⟨b, gb, db, lb⟩ | ⟨gb, db, db2, lb⟩
        · have hbl := hy b (List.mem_of_getElem? gb)
          have e2 : decide ((i : Int) < (((ys.map dB).length : Nat) : Int)) = true := by rw [List.length_map, decide_eq_true_eq]; omega
          have e2' : i < (ys.map dB).length := by simp; exact lb
          simp only [e2, cond_true, Option.bind_some, if_pos e2', gb, Option.map_some, ref_covers_eq fu a b (by omega) (by omega)]
          rcases Bool.eq_false_or_eq_true (cov a b) with hc | hc
          · simp only [hc, cond_true]
            exact go b [] hbl (by rw [da, db]; simp [zipR, meetW, hc])
          · simp only [hc, cond_false]
            exact go a [] hal (by rw [da, db]; simp [zipR, meetW, hc])
        · have e2 : decide ((i : Int) < (((ys.map dB).length : Nat) : Int)) = false := by rw [List.length_map, decide_eq_false_iff_not]; omega
          simp only [e2, cond_false]
          exact go a [] hal (by rw [da, db, db2, zipR_nil, zipR_nil])
      · have e1 : decide ((i : Int) < (((xs.map dB).length : Nat) : Int)) = false := by rw [List.length_map, decide_eq_false_iff_not]; omega
        simp only [e1, cond_false]
        rcases dropRel ys i with ⟨b, gb, db, lb⟩ | ⟨gb, db, db2, lb⟩
        · have hbl := hy b (List.mem_of_getElem? gb)
          have e2 : decide ((i : Int) < (((ys.map dB).length : Nat) : Int)) = true := by rw [List.length_map, decide_eq_true_eq]; omega
          have e2' : i < (ys.map dB).length := by simp; exact lb
          simp only [e2, cond_true, nat?_nat, Option.bind_some, if_pos e2', rdS_map, gb, Option.map_some]
          exact go b [] hbl (by rw [da, db, da2]; rfl)
        · omega
    · have e0 : decide ((i : Int) < ((max xs.length ys.length : Nat) : Int)) = false := by rw [decide_eq_false_iff_not]; omega
      have d1 : xs.drop i = [] := List.drop_eq_nil_of_le (by omega)
      have d2 : ys.drop i = [] := List.drop_eq_nil_of_le (by omega)
      rw [e0, d1, d2]
      simp [zipR, tailS]

theorem patStr_eq (p : Pat) : patStr p = p.c ++ tailS p.ps ++ (if p.t then [47, 42, 42] else []) := by
  unfold patStr joinL tailS
  rw [Lib.join_cons]
  unfold Lib.joinTail
  cases p.t <;> simp

theorem tailS_len : ∀ (ws : List Str), (∀ w ∈ ws, w.length ≤ 1000000) → (tailS ws).length ≤ ws.length * 1000001
  | [], _ => by simp [tailS]
  | a :: r, h => by
    have h1 := tailS_len r fun w hw => h w (List.mem_cons_of_mem _ hw)
    have h2 := h a (List.mem_cons_self ..)
    rw [tailS_cons]
    simp only [List.length_append, List.length_cons, Nat.add_mul]
    omega

theorem ref_Both_eq {fu : Nat} {p q : Str} (hf : 1000 < fu) (h1 : p.length < fu) (h2 : q.length < fu) (s1 : p.length ≤ 1000000) (s2 : q.length ≤ 1000000) : ref06_Both fu (bs p) (bs q) = some (BothS p q) := by
  have c1 := ref_compile_eq h1 s1 (by omega)
  have c2 := ref_compile_eq h2 s2 (by omega)
  have hm := ref_Meet_eq hf h1 h2 s1 s2
  unfold CompR at c1 c2
  unfold ref06_Both BothS
  rw [hm]
  unfold MeetR
  cases e : bothR p q with
  | none => rfl
  | some o => cases o with
    | none => rfl
    | some z =>
      have hz := bothR_ok e s1 s2
      unfold bothR at e
      cases e1 : compile p with
      | none => rw [e1] at e; cases e
      | some x =>
        cases e2 : compile q with
        | none => rw [e1, e2] at e; cases e
        | some y =>
          rw [e1, e2] at e
          rw [e1] at c1
          rw [e2] at c2
          have e3 := Option.some.inj e
          obtain ⟨⟨x1, x2, x3⟩, x4, -⟩ := compile_ok e1 s1
          obtain ⟨⟨y1, y2, y3⟩, y4, -⟩ := compile_ok e2 s2
          have hzz := e3
          unfold commonR at hzz
          split at hzz
          · cases hzz
          · rename_i hcond
            have hzz := Option.some.inj hzz
            simp only [Bool.or_eq_true, not_or, Bool.not_eq_true, Bool.not_eq_false'] at hcond
            have hW := cust_W x4 y4 hcond.1.1.1
            have loop := fun out ho => ref_Both_L10 fu (bs []) false 0 (bs x.c) x.t (bs y.c) y.t x.ps y.ps (by omega) (by omega) x3 y3 fu 0 out (by omega) (by omega) ho
            simp only [List.drop_zero] at loop
            have hzl : (zipR x.ps y.ps).length ≤ 32 := by rw [zipR_length]; omega
            have hzm : ∀ w ∈ zipR x.ps y.ps, w.length ≤ 1000000 := fun w hw => by
              rcases zipR_mem _ _ w hw with h | h
              · exact x3 w h
              · exact y3 w h
            have htl := tailS_len _ hzm
            have htl2 : (zipR x.ps y.ps).length * 1000001 ≤ 32 * 1000001 := Nat.mul_le_mul_right _ hzl
            rw [c1, c2]
            have f1 : (((0 : Int) != 0)) = false := rfl
            simp only [Option.bind_some, Option.isSome_some, f1, cond_false, Bool.not_true, seq_bs]
            rw [show ((0 : Int)) = ((0 : Nat) : Int) from rfl] at loop ⊢
            have fin : ∀ c : Str, c.length ≤ 1000000 → z.c = c → (bif x.t then bif y.t then
                (if ((bs (c ++ tailS (zipR x.ps y.ps))).size + (bs [47, 42, 42]).size) ≤ 9223372036854775807 then some ((bs (c ++ tailS (zipR x.ps y.ps)) ++ bs [47, 42, 42]), true, ((0 : Nat) : Int), ()) else none)
                else some (bs (c ++ tailS (zipR x.ps y.ps)), true, ((0 : Nat) : Int), ()) else some (bs (c ++ tailS (zipR x.ps y.ps)), true, ((0 : Nat) : Int), ())) = some (bs (patStr z), true, ((0 : Nat) : Int), ()) := by
              intro c hc hzc
              rw [patStr_eq, hzc, ← hzz]
              have s3 : (bs [47, 42, 42]).size = 3 := by simp
              rw [if_pos (by rw [bs_size, s3]; simp; omega)]
              cases x.t <;> cases y.t <;> simp
            rcases Bool.eq_false_or_eq_true (x.c == [42]) with h42 | h42
            · simp only [h42, cond_true]
              rw [loop y.c (by omega)]
              simp only [Option.bind_some]
              exact fin y.c y2 (by rw [← hzz]; show meetW x.c y.c = _; rw [hW, h42]; rfl)
            · simp only [h42, cond_false]
              rw [loop x.c (by omega)]
              simp only [Option.bind_some]
              exact fin x.c x2 (by rw [← hzz]; show meetW x.c y.c = _; rw [hW, h42]; rfl)

/-! ### Covers -/
def covAll : List Str → List Str → Bool
  | a :: xs, b :: ys => cov a b && covAll xs ys
  | _, _ => true
theorem coverLoop_1 (cust : Str) (ws : List Str) : ∀ (i : Nat) (xs ys : List Str), (coverLoop cust ws i xs ys).1 = covAll xs ys
  | i, [], ys => by simp [coverLoop, covAll]
  | i, a :: xs, [] => by simp [coverLoop, covAll]
  | i, a :: xs, b :: ys => by
    simp only [coverLoop, covAll]
    cases cov a b
    · rfl
    · simp [coverLoop_1 cust ws (i + 1) xs ys]

theorem ref_Covers_L10 (fu : Nat) (x0 : Bool) (x1 : Int) (x2 : ByteArray) (x4 : Bool) (x5 : ByteArray) (x7 : Bool) (xs ys : List Str) (hle : xs.length ≤ ys.length) (hn : ys.length ≤ 1000) (hx : ∀ w ∈ xs, w.length ≤ 1000000) (hy : ∀ w ∈ ys, w.length ≤ 1000000) :
    ∀ (n i : Nat), xs.length < n + i → i ≤ xs.length →
    ref06_Covers_L10 fu n x0 x1 x2 (xs.map dB) x4 x5 (ys.map dB) x7 (i : Int) = some (if covAll (xs.drop i) (ys.drop i) then .inr (((x0, x1, ()), ()), ((), ())) else .inl (((false, 0, ()), ()), ((), ()))) := by
  intro n
  induction n with
  | zero => intro i h; omega
  | succ n ih =>
    intro i h hi
    rw [ref06_Covers_L10]
    rcases dropRel xs i with ⟨a, ga, da, la⟩ | ⟨ga, da, da2, la⟩
    · have hal := hx a (List.mem_of_getElem? ga)
      have e1 : decide ((i : Int) < (((xs.map dB).length : Nat) : Int)) = true := by rw [List.length_map, decide_eq_true_eq]; omega
      have e1' : i < (xs.map dB).length := by simp; exact la
      rcases dropRel ys i with ⟨b, gb, db, lb⟩ | ⟨gb, db, db2, lb⟩
      · have hbl := hy b (List.mem_of_getElem? gb)
        have e2' : i < (ys.map dB).length := by simp; exact lb
        simp only [e1, cond_true, nat?_nat, Option.bind_some, if_pos e1', if_pos e2', rdS_map, ga, gb, Option.map_some, ref_covers_eq fu a b (by omega) (by omega)]
        rw [w64_succ (by omega), ih (i + 1) (by omega) (by omega), da, db]
        simp only [covAll]
        rcases Bool.eq_false_or_eq_true (cov a b) with hm | hm <;> simp [hm]
      · omega
    · have e1 : decide ((i : Int) < (((xs.map dB).length : Nat) : Int)) = false := by rw [List.length_map, decide_eq_false_iff_not]; omega
      rw [e1, da]
      simp [covAll]

def CoversR (p q : Str) : Bool × Int × Unit := match compile p, compile q with
  | some x, some y => ((coversX x y).1, 0, ())
  | _, _ => (false, 1, ())

theorem coversX_1 (x y : Pat) : (coversX x y).1 = (cov x.c y.c && !(decide (y.ps.length < x.ps.length) || (decide (x.ps.length < y.ps.length) && !x.t)) && !(y.t && !x.t) && covAll x.ps y.ps) := by
  unfold coversX
  cases cov x.c y.c
  · rfl
  · cases (decide (y.ps.length < x.ps.length) || (decide (x.ps.length < y.ps.length) && !x.t))
    · cases (y.t && !x.t)
      · simp [coverLoop_1]
      · rfl
    · rfl

theorem ref_Covers_eq {fu : Nat} {p q : Str} (hf : 1000 < fu) (h1 : p.length < fu) (h2 : q.length < fu) (s1 : p.length ≤ 1000000) (s2 : q.length ≤ 1000000) : ref06_Covers fu (bs p) (bs q) = some (CoversR p q) := by
  have c1 := ref_compile_eq h1 s1 (by omega)
  have c2 := ref_compile_eq h2 s2 (by omega)
  unfold CompR at c1 c2
  unfold CoversR ref06_Covers
  cases e1 : compile p with
  | none =>
    rw [e1] at c1
    obtain ⟨z1, c1⟩ := c1
    rw [c1]
    cases e2 : compile q with
    | none => rw [e2] at c2; obtain ⟨z2, c2⟩ := c2; rw [c2]; rfl
    | some y => rw [e2] at c2; rw [c2]; rfl
  | some x =>
    rw [e1] at c1
    rw [c1]
    cases e2 : compile q with
    | none => rw [e2] at c2; obtain ⟨z2, c2⟩ := c2; rw [c2]; rfl
    | some y =>
      rw [e2] at c2
      rw [c2]
      obtain ⟨⟨x1, x2, x3⟩, x4, -⟩ := compile_ok e1 s1
      obtain ⟨⟨y1, y2, y3⟩, y4, -⟩ := compile_ok e2 s2
      simp only [Option.bind_some, Bool.not_true, cond_false, seq_bs]
      have d1 : decide ((((x.ps.map dB).length : Nat) : Int) > (((y.ps.map dB).length : Nat) : Int)) = decide (y.ps.length < x.ps.length) := by rw [Bool.eq_iff_iff]; simp
      have d2 : decide ((((x.ps.map dB).length : Nat) : Int) < (((y.ps.map dB).length : Nat) : Int)) = decide (x.ps.length < y.ps.length) := by rw [Bool.eq_iff_iff]; simp
      rw [d1, d2, coversX_1, cust_cov x4 y4]
      by_cases hgt : y.ps.length < x.ps.length
      · rw [decide_eq_true hgt]
        cases (x.c == [42]) <;> cases (x.c == y.c) <;> simp
      · have loop := ref_Covers_L10 fu false 0 (bs x.c) x.t (bs y.c) y.t x.ps y.ps (by omega) (by omega) x3 y3 fu 0 (by omega) (by omega)
        simp only [List.drop_zero] at loop
        rw [show ((0 : Int)) = ((0 : Nat) : Int) from rfl] at loop ⊢
        rw [loop, decide_eq_false hgt]
        cases (x.c == [42]) <;> cases (x.c == y.c) <;> cases covAll x.ps y.ps <;> cases decide (x.ps.length < y.ps.length) <;> cases x.t <;> cases y.t <;> rfl
end Go.Proofs.YtcjgmffbebjddaaGreatDoor
