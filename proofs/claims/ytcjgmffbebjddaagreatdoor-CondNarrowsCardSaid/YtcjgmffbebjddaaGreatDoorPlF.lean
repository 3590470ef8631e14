/- Both, Meet, Covers: the code and the reference. -/
import Derived.Test.YtcjgmffbebjddaaGreatDoorPlE
set_option linter.all false
namespace Go.Proofs.YtcjgmffbebjddaaGreatDoor
open Go Go.Eng

/-! ### What is compiled -/
theorem compParts_mem : ∀ (r : List Str) (ps : List Str) (t : Bool), compParts r = some (ps, t) → ps.length ≤ r.length ∧ ∀ w ∈ ps, w ∈ r ∧ part w = true
  | [], ps, t, h => by
    obtain ⟨rfl, rfl⟩ : [] = ps ∧ false = t := by simpa [compParts] using h
    simp
  | [w], ps, t, h => by
    simp only [compParts] at h
    split at h
    · obtain ⟨rfl, rfl⟩ : [] = ps ∧ true = t := by simpa using h
      simp
    · split at h
      · rename_i hp
        obtain ⟨rfl, rfl⟩ : [w] = ps ∧ false = t := by simpa using h
        simp [hp]
      · cases h
  | w :: v :: r, ps, t, h => by
    simp only [compParts] at h
    split at h
    · rename_i hp
      rw [Option.map_eq_some_iff] at h
      obtain ⟨⟨ps1, t1⟩, h1, h2⟩ := h
      obtain ⟨rfl, rfl⟩ : w :: ps1 = ps ∧ t1 = t := by simpa using h2
      obtain ⟨h3, h4⟩ := compParts_mem (v :: r) ps1 t1 h1
      refine ⟨by simp at h3 ⊢; omega, fun x hx => ?_⟩
      rcases List.mem_cons.1 hx with rfl | hx
      · exact ⟨List.mem_cons_self .., hp⟩
      · exact ⟨List.mem_cons_of_mem _ (h4 x hx).1, (h4 x hx).2⟩
    · cases h

theorem kind_name {w : Str} (h : name w = true) : kindOf w = 0 := by
  have := word_head (name_word h)
  unfold kindOf
  rw [if_neg this]

theorem compile_ok {l : Str} {p : Pat} (h : compile l = some p) (hs : l.length ≤ 1000000) : PatOK p ∧ (p.c = [42] ∨ name p.c = true) ∧ ∀ w ∈ p.ps, part w = true := by
  unfold compile at h
  split at h
  · cases h
  · rename_i c r hsp
    split at h
    · rename_i hc
      rw [Option.map_eq_some_iff] at h
      obtain ⟨⟨ps, t⟩, h1, rfl⟩ := h
      simp only [Bool.and_eq_true, Bool.or_eq_true, decide_eq_true_eq, beq_iff_eq] at hc
      obtain ⟨h3, h4⟩ := compParts_mem r ps t h1
      have hle := splitL_le 47 l
      rw [hsp] at hle
      refine ⟨⟨by show ps.length ≤ 32; omega, ?_, fun w hw => ?_⟩, hc.1, fun w hw => (h4 w hw).2⟩
      · have := hle c (List.mem_cons_self ..); show c.length ≤ _; omega
      · have := hle w (List.mem_cons_of_mem _ (h4 w hw).1); omega
    · cases h

theorem commonR_ok {x y z : Pat} (h : commonR x y = some z) (hx : PatOK x) (hy : PatOK y) : PatOK z := by
  unfold commonR at h
  split at h
  · cases h
  · obtain rfl := Option.some.inj h
    obtain ⟨x1, x2, x3⟩ := hx
    obtain ⟨y1, y2, y3⟩ := hy
    refine ⟨?_, ?_, fun w hw => ?_⟩
    · show (zipR x.ps y.ps).length ≤ 32
      rw [zipR_length]; omega
    · show (meetW x.c y.c).length ≤ _
      rcases meetW_mem x.c y.c with h | h <;> rw [h] <;> assumption
    · rcases zipR_mem _ _ w hw with h | h
      · exact x3 w h
      · exact y3 w h

/-- What both patterns match: none: one is no pattern. -/
def bothR (p q : Str) : Option (Option Pat) := match compile p, compile q with
  | some x, some y => some (commonR x y)
  | _, _ => none

def BothA (p q : Str) (r : Option ((Int × ByteArray × List D × Bool × Unit) × Bool × Int × Unit)) : Prop :=
  match bothR p q with
  | none => ∃ z, r = some (z, false, 1, ())
  | some none => ∃ z, r = some (z, false, 0, ())
  | some (some z) => r = some ((kindOf z.c, bs (textOf z.c), z.ps.map dP, z.t, ()), true, 0, ())

theorem both_eq {fu : Nat} {p q : Str} (hf : 1000 < fu) (h1 : p.length < fu) (h2 : q.length < fu) (s1 : p.length ≤ 1000000) (s2 : q.length ≤ 1000000) : BothA p q (address_both fu (bs p) (bs q)) := by
  have c1 := compile_eq h1 s1 (by omega)
  have c2 := compile_eq h2 s2 (by omega)
  unfold CompA at c1 c2
  unfold BothA bothR address_both
  cases e1 : compile p with
  | none =>
    rw [e1] at c1
    obtain ⟨z1, c1⟩ := c1
    rw [c1]
    cases e2 : compile q with
    | none => rw [e2] at c2; obtain ⟨z2, c2⟩ := c2; rw [c2]; exact ⟨_, rfl⟩
    | some y => rw [e2] at c2; rw [c2]; exact ⟨_, rfl⟩
  | some x =>
    rw [e1] at c1
    rw [c1]
    cases e2 : compile q with
    | none => rw [e2] at c2; obtain ⟨z2, c2⟩ := c2; rw [c2]; exact ⟨_, rfl⟩
    | some y =>
      rw [e2] at c2
      rw [c2]
      have c3 := common_eq hf x y (compile_ok e1 s1).1 (compile_ok e2 s2).1
      unfold CommonA at c3
      simp only [Option.bind_some, Bool.not_true, cond_false]
      cases e3 : commonR x y with
      | none => rw [e3] at c3; obtain ⟨z, c3⟩ := c3; rw [c3]; exact ⟨_, rfl⟩
      | some z => rw [e3] at c3; rw [c3]; rfl

theorem bothR_ok {p q : Str} {z : Pat} (h : bothR p q = some (some z)) (s1 : p.length ≤ 1000000) (s2 : q.length ≤ 1000000) : PatOK z := by
  unfold bothR at h
  split at h
  · rename_i x y e1 e2
    exact commonR_ok (Option.some.inj h) (compile_ok e1 s1).1 (compile_ok e2 s2).1
  · cases h

def BothS (p q : Str) : ByteArray × Bool × Int × Unit := match bothR p q with
  | none => (bs [], false, 1, ())
  | some none => (bs [], false, 0, ())
  | some (some z) => (bs (patStr z), true, 0, ())

theorem Both_eq {fu : Nat} {p q : Str} (hf : 1000 < fu) (h1 : p.length < fu) (h2 : q.length < fu) (s1 : p.length ≤ 1000000) (s2 : q.length ≤ 1000000) : address_Both fu (bs p) (bs q) = some (BothS p q) := by
  have := both_eq hf h1 h2 s1 s2
  unfold BothA at this
  unfold address_Both BothS
  cases e : bothR p q with
  | none => rw [e] at this; obtain ⟨z, h⟩ := this; rw [h]; rfl
  | some o => cases o with
    | none => rw [e] at this; obtain ⟨z, h⟩ := this; rw [h]; rfl
    | some z =>
      rw [e] at this
      rw [this]
      simp only [Option.bind_some, Bool.not_true, cond_false, String_eq z (bothR_ok e s1 s2) hf]

def MeetS (p q : Str) : Bool × ByteArray × Int × Unit := match bothR p q with
  | none => (false, bs [], 1, ())
  | some none => (false, bs [], 0, ())
  | some (some z) => (true, bs (exampleL (withL [97] z.c) (z.ps.map (withL [97]))), 0, ())

theorem Meet_eq {fu : Nat} {p q : Str} (hf : 1000 < fu) (h1 : p.length < fu) (h2 : q.length < fu) (s1 : p.length ≤ 1000000) (s2 : q.length ≤ 1000000) : address_Meet fu (bs p) (bs q) = some (MeetS p q) := by
  have := both_eq hf h1 h2 s1 s2
  unfold BothA at this
  unfold address_Meet MeetS
  cases e : bothR p q with
  | none => rw [e] at this; obtain ⟨z, h⟩ := this; rw [h]; rfl
  | some o => cases o with
    | none => rw [e] at this; obtain ⟨z, h⟩ := this; rw [h]; rfl
    | some z =>
      rw [e] at this
      rw [this]
      obtain ⟨z1, z2, z3⟩ := bothR_ok e s1 s2
      have l1 := withL_len [97] z.c
      have l0 : ([97] : Str).length = 1 := rfl
      simp only [Option.bind_some, Bool.not_true, cond_false, with_eq [97] z.c (by simp) z2, words_eq (x0 := kindOf z.c) (x1 := bs (textOf z.c)) (t := z.t) (by omega : z.ps.length ≤ 1000) hf z3]
      rw [example_eq fu _ _ (by simp; omega) (by omega) (fun w hw => by
        obtain ⟨v, hv, rfl⟩ := List.mem_map.1 hw
        have := withL_len [97] v
        have := z3 v hv
        omega)]
      rfl

/-! ### Covering -/
def coverLoop (cust : Str) : List Str → Nat → List Str → List Str → Bool × Str
  | ws, i, a :: xs, b :: ys => if cov a b then coverLoop cust ws (i + 1) xs ys else (false, exampleL cust (ws.set i (withoutL b a)))
  | _, _, _, _ => (true, [])
def coversX (x y : Pat) : Bool × Str :=
  if !cov x.c y.c then (false, exampleL (withoutL y.c x.c) (y.ps.map (withL [97])))
  else if (decide (y.ps.length < x.ps.length) || (decide (x.ps.length < y.ps.length) && !x.t)) then (false, exampleL (withL [97] y.c) (y.ps.map (withL [97])))
  else if (y.t && !x.t) then (false, exampleL (withL [97] y.c) (y.ps.map (withL [97]) ++ [[97]]))
  else coverLoop (withL [97] y.c) (y.ps.map (withL [97])) 0 x.ps y.ps

theorem Covers_L15 (fu : Nat) (x0 : Int) (x1 : ByteArray) (x3 : Bool) (cust : Str) (ws xs ys : List Str) (hc : cust.length ≤ 2000000) (hle : xs.length ≤ ys.length) (hn : ys.length ≤ 1000) (hwl : ws.length = ys.length) (hw : ∀ w ∈ ws, w.length ≤ 2000000) (hx : ∀ w ∈ xs, w.length ≤ 1000000) (hy : ∀ w ∈ ys, w.length ≤ 1000000) :
    ∀ (n i : Nat), xs.length < n + i → i ≤ xs.length →
    address_Covers_L15 fu n x0 x1 (ys.map dP) x3 (bs cust) (ws.map dB) (xs.map dP) ((xs.length : Nat) : Int) (i : Int) =
      some (if (coverLoop cust ws i (xs.drop i) (ys.drop i)).1 then .inr ((), ()) else .inl ((), (false, bs (coverLoop cust ws i (xs.drop i) (ys.drop i)).2, 0, ()))) := by
  intro n
  induction n with
  | zero => intro i h; omega
  | succ n ih =>
    intro i h hi
    rw [address_Covers_L15]
    by_cases hlt : i < xs.length
    · obtain ⟨a, hx0⟩ : ∃ a, a = xs[i]'hlt := ⟨_, rfl⟩
      have hd : xs.drop i = a :: xs.drop (i + 1) := by rw [hx0]; exact List.drop_eq_getElem_cons hlt
      have hg : xs[i]? = some a := by rw [hx0]; exact List.getElem?_eq_getElem hlt
      have hlt2 : i < ys.length := by omega
      obtain ⟨b, hy0⟩ : ∃ b, b = ys[i]'hlt2 := ⟨_, rfl⟩
      have hd2 : ys.drop i = b :: ys.drop (i + 1) := by rw [hy0]; exact List.drop_eq_getElem_cons hlt2
      have hg2 : ys[i]? = some b := by rw [hy0]; exact List.getElem?_eq_getElem hlt2
      have hbl := hy b (List.mem_of_getElem? hg2)
      have e : decide ((i : Int) < ((xs.length : Nat) : Int)) = true := by simp; exact hlt
      have e' : i < (xs.map dP).length := by simp; exact hlt
      have f' : i < (ys.map dP).length := by simp; exact hlt2
      have g' : i < (ws.map dB).length := by simp; omega
      have gg : ∃ d, (ws.map dB)[i]? = some d := ⟨_, List.getElem?_eq_getElem g'⟩
      obtain ⟨d, gg⟩ := gg
      have hset : (ws.map dB).set i (D.v (.string (bs (withoutL b a)))) = (ws.set i (withoutL b a)).map dB := by rw [List.map_set]; rfl
      have wl := withoutL_len b a
      simp only [e, cond_true, nat?_nat, Option.bind_some, if_pos e']
      refine (rdA_bind hg _).trans ?_
      simp only [if_pos f']
      refine (rdA_bind hg2 _).trans ?_
      simp only [part_covers_eq fu a b (by omega), Option.bind_some]
      rw [hd, hd2]
      simp only [coverLoop]
      rcases Bool.eq_false_or_eq_true (cov a b) with hcv | hcv
      · simp only [hcv, Bool.not_true, cond_false, if_true]
        rw [w64_succ (by omega), ih (i + 1) (by omega) (by omega)]
      · simp only [hcv, Bool.not_false, cond_true]
        refine (rdA_bind hg2 _).trans ?_
        simp only [without_eq fu b a hbl, Option.bind_some, if_pos g', gg, hset]
        rw [example_eq fu cust _ (by simp; omega) hc (fun w hw' => by
          rcases List.mem_or_eq_of_mem_set hw' with h1 | h1
          · exact hw w h1
          · subst h1; omega)]
        simp
    · have hd : xs.drop i = [] := List.drop_eq_nil_of_le (by omega)
      rw [hd]
      simp [hlt, coverLoop]

def CoversS (p q : Str) : Bool × ByteArray × Int × Unit := match compile p, compile q with
  | some x, some y => ((coversX x y).1, bs (if (coversX x y).1 then [] else (coversX x y).2), 0, ())
  | _, _ => (false, bs [], 1, ())

theorem Covers_eq {fu : Nat} {p q : Str} (hf : 1000 < fu) (h1 : p.length < fu) (h2 : q.length < fu) (s1 : p.length ≤ 1000000) (s2 : q.length ≤ 1000000) : address_Covers fu (bs p) (bs q) = some (CoversS p q) := by
  have c1 := compile_eq h1 s1 (by omega)
  have c2 := compile_eq h2 s2 (by omega)
  unfold CompA at c1 c2
  unfold CoversS address_Covers
  cases e1 : compile p with
  | none =>
    rw [e1] at c1
    obtain ⟨z1, c1⟩ := c1
    rw [c1]
    cases e2 : compile q with
    | none => rw [e2] at c2; obtain ⟨z2, c2⟩ := c2; rw [c2]; rfl
    | some y => rw [e2] at c2; rw [c2]; rfl
  | some x =>
    rw [e1] at c1
    rw [c1]
    cases e2 : compile q with
    | none => rw [e2] at c2; obtain ⟨z2, c2⟩ := c2; rw [c2]; rfl
    | some y =>
      rw [e2] at c2
      rw [c2]
      obtain ⟨x1, x2, x3⟩ := (compile_ok e1 s1).1
      obtain ⟨y1, y2, y3⟩ := (compile_ok e2 s2).1
      have l0 : ([97] : Str).length = 1 := rfl
      have l1 := withL_len [97] y.c
      have l2 := withoutL_len y.c x.c
      have lw : ∀ w ∈ y.ps.map (withL [97]), w.length ≤ 2000000 := fun w hw => by
        obtain ⟨v, hv, rfl⟩ := List.mem_map.1 hw
        have := withL_len [97] v
        have := y3 v hv
        omega
      have lw2 : ∀ w ∈ y.ps.map (withL [97]) ++ [[97]], w.length ≤ 2000000 := fun w hw => by
        rcases List.mem_append.1 hw with hw | hw
        · exact lw w hw
        · simp at hw; subst hw; simp
      simp only [Option.bind_some, Bool.not_true, cond_false, with_eq [97] y.c (by simp) y2, words_eq (x0 := kindOf y.c) (x1 := bs (textOf y.c)) (t := y.t) (by omega : y.ps.length ≤ 1000) hf y3, part_covers_eq fu x.c y.c (by omega)]
      rw [without_eq fu y.c x.c y2]
      simp only [Option.bind_some]
      rw [example_eq fu _ _ (by simp; omega) (by omega) lw, example_eq fu _ _ (by simp; omega) (by omega) lw]
      have push : (y.ps.map (withL [97])).map dB ++ [D.v (.string (bs [97]))] = (y.ps.map (withL [97]) ++ [[97]]).map dB := by simp [dB]
      rw [push, example_eq fu _ _ (by simp; omega) (by omega) lw2]
      have room : (((y.ps.map (withL [97])).map dB).length + [D.v (.string (bs [97]))].length) * 16 ≤ maxRow := by simp [maxRow]; omega
      simp only [if_pos room, Option.bind_some]
      have d1 : decide ((((x.ps.map dP).length : Nat) : Int) > (((y.ps.map dP).length : Nat) : Int)) = decide (y.ps.length < x.ps.length) := by rw [Bool.eq_iff_iff]; simp
      have d2 : decide ((((x.ps.map dP).length : Nat) : Int) < (((y.ps.map dP).length : Nat) : Int)) = decide (x.ps.length < y.ps.length) := by rw [Bool.eq_iff_iff]; simp
      rw [d1, d2]
      unfold coversX
      cases hcc : cov x.c y.c
      · simp
      · by_cases hgt : y.ps.length < x.ps.length
        · simp [hgt]
        · have loop := Covers_L15 fu (kindOf y.c) (bs (textOf y.c)) y.t (withL [97] y.c) (y.ps.map (withL [97])) x.ps y.ps (by omega) (by omega) (by omega) (by simp) lw x3 y3 fu 0 (by omega) (by omega)
          simp only [List.drop_zero] at loop
          rw [List.length_map, show ((0 : Int)) = ((0 : Nat) : Int) from rfl, loop]
          simp only [hgt, decide_false, cond_false, Bool.not_true, Bool.false_or]
          cases hl : decide (x.ps.length < y.ps.length) <;> cases hyt : y.t <;> cases hxt : x.t <;> simp <;>
            (cases hcl : (coverLoop (withL [97] y.c) (y.ps.map (withL [97])) 0 x.ps y.ps).1 <;> simp [hcl])
end Go.Proofs.YtcjgmffbebjddaaGreatDoor
