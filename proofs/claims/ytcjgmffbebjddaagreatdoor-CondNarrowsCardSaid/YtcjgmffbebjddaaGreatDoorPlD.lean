/- Parts of patterns, covering, meeting: what the natives compute. -/
import Derived.Test.YtcjgmffbebjddaaGreatDoorPlC
set_option linter.all false
namespace Go.Proofs.YtcjgmffbebjddaaGreatDoor
open Go Go.Eng

def sufx (u t : Str) : Bool := decide (t.length ≤ u.length) && u.drop (u.length - t.length) == t
def hasL (p w : Str) : Bool := if kindOf p = 0 then p == w else if kindOf p = 1 then decide ((p.drop 1).length < w.length) && sufx w (p.drop 1) else true
def cov (p q : Str) : Bool := if kindOf q = 0 then hasL p q else if kindOf q = 1 then (kindOf p == 2 || (kindOf p == 1 && sufx (q.drop 1) (p.drop 1))) else kindOf p == 2
def withL (b w : Str) : Str := if kindOf w = 0 then w else if kindOf w = 1 then b ++ w.drop 1 else b
def withoutL (p q : Str) : Str := if hasL q (withL [97] p) then withL [98] p else withL [97] p
def meetL (p q : Str) : Str × Bool := if cov p q then (q, true) else (p, cov q p)
def exampleL (c : Str) (ws : List Str) : Str := joinL (c :: ws) [47]

theorem kindOf_cases (w : Str) : (kindOf w = 0 ∧ textOf w = w ∧ w.head? ≠ some 42) ∨ (kindOf w = 1 ∧ textOf w = w.drop 1 ∧ ∃ b s, w = 42 :: b :: s) ∨ (kindOf w = 2 ∧ textOf w = [] ∧ w = [42]) := by
  unfold kindOf textOf
  match w with
  | [] => simp
  | [a] => by_cases h : a = 42 <;> simp [h]
  | a :: b :: s => by_cases h : a = 42 <;> simp [h]

theorem w64_sub {a b : Nat} (h : b ≤ a) (ha : a ≤ 1000000000) : w64 ((a : Int) - (b : Int)) = ((a - b : Nat) : Int) := by
  rw [w64_id (by omega) (by omega)]; omega

theorem HasSuffix_eq (fu : Nat) (u t : Str) (hu : u.length ≤ 1000000000) : strings_HasSuffix fu (bs u) (bs t) = some (sufx u t) := by
  unfold strings_HasSuffix i_stringslite_HasSuffix sufx
  by_cases h : t.length ≤ u.length
  · have e1 : decide ((((bs u).size : Nat) : Int) ≥ (((bs t).size : Nat) : Int)) = true := by simp; exact h
    rw [e1, bs_size, bs_size, w64_sub h hu]
    simp only [cond_true, nat?_nat, Option.bind_some]
    rw [if_pos ⟨by omega, Nat.le_refl _⟩]
    simp [h]
  · have e1 : decide ((((bs u).size : Nat) : Int) ≥ (((bs t).size : Nat) : Int)) = false := by simp; omega
    rw [e1]
    simp [h]

theorem part_has_eq (fu : Nat) (p w : Str) (hw : w.length ≤ 1000000000) : address_part_has fu (kindOf p) (bs (textOf p)) (bs w) = some (hasL p w) := by
  unfold address_part_has hasL
  rcases kindOf_cases p with ⟨h1, h2, h3⟩ | ⟨h1, h2, h3⟩ | ⟨h1, h2, h3⟩
  · simp [h1, h2]
  · rw [h1, h2, HasSuffix_eq fu w _ hw]
    have e : decide ((((bs w).size : Nat) : Int) > (((bs (p.drop 1)).size : Nat) : Int)) = decide ((p.drop 1).length < w.length) := by rw [Bool.eq_iff_iff, decide_eq_true_eq, decide_eq_true_eq, bs_size, bs_size]; omega
    rw [e]
    cases decide ((p.drop 1).length < w.length) <;> simp
  · simp [h1]

theorem part_covers_eq (fu : Nat) (p q : Str) (hq : q.length ≤ 1000000000) : address_part_covers fu (kindOf p) (bs (textOf p)) (kindOf q) (bs (textOf q)) = some (cov p q) := by
  unfold address_part_covers cov
  rcases kindOf_cases q with ⟨h1, h2, h3⟩ | ⟨h1, h2, h3⟩ | ⟨h1, h2, h3⟩
  · rw [h1, h2, part_has_eq fu p q hq]
    simp
  · have hl : (q.drop 1).length ≤ 1000000000 := by simp; omega
    rw [h1, h2, HasSuffix_eq fu _ _ hl]
    rcases kindOf_cases p with ⟨k1, k2, k3⟩ | ⟨k1, k2, k3⟩ | ⟨k1, k2, k3⟩
    · simp [k1]
    · rw [k1, k2]; simp
    · simp [k1]
  · simp [h1]

theorem meet_eq (fu : Nat) (p q : Str) (hp : p.length ≤ 1000000000) (hq : q.length ≤ 1000000000) : address_meet fu (kindOf p) (bs (textOf p)) (kindOf q) (bs (textOf q)) =
    some ((kindOf (meetL p q).1, bs (textOf (meetL p q).1), ()), (meetL p q).2, ()) := by
  unfold address_meet meetL
  rw [part_covers_eq fu p q hq, part_covers_eq fu q p hp]
  cases cov p q <;> simp

theorem with_eq (b w : Str) (hb : b.length ≤ 1000000) (hw : w.length ≤ 1000000) : address_part_with (kindOf w) (bs (textOf w)) (bs b) = some (bs (withL b w)) := by
  unfold address_part_with withL
  rcases kindOf_cases w with ⟨h1, h2, h3⟩ | ⟨h1, h2, h3⟩ | ⟨h1, h2, h3⟩
  · simp [h1, h2]
  · rw [h1, h2]
    rw [if_pos (by simp; omega)]
    simp
  · simp [h1]
theorem withL_len (b w : Str) : (withL b w).length ≤ b.length + w.length := by
  unfold withL
  split
  · omega
  · split
    · simp
    · omega
theorem without_eq (fu : Nat) (p q : Str) (hp : p.length ≤ 1000000) : address_part_without fu (kindOf p) (bs (textOf p)) (kindOf q) (bs (textOf q)) = some (bs (withoutL p q)) := by
  unfold address_part_without withoutL
  have h1 := withL_len [97] p
  have h2 : ([97] : Str).length = 1 := rfl
  rw [with_eq [97] p (by simp) hp, with_eq [98] p (by simp) hp]
  simp only [Option.bind_some]
  rw [part_has_eq fu q _ (by omega)]
  cases hasL q (withL [97] p) <;> simp
theorem withoutL_len (p q : Str) : (withoutL p q).length ≤ p.length + 1 := by
  unfold withoutL
  have h1 := withL_len [97] p
  have h2 := withL_len [98] p
  have h3 : ([97] : Str).length = 1 := rfl
  have h4 : ([98] : Str).length = 1 := rfl
  split <;> omega

theorem part_String_eq (w : Str) (hw : w.length ≤ 1000000) : address_part_String (kindOf w) (bs (textOf w)) = some (bs w) := by
  unfold address_part_String
  rcases kindOf_cases w with ⟨h1, h2, h3⟩ | ⟨h1, h2, b, s, h3⟩ | ⟨h1, h2, h3⟩
  · simp [h1, h2]
  · rw [h1, h2, if_pos (by simp; omega)]
    subst h3; simp
  · rw [h1, h2, if_pos (by simp)]
    subst h3; simp

theorem rdA_bind {β : Type} {l : List Str} {i : Nat} {w : Str} (h : l[i]? = some w) (f : LfsT [.int .i64, .str] → Option β) : (rdA [(.int .i64), .str] (l.map dP) i).bind f = f ((kindOf w, bs (textOf w), ()) : Int × ByteArray × Unit) := by
  simp only [rdA, List.getElem?_map, h]
  rfl

/-! ### Joining -/
theorem joinL_cons (a : Str) (r : List Str) (sep : Str) : (joinL (a :: r) sep).length = a.length + (r.map fun x => sep.length + x.length).sum := by
  unfold joinL
  rw [Lib.join_cons, List.length_append]
  congr 1
  unfold Lib.joinTail
  induction r with
  | nil => rfl
  | cons b r ih => simp [List.sum_cons, ih, Nat.add_assoc]
theorem sum_le (M : Nat) (sep : Str) : ∀ (r : List Str), (∀ w ∈ r, w.length ≤ M) → (r.map fun x => sep.length + x.length).sum ≤ r.length * (sep.length + M) := by
  intro r
  induction r with
  | nil => intro _; simp
  | cons a r ih =>
    intro h
    have h1 := h a (List.mem_cons_self ..)
    have h2 := ih fun w hw => h w (List.mem_cons_of_mem _ hw)
    simp only [List.map_cons, List.sum_cons, List.length_cons, Nat.add_mul, Nat.one_mul]
    omega
theorem joinL_small (a : Str) (r : List Str) (sep : Str) (hs : sep.length ≤ 10) (hn : r.length ≤ 1000) (ha : a.length ≤ 2000000) (hr : ∀ w ∈ r, w.length ≤ 2000000) : (joinL (a :: r) sep).length ≤ 10000000000 := by
  rw [joinL_cons]
  have h1 := sum_le 2000000 sep r hr
  have h2 : r.length * (sep.length + 2000000) ≤ 1000 * 2000010 := Nat.mul_le_mul hn (by omega)
  omega
theorem Join_eq (a : Str) (r : List Str) (sep : Str) (hs : sep.length ≤ 10) (hn : r.length ≤ 1000) (ha : a.length ≤ 2000000) (hr : ∀ w ∈ r, w.length ≤ 2000000) : strings_Join ((a :: r).map dB) (bs sep) = some (bs (joinL (a :: r) sep)) := by
  have := joinL_small a r sep hs hn ha hr
  exact strings_Join_bs _ _ (by simp [maxRow]; omega) (by simp only [maxRow]; omega)

theorem example_eq (fu : Nat) (c : Str) (ws : List Str) (hn : ws.length ≤ 1000) (ha : c.length ≤ 2000000) (hr : ∀ w ∈ ws, w.length ≤ 2000000) : address_example fu (bs c) (ws.map dB) = some (bs (exampleL c ws)) := by
  unfold address_example exampleL
  rw [if_pos (by simp [maxRow]; omega)]
  have : ([D.v (.string (bs c))] ++ ws.map dB) = (c :: ws).map dB := by simp [dB]
  rw [this, Join_eq c ws [47] (by simp) hn ha hr]
  rfl

/-! ### Loops -/
theorem words_L3 (fu : Nat) (ps : List Str) (hn : ps.length ≤ 1000) (hw : ∀ w ∈ ps, w.length ≤ 1000000) : ∀ (n i : Nat) (acc : List Str), ps.length < n + i → i ≤ ps.length → acc.length ≤ i →
    address_pattern_words_L3 fu n (acc.map dB) (ps.map dP) ((ps.length : Nat) : Int) (i : Int) = some ((), ((acc ++ (ps.drop i).map (withL [97])).map dB, ())) := by
  intro n
  induction n with
  | zero => intro i acc h; omega
  | succ n ih =>
    intro i acc h hi ha
    rw [address_pattern_words_L3]
    by_cases hlt : i < ps.length
    · obtain ⟨w, hx⟩ : ∃ w, w = ps[i]'hlt := ⟨_, rfl⟩
      have hd : ps.drop i = w :: ps.drop (i + 1) := by rw [hx]; exact List.drop_eq_getElem_cons hlt
      have hg : ps[i]? = some w := by rw [hx]; exact List.getElem?_eq_getElem hlt
      have hwl := hw w (List.mem_of_getElem? hg)
      have e : decide ((i : Int) < ((ps.length : Nat) : Int)) = true := by simp; exact hlt
      have e' : i < (ps.map dP).length := by simp; exact hlt
      have push : (acc.map dB ++ [D.v (.string (bs (withL [97] w)))]) = (acc ++ [withL [97] w]).map dB := by simp [dB]
      have room : (((acc.map dB).length + [D.v (.string (bs (withL [97] w)))].length) * 16 ≤ maxRow) := by simp [maxRow]; omega
      simp only [e, cond_true, nat?_nat, Option.bind_some, if_pos e']
      refine (rdA_bind hg _).trans ?_
      simp only [with_eq [97] w (by simp) hwl, Option.bind_some, if_pos room, push]
      rw [w64_succ (by omega), ih (i + 1) (acc ++ [withL [97] w]) (by omega) (by omega) (by simp; omega), hd]
      simp
    · have hd : ps.drop i = [] := List.drop_eq_nil_of_le (by omega)
      have e : decide ((i : Int) < ((ps.length : Nat) : Int)) = false := by simp; omega
      simp [hlt, hd]
theorem words_eq {fu : Nat} {x0 : Int} {x1 : ByteArray} {t : Bool} {ps : List Str} (hn : ps.length ≤ 1000) (hf : 1000 < fu) (hw : ∀ w ∈ ps, w.length ≤ 1000000) : address_pattern_words fu x0 x1 (ps.map dP) t = some ((ps.map (withL [97])).map dB) := by
  unfold address_pattern_words
  have := words_L3 fu ps hn hw fu 0 [] (by omega) (by omega) (by simp)
  simp only [List.map_nil, List.nil_append, List.drop_zero] at this
  rw [List.length_map, show ((0 : Int)) = ((0 : Nat) : Int) from rfl, this]
  rfl

theorem String_L3 (fu : Nat) (x0 : Int) (x1 : ByteArray) (z : List D) (t : Bool) (ps : List Str) (hn : ps.length ≤ 1000) (hw : ∀ w ∈ ps, w.length ≤ 1000000) : ∀ (n i : Nat) (acc : List Str), ps.length < n + i → i ≤ ps.length → acc.length ≤ i + 1 →
    address_pattern_String_L3 fu n x0 x1 z t (acc.map dB) (ps.map dP) ((ps.length : Nat) : Int) (i : Int) = some (((x0, x1, z, t, ()), ()), ((), (acc ++ ps.drop i).map dB, ())) := by
  intro n
  induction n with
  | zero => intro i acc h; omega
  | succ n ih =>
    intro i acc h hi ha
    rw [address_pattern_String_L3]
    by_cases hlt : i < ps.length
    · obtain ⟨w, hx⟩ : ∃ w, w = ps[i]'hlt := ⟨_, rfl⟩
      have hd : ps.drop i = w :: ps.drop (i + 1) := by rw [hx]; exact List.drop_eq_getElem_cons hlt
      have hg : ps[i]? = some w := by rw [hx]; exact List.getElem?_eq_getElem hlt
      have hwl := hw w (List.mem_of_getElem? hg)
      have e : decide ((i : Int) < ((ps.length : Nat) : Int)) = true := by simp; exact hlt
      have e' : i < (ps.map dP).length := by simp; exact hlt
      have push : (acc.map dB ++ [D.v (.string (bs w))]) = (acc ++ [w]).map dB := by simp [dB]
      have room : (((acc.map dB).length + [D.v (.string (bs w))].length) * 16 ≤ maxRow) := by simp [maxRow]; omega
      simp only [e, cond_true, nat?_nat, Option.bind_some, if_pos e']
      refine (rdA_bind hg _).trans ?_
      simp only [part_String_eq w hwl, Option.bind_some, if_pos room, push]
      rw [w64_succ (by omega), ih (i + 1) (acc ++ [w]) (by omega) (by omega) (by simp; omega), hd]
      simp
    · have hd : ps.drop i = [] := List.drop_eq_nil_of_le (by omega)
      have e : decide ((i : Int) < ((ps.length : Nat) : Int)) = false := by simp; omega
      simp [hlt, hd]
def patStr (p : Pat) : Str := joinL (p.c :: (p.ps ++ if p.t then [[42, 42]] else [])) [47]
def PatOK (p : Pat) : Prop := p.ps.length ≤ 32 ∧ p.c.length ≤ 1000000 ∧ ∀ w ∈ p.ps, w.length ≤ 1000000
theorem String_eq {fu : Nat} (p : Pat) (hp : PatOK p) (hf : 1000 < fu) : address_pattern_String fu (kindOf p.c) (bs (textOf p.c)) (p.ps.map dP) p.t = some (bs (patStr p)) := by
  obtain ⟨h1, h2, h3⟩ := hp
  unfold address_pattern_String patStr
  rw [part_String_eq _ h2]
  simp only [Option.bind_some]
  have := String_L3 fu (kindOf p.c) (bs (textOf p.c)) (p.ps.map dP) p.t p.ps (by omega) h3 fu 0 [p.c] (by omega) (by omega) (by simp)
  have e0 : [D.v (.string (bs p.c))] = [p.c].map dB := rfl
  rw [e0, List.length_map, show ((0 : Int)) = ((0 : Nat) : Int) from rfl, this]
  simp only [Option.bind_some, List.drop_zero]
  cases ht : p.t
  · simp only [cond_false]
    have e1 : [p.c] ++ p.ps = p.c :: p.ps := rfl
    rw [e1, Join_eq p.c p.ps [47] (by simp) (by omega) (by omega) (fun w hw => by have := h3 w hw; omega)]
    simp
  · simp only [cond_true]
    have e1 : ([p.c] ++ p.ps).map dB ++ [D.v (.string (bs [42, 42]))] = (p.c :: (p.ps ++ [[42, 42]])).map dB := by simp [dB]
    rw [if_pos (by simp [maxRow]; omega), e1, Join_eq p.c (p.ps ++ [[42, 42]]) [47] (by simp) (by simp; omega) (by omega) (fun w hw => by
      rcases List.mem_append.1 hw with hw | hw
      · have := h3 w hw; omega
      · simp at hw; subst hw; simp)]
    simp
end Go.Proofs.YtcjgmffbebjddaaGreatDoor
