/- What a list allows, and another one does not. -/
import Derived.Test.YtcjgmffbebjddaaGreatDoorPlL
set_option linter.all false
namespace Go.Proofs.YtcjgmffbebjddaaGreatDoor
open Go Go.Eng

def allowsG {α : Type} [BEq α] (l : List α) (x : α) : Bool := l.isEmpty || l.contains x

theorem idxStr_L2 {fu : Nat} (l : List Str) (s : Str) (hn : l.length ≤ 1000) : ∀ (n i : Nat), l.length < n + i → i ≤ l.length →
    ∃ r, slices_Index_string_string_L2 fu n (l.map dB) (bs s) ((l.length : Nat) : Int) (i : Int) = some r ∧ (((l.drop i).contains s = true ∧ ∃ k : Nat, r = .inl ((), ((k : Int), ()))) ∨ ((l.drop i).contains s = false ∧ r = .inr ((), ()))) := by
  intro n
  induction n with
  | zero => intro i h; omega
  | succ n ih =>
    intro i h hi
    rw [slices_Index_string_string_L2, List.length_map]
    rcases dropRel l i with ⟨a, ga, da, la⟩ | ⟨ga, da, da2, la⟩
    · simp only [intLt la, cond_true, nat?_nat, Option.bind_some, if_pos la, rdS_map, ga, Option.map_some, seq_bs]
      rw [w64_succ (by omega), da, List.contains_cons]
      rcases Bool.eq_false_or_eq_true (s == a) with hm | hm
      · simp only [hm, cond_true, Bool.true_or]
        exact ⟨_, rfl, .inl ⟨trivial, i, rfl⟩⟩
      · simp only [hm, cond_false, Bool.false_or]
        exact ih (i + 1) (by omega) (by omega)
    · rw [intNotLt la, da]
      exact ⟨_, rfl, .inr ⟨rfl, rfl⟩⟩
theorem allowsS_eq {fu : Nat} (hf : 1000 < fu) {l : List Str} (hn : l.length ≤ 1000) (s : Str) : cond_allows_string fu (l.map dB) (bs s) = some (allowsG l s) := by
  unfold cond_allows_string slices_Contains_string_string slices_Index_string_string allowsG
  obtain ⟨r, h1, h2⟩ := idxStr_L2 (fu := fu) l s hn fu 0 (by omega) (by omega)
  have e1 : ((((l.map dB).length : Nat) : Int) == 0) = l.isEmpty := by cases l <;> simp; omega
  rw [e1, List.length_map, show (0 : Int) = ((0 : Nat) : Int) from rfl, h1]
  rw [List.drop_zero] at h2
  rcases h2 with ⟨h2, k, rfl⟩ | ⟨h2, rfl⟩
  · rw [h2]; cases l.isEmpty <;> simp
  · rw [h2]; cases l.isEmpty <;> rfl
theorem idxInt_L2 {fu : Nat} (l : List Int) (s : Int) (hn : l.length ≤ 1000) : ∀ (n i : Nat), l.length < n + i → i ≤ l.length →
    ∃ r, slices_Index_int_int_L2 fu n (l.map dI) s ((l.length : Nat) : Int) (i : Int) = some r ∧ (((l.drop i).contains s = true ∧ ∃ k : Nat, r = .inl ((), ((k : Int), ()))) ∨ ((l.drop i).contains s = false ∧ r = .inr ((), ()))) := by
  intro n
  induction n with
  | zero => intro i h; omega
  | succ n ih =>
    intro i h hi
    rw [slices_Index_int_int_L2, List.length_map]
    rcases dropRel l i with ⟨a, ga, da, la⟩ | ⟨ga, da, da2, la⟩
    · simp only [intLt la, cond_true, nat?_nat, Option.bind_some, if_pos la, rdI_map, ga]
      rw [w64_succ (by omega), da, List.contains_cons]
      rcases Bool.eq_false_or_eq_true (s == a) with hm | hm
      · simp only [hm, cond_true, Bool.true_or]
        exact ⟨_, rfl, .inl ⟨trivial, i, rfl⟩⟩
      · simp only [hm, cond_false, Bool.false_or]
        exact ih (i + 1) (by omega) (by omega)
    · rw [intNotLt la, da]
      exact ⟨_, rfl, .inr ⟨rfl, rfl⟩⟩
theorem allowsI_eq {fu : Nat} (hf : 1000 < fu) {l : List Int} (hn : l.length ≤ 1000) (s : Int) : cond_allows_int fu (l.map dI) s = some (allowsG l s) := by
  unfold cond_allows_int slices_Contains_int_int slices_Index_int_int allowsG
  obtain ⟨r, h1, h2⟩ := idxInt_L2 (fu := fu) l s hn fu 0 (by omega) (by omega)
  have e1 : ((((l.map dI).length : Nat) : Int) == 0) = l.isEmpty := by cases l <;> simp; omega
  rw [e1, List.length_map, show (0 : Int) = ((0 : Nat) : Int) from rfl, h1]
  rw [List.drop_zero] at h2
  rcases h2 with ⟨h2, k, rfl⟩ | ⟨h2, rfl⟩
  · rw [h2]; cases l.isEmpty <;> simp
  · rw [h2]; cases l.isEmpty <;> rfl

/-- The first one of some that a list does not allow. -/
def outG {α : Type} [BEq α] (all a b : List α) : Option α := (if a.isEmpty then all else a).find? fun x => !allowsG b x

theorem roundS_eq {fu : Nat} (hf : 1000 < fu) {b : List Str} (hn : b.length ≤ 1000) (x : Str) (v : ByteArray) (t : Bool) : cond_outside_string_round4 fu (bs x) (b.map dB) v t =
    some (if allowsG b x then (true, (((0, ((), (), (), ())), ()), (b.map dB, ()), (v, ()), (t, ()), ())) else (false, (((2, ((), (), (), ())), ()), (b.map dB, ()), (bs x, ()), (true, ()), ()))) := by
  unfold cond_outside_string_round4
  rw [allowsS_eq hf hn]
  cases allowsG b x <;> rfl
theorem roundI_eq {fu : Nat} (hf : 1000 < fu) {b : List Int} (hn : b.length ≤ 1000) (x : Int) (v : Int) (t : Bool) : cond_outside_int_round4 fu x (b.map dI) v t =
    some (if allowsG b x then (true, (((0, ((), (), (), ())), ()), (b.map dI, ()), (v, ()), (t, ()), ())) else (false, (((2, ((), (), (), ())), ()), (b.map dI, ()), (x, ()), (true, ()), ()))) := by
  unfold cond_outside_int_round4
  rw [allowsI_eq hf hn]
  cases allowsG b x <;> rfl

theorem valuesS_L1 {fu : Nat} (hf : 1000 < fu) (a b : List Str) (hn : a.length ≤ 1000) (hm : b.length ≤ 1000) (v : ByteArray) (t : Bool) : ∀ (n i : Nat), a.length < n + i → i ≤ a.length →
    slices_Values_string_string_1_L1 fu n (a.map dB) (b.map dB) v t (a.map dB) ((a.length : Nat) : Int) (i : Int) =
      some (match (a.drop i).find? (fun x => !allowsG b x) with
        | some x => .inl (((((2, ((), (), (), ())), ()), (a.map dB, ()), (b.map dB, ()), (bs x, ()), (true, ()), ()), ()))
        | none => .inr (((((0, ((), (), (), ())), ()), (a.map dB, ()), (b.map dB, ()), (v, ()), (t, ()), ()), ()))) := by
  intro n
  induction n with
  | zero => intro i h; omega
  | succ n ih =>
    intro i h hi
    rw [slices_Values_string_string_1_L1, List.length_map]
    rcases dropRel a i with ⟨x, ga, da, la⟩ | ⟨ga, da, da2, la⟩
    · simp only [intLt la, cond_true, nat?_nat, Option.bind_some, if_pos la, rdS_map, ga, Option.map_some, roundS_eq hf hm]
      rw [w64_succ (by omega), da, List.find?_cons]
      rcases Bool.eq_false_or_eq_true (allowsG b x) with h1 | h1
      · simp only [h1, if_true, cond_true, Bool.not_true]
        exact ih (i + 1) (by omega) (by omega)
      · simp only [h1, Bool.false_eq_true, if_false, cond_false, Bool.not_false]
    · rw [intNotLt la, da]; rfl
theorem valuesI_L1 {fu : Nat} (hf : 1000 < fu) (a b : List Int) (hn : a.length ≤ 1000) (hm : b.length ≤ 1000) (v : Int) (t : Bool) : ∀ (n i : Nat), a.length < n + i → i ≤ a.length →
    slices_Values_int_int_1_L1 fu n (a.map dI) (b.map dI) v t (a.map dI) ((a.length : Nat) : Int) (i : Int) =
      some (match (a.drop i).find? (fun x => !allowsG b x) with
        | some x => .inl (((((2, ((), (), (), ())), ()), (a.map dI, ()), (b.map dI, ()), (x, ()), (true, ()), ()), ()))
        | none => .inr (((((0, ((), (), (), ())), ()), (a.map dI, ()), (b.map dI, ()), (v, ()), (t, ()), ()), ()))) := by
  intro n
  induction n with
  | zero => intro i h; omega
  | succ n ih =>
    intro i h hi
    rw [slices_Values_int_int_1_L1, List.length_map]
    rcases dropRel a i with ⟨x, ga, da, la⟩ | ⟨ga, da, da2, la⟩
    · simp only [intLt la, cond_true, nat?_nat, Option.bind_some, if_pos la, rdI_map, ga, roundI_eq hf hm]
      rw [w64_succ (by omega), da, List.find?_cons]
      rcases Bool.eq_false_or_eq_true (allowsG b x) with h1 | h1
      · simp only [h1, if_true, cond_true, Bool.not_true]
        exact ih (i + 1) (by omega) (by omega)
      · simp only [h1, Bool.false_eq_true, if_false, cond_false, Bool.not_false]
    · rw [intNotLt la, da]; rfl

def clientN (i : Nat) : Str := [99, UInt8.ofNat (48 + i / 10), UInt8.ofNat (48 + i % 10)]
def countryN (i : Nat) : Str := [UInt8.ofNat (97 + i / 26), UInt8.ofNat (97 + i % 26)]
def allCl : List Str := (List.range 33).map clientN
def allCo : List Str := (List.range 676).map countryN
def allSi : List Int := (List.range 64).map fun (n : Nat) => (n : Int)

theorem byteOf_eq (n : Nat) (h : n < 256) : Go.Eng.byteOf (D.v (.int .u8 (Go.IntKind.wrap .u8 (w64 (n : Int))))) = some (UInt8.ofNat n) := by
  have e1 : w64 (n : Int) = (n : Int) := w64_id (by omega) (by omega)
  have e2 : Go.IntKind.wrap .u8 (n : Int) = (n : Int) := by
    exact IntWalk.u8_in _ (by omega)
  rw [e1, e2]
  show (if 0 ≤ (n : Int) ∧ (n : Int) < 256 then some (UInt8.ofNat (n : Int).toNat) else none) = _
  rw [if_pos ⟨by omega, by omega⟩, Int.toNat_natCast]

theorem clientBytes (i : Nat) (h : i < 33) : Go.Eng.bytesOf [(D.v (.int .u8 (99 : Int))), (D.v (.int .u8 (Go.IntKind.wrap .u8 (w64 ((48 : Int) + (w64 (Int.tdiv (i : Int) (10 : Int)))))))), (D.v (.int .u8 (Go.IntKind.wrap .u8 (w64 ((48 : Int) + (Int.tmod (i : Int) (10 : Int)))))))] = some (clientN i) := by
  have d1 : Int.tdiv (i : Int) 10 = ((i / 10 : Nat) : Int) := by rw [Int.tdiv_eq_ediv_of_nonneg (by omega)]; omega
  have d2 : Int.tmod (i : Int) 10 = ((i % 10 : Nat) : Int) := by rw [Int.tmod_eq_emod_of_nonneg (by omega)]; omega
  have d3 : w64 ((i / 10 : Nat) : Int) = ((i / 10 : Nat) : Int) := w64_id (by omega) (by omega)
  have d4 : (48 : Int) + ((i / 10 : Nat) : Int) = ((48 + i / 10 : Nat) : Int) := by omega
  have d5 : (48 : Int) + ((i % 10 : Nat) : Int) = ((48 + i % 10 : Nat) : Int) := by omega
  rw [d1, d2, d3, d4, d5]
  have b0 : Go.Eng.byteOf (D.v (.int .u8 (99 : Int))) = some 99 := rfl
  simp only [Go.Eng.bytesOf, b0, byteOf_eq (48 + i / 10) (by omega), byteOf_eq (48 + i % 10) (by omega), Option.bind_some, Option.map_some]
  rfl
theorem countryBytes (i : Nat) (h : i < 676) : Go.Eng.bytesOf [(D.v (.int .u8 (Go.IntKind.wrap .u8 (w64 ((97 : Int) + (w64 (Int.tdiv (i : Int) (26 : Int)))))))), (D.v (.int .u8 (Go.IntKind.wrap .u8 (w64 ((97 : Int) + (Int.tmod (i : Int) (26 : Int)))))))] = some (countryN i) := by
  have d1 : Int.tdiv (i : Int) 26 = ((i / 26 : Nat) : Int) := by rw [Int.tdiv_eq_ediv_of_nonneg (by omega)]; omega
  have d2 : Int.tmod (i : Int) 26 = ((i % 26 : Nat) : Int) := by rw [Int.tmod_eq_emod_of_nonneg (by omega)]; omega
  have d3 : w64 ((i / 26 : Nat) : Int) = ((i / 26 : Nat) : Int) := w64_id (by omega) (by omega)
  have d4 : (97 : Int) + ((i / 26 : Nat) : Int) = ((97 + i / 26 : Nat) : Int) := by omega
  have d5 : (97 : Int) + ((i % 26 : Nat) : Int) = ((97 + i % 26 : Nat) : Int) := by omega
  rw [d1, d2, d3, d4, d5]
  simp only [Go.Eng.bytesOf, byteOf_eq (97 + i / 26) (by omega), byteOf_eq (97 + i % 26) (by omega), Option.bind_some, Option.map_some]
  rfl

theorem range_drop (m i : Nat) (h : i < m) : (List.range m).drop i = i :: (List.range m).drop (i + 1) := by
  have := List.drop_eq_getElem_cons (l := List.range m) (i := i) (by simpa using h)
  simpa using this

theorem clients_L1 {fu : Nat} (hf : 1000 < fu) (b : List Str) (hm : b.length ≤ 1000) (v : ByteArray) (t : Bool) : ∀ (n i : Nat), 33 < n + i → i ≤ 33 →
    cond_clients_L1 fu n (b.map dB) v t (i : Int) =
      some (match ((List.range 33).drop i).find? (fun x => !allowsG b (clientN x)) with
        | some x => .inl (((((2, ((), (), (), ())), ()), (b.map dB, ()), (bs (clientN x), ()), (true, ()), ()), ()))
        | none => .inr (((((0, ((), (), (), ())), ()), (b.map dB, ()), (v, ()), (t, ()), ()), ()))) := by
  intro n
  induction n with
  | zero => intro i h; omega
  | succ n ih =>
    intro i h hi
    rw [cond_clients_L1]
    by_cases la : i < 33
    · have d : decide ((i : Int) < 33) = true := by rw [decide_eq_true_eq]; omega
      simp only [d, cond_true, clientBytes i la, Option.bind_some]
      rw [show ByteArray.mk (Array.mk (clientN i)) = bs (clientN i) from rfl, roundS_eq hf hm, w64_succ (by omega), range_drop 33 i la, List.find?_cons]
      rcases Bool.eq_false_or_eq_true (allowsG b (clientN i)) with h1 | h1
      · simp only [h1, if_true, cond_true, Bool.not_true, Option.bind_some]
        exact ih (i + 1) (by omega) (by omega)
      · simp only [h1, Bool.false_eq_true, if_false, cond_false, Bool.not_false, Option.bind_some]
    · have d : decide ((i : Int) < 33) = false := by rw [decide_eq_false_iff_not]; omega
      have e : (List.range 33).drop i = [] := List.drop_eq_nil_of_le (by simp; omega)
      rw [d, e]; rfl
set_option maxRecDepth 10000 in
theorem countries_L1 {fu : Nat} (hf : 1000 < fu) (b : List Str) (hm : b.length ≤ 1000) (v : ByteArray) (t : Bool) : ∀ (n i : Nat), 676 < n + i → i ≤ 676 →
    cond_countries_L1 fu n (b.map dB) v t (i : Int) =
      some (match ((List.range 676).drop i).find? (fun x => !allowsG b (countryN x)) with
        | some x => .inl (((((2, ((), (), (), ())), ()), (b.map dB, ()), (bs (countryN x), ()), (true, ()), ()), ()))
        | none => .inr (((((0, ((), (), (), ())), ()), (b.map dB, ()), (v, ()), (t, ()), ()), ()))) := by
  intro n
  induction n with
  | zero => intro i h; omega
  | succ n ih =>
    intro i h hi
    rw [cond_countries_L1]
    by_cases la : i < 676
    · have d : decide ((i : Int) < 676) = true := by rw [decide_eq_true_eq]; omega
      simp only [d, cond_true, countryBytes i la, Option.bind_some]
      rw [show ByteArray.mk (Array.mk (countryN i)) = bs (countryN i) from rfl, roundS_eq hf hm, w64_succ (by omega), range_drop 676 i la, List.find?_cons]
      rcases Bool.eq_false_or_eq_true (allowsG b (countryN i)) with h1 | h1
      · simp only [h1, if_true, cond_true, Bool.not_true, Option.bind_some]
        exact ih (i + 1) (by omega) (by omega)
      · simp only [h1, Bool.false_eq_true, if_false, cond_false, Bool.not_false, Option.bind_some]
    · have d : decide ((i : Int) < 676) = false := by rw [decide_eq_false_iff_not]; omega
      have e : (List.range 676).drop i = [] := List.drop_eq_nil_of_le (by simp; omega)
      rw [d, e]; rfl
theorem sites_L1 {fu : Nat} (hf : 1000 < fu) (b : List Int) (hm : b.length ≤ 1000) (v : Int) (t : Bool) : ∀ (n i : Nat), 64 < n + i → i ≤ 64 →
    cond_sites_L1 fu n (b.map dI) v t (i : Int) =
      some (match ((List.range 64).drop i).find? (fun (x : Nat) => !allowsG b (x : Int)) with
        | some x => .inl (((((2, ((), (), (), ())), ()), (b.map dI, ()), ((x : Int), ()), (true, ()), ()), ()))
        | none => .inr (((((0, ((), (), (), ())), ()), (b.map dI, ()), (v, ()), (t, ()), ()), ()))) := by
  intro n
  induction n with
  | zero => intro i h; omega
  | succ n ih =>
    intro i h hi
    rw [cond_sites_L1]
    by_cases la : i < 64
    · have d : decide ((i : Int) < 64) = true := by rw [decide_eq_true_eq]; omega
      simp only [d, cond_true]
      rw [roundI_eq hf hm, w64_succ (by omega), range_drop 64 i la, List.find?_cons]
      rcases Bool.eq_false_or_eq_true (allowsG b (i : Int)) with h1 | h1
      · simp only [h1, if_true, cond_true, Bool.not_true, Option.bind_some]
        exact ih (i + 1) (by omega) (by omega)
      · simp only [h1, Bool.false_eq_true, if_false, cond_false, Bool.not_false, Option.bind_some]
    · have d : decide ((i : Int) < 64) = false := by rw [decide_eq_false_iff_not]; omega
      have e : (List.range 64).drop i = [] := List.drop_eq_nil_of_le (by simp; omega)
      rw [d, e]; rfl

def ansS (o : Option Str) : ByteArray × Bool × Unit := match o with
  | some x => (bs x, true, ())
  | none => (bs [], false, ())
def ansI (o : Option Int) : Int × Bool × Unit := match o with
  | some x => (x, true, ())
  | none => (0, false, ())

theorem outCl_eq {fu : Nat} (hf : 1000 < fu) {a b : List Str} (hn : a.length ≤ 1000) (hm : b.length ≤ 1000) : cond_outside_string fu (a.map dB) (b.map dB) = some (ansS (outG allCl a b)) := by
  unfold cond_outside_string outG
  have e : decide ((((a.map dB).length : Nat) : Int) > 0) = !a.isEmpty := by cases a <;> simp
  rw [e]
  unfold slices_Values_string_string_1 cond_clients
  have v := valuesS_L1 hf a b hn hm (bs []) false fu 0 (by omega) (by omega)
  have c := clients_L1 hf b hm (bs []) false fu 0 (by omega) (by omega)
  rw [List.length_map, show (0 : Int) = ((0 : Nat) : Int) from rfl, v, c]
  cases a.isEmpty
  · simp only [Bool.not_false, cond_true, Bool.false_eq_true, if_false, List.drop_zero, Option.bind_some]
    cases a.find? (fun x => !allowsG b x) <;> rfl
  · simp only [Bool.not_true, cond_false, if_true, List.drop_zero, Option.bind_some, allCl, List.find?_map]
    unfold Function.comp
    cases (List.range 33).find? (fun x => !allowsG b (clientN x)) <;> rfl
theorem outCo_eq {fu : Nat} (hf : 1000 < fu) {a b : List Str} (hn : a.length ≤ 1000) (hm : b.length ≤ 1000) : cond_outside_string_71 fu (a.map dB) (b.map dB) = some (ansS (outG allCo a b)) := by
  unfold cond_outside_string_71 outG
  have e : decide ((((a.map dB).length : Nat) : Int) > 0) = !a.isEmpty := by cases a <;> simp
  rw [e]
  unfold slices_Values_string_string_1 cond_countries
  have v := valuesS_L1 hf a b hn hm (bs []) false fu 0 (by omega) (by omega)
  have c := countries_L1 hf b hm (bs []) false fu 0 (by omega) (by omega)
  rw [List.length_map, show (0 : Int) = ((0 : Nat) : Int) from rfl, v, c]
  cases a.isEmpty
  · simp only [Bool.not_false, cond_true, Bool.false_eq_true, if_false, List.drop_zero, Option.bind_some]
    cases a.find? (fun x => !allowsG b x) <;> rfl
  · simp only [Bool.not_true, cond_false, if_true, List.drop_zero, Option.bind_some, allCo, List.find?_map]
    unfold Function.comp
    cases (List.range 676).find? (fun x => !allowsG b (countryN x)) <;> rfl
theorem outSi_eq {fu : Nat} (hf : 1000 < fu) {a b : List Int} (hn : a.length ≤ 1000) (hm : b.length ≤ 1000) : cond_outside_int fu (a.map dI) (b.map dI) = some (ansI (outG allSi a b)) := by
  unfold cond_outside_int outG
  have e : decide ((((a.map dI).length : Nat) : Int) > 0) = !a.isEmpty := by cases a <;> simp
  rw [e]
  unfold slices_Values_int_int_1 cond_sites
  have v := valuesI_L1 hf a b hn hm 0 false fu 0 (by omega) (by omega)
  have c := sites_L1 hf b hm 0 false fu 0 (by omega) (by omega)
  rw [show (((0 : Nat) : Int)) = (0 : Int) from rfl] at v c
  rw [List.length_map, v, c]
  cases a.isEmpty
  · simp only [Bool.not_false, cond_true, Bool.false_eq_true, if_false, List.drop_zero, Option.bind_some]
    cases a.find? (fun x => !allowsG b x) <;> rfl
  · simp only [Bool.not_true, cond_false, if_true, List.drop_zero, Option.bind_some, allSi, List.find?_map]
    unfold Function.comp
    cases (List.range 64).find? (fun (x : Nat) => !allowsG b (x : Int)) <;> rfl
end Go.Proofs.YtcjgmffbebjddaaGreatDoor
