/- Meeting of conditions: the code and the reference. -/
import Derived.Test.YtcjgmffbebjddaaGreatDoorPlJ
set_option linter.all false
namespace Go.Proofs.YtcjgmffbebjddaaGreatDoor
open Go Go.Eng

/-! ### Lists -/
theorem rhas_L2 {fu : Nat} (l : List Str) (s : Str) (hn : l.length ≤ 1000) : ∀ (n i : Nat), l.length < n + i → i ≤ l.length →
    ref21_has_L2 fu n (l.map dB) (bs s) (i : Int) = some (if (l.drop i).contains s then .inl ((), (true, ())) else .inr ((), ())) := by
  intro n
  induction n with
  | zero => intro i h; omega
  | succ n ih =>
    intro i h hi
    rw [ref21_has_L2, List.length_map]
    rcases dropRel l i with ⟨a, ga, da, la⟩ | ⟨ga, da, da2, la⟩
    · simp only [intLt la, cond_true, nat?_nat, Option.bind_some, if_pos la, rdS_map, ga, Option.map_some, seq_bs]
      rw [w64_succ (by omega), ih (i + 1) (by omega) (by omega), da, List.contains_cons]
      have e : (a == s) = (s == a) := by rw [Bool.eq_iff_iff]; simp only [beq_iff_eq]; exact eq_comm
      rw [e]
      rcases Bool.eq_false_or_eq_true (s == a) with hm | hm <;> simp [hm]
    · rw [intNotLt la, da]; rfl
theorem rhas_eq {fu : Nat} (hf : 1000 < fu) {l : List Str} (hn : l.length ≤ 1000) (s : Str) : ref21_has fu (l.map dB) (bs s) = some (l.contains s) := by
  unfold ref21_has
  rw [show (0 : Int) = ((0 : Nat) : Int) from rfl, rhas_L2 l s hn fu 0 (by omega) (by omega), List.drop_zero]
  rcases Bool.eq_false_or_eq_true (l.contains s) with hm | hm <;> simp only [hm, if_true, Bool.false_eq_true, if_false, Option.bind_some]
theorem rsite_L2 {fu : Nat} (l : List Int) (s : Int) (hn : l.length ≤ 1000) : ∀ (n i : Nat), l.length < n + i → i ≤ l.length →
    ref21_site_L2 fu n (l.map dI) s (i : Int) = some (if (l.drop i).contains s then .inl ((), (true, ())) else .inr ((), ())) := by
  intro n
  induction n with
  | zero => intro i h; omega
  | succ n ih =>
    intro i h hi
    rw [ref21_site_L2, List.length_map]
    rcases dropRel l i with ⟨a, ga, da, la⟩ | ⟨ga, da, da2, la⟩
    · simp only [intLt la, cond_true, nat?_nat, Option.bind_some, if_pos la, rdI_map, ga]
      rw [w64_succ (by omega), ih (i + 1) (by omega) (by omega), da, List.contains_cons]
      have e : (a == s) = (s == a) := by rw [Bool.eq_iff_iff]; simp only [beq_iff_eq]; exact eq_comm
      rw [e]
      rcases Bool.eq_false_or_eq_true (s == a) with hm | hm <;> simp [hm]
    · rw [intNotLt la, da]; rfl
theorem rsite_eq {fu : Nat} (hf : 1000 < fu) {l : List Int} (hn : l.length ≤ 1000) (s : Int) : ref21_site fu (l.map dI) s = some (l.contains s) := by
  unfold ref21_site
  rw [show (0 : Int) = ((0 : Nat) : Int) from rfl, rsite_L2 l s hn fu 0 (by omega) (by omega), List.drop_zero]
  rcases Bool.eq_false_or_eq_true (l.contains s) with hm | hm <;> simp only [hm, if_true, Bool.false_eq_true, if_false, Option.bind_some]

/-- What is in two lists, of which an empty one has everything. -/
def bothG {α : Type} [BEq α] (xs ys : List α) : List α × Bool :=
  let zs := if xs.isEmpty then ys else xs
  let o := zs.filter fun x => ys.isEmpty || ys.contains x
  (o, !o.isEmpty || zs.isEmpty)

theorem bothG_eq {α : Type} [BEq α] [LawfulBEq α] (xs ys : List α) : bothG xs ys = if xs.isEmpty then (ys, true) else if ys.isEmpty then (xs, true) else (xs.filter fun x => ys.contains x, !(xs.filter fun x => ys.contains x).isEmpty) := by
  unfold bothG
  cases xs with
  | nil =>
    have : (ys.filter fun x => ys.isEmpty || ys.contains x) = ys := List.filter_eq_self.2 fun a ha => by simp [ha]
    simp only [List.isEmpty_nil, if_true, this]
    cases ys <;> rfl
  | cons a r =>
    cases ys with
    | nil => simp
    | cons b s => simp

theorem rboth_L7 {fu : Nat} (hf : 1000 < fu) (xs ys : List Str) (hn : xs.length ≤ 1000) (hm : ys.length ≤ 1000) : ∀ (n i : Nat) (acc : List Str), xs.length < n + i → i ≤ xs.length → acc.length ≤ i →
    ref21_both_L7 fu n (xs.map dB) (ys.map dB) (acc.map dB) (i : Int) = some ((), ((acc ++ (xs.drop i).filter fun x => ys.contains x).map dB, ())) := by
  intro n
  induction n with
  | zero => intro i acc h; omega
  | succ n ih =>
    intro i acc h hi ha
    rw [ref21_both_L7, List.length_map]
    rcases dropRel xs i with ⟨a, ga, da, la⟩ | ⟨ga, da, da2, la⟩
    · have push : acc.map dB ++ [D.v (.string (bs a))] = (acc ++ [a]).map dB := by simp [dB]
      have room : ((acc.map dB).length + [D.v (.string (bs a))].length) * 16 ≤ maxRow := by simp [maxRow]; omega
      simp only [intLt la, cond_true, nat?_nat, Option.bind_some, if_pos la, rdS_map, ga, Option.map_some, rhas_eq hf hm, if_pos room, push]
      rw [w64_succ (by omega), ih (i + 1) acc (by omega) (by omega) (by omega), ih (i + 1) (acc ++ [a]) (by omega) (by omega) (by simp; omega), da, List.filter_cons]
      rcases Bool.eq_false_or_eq_true (ys.contains a) with h1 | h1
      · simp only [h1, cond_true, if_true, List.append_assoc, List.singleton_append]
      · simp only [h1, cond_false, Bool.false_eq_true, if_false]
    · rw [intNotLt la, da]; simp
theorem rboth_eq {fu : Nat} (hf : 1000 < fu) {xs ys : List Str} (hn : xs.length ≤ 1000) (hm : ys.length ≤ 1000) : ref21_both fu (xs.map dB) (ys.map dB) = some ((bothG xs ys).1.map dB, (bothG xs ys).2, ()) := by
  unfold ref21_both
  rw [bothG_eq]
  have e1 : ((((xs.map dB).length : Nat) : Int) == 0) = xs.isEmpty := by cases xs <;> simp; omega
  have e2 : ((((ys.map dB).length : Nat) : Int) == 0) = ys.isEmpty := by cases ys <;> simp; omega
  rw [e1, e2]
  have := rboth_L7 hf xs ys hn hm fu 0 [] (by omega) (by omega) (by simp)
  simp only [List.map_nil, List.nil_append, List.drop_zero] at this
  rw [show (0 : Int) = ((0 : Nat) : Int) from rfl, this]
  cases xs.isEmpty
  · cases ys.isEmpty
    · simp only [cond_false, Option.bind_some, Bool.false_eq_true, if_false]
      congr 3
      rw [List.length_map]
      cases (xs.filter fun x => ys.contains x) with
      | nil => rfl
      | cons a r => simp
    · rfl
  · rfl
theorem rcommon_L7 {fu : Nat} (hf : 1000 < fu) (xs ys : List Int) (hn : xs.length ≤ 1000) (hm : ys.length ≤ 1000) : ∀ (n i : Nat) (acc : List Int), xs.length < n + i → i ≤ xs.length → acc.length ≤ i →
    ref21_common_L7 fu n (xs.map dI) (ys.map dI) (acc.map dI) (i : Int) = some ((), ((acc ++ (xs.drop i).filter fun x => ys.contains x).map dI, ())) := by
  intro n
  induction n with
  | zero => intro i acc h; omega
  | succ n ih =>
    intro i acc h hi ha
    rw [ref21_common_L7, List.length_map]
    rcases dropRel xs i with ⟨a, ga, da, la⟩ | ⟨ga, da, da2, la⟩
    · have push : acc.map dI ++ [D.v (.int .i64 a)] = (acc ++ [a]).map dI := by simp [dI]
      have room : ((acc.map dI).length + [D.v (.int .i64 a)].length) * 8 ≤ maxRow := by simp [maxRow]; omega
      simp only [intLt la, cond_true, nat?_nat, Option.bind_some, if_pos la, rdI_map, ga, rsite_eq hf hm, if_pos room, push]
      rw [w64_succ (by omega), ih (i + 1) acc (by omega) (by omega) (by omega), ih (i + 1) (acc ++ [a]) (by omega) (by omega) (by simp; omega), da, List.filter_cons]
      rcases Bool.eq_false_or_eq_true (ys.contains a) with h1 | h1
      · simp only [h1, cond_true, if_true, List.append_assoc, List.singleton_append]
      · simp only [h1, cond_false, Bool.false_eq_true, if_false]
    · rw [intNotLt la, da]; simp
theorem rcommon_eq {fu : Nat} (hf : 1000 < fu) {xs ys : List Int} (hn : xs.length ≤ 1000) (hm : ys.length ≤ 1000) : ref21_common fu (xs.map dI) (ys.map dI) = some ((bothG xs ys).1.map dI, (bothG xs ys).2, ()) := by
  unfold ref21_common
  rw [bothG_eq]
  have e1 : ((((xs.map dI).length : Nat) : Int) == 0) = xs.isEmpty := by cases xs <;> simp; omega
  have e2 : ((((ys.map dI).length : Nat) : Int) == 0) = ys.isEmpty := by cases ys <;> simp; omega
  rw [e1, e2]
  have := rcommon_L7 hf xs ys hn hm fu 0 [] (by omega) (by omega) (by simp)
  simp only [List.map_nil, List.nil_append, List.drop_zero] at this
  rw [show (0 : Int) = ((0 : Nat) : Int) from rfl, this]
  cases xs.isEmpty
  · cases ys.isEmpty
    · simp only [cond_false, Option.bind_some, Bool.false_eq_true, if_false]
      congr 3
      rw [List.length_map]
      cases (xs.filter fun x => ys.contains x) with
      | nil => rfl
      | cons a r => simp
    · rfl
  · rfl

theorem hasB_map (ys : List Str) (x : Str) : hasB (ys.map bs) (bs x) = ys.contains x := by
  unfold hasB
  induction ys with
  | nil => rfl
  | cons a r ih =>
    rw [List.map_cons, List.any_cons, ih, List.contains_cons]
    rfl
theorem hasI_map (ys : List Int) (x : Int) : hasI ys x = ys.contains x := by
  unfold hasI
  induction ys with
  | nil => rfl
  | cons a r ih =>
    rw [List.any_cons, ih, List.contains_cons]
theorem bothS_map (xs ys : List Str) : bothS (xs.map bs) (ys.map bs) = ((bothG xs ys).1.map bs, (bothG xs ys).2) := by
  unfold bothS bothG
  have e1 : (xs.map bs).isEmpty = xs.isEmpty := by cases xs <;> rfl
  have e2 : (ys.map bs).isEmpty = ys.isEmpty := by cases ys <;> rfl
  have e3 : (if (xs.map bs).isEmpty = true then ys.map bs else xs.map bs) = (if xs.isEmpty = true then ys else xs).map bs := by rw [e1]; split <;> rfl
  have e4 : ∀ (zs : List Str), (zs.map bs).filter (fun x => (ys.map bs).isEmpty || hasB (ys.map bs) x) = (zs.filter fun x => ys.isEmpty || ys.contains x).map bs := by
    intro zs
    rw [List.filter_map]
    congr 1
    apply List.filter_congr
    intro x _
    simp only [Function.comp, e2, hasB_map]
  rw [e3]
  simp only [e4]
  congr 1
  have e5 : ∀ (l : List Str), (l.map bs).isEmpty = l.isEmpty := fun l => by cases l <;> rfl
  rw [e5, e5]
theorem bothI_map (xs ys : List Int) : bothI xs ys = bothG xs ys := by
  unfold bothI bothG
  simp only [hasI_map]
theorem cboth_eq {xs ys : List Str} (hn : xs.length ≤ 1000) (hm : ys.length ≤ 1000) : cond_both_string (xs.map dB) (ys.map dB) = some ((bothG xs ys).1.map dB, (bothG xs ys).2, ()) := by
  unfold cond_both_string
  rw [strsOf_map, strsOf_map]
  simp only [Option.bind_some, bothS_map, List.length_map]
  rw [if_pos (by simp only [maxRow]; omega), List.map_map]
  rfl
theorem cbothI_eq {xs ys : List Int} (hn : xs.length ≤ 1000) (hm : ys.length ≤ 1000) : cond_both_int (xs.map dI) (ys.map dI) = some ((bothG xs ys).1.map dI, (bothG xs ys).2, ()) := by
  unfold cond_both_int
  rw [intsOf_map, intsOf_map]
  simp only [Option.bind_some, bothI_map]
  rw [if_pos (by simp only [maxRow]; omega)]

theorem bothG_len {α : Type} [BEq α] [LawfulBEq α] (xs ys : List α) {n : Nat} (hn : xs.length ≤ n) (hm : ys.length ≤ n) : (bothG xs ys).1.length ≤ n := by
  rw [bothG_eq]
  split
  · exact hm
  · split
    · exact hn
    · exact Nat.le_trans (List.length_filter_le _ _) hn
theorem bothG_mem {α : Type} [BEq α] [LawfulBEq α] (xs ys : List α) : ∀ w ∈ (bothG xs ys).1, w ∈ xs ∨ w ∈ ys := by
  intro w hw
  rw [bothG_eq] at hw
  split at hw
  · exact .inr hw
  · split at hw
    · exact .inl hw
    · exact .inl (List.mem_filter.1 hw).1

/-! ### Meet -/
/-- The pattern of both, and whether there is one. -/
def patM (p q : Str) : Str × Bool := if p = [] then (q, true) else if q = [] then (p, true) else match bothR p q with
  | some (some z) => (patStr z, true)
  | _ => ([], false)
def usesM (a b : Int) : Int := if a = 0 then b else if b = 0 then a else if b < a then b else a
def zeroC : Cnd := ⟨0, 0, [], [], [], [], 0⟩
def meetC (a b : Cnd) : Cnd :=
  let fr := if b.fr > a.fr then b.fr else a.fr
  let to := if b.to < a.to then b.to else a.to
  if fr ≥ to || !(patM a.p b.p).2 || !(bothG a.cl b.cl).2 || !(bothG a.co b.co).2 || !(bothG a.si b.si).2 then zeroC
  else ⟨fr, to, (patM a.p b.p).1, (bothG a.cl b.cl).1, (bothG a.co b.co).1, (bothG a.si b.si).1, usesM a.us b.us⟩
abbrev CT := Int × Int × ByteArray × List D × List D × List D × Int × Unit
def encC (c : Cnd) : CT := (c.fr, c.to, bs c.p, c.cl.map dB, c.co.map dB, c.si.map dI, c.us, ())
/-- Meet, or an error. -/
def meetS (a b : Cnd) : Cnd × Int := if validC a && validC b then (meetC a b, 0) else (zeroC, 1)

theorem ref_pattern_eq {fu : Nat} (hf : 1000001 < fu) {p q : Str} (s1 : p.length ≤ 1000000) (s2 : q.length ≤ 1000000) : ref21_pattern fu (bs p) (bs q) = some (bs (patM p q).1, (patM p q).2, ()) := by
  unfold ref21_pattern patM
  rw [ref_Both_eq (by omega) (by omega) (by omega) s1 s2, seq_bs, seq_bs]
  by_cases h1 : p = []
  · subst h1; rfl
  · have e1 : (p == []) = false := by simpa using h1
    rw [e1, if_neg h1]
    by_cases h2 : q = []
    · subst h2; rfl
    · have e2 : (q == []) = false := by simpa using h2
      rw [e2, if_neg h2]
      unfold BothS
      cases bothR p q with
      | none => rfl
      | some o => cases o <;> rfl
theorem uses_eq (a b : Int) : ref21_uses a b = some (usesM a b) := by
  unfold ref21_uses usesM
  by_cases h1 : a = 0
  · subst h1; rfl
  · have e1 : (a == 0) = false := by simpa using h1
    rw [e1, if_neg h1]
    by_cases h2 : b = 0
    · subst h2; rfl
    · have e2 : (b == 0) = false := by simpa using h2
      rw [e2, if_neg h2]
      rfl

theorem ref_Meet_cond {fu : Nat} (hf : 1000001 < fu) (a b : Cnd) (ha : SmC a) (hb : SmC b) :
    ref21_Meet fu a.fr a.to (bs a.p) (a.cl.map dB) (a.co.map dB) (a.si.map dI) a.us b.fr b.to (bs b.p) (b.cl.map dB) (b.co.map dB) (b.si.map dI) b.us =
      some ((meetS a b).1.fr, (meetS a b).1.to, bs (meetS a b).1.p, (meetS a b).1.cl.map dB, (meetS a b).1.co.map dB, (meetS a b).1.si.map dI, (meetS a b).1.us, (meetS a b).2, ()) := by
  have va := Valid_ref hf a ha
  have vb := Valid_ref hf b hb
  obtain ⟨a1, a2, a3, a4, a5, a6⟩ := ha
  obtain ⟨b1, b2, b3, b4, b5, b6⟩ := hb
  unfold ref21_Meet meetS
  rw [va, vb, ref_pattern_eq hf a1 b1, rboth_eq (by omega) a2 b2, rboth_eq (by omega) a3 b3, rcommon_eq (by omega) a4 b4, uses_eq]
  have l1 := bothG_len a.cl b.cl a2 b2
  have l2 := bothG_len a.co b.co a3 b3
  have l3 := bothG_len a.si b.si a4 b4
  simp only [Option.bind_some]
  rw [if_pos (by simp [maxRow]; omega), if_pos (by simp [maxRow]; omega), if_pos (by simp [maxRow]; omega)]
  unfold meetC
  simp only [List.nil_append]
  rcases Bool.eq_false_or_eq_true (validC a) with h1 | h1
  · rcases Bool.eq_false_or_eq_true (validC b) with h2 | h2
    · simp only [h1, h2, Bool.not_true, cond_false, Bool.and_self, if_true]
      rcases Bool.eq_false_or_eq_true (decide ((if b.fr > a.fr then b.fr else a.fr) ≥ (if b.to < a.to then b.to else a.to))) with h3 | h3 <;>
        rcases Bool.eq_false_or_eq_true (patM a.p b.p).2 with h4 | h4 <;> rcases Bool.eq_false_or_eq_true (bothG a.cl b.cl).2 with h5 | h5 <;>
        rcases Bool.eq_false_or_eq_true (bothG a.co b.co).2 with h6 | h6 <;> rcases Bool.eq_false_or_eq_true (bothG a.si b.si).2 with h7 | h7 <;>
        simp only [h3, h4, h5, h6, h7, Bool.not_true, Bool.not_false, Bool.or_false, Bool.or_true, Bool.false_or, Bool.true_or, cond_true, cond_false, if_true, if_false, Bool.false_eq_true] <;> rfl
    · simp only [h1, h2, Bool.not_true, Bool.not_false, cond_false, cond_true, Bool.and_false, Bool.false_eq_true, if_false]; rfl
  · simp only [h1, Bool.not_false, cond_true, Bool.false_and, Bool.false_eq_true, if_false]; rfl
end Go.Proofs.YtcjgmffbebjddaaGreatDoor
