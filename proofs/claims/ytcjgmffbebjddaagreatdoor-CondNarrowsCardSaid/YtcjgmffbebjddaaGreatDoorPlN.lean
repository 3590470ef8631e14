/- Implying: the code and the reference. -/
import Derived.Test.YtcjgmffbebjddaaGreatDoorPlM
import Derived.KernelRfl
set_option linter.all false
namespace Go.Proofs.YtcjgmffbebjddaaGreatDoor
open Go Go.Eng

structure Ask where
  addr : Str
  client : Str
  country : Str
  site : Int
  lo : Int
  hi : Int
abbrev AT := ByteArray × ByteArray × ByteArray × Int × Int × Int × Unit
def encA (x : Ask) : AT := (bs x.addr, bs x.client, bs x.country, x.site, x.lo, x.hi, ())
def zeroA : Ask := ⟨[], [], [], 0, 0, 0⟩

def anyP : Str := [42, 47, 42, 42]
def patOf (c : Cnd) : Str := if c.p = [] then anyP else c.p
def meetAddr (p q : Str) : Str := match bothR p q with
  | some (some z) => exampleL (withL [97] z.c) (z.ps.map (withL [97]))
  | _ => []
def sampleC (c : Cnd) : Ask := ⟨meetAddr (patOf c) anyP, c.cl.headD [97], c.co.headD [97, 97], c.si.headD 0, c.fr, c.fr⟩
def covC (a b : Cnd) : Bool × Str := match compile (patOf b), compile (patOf a) with
  | some x, some y => ((coversX x y).1, if (coversX x y).1 then [] else (coversX x y).2)
  | _, _ => (false, [])
def impliesC (a b : Cnd) : Bool × Ask :=
  if a.fr ≥ a.to then (true, zeroA)
  else if b.fr > a.fr then (false, sampleC a)
  else if b.to < a.to then (false, { sampleC a with lo := a.to - 1, hi := a.to - 1 })
  else if !(covC a b).1 then (false, { sampleC a with addr := (covC a b).2 })
  else match outG allCl a.cl b.cl with
    | some y => (false, { sampleC a with client := y })
    | none => match outG allCo a.co b.co with
      | some y => (false, { sampleC a with country := y })
      | none => match outG allSi a.si b.si with
        | some y => (false, { sampleC a with site := y })
        | none => (true, zeroA)
def impliesS (a b : Cnd) : Bool × Ask × Int := if validC a && validC b then ((impliesC a b).1, (impliesC a b).2, 0) else (false, zeroA, 1)

theorem patOf_len {c : Cnd} (h : c.p.length ≤ 1000000) : (patOf c).length ≤ 1000000 := by
  unfold patOf
  split
  · simp [anyP]
  · exact h
theorem cpattern_eq {fu : Nat} (hf : 1000 < fu) (c : Cnd) (x3 x4 x5 : List D) : cond_pattern fu c.fr c.to (bs c.p) x3 x4 x5 c.us = some (bs (patOf c)) := by
  unfold cond_pattern patOf
  have := cmpOr_eq hf c.p anyP
  rw [show [D.v (.string (bs c.p)), D.v (.string (bs [42, 47, 42, 42]))] = [D.v (.string (bs c.p)), D.v (.string (bs anyP))] from rfl, this]
  rfl
theorem MeetS_2 (p q : Str) : (MeetS p q).2.1 = bs (meetAddr p q) := by
  unfold MeetS meetAddr
  cases bothR p q with
  | none => rfl
  | some o => cases o <;> rfl

theorem lenPos {α : Type} (l : List α) (f : α → D) : decide ((((l.map f).length : Nat) : Int) > 0) = !l.isEmpty := by cases l <;> simp
theorem lenZero {α : Type} (l : List α) (f : α → D) : ((((l.map f).length : Nat) : Int) == 0) = l.isEmpty := by cases l <;> simp; omega

theorem sample_eq {fu : Nat} (hf : 1000001 < fu) (c : Cnd) (hc : SmC c) : cond_sample fu c.fr c.to (bs c.p) (c.cl.map dB) (c.co.map dB) (c.si.map dI) c.us = some (encA (sampleC c)) := by
  obtain ⟨c1, c2, c3, c4, c5, c6⟩ := hc
  have pl := patOf_len c1
  unfold cond_sample
  rw [cpattern_eq (by omega), lenPos, lenPos, lenPos]
  simp only [Option.bind_some]
  rw [show bs [42, 47, 42, 42] = bs anyP from rfl, Meet_eq (by omega) (by omega) (by simp [anyP]; omega) pl (by simp [anyP])]
  simp only [Option.bind_some, MeetS_2]
  unfold encA sampleC
  rcases hcl : c.cl with _ | ⟨x, cl⟩ <;> rcases hco : c.co with _ | ⟨y, co⟩ <;> rcases hsi : c.si with _ | ⟨z, si⟩ <;> rfl

theorem CoversS_cov (a b : Cnd) : (CoversS (patOf b) (patOf a)).1 = (covC a b).1 ∧ (CoversS (patOf b) (patOf a)).2.1 = bs (covC a b).2 := by
  unfold CoversS covC
  cases compile (patOf b) with
  | none => exact ⟨rfl, rfl⟩
  | some x => cases compile (patOf a) with
    | none => exact ⟨rfl, rfl⟩
    | some y => exact ⟨rfl, rfl⟩

theorem valid_bounds {c : Cnd} (h : validC c = true) : 0 ≤ c.fr ∧ c.fr ≤ 1099511627776 ∧ 0 ≤ c.to ∧ c.to ≤ 1099511627777 ∧ 0 ≤ c.us ∧ c.us ≤ 1073741824 := by
  unfold validC at h
  simp only [Bool.and_eq_true, decide_eq_true_eq] at h
  obtain ⟨⟨⟨⟨⟨⟨⟨⟨⟨h1, h2⟩, h3⟩, h4⟩, h5⟩, h6⟩, -⟩, -⟩, -⟩, -⟩ := h
  exact ⟨h1, h2, h3, h4, h5, h6⟩

theorem Implies_cond {fu : Nat} (hf : 1000001 < fu) (a b : Cnd) (ha : SmC a) (hb : SmC b) :
    cond_Implies fu a.fr a.to (bs a.p) (a.cl.map dB) (a.co.map dB) (a.si.map dI) a.us b.fr b.to (bs b.p) (b.cl.map dB) (b.co.map dB) (b.si.map dI) b.us =
      some ((impliesS a b).1, encA (impliesS a b).2.1, (impliesS a b).2.2, ()) := by
  have va := Valid_cond hf a ha
  have vb := Valid_cond hf b hb
  have sa := sample_eq hf a ha
  obtain ⟨a1, a2, a3, a4, a5, a6⟩ := ha
  obtain ⟨b1, b2, b3, b4, b5, b6⟩ := hb
  have pa := patOf_len a1
  have pb := patOf_len b1
  obtain ⟨cv1, cv2⟩ := CoversS_cov a b
  unfold cond_Implies impliesS
  rw [va, vb, sa, cpattern_eq (by omega), cpattern_eq (by omega)]
  simp only [Option.bind_some]
  rw [Covers_eq (by omega) (by omega) (by omega) pb pa, outCl_eq (by omega) a2 b2, outCo_eq (by omega) a3 b3, outSi_eq (by omega) a4 b4]
  simp only [Option.bind_some, cv1, cv2]
  rcases Bool.eq_false_or_eq_true (validC a) with h1 | h1
  · rcases Bool.eq_false_or_eq_true (validC b) with h2 | h2
    · simp only [h1, h2, Bool.not_true, cond_false, Bool.and_self, if_true]
      obtain ⟨v1, v2, v3, v4, -⟩ := valid_bounds h1
      rw [w64_id (by omega) (by omega)]
      unfold impliesC
      by_cases c1 : a.fr ≥ a.to
      · rw [decide_eq_true c1, if_pos c1]; rfl
      · rw [decide_eq_false c1, if_neg c1]
        by_cases c2 : b.fr > a.fr
        · rw [decide_eq_true c2, if_pos c2]; rfl
        · rw [decide_eq_false c2, if_neg c2]
          by_cases c3 : b.to < a.to
          · rw [decide_eq_true c3, if_pos c3]; rfl
          · rw [decide_eq_false c3, if_neg c3]
            rcases Bool.eq_false_or_eq_true (covC a b).1 with c4 | c4
            · simp only [c4, Bool.not_true, cond_false, Bool.false_eq_true, if_false]
              cases outG allCl a.cl b.cl with
              | some y => rfl
              | none => cases outG allCo a.co b.co with
                | some y => rfl
                | none => cases outG allSi a.si b.si with
                  | some y => rfl
                  | none => rfl
            · simp only [c4, Bool.not_false, cond_true, if_true, cond_false]; rfl
    · simp only [h1, h2, Bool.not_true, Bool.not_false, cond_false, cond_true, Bool.and_false, Bool.false_eq_true, if_false]; rfl
  · simp only [h1, Bool.not_false, cond_true, Bool.false_and, Bool.false_eq_true, if_false]; rfl

/-! ### The reference -/
theorem nodup_le {α : Type} [DecidableEq α] : ∀ (l b : List α), l.Nodup → (∀ x ∈ l, x ∈ b) → l.length ≤ b.length
  | [], b, _, _ => Nat.zero_le _
  | a :: r, b, hn, hs => by
    have h1 : a ∈ b := hs a (List.mem_cons_self ..)
    obtain ⟨h2, h3⟩ := List.nodup_cons.1 hn
    have h4 := nodup_le r (b.erase a) h3 (fun x hx => by
      have hne : x ≠ a := fun e => h2 (e ▸ hx)
      exact (List.mem_erase_of_ne hne).2 (hs x (List.mem_cons_of_mem _ hx)))
    have h5 := List.length_erase_of_mem h1
    have h6 : 0 < b.length := List.length_pos_of_mem h1
    simp only [List.length_cons]
    omega
theorem allCl_nodup : allCl.Nodup := by decide +kernel
theorem someCo_nodup : ((List.range 33).map countryN).Nodup := by decide +kernel

/-- Is nothing outside. -/
def noneOut {α : Type} [BEq α] (all a b : List α) : Bool := (outG all a b).isNone
theorem outCl_none {a b : List Str} (hb : b.length ≤ 32) : noneOut allCl a b = (b.isEmpty || (!a.isEmpty && a.all fun x => b.contains x)) := by
  unfold noneOut outG
  cases hbe : b.isEmpty
  · have al : ∀ x, allowsG b x = b.contains x := fun x => by unfold allowsG; rw [hbe]; rfl
    cases hae : a.isEmpty
    · simp only [Bool.false_eq_true, if_false, Bool.false_or, Bool.not_false, Bool.true_and]
      rw [Bool.eq_iff_iff, Option.isNone_iff_eq_none, List.find?_eq_none, List.all_eq_true]
      simp only [al, Bool.not_eq_true, Bool.not_eq_false']
    · simp only [if_true, Bool.false_or, Bool.not_true, Bool.false_and]
      rw [Bool.eq_false_iff]
      intro h
      rw [Option.isNone_iff_eq_none, List.find?_eq_none] at h
      have := nodup_le allCl b allCl_nodup (fun x hx => by
        have := h x hx
        rw [al] at this
        simpa using this)
      have l33 : allCl.length = 33 := by simp [allCl]
      omega
  · have al : ∀ x, allowsG b x = true := fun x => by unfold allowsG; rw [hbe]; rfl
    simp only [Bool.true_or]
    rw [Option.isNone_iff_eq_none, List.find?_eq_none]
    intro x _
    simp [al]
theorem outCo_none {a b : List Str} (hb : b.length ≤ 32) : noneOut allCo a b = (b.isEmpty || (!a.isEmpty && a.all fun x => b.contains x)) := by
  unfold noneOut outG
  cases hbe : b.isEmpty
  · have al : ∀ x, allowsG b x = b.contains x := fun x => by unfold allowsG; rw [hbe]; rfl
    cases hae : a.isEmpty
    · simp only [Bool.false_eq_true, if_false, Bool.false_or, Bool.not_false, Bool.true_and]
      rw [Bool.eq_iff_iff, Option.isNone_iff_eq_none, List.find?_eq_none, List.all_eq_true]
      simp only [al, Bool.not_eq_true, Bool.not_eq_false']
    · simp only [if_true, Bool.false_or, Bool.not_true, Bool.false_and]
      rw [Bool.eq_false_iff]
      intro h
      rw [Option.isNone_iff_eq_none, List.find?_eq_none] at h
      have := nodup_le ((List.range 33).map countryN) b someCo_nodup (fun x hx => by
        obtain ⟨n, hn, rfl⟩ := List.mem_map.1 hx
        have := h (countryN n) (List.mem_map.2 ⟨n, by rw [List.mem_range] at hn ⊢; omega, rfl⟩)
        rw [al] at this
        simpa using this)
      rw [List.length_map, List.length_range] at this
      omega
  · have al : ∀ x, allowsG b x = true := fun x => by unfold allowsG; rw [hbe]; rfl
    simp only [Bool.true_or]
    rw [Option.isNone_iff_eq_none, List.find?_eq_none]
    intro x _
    simp [al]
theorem outSi_none {a b : List Int} (ha : a.all siteOK = true) : noneOut allSi a b = (List.range 64).all fun (n : Nat) => !allowsG a (n : Int) || allowsG b (n : Int) := by
  unfold noneOut outG
  rw [Bool.eq_iff_iff, Option.isNone_iff_eq_none, List.find?_eq_none, List.all_eq_true]
  cases hae : a.isEmpty
  · simp only [Bool.false_eq_true, if_false]
    have al : ∀ x, allowsG a x = a.contains x := fun x => by unfold allowsG; rw [hae]; rfl
    constructor
    · intro h n hn
      rw [al]
      cases hc : a.contains (n : Int)
      · rfl
      · have := h (n : Int) (by simpa using hc)
        simpa using this
    · intro h x hx
      have hs := List.all_eq_true.1 ha x hx
      unfold siteOK at hs
      simp only [Bool.and_eq_true, decide_eq_true_eq] at hs
      obtain ⟨n, rfl⟩ : ∃ n : Nat, x = (n : Int) := ⟨x.toNat, by omega⟩
      have := h n (List.mem_range.2 (by omega))
      rw [al] at this
      have hc : a.contains (n : Int) = true := by simpa using hx
      rw [hc] at this
      simpa using this
  · simp only [if_true]
    have al : ∀ x, allowsG a x = true := fun x => by unfold allowsG; rw [hae]; rfl
    constructor
    · intro h n hn
      have := h (n : Int) (List.mem_map.2 ⟨n, hn, rfl⟩)
      rw [al]
      simpa using this
    · intro h x hx
      obtain ⟨n, hn, rfl⟩ := List.mem_map.1 hx
      have := h n hn
      rw [al] at this
      simpa using this

theorem within_L2 {fu : Nat} (hf : 1000 < fu) (a b : List Str) (hn : a.length ≤ 1000) (hm : b.length ≤ 1000) : ∀ (n i : Nat), a.length < n + i → i ≤ a.length →
    ref21_within_L2 fu n (a.map dB) (b.map dB) (i : Int) = some (if (a.drop i).all (fun x => b.contains x) then .inr ((), ()) else .inl ((), (false, ()))) := by
  intro n
  induction n with
  | zero => intro i h; omega
  | succ n ih =>
    intro i h hi
    rw [ref21_within_L2, List.length_map]
    rcases dropRel a i with ⟨x, ga, da, la⟩ | ⟨ga, da, da2, la⟩
    · simp only [intLt la, cond_true, nat?_nat, Option.bind_some, if_pos la, rdS_map, ga, Option.map_some, rhas_eq hf hm]
      rw [w64_succ (by omega), ih (i + 1) (by omega) (by omega), da, List.all_cons]
      rcases Bool.eq_false_or_eq_true (b.contains x) with h1 | h1
      · simp only [h1, Bool.not_true, cond_false, Bool.true_and]
      · simp only [h1, Bool.not_false, cond_true, Bool.false_and, Bool.false_eq_true, if_false]
    · rw [intNotLt la, da]; rfl
theorem within_eq {fu : Nat} (hf : 1000 < fu) {a b : List Str} (hn : a.length ≤ 1000) (hm : b.length ≤ 1000) : ref21_within fu (a.map dB) (b.map dB) = some (a.all fun x => b.contains x) := by
  unfold ref21_within
  rw [show (0 : Int) = ((0 : Nat) : Int) from rfl, within_L2 hf a b hn hm fu 0 (by omega) (by omega), List.drop_zero]
  rcases Bool.eq_false_or_eq_true (a.all fun x => b.contains x) with h1 | h1 <;> simp only [h1, if_true, Bool.false_eq_true, if_false, Option.bind_some]
theorem rsites_L2 {fu : Nat} (hf : 1000 < fu) (a b : List Int) (hn : a.length ≤ 1000) (hm : b.length ≤ 1000) : ∀ (n i : Nat), 64 < n + i → i ≤ 64 →
    ref21_sites_L2 fu n (a.map dI) (b.map dI) (i : Int) = some (if ((List.range 64).drop i).all (fun (n : Nat) => !allowsG a (n : Int) || allowsG b (n : Int)) then .inr ((), ()) else .inl ((), (false, ()))) := by
  intro n
  induction n with
  | zero => intro i h; omega
  | succ n ih =>
    intro i h hi
    rw [ref21_sites_L2, lenZero, lenZero]
    by_cases la : i < 64
    · have d : decide ((i : Int) < 64) = true := by rw [decide_eq_true_eq]; omega
      rw [d, rsite_eq hf hn, rsite_eq hf hm, w64_succ (by omega), ih (i + 1) (by omega) (by omega), range_drop 64 i la, List.all_cons]
      simp only [cond_true, Option.bind_some]
      unfold allowsG
      generalize ((List.range 64).drop (i + 1)).all _ = R
      cases a.isEmpty <;> cases b.isEmpty <;> cases a.contains (i : Int) <;> cases b.contains (i : Int) <;> cases R <;> rfl
    · have d : decide ((i : Int) < 64) = false := by rw [decide_eq_false_iff_not]; omega
      have e : (List.range 64).drop i = [] := List.drop_eq_nil_of_le (by simp; omega)
      rw [d, e]; rfl
theorem rsites_eq {fu : Nat} (hf : 1000 < fu) {a b : List Int} (hn : a.length ≤ 1000) (hm : b.length ≤ 1000) : ref21_sites fu (a.map dI) (b.map dI) = some ((List.range 64).all fun (n : Nat) => !allowsG a (n : Int) || allowsG b (n : Int)) := by
  unfold ref21_sites
  rw [show (0 : Int) = ((0 : Nat) : Int) from rfl, rsites_L2 hf a b hn hm fu 0 (by omega) (by omega), List.drop_zero]
  rcases Bool.eq_false_or_eq_true ((List.range 64).all fun (n : Nat) => !allowsG a (n : Int) || allowsG b (n : Int)) with h1 | h1 <;> simp only [h1, if_true, Bool.false_eq_true, if_false, Option.bind_some]

theorem compile_any : compile anyP = some ⟨[42], [], true⟩ := by kernel_rfl
theorem compile_patOf {c : Cnd} (h : validC c = true) : ∃ x, compile (patOf c) = some x := by
  unfold patOf
  split
  · exact ⟨_, compile_any⟩
  · rename_i hp
    unfold validC at h
    simp only [Bool.and_eq_true, Bool.or_eq_true, beq_iff_eq] at h
    rcases h.1.1.1.2 with h | h
    · exact absurd h hp
    · exact Option.isSome_iff_exists.1 h
theorem cov42 (q : Str) : cov [42] q = true := by
  unfold cov hasL
  have : kindOf [42] = 2 := rfl
  rw [this]
  rcases kindOf_cases q with ⟨j1, -⟩ | ⟨j1, -⟩ | ⟨j1, -⟩ <;> rw [j1] <;> rfl
theorem covC_any {a b : Cnd} (h : b.p = []) (ha : validC a = true) : (covC a b).1 = true := by
  obtain ⟨y, hy⟩ := compile_patOf ha
  unfold covC
  have : patOf b = anyP := by unfold patOf; rw [if_pos h]
  rw [this, compile_any, hy]
  show (coversX _ _).1 = true
  rw [coversX_1]
  simp only [cov42, Bool.true_and, List.length_nil, Bool.not_true, Bool.and_false, Bool.or_false, Bool.not_false, Bool.and_true]
  rw [decide_eq_false (by omega)]
  rfl
theorem covC_ref {a b : Cnd} (hb : b.p ≠ []) (ha : validC a = true) (hb2 : validC b = true) : (CoversR b.p (patOf a)).1 = (covC a b).1 := by
  have : patOf b = b.p := by unfold patOf; rw [if_neg hb]
  obtain ⟨x, hx⟩ := compile_patOf hb2
  obtain ⟨y, hy⟩ := compile_patOf ha
  rw [this] at hx
  unfold CoversR covC
  rw [this, hx, hy]

theorem valid_lists {c : Cnd} (h : validC c = true) : c.cl.length ≤ 32 ∧ c.co.length ≤ 32 ∧ c.si.length ≤ 64 ∧ c.si.all siteOK = true := by
  unfold validC at h
  simp only [Bool.and_eq_true, decide_eq_true_eq] at h
  exact ⟨h.1.1.2.2, h.1.2.2, h.2.2, h.2.1.1⟩

theorem implies_1 {a b : Cnd} (ha : validC a = true) (hb : validC b = true) : (impliesC a b).1 = (decide (a.fr ≥ a.to) || (!decide (b.fr > a.fr) && !decide (b.to < a.to) && (covC a b).1 && noneOut allCl a.cl b.cl && noneOut allCo a.co b.co && noneOut allSi a.si b.si)) := by
  unfold impliesC noneOut
  by_cases c1 : a.fr ≥ a.to
  · rw [if_pos c1, decide_eq_true c1]; rfl
  · rw [if_neg c1, decide_eq_false c1]
    by_cases c2 : b.fr > a.fr
    · rw [if_pos c2, decide_eq_true c2]; rfl
    · rw [if_neg c2, decide_eq_false c2]
      by_cases c3 : b.to < a.to
      · rw [if_pos c3, decide_eq_true c3]; rfl
      · rw [if_neg c3, decide_eq_false c3]
        cases (covC a b).1
        · rfl
        · cases outG allCl a.cl b.cl with
          | some y => rfl
          | none => cases outG allCo a.co b.co with
            | some y => rfl
            | none => cases outG allSi a.si b.si with
              | some y => rfl
              | none => rfl

theorem Implies_ref {fu : Nat} (hf : 1000001 < fu) (a b : Cnd) (ha : SmC a) (hb : SmC b) :
    ref21_Implies fu a.fr a.to (bs a.p) (a.cl.map dB) (a.co.map dB) (a.si.map dI) a.us b.fr b.to (bs b.p) (b.cl.map dB) (b.co.map dB) (b.si.map dI) b.us =
      some ((impliesS a b).1, (impliesS a b).2.2, ()) := by
  have va := Valid_ref hf a ha
  have vb := Valid_ref hf b hb
  obtain ⟨a1, a2, a3, a4, a5, a6⟩ := ha
  obtain ⟨b1, b2, b3, b4, b5, b6⟩ := hb
  have pa := patOf_len a1
  unfold ref21_Implies impliesS
  rw [va, vb, within_eq (by omega) a2 b2, within_eq (by omega) a3 b3, rsites_eq (by omega) a4 b4, lenPos, lenPos, lenZero, lenZero, seq_bs, seq_bs]
  simp only [Option.bind_some]
  rcases Bool.eq_false_or_eq_true (validC a) with h1 | h1
  · rcases Bool.eq_false_or_eq_true (validC b) with h2 | h2
    · simp only [h1, h2, Bool.not_true, cond_false, Bool.and_self, if_true]
      obtain ⟨l1, l2, l3, l4⟩ := valid_lists h1
      obtain ⟨m1, m2, m3, m4⟩ := valid_lists h2
      rw [implies_1 h1 h2, outCl_none m1, outCo_none m2, outSi_none l4]
      have hany : bs [42, 47, 42, 42] = bs anyP := rfl
      by_cases hbp : b.p = []
      · have e1 : (b.p == []) = true := by simpa using hbp
        rw [covC_any hbp h1, e1]
        generalize (List.range 64).all _ = S
        cases decide (a.fr ≥ a.to) <;> cases decide (b.fr > a.fr) <;> cases decide (b.to < a.to) <;> cases b.cl.isEmpty <;> cases a.cl.isEmpty <;> cases a.cl.all (fun x => b.cl.contains x) <;> cases b.co.isEmpty <;> cases a.co.isEmpty <;> cases a.co.all (fun x => b.co.contains x) <;> cases S <;> rfl
      · have e1 : (b.p == []) = false := by simpa using hbp
        have e2 : patOf a = if a.p = [] then anyP else a.p := rfl
        have cv : (if a.p = [] then (ref06_Covers fu (bs b.p) (bs anyP)) else (ref06_Covers fu (bs b.p) (bs a.p))) = some (CoversR b.p (patOf a)) := by
          have := ref_Covers_eq (fu := fu) (by omega) (by omega) (by omega) b1 pa
          rw [← this, e2]
          split <;> rfl
        have cr := covC_ref hbp h1 h2
        rw [e1, hany, ← cr]
        generalize (List.range 64).all _ = S
        by_cases hap : a.p = []
        · have e3 : (a.p == []) = true := by simpa using hap
          rw [if_pos hap] at cv
          rw [e3, cv]
          simp only [Option.bind_some, cond_true, Bool.not_false]
          generalize (CoversR b.p (patOf a)).1 = K
          cases decide (a.fr ≥ a.to) <;> cases decide (b.fr > a.fr) <;> cases decide (b.to < a.to) <;> cases K <;> try rfl
          cases b.cl.isEmpty <;> cases a.cl.isEmpty <;> cases a.cl.all (fun x => b.cl.contains x) <;> cases b.co.isEmpty <;> cases a.co.isEmpty <;> cases a.co.all (fun x => b.co.contains x) <;> cases S <;> rfl
        · have e3 : (a.p == []) = false := by simpa using hap
          rw [if_neg hap] at cv
          rw [e3, cv]
          simp only [Option.bind_some, cond_true, cond_false, Bool.not_false]
          generalize (CoversR b.p (patOf a)).1 = K
          cases decide (a.fr ≥ a.to) <;> cases decide (b.fr > a.fr) <;> cases decide (b.to < a.to) <;> cases K <;> try rfl
          cases b.cl.isEmpty <;> cases a.cl.isEmpty <;> cases a.cl.all (fun x => b.cl.contains x) <;> cases b.co.isEmpty <;> cases a.co.isEmpty <;> cases a.co.all (fun x => b.co.contains x) <;> cases S <;> rfl
    · simp only [h1, h2, Bool.not_true, Bool.not_false, cond_false, cond_true, Bool.and_false, Bool.false_eq_true, if_false]
  · simp only [h1, Bool.not_false, cond_true, Bool.false_and, Bool.false_eq_true, if_false]

/-! ### Within -/
def withinS (a b : Cnd) : Bool × Int := ((impliesS a b).1 && (decide (a.fr ≥ a.to) || b.us == 0 || (decide (a.us > 0) && decide (a.us ≤ b.us))), (impliesS a b).2.2)
theorem Within_cond {fu : Nat} (hf : 1000001 < fu) (a b : Cnd) (ha : SmC a) (hb : SmC b) :
    cond_Within fu a.fr a.to (bs a.p) (a.cl.map dB) (a.co.map dB) (a.si.map dI) a.us b.fr b.to (bs b.p) (b.cl.map dB) (b.co.map dB) (b.si.map dI) b.us = some ((withinS a b).1, (withinS a b).2, ()) := by
  unfold cond_Within withinS
  rw [Implies_cond hf a b ha hb]
  simp only [Option.bind_some]
  cases (impliesS a b).1 <;> cases decide (a.fr ≥ a.to) <;> cases (b.us == 0) <;> cases decide (a.us > 0) <;> cases decide (a.us ≤ b.us) <;> rfl
theorem Within_ref {fu : Nat} (hf : 1000001 < fu) (a b : Cnd) (ha : SmC a) (hb : SmC b) :
    ref21_Within fu a.fr a.to (bs a.p) (a.cl.map dB) (a.co.map dB) (a.si.map dI) a.us b.fr b.to (bs b.p) (b.cl.map dB) (b.co.map dB) (b.si.map dI) b.us = some ((withinS a b).1, (withinS a b).2, ()) := by
  unfold ref21_Within withinS
  rw [Implies_ref hf a b ha hb]
  have e : decide (a.us ≥ 1) = decide (a.us > 0) := by rw [Bool.eq_iff_iff]; simp only [decide_eq_true_eq]; omega
  have e0 : (impliesS a b).1 = true → (impliesS a b).2.2 = 0 := by
    unfold impliesS
    split
    · intro _; rfl
    · intro h; cases h
  rw [e]
  simp only [Option.bind_some]
  rcases Bool.eq_false_or_eq_true (impliesS a b).1 with h | h
  · rw [e0 h, h]
    cases decide (a.fr ≥ a.to) <;> cases (b.us == 0) <;> cases decide (a.us > 0) <;> cases decide (a.us ≤ b.us) <;> rfl
  · rw [h]
    cases decide (a.fr ≥ a.to) <;> cases (b.us == 0) <;> cases decide (a.us > 0) <;> cases decide (a.us ≤ b.us) <;> rfl
end Go.Proofs.YtcjgmffbebjddaaGreatDoor
