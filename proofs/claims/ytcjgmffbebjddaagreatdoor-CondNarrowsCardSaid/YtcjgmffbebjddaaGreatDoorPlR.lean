/- Conditions: Meet is associative; what is within both is within their Meet; Within is transitive; the law CondNarrows at whatever conditions. -/
import Derived.Test.YtcjgmffbebjddaaGreatDoorPlQ
set_option linter.all false
namespace Go.Proofs.YtcjgmffbebjddaaGreatDoor
open Go Go.Eng

def M (a b : Cnd) : Cnd := ⟨if b.fr > a.fr then b.fr else a.fr, if b.to < a.to then b.to else a.to, (patM a.p b.p).1, (bothG a.cl b.cl).1, (bothG a.co b.co).1, (bothG a.si b.si).1, usesM a.us b.us⟩
structure Alv (a b : Cnd) : Prop where
  t : (M a b).fr < (M a b).to
  p : (patM a.p b.p).2 = true
  cl : (bothG a.cl b.cl).2 = true
  co : (bothG a.co b.co).2 = true
  si : (bothG a.si b.si).2 = true
theorem meetC_alv {a b : Cnd} (h : Alv a b) : meetC a b = M a b := by
  unfold meetC
  dsimp only
  rw [if_neg]
  · rfl
  · have := h.t
    simp only [M] at this
    simp only [h.p, h.cl, h.co, h.si, Bool.not_true, Bool.or_false, decide_eq_true_eq]
    simp
    omega
theorem meetC_dead {a b : Cnd} (h : ¬ Alv a b) : meetC a b = zeroC := by
  unfold meetC
  dsimp only
  rw [if_pos]
  rcases Bool.eq_false_or_eq_true (patM a.p b.p).2 with h1 | h1
  · rcases Bool.eq_false_or_eq_true (bothG a.cl b.cl).2 with h2 | h2
    · rcases Bool.eq_false_or_eq_true (bothG a.co b.co).2 with h3 | h3
      · rcases Bool.eq_false_or_eq_true (bothG a.si b.si).2 with h4 | h4
        · have : ¬ (M a b).fr < (M a b).to := fun t => h ⟨t, h1, h2, h3, h4⟩
          simp only [M] at this
          have e : (if b.fr > a.fr then b.fr else a.fr) ≥ (if b.to < a.to then b.to else a.to) := by omega
          simp [e]
        · simp [h4]
      · simp [h3]
    · simp [h2]
  · simp [h1]

theorem valid_p {c : Cnd} (h : validC c = true) : PV c.p := by
  unfold validC at h
  simp only [Bool.and_eq_true, Bool.or_eq_true, beq_iff_eq] at h
  rcases h.1.1.1.2 with h | h
  · exact .inl h
  · exact .inr (Option.isSome_iff_exists.1 h)
theorem uses_assoc (a b c : Int) : usesM (usesM a b) c = usesM a (usesM b c) := by
  unfold usesM
  repeat' split
  all_goals omega

theorem alv_assoc {a b c : Cnd} (ha : PV a.p) (hb : PV b.p) (hc : PV c.p) : (Alv a b ∧ Alv (M a b) c ↔ Alv b c ∧ Alv a (M b c)) ∧ (Alv a b → Alv (M a b) c → M (M a b) c = M a (M b c)) := by
  have P := patM_assoc ha hb hc
  have L := bothG_assoc a.cl b.cl c.cl
  have O := bothG_assoc a.co b.co c.co
  have S := bothG_assoc a.si b.si c.si
  have T : (M (M a b) c).fr = (M a (M b c)).fr ∧ (M (M a b) c).to = (M a (M b c)).to := by
    simp only [M]
    constructor <;> (repeat' split) <;> omega
  have T1 : (M (M a b) c).fr < (M (M a b) c).to → (M a b).fr < (M a b).to ∧ (M b c).fr < (M b c).to := by
    simp only [M]
    intro h
    constructor <;> (repeat' split at h) <;> (repeat' split) <;> omega
  refine ⟨⟨fun ⟨h, g⟩ => ?_, fun ⟨h, g⟩ => ?_⟩, fun h g => ?_⟩
  · have p := P.1.1 ⟨h.p, g.p⟩
    have l := L.1.1 ⟨h.cl, g.cl⟩
    have o := O.1.1 ⟨h.co, g.co⟩
    have s := S.1.1 ⟨h.si, g.si⟩
    exact ⟨⟨(T1 g.t).2, p.1, l.1, o.1, s.1⟩, ⟨by rw [← T.1, ← T.2]; exact g.t, p.2, l.2, o.2, s.2⟩⟩
  · have p := P.1.2 ⟨h.p, g.p⟩
    have l := L.1.2 ⟨h.cl, g.cl⟩
    have o := O.1.2 ⟨h.co, g.co⟩
    have s := S.1.2 ⟨h.si, g.si⟩
    have t : (M (M a b) c).fr < (M (M a b) c).to := by rw [T.1, T.2]; exact g.t
    exact ⟨⟨(T1 t).1, p.1, l.1, o.1, s.1⟩, ⟨t, p.2, l.2, o.2, s.2⟩⟩
  · have e : ∀ x y : Cnd, x.fr = y.fr → x.to = y.to → x.p = y.p → x.cl = y.cl → x.co = y.co → x.si = y.si → x.us = y.us → x = y := fun x y h1 h2 h3 h4 h5 h6 h7 => by
      cases x; cases y; simp_all
    exact e _ _ T.1 T.2 (P.2 h.p g.p) (L.2 h.cl g.cl) (O.2 h.co g.co) (S.2 h.si g.si) (uses_assoc _ _ _)

theorem zero_valid : validC zeroC = true := by decide
theorem dead_zeroL {c : Cnd} (h : validC c = true) : ¬ Alv zeroC c := fun g => by
  have := g.t
  have v := valid_bounds h
  simp only [M, zeroC] at this
  (repeat' split at this) <;> omega
theorem dead_zeroR {c : Cnd} (h : validC c = true) : ¬ Alv c zeroC := fun g => by
  have := g.t
  have v := valid_bounds h
  simp only [M, zeroC] at this
  (repeat' split at this) <;> omega
theorem meet_assoc {a b c : Cnd} (ha : validC a = true) (hb : validC b = true) (hc : validC c = true) : meetC (meetC a b) c = meetC a (meetC b c) := by
  have A := alv_assoc (valid_p ha) (valid_p hb) (valid_p hc)
  by_cases h1 : Alv a b
  · rw [meetC_alv h1]
    by_cases h2 : Alv (M a b) c
    · obtain ⟨g1, g2⟩ := A.1.1 ⟨h1, h2⟩
      rw [meetC_alv h2, meetC_alv g1, meetC_alv g2, A.2 h1 h2]
    · rw [meetC_dead h2]
      by_cases g1 : Alv b c
      · rw [meetC_alv g1, meetC_dead fun g2 => h2 (A.1.2 ⟨g1, g2⟩).2]
      · rw [meetC_dead g1, meetC_dead (dead_zeroR ha)]
  · rw [meetC_dead h1, meetC_dead (dead_zeroL hc)]
    by_cases g1 : Alv b c
    · rw [meetC_alv g1, meetC_dead fun g2 => h1 (A.1.2 ⟨g1, g2⟩).1]
    · rw [meetC_dead g1, meetC_dead (dead_zeroR ha)]

theorem valid_parts {c : Cnd} (h : validC c = true) : (c.cl.all name = true ∧ ascG leS c.cl = true) ∧ (c.co.all country = true ∧ ascG leS c.co = true) ∧ (c.si.all siteOK = true ∧ ascG leI c.si = true) := by
  unfold validC at h
  simp only [Bool.and_eq_true] at h
  exact ⟨h.1.1.2.1, h.1.2.1, h.2.1⟩
theorem meet_valid {a b : Cnd} (ha : validC a = true) (hb : validC b = true) : validC (meetC a b) = true := by
  by_cases h : Alv a b
  · rw [meetC_alv h]
    have va := valid_bounds ha
    have vb := valid_bounds hb
    have la := valid_lists ha
    have lb := valid_lists hb
    have pa := valid_parts ha
    have pb := valid_parts hb
    have hp := patM_V (valid_p ha) (valid_p hb)
    have al : ∀ {α : Type} [BEq α] [LawfulBEq α] (p : α → Bool) (x y : List α), x.all p = true → y.all p = true → (bothG x y).1.all p = true := fun p x y hx hy => by
      rw [List.all_eq_true] at hx hy ⊢
      intro z hz
      rcases both_mem hz with h | h
      · exact hx z h
      · exact hy z h
    have c1 := al name _ _ pa.1.1 pb.1.1
    have c2 := al country _ _ pa.2.1.1 pb.2.1.1
    have c3 := al siteOK _ _ pa.2.2.1 pb.2.2.1
    have d1 := asc_both leS_tr pa.1.2 pb.1.2
    have d2 := asc_both leS_tr pa.2.1.2 pb.2.1.2
    have d3 := asc_both leI_tr pa.2.2.2 pb.2.2.2
    have e1 := bothG_len _ _ la.1 lb.1
    have e2 := bothG_len _ _ la.2.1 lb.2.1
    have e3 := bothG_len _ _ la.2.2.1 lb.2.2.1
    have us : 0 ≤ usesM a.us b.us ∧ usesM a.us b.us ≤ 1073741824 := by unfold usesM; constructor <;> (repeat' split) <;> omega
    have fr : 0 ≤ (M a b).fr ∧ (M a b).fr ≤ 1099511627776 := by simp only [M]; constructor <;> (repeat' split) <;> omega
    have tt : 0 ≤ (M a b).to ∧ (M a b).to ≤ 1099511627777 := by simp only [M]; constructor <;> (repeat' split) <;> omega
    have pp : ((M a b).p == [] || (compile (M a b).p).isSome) = true := by
      rw [Bool.or_eq_true, beq_iff_eq]
      rcases hp with h | ⟨x, h⟩
      · exact .inl h
      · exact .inr (by show (compile (patM a.p b.p).1).isSome = true; rw [h]; rfl)
    unfold validC
    simp only [Bool.and_eq_true, decide_eq_true_eq]
    exact ⟨⟨⟨⟨⟨⟨⟨⟨⟨fr.1, fr.2⟩, tt.1⟩, tt.2⟩, us.1⟩, us.2⟩, pp⟩, ⟨c1, d1⟩, e1⟩, ⟨c2, d2⟩, e2⟩, ⟨c3, d3⟩, e3⟩
  · rw [meetC_dead h]; exact zero_valid

/-! ### Implies and Within -/
theorem covC_eq {a b : Cnd} {x y : Pat} (h1 : compile (patOf b) = some x) (h2 : compile (patOf a) = some y) : (covC a b).1 = covX x y := by
  unfold covC
  rw [h1, h2]
  rfl
theorem patOf_p {a b : Cnd} (h : a.p = b.p) : patOf a = patOf b := by unfold patOf; rw [h]
theorem covC_congr {a b c : Cnd} (h : b.p = c.p) : covC a b = covC a c := by unfold covC; rw [patOf_p h]
theorem patOf_ne {a : Cnd} (h : a.p ≠ []) : patOf a = a.p := by unfold patOf; rw [if_neg h]
theorem covC_glb {a b c : Cnd} (ha : validC a = true) (hb : validC b = true) (hc : validC c = true) (h : (patM a.p b.p).2 = true) : (covC c (M a b)).1 = ((covC c a).1 && (covC c b).1) := by
  rcases valid_p ha with ea | ⟨x, hx⟩
  · have : (M a b).p = b.p := by show (patM a.p b.p).1 = _; rw [ea, patM_nilL]
    rw [covC_congr this, covC_any ea hc, Bool.true_and]
  rcases valid_p hb with eb | ⟨y, hy⟩
  · have : (M a b).p = a.p := by show (patM a.p b.p).1 = _; rw [eb, patM_nilR]
    rw [covC_congr this, covC_any eb hc, Bool.and_true]
  have e : (M a b).p = (patM a.p b.p).1 := rfl
  rw [patM_two hx hy] at h e
  cases h1 : commonR x y with
  | none => rw [h1] at h; cases h
  | some z =>
    rw [h1] at e
    have vz := common_V h1 (compile_V hx) (compile_V hy)
    obtain ⟨w, hw⟩ := compile_patOf hc
    have e1 : compile (patOf (M a b)) = some z := by
      have : (M a b).p ≠ [] := by rw [e]; exact patStr_ne vz
      rw [patOf_ne this, e]; exact compile_patStr vz
    have e2 : compile (patOf a) = some x := by rw [patOf_ne (comp_ne hx)]; exact hx
    have e3 : compile (patOf b) = some y := by rw [patOf_ne (comp_ne hy)]; exact hy
    rw [covC_eq e1 hw, covC_eq e2 hw, covC_eq e3 hw, Bool.eq_iff_iff, Bool.and_eq_true]
    exact common_glb h1
theorem covC_lam {a b c : Cnd} (ha : validC a = true) (hb : validC b = true) (hc : validC c = true) (h1 : (covC c a).1 = true) (h2 : (covC c b).1 = true) : (patM a.p b.p).2 = true := by
  rcases valid_p ha with ea | ⟨x, hx⟩
  · rw [ea, patM_nilL]
  rcases valid_p hb with eb | ⟨y, hy⟩
  · rw [eb, patM_nilR]
  obtain ⟨w, hw⟩ := compile_patOf hc
  have e2 : compile (patOf a) = some x := by rw [patOf_ne (comp_ne hx)]; exact hx
  have e3 : compile (patOf b) = some y := by rw [patOf_ne (comp_ne hy)]; exact hy
  rw [covC_eq e2 hw] at h1
  rw [covC_eq e3 hw] at h2
  obtain ⟨z, hz⟩ := common_lam h1 h2
  rw [patM_two hx hy, hz]
theorem covC_trans {a b c : Cnd} (ha : validC a = true) (hb : validC b = true) (hc : validC c = true) (h1 : (covC c a).1 = true) (h2 : (covC a b).1 = true) : (covC c b).1 = true := by
  obtain ⟨x, hx⟩ := compile_patOf ha
  obtain ⟨y, hy⟩ := compile_patOf hb
  obtain ⟨w, hw⟩ := compile_patOf hc
  rw [covC_eq hx hw] at h1
  rw [covC_eq hy hx] at h2
  rw [covC_eq hy hw]
  exact covX_trans h2 h1

theorem within_1 {a b : Cnd} (ha : validC a = true) (hb : validC b = true) : (withinS a b).1 = true ↔ a.fr ≥ a.to ∨ (b.fr ≤ a.fr ∧ a.to ≤ b.to ∧ (covC a b).1 = true ∧ noneOut allCl a.cl b.cl = true ∧ noneOut allCo a.co b.co = true ∧ noneOut allSi a.si b.si = true ∧ (b.us = 0 ∨ (a.us > 0 ∧ a.us ≤ b.us))) := by
  unfold withinS impliesS
  rw [ha, hb]
  simp only [Bool.and_self, if_true]
  rw [implies_1 ha hb]
  by_cases h : a.fr ≥ a.to
  · simp [h]
  · simp only [h, decide_false, Bool.false_or, false_or, Bool.and_eq_true, Bool.or_eq_true, Bool.not_eq_true', decide_eq_false_iff_not, decide_eq_true_eq, beq_iff_eq]
    constructor
    · rintro ⟨⟨⟨⟨⟨⟨h1, h2⟩, h3⟩, h4⟩, h5⟩, h6⟩, h7⟩
      exact ⟨by omega, by omega, h3, h4, h5, h6, h7⟩
    · rintro ⟨h1, h2, h3, h4, h5, h6, h7⟩
      exact ⟨⟨⟨⟨⟨⟨by omega, by omega⟩, h3⟩, h4⟩, h5⟩, h6⟩, h7⟩
theorem within_meet {a b c : Cnd} (ha : validC a = true) (hb : validC b = true) (hc : validC c = true) : (withinS c (meetC a b)).1 = ((withinS c a).1 && (withinS c b).1) := by
  rw [Bool.eq_iff_iff, Bool.and_eq_true, within_1 hc (meet_valid ha hb), within_1 hc ha, within_1 hc hb]
  have va := valid_bounds ha
  have vb := valid_bounds hb
  have vc := valid_bounds hc
  by_cases hd : c.fr ≥ c.to
  · simp [hd]
  · simp only [hd, false_or]
    by_cases h : Alv a b
    · rw [meetC_alv h, covC_glb ha hb hc h.p]
      have e1 : noneOut allCl c.cl (M a b).cl = _ := noneOut_glb h.cl
      have e2 : noneOut allCo c.co (M a b).co = _ := noneOut_glb h.co
      have e3 : noneOut allSi c.si (M a b).si = _ := noneOut_glb h.si
      rw [e1, e2, e3]
      simp only [Bool.and_eq_true]
      have f1 : (M a b).fr ≤ c.fr ↔ a.fr ≤ c.fr ∧ b.fr ≤ c.fr := by simp only [M]; split <;> omega
      have f2 : c.to ≤ (M a b).to ↔ c.to ≤ a.to ∧ c.to ≤ b.to := by simp only [M]; split <;> omega
      have f3 : ((M a b).us = 0 ∨ (c.us > 0 ∧ c.us ≤ (M a b).us)) ↔ (a.us = 0 ∨ (c.us > 0 ∧ c.us ≤ a.us)) ∧ (b.us = 0 ∨ (c.us > 0 ∧ c.us ≤ b.us)) := by
        simp only [M, usesM]
        (repeat' split) <;> omega
      rw [f1, f2, f3]
      constructor
      · rintro ⟨⟨a1, b1⟩, ⟨a2, b2⟩, ⟨a3, b3⟩, ⟨a4, b4⟩, ⟨a5, b5⟩, ⟨a6, b6⟩, a7, b7⟩
        exact ⟨⟨a1, a2, a3, a4, a5, a6, a7⟩, b1, b2, b3, b4, b5, b6, b7⟩
      · rintro ⟨⟨a1, a2, a3, a4, a5, a6, a7⟩, b1, b2, b3, b4, b5, b6, b7⟩
        exact ⟨⟨a1, b1⟩, ⟨a2, b2⟩, ⟨a3, b3⟩, ⟨a4, b4⟩, ⟨a5, b5⟩, ⟨a6, b6⟩, a7, b7⟩
    · rw [meetC_dead h]
      constructor
      · rintro ⟨_, h2, _⟩
        exfalso
        have : zeroC.to = 0 := rfl
        omega
      · rintro ⟨⟨a1, a2, a3, a4, a5, a6, a7⟩, b1, b2, b3, b4, b5, b6, b7⟩
        exfalso
        refine h ⟨?_, covC_lam ha hb hc a3 b3, noneOut_lam (by simp [allCl]) a4 b4, noneOut_lam (by simp [allCo]) a5 b5, noneOut_lam (by simp [allSi]) a6 b6⟩
        simp only [M]
        (repeat' split) <;> omega
theorem none_trans {all a b c : List Str} (e : ∀ {x y : List Str}, y.length ≤ 32 → noneOut all x y = (y.isEmpty || (!x.isEmpty && x.all fun z => y.contains z))) (ha : a.length ≤ 32) (hb : b.length ≤ 32) (h1 : noneOut all c a = true) (h2 : noneOut all a b = true) : noneOut all c b = true := by
  rw [e ha] at h1
  rw [e hb] at h2 ⊢
  cases b with
  | nil => rfl
  | cons y b => cases a with
    | nil => simp at h2
    | cons x a => cases c with
      | nil => simp at h1
      | cons z c =>
        simp only [List.isEmpty_cons, Bool.false_or, Bool.not_false, Bool.true_and, List.all_eq_true, List.contains_iff_mem] at h1 h2 ⊢
        exact fun w hw => h2 w (h1 w hw)
theorem within_trans {a b c : Cnd} (ha : validC a = true) (hb : validC b = true) (hc : validC c = true) (h1 : (withinS c a).1 = true) (h2 : (withinS a b).1 = true) : (withinS c b).1 = true := by
  rw [within_1 hc ha] at h1
  rw [within_1 ha hb] at h2
  rw [within_1 hc hb]
  by_cases hd : c.fr ≥ c.to
  · exact .inl hd
  · rcases h1 with h1 | ⟨a1, a2, a3, a4, a5, a6, a7⟩
    · exact absurd h1 hd
    · rcases h2 with h2 | ⟨b1, b2, b3, b4, b5, b6, b7⟩
      · omega
      · have la := valid_lists ha
        have lb := valid_lists hb
        have lc := valid_lists hc
        refine .inr ⟨by omega, by omega, covC_trans ha hb hc a3 b3, none_trans (fun h => outCl_none h) la.1 lb.1 a4 b4, none_trans (fun h => outCo_none h) la.2.1 lb.2.1 a5 b5, ?_, by omega⟩
        rw [outSi_none lc.2.2.2, List.all_eq_true] at a6 ⊢
        rw [outSi_none la.2.2.2, List.all_eq_true] at b6
        intro n hn
        have k1 := a6 n hn
        have k2 := b6 n hn
        cases g1 : allowsG c.si (n : Int)
        · rfl
        · rw [g1] at k1
          simp only [Bool.not_true, Bool.false_or] at k1 ⊢
          rw [k1] at k2
          simpa using k2

/-! ### The law -/
theorem meet_sm {a b : Cnd} (ha : validC a = true) (hb : validC b = true) (sa : SmC a) (sb : SmC b) : SmC (meetC a b) := by
  by_cases h : Alv a b
  · rw [meetC_alv h]
    refine ⟨patM_len (valid_p ha) (valid_p hb) sa.1 sb.1, bothG_len _ _ sa.2.1 sb.2.1, bothG_len _ _ sa.2.2.1 sb.2.2.1, bothG_len _ _ sa.2.2.2.1 sb.2.2.2.1, fun w hw => ?_, fun w hw => ?_⟩
    · rcases both_mem hw with h | h
      · exact sa.2.2.2.2.1 w h
      · exact sb.2.2.2.2.1 w h
    · rcases both_mem hw with h | h
      · exact sa.2.2.2.2.2 w h
      · exact sb.2.2.2.2.2 w h
  · rw [meetC_dead h]
    simp [SmC, zeroC]
theorem narrows_law {fu : Nat} (hf : 1000001 < fu) (hsan : law21_sanity 1000 = some true) (a b c : Cnd) :
    law21_CondNarrows fu a.fr a.to (bs a.p) (a.cl.map dB) (a.co.map dB) (a.si.map dI) a.us b.fr b.to (bs b.p) (b.cl.map dB) (b.co.map dB) (b.si.map dI) b.us c.fr c.to (bs c.p) (c.cl.map dB) (c.co.map dB) (c.si.map dI) c.us = some true := by
  unfold law21_CondNarrows
  rw [Few_eq (by omega), Few_eq (by omega), Few_eq (by omega), hsan]
  simp only [Option.bind_some]
  rcases Bool.eq_false_or_eq_true (fewC a) with h1 | h1
  · rcases Bool.eq_false_or_eq_true (fewC b) with h2 | h2
    · rcases Bool.eq_false_or_eq_true (fewC c) with h3 | h3
      · have ha := few_sm h1
        have hb := few_sm h2
        have hc := few_sm h3
        rw [h1, h2, h3, Valid_cond hf a ha, Valid_cond hf b hb, Valid_cond hf c hc]
        simp only [Bool.not_true, cond_false, Option.bind_some]
        rcases Bool.eq_false_or_eq_true (validC a) with va | va
        · rcases Bool.eq_false_or_eq_true (validC b) with vb | vb
          · rcases Bool.eq_false_or_eq_true (validC c) with vc | vc
            · have ab := meet_sm va vb ha hb
              have bc := meet_sm vb vc hb hc
              have vab := meet_valid va vb
              have vbc := meet_valid vb vc
              have m1 : meetS a b = (meetC a b, 0) := by unfold meetS; rw [va, vb]; rfl
              have m2 : meetS b c = (meetC b c, 0) := by unfold meetS; rw [vb, vc]; rfl
              have m3 : meetS (meetC a b) c = (meetC (meetC a b) c, 0) := by unfold meetS; rw [vab, vc]; rfl
              have m4 : meetS a (meetC b c) = (meetC a (meetC b c), 0) := by unfold meetS; rw [va, vbc]; rfl
              have w0 : ∀ {x y : Cnd}, validC x = true → validC y = true → (withinS x y).2 = 0 := fun {x y} hx hy => by unfold withinS impliesS; rw [hx, hy]; rfl
              rw [va, vb, vc, Meet_cond hf a b ha hb, Meet_cond hf b c hb hc, m1, m2]
              simp only [Bool.not_true, cond_false, Option.bind_some, encC]
              rw [Meet_cond hf (meetC a b) c ab hc, Meet_cond hf a (meetC b c) ha bc, m3, m4]
              simp only [Option.bind_some, encC]
              have l := meetS_len (meetC a b) c ab hc
              rw [m3] at l
              rw [Same_eq (by omega) _ _ l.1 l.2.1 l.2.2, meet_assoc va vb vc, sameC_refl, Within_cond hf c a hc ha, Within_cond hf c b hc hb, Within_cond hf c (meetC a b) hc ab, Within_cond hf a b ha hb, w0 vc va, w0 vc vb, w0 vc vab, w0 va vb, within_meet va vb vc]
              have tr := @within_trans a b c va vb vc
              cases k1 : (withinS c a).1 <;> cases k2 : (withinS c b).1 <;> cases k3 : (withinS a b).1 <;> simp [k1, k2, k3] at tr ⊢
            · rw [va, vb, vc]; rfl
          · rw [va, vb]; rfl
        · rw [va]; rfl
      · rw [h1, h2, h3]; rfl
    · rw [h1, h2]; rfl
  · rw [h1]; rfl
end Go.Proofs.YtcjgmffbebjddaaGreatDoor
