/- The engine, part 5: EngYb, EngY, EngZ, EngM of this author. A pure reading of the code of the model, and its soundness. Nothing is assumed. -/
import Derived.Test.YtcjgmffbebjddaaGreatDoorEng4
import Derived.Laws.Sem
import Derived.KernelRfl
set_option linter.all false

section
namespace Go.Eng
open Go

def findRange (N i : Nat) : Code → Option Yb
  | .rangeFunc _ ps as bd => match Nat.beq (rfId as bd) i with
    | true => some ⟨N, ps, as, bd⟩
    | false => none
  | .seq a b => match findRange N i a with
    | some y => some y
    | none => findRange N i b
  | .cond _ a b => match findRange N i a with
    | some y => some y
    | none => findRange N i b
  | .block _ a => findRange N i a
  | .loop a => findRange N i a
  | _ => none

def rangeIds : Code → List Nat
  | .rangeFunc _ _ as bd => [rfId as bd]
  | .seq a b => rangeIds a ++ rangeIds b
  | .cond _ a b => rangeIds a ++ rangeIds b
  | .block _ a => rangeIds a
  | .loop a => rangeIds a
  | _ => []

theorem findRange_none {N i : Nat} : ∀ {c : Code}, i ∉ rangeIds c → findRange N i c = none := by
  intro c
  induction c with
  | rangeFunc g ps as bd =>
    intro h
    simp only [rangeIds, List.mem_singleton] at h
    simp only [findRange]
    split
    · rename_i hb; exact absurd (Nat.eq_of_beq_eq_true hb).symm h
    · rfl
  | seq a b iha ihb =>
    intro h
    simp only [rangeIds, List.mem_append, not_or] at h
    simp only [findRange, iha h.1, ihb h.2]
  | cond x a b iha ihb =>
    intro h
    simp only [rangeIds, List.mem_append, not_or] at h
    simp only [findRange, iha h.1, ihb h.2]
  | block i a ih => intro h; exact ih h
  | loop a ih => intro h; exact ih h
  | _ => intro _; rfl

theorem findRange_some {N i : Nat} : ∀ {c : Code}, i ∈ rangeIds c → ∃ y, findRange N i c = some y := by
  intro c
  induction c with
  | rangeFunc g ps as bd =>
    intro h
    simp only [rangeIds, List.mem_singleton] at h
    subst h
    refine ⟨⟨N, ps, as, bd⟩, ?_⟩
    simp only [findRange, Nat.beq_refl]
  | seq a b iha ihb =>
    intro h
    simp only [rangeIds, List.mem_append] at h
    by_cases ha : i ∈ rangeIds a
    · obtain ⟨y, hy⟩ := iha ha
      exact ⟨y, by simp only [findRange, hy]⟩
    · obtain ⟨y, hy⟩ := ihb (h.resolve_left ha)
      exact ⟨y, by simp only [findRange, findRange_none ha, hy]⟩
  | cond x a b iha ihb =>
    intro h
    simp only [rangeIds, List.mem_append] at h
    by_cases ha : i ∈ rangeIds a
    · obtain ⟨y, hy⟩ := iha ha
      exact ⟨y, by simp only [findRange, hy]⟩
    · obtain ⟨y, hy⟩ := ihb (h.resolve_left ha)
      exact ⟨y, by simp only [findRange, findRange_none ha, hy]⟩
  | block i a ih => intro h; exact ih h
  | loop a ih => intro h; exact ih h
  | _ => intro h; simp [rangeIds] at h

theorem YbOK.of_find {E : Env} {f : FuncId} {N : Nat} : ∀ {c : Code}, (∀ i ∈ rangeIds c, E.ybAt f i = findRange N i c) → (rangeIds c).Nodup → YbOK E f N c := by
  intro c
  induction c with
  | rangeFunc g ps as bd =>
    intro h _
    have := h (rfId as bd) (by simp [rangeIds])
    simp only [findRange, Nat.beq_refl] at this
    exact this
  | seq a b iha ihb =>
    intro h hn
    simp only [rangeIds, List.nodup_append] at hn
    refine ⟨iha (fun i hi => ?_) hn.1, ihb (fun i hi => ?_) hn.2.1⟩
    · rw [h i (by simp only [rangeIds, List.mem_append]; exact .inl hi)]
      obtain ⟨y, hy⟩ := findRange_some (N := N) hi
      simp only [findRange, hy]
    · rw [h i (by simp only [rangeIds, List.mem_append]; exact .inr hi)]
      have : i ∉ rangeIds a := fun ha => hn.2.2 i ha i hi rfl
      simp only [findRange, findRange_none this]
  | cond x a b iha ihb =>
    intro h hn
    simp only [rangeIds, List.nodup_append] at hn
    refine ⟨iha (fun i hi => ?_) hn.1, ihb (fun i hi => ?_) hn.2.1⟩
    · rw [h i (by simp only [rangeIds, List.mem_append]; exact .inl hi)]
      obtain ⟨y, hy⟩ := findRange_some (N := N) hi
      simp only [findRange, hy]
    · rw [h i (by simp only [rangeIds, List.mem_append]; exact .inr hi)]
      have : i ∉ rangeIds a := fun ha => hn.2.2 i ha i hi rfl
      simp only [findRange, findRange_none this]
  | block i a ih => intro h hn; exact ih h hn
  | loop a ih => intro h hn; exact ih h hn
  | _ => intro _ _; trivial
end Go.Eng
end

section
namespace Go.Eng
open Go

section
variable {P : Program} {E : Env} {C : Ctx} {g : Gh} {F : St} {a : Act} {w : World}

def Shr (F F' : St) : Prop := (∀ p q c, F' (.x p q) = .obj c → F (.x p q) = .obj c) ∧ ∀ p q, (∃ e l, F' (.r p q) = .own e l) → ∃ e l, F (.r p q) = .own e l

theorem Shr.refl (F : St) : Shr F F := ⟨fun _ _ _ h => h, fun _ _ h => h⟩
theorem Shr.trans {F F1 F2 : St} (h : Shr F F1) (k : Shr F1 F2) : Shr F F2 := ⟨fun p q c hc => h.1 p q c (k.1 p q c hc), fun p q hh => h.2 p q (k.2 p q hh)⟩
theorem Shr.mutb {F F' : St} (h : Shr F F') {k : Key} {b : Nat} (hk : mutb g F' k b) : mutb g F k b := by
  cases k with
  | s k => exact hk.elim
  | x p q => obtain ⟨⟨c, hc⟩, hb⟩ := hk; exact ⟨⟨c, h.1 _ _ _ hc⟩, hb⟩
  | r p q => exact ⟨h.2 p q hk.1, hk.2⟩

structure Outs (C : Ctx) (g : Gh) (F F' : St) (a : Act) (w : World) (B : List Nat) : Prop where
  rel : Rel (C.withR (addR C.R B)) g F' a w
  ext : Ext w (Safe C g F w) (live F) g w (Safe (C.withR (addR C.R B)) g F' w) (live F') g
  nodup : B.Nodup
  src : ∀ b ∈ B, ¬ C.R b ∧ (C.W b ∨ C.w0.heap.size ≤ b) ∧ ∃ k, Go.Eng.mutb g F k b
  shr : Shr F F'

theorem Outs.nil {F' : St} (h : Rel C g F' a w) (hx : Ext w (Safe C g F w) (live F) g w (Safe C g F' w) (live F') g) (hs : Shr F F') : Outs C g F F' a w [] := by
  refine ⟨?_, ?_, List.nodup_nil, fun b hb => by simp at hb, hs⟩ <;> rw [addR_nil, withR_self] <;> assumption

theorem Outs.trans {F1 F2 : St} {B1 B2 : List Nat} (h : Outs C g F F1 a w B1) (k : Outs (C.withR (addR C.R B1)) g F1 F2 a w B2) : Outs C g F F2 a w (B1 ++ B2) := by
  have hRR : ((C.withR (addR C.R B1)).withR (addR (C.withR (addR C.R B1)).R B2)) = C.withR (addR C.R (B1 ++ B2)) := by
    rw [show (C.withR (addR C.R B1)).R = addR C.R B1 from rfl, addR_append]; rfl
  obtain ⟨k1, k2, k3, k4, k5⟩ := k
  rw [hRR] at k1 k2
  refine ⟨k1, h.ext.trans k2, ?_, fun b hb => ?_, h.shr.trans k5⟩
  · rw [List.nodup_append]
    exact ⟨h.nodup, k3, fun b hb b' hb' e => (k4 b' hb').1 (.inr (e ▸ hb))⟩
  · rcases List.mem_append.1 hb with hb | hb
    · exact h.src b hb
    · obtain ⟨m1, m2, m3, m4⟩ := k4 b hb
      exact ⟨fun hR => m1 (.inl hR), m2, m3, h.shr.mutb m4⟩

theorem out1_sound (h : Rel C g F a w) {keep : Bool} {v v' : AV} {x : Value} {F' : St} (hv : VRs C g F w v x) (hr : (out1 keep v).run F = some (v', F')) :
    Outs C g F F' a w (ob1 v' x) ∧ IV1 w (Safe (C.withR (addR C.R (ob1 v' x))) g F' w) C.Z (live F') g v' x ∧ (v.leaf = true → leafI v' = true) ∧ ((∃ y, v' = .d y) ∨ ∃ e l, v' = .own e l) := by
  cases hv with
  | nils e =>
    simp only [out1, Pr.run, Option.some.injEq, Prod.mk.injEq] at hr
    obtain ⟨rfl, rfl⟩ := hr
    cases keep with
    | true =>
      simp only [if_true]
      refine ⟨.nil h .refl (.refl F), .inl ⟨rfl, rfl⟩, fun _ => rfl, .inr ⟨_, _, rfl⟩⟩
    | false =>
      simp only [Bool.false_eq_true, if_false]
      refine ⟨.nil h .refl (.refl F), ?_, fun _ => rfl, .inl ⟨_, rfl⟩⟩
      exact .d _ _ (.nil e none 0)
  | row p q A n c hl hρ =>
    simp only [out1, Pr.run] at hr
    split at hr
    · rename_i e l hc
      cases keep with
      | true =>
        simp only [if_true, Pr.run, Option.some.injEq, Prod.mk.injEq] at hr
        obtain ⟨rfl, rfl⟩ := hr
        obtain ⟨h1, h2⟩ := h.dropRow hc
        rw [hρ] at h1 h2
        have ho := h.owns p q e l hc
        rw [hρ] at ho
        refine ⟨⟨h1, h2, ?_, fun b hb => ?_, fun _ _ _ hc => by rwa [upd_other _ _ (by simp)] at hc, fun p' q' hh => ?_⟩, ho.mono (fun _ _ => rfl) h2.block, fun _ => rfl, .inr ⟨_, _, rfl⟩⟩
        · simp only [ob1]; cases (Value.slice A n c).ownBlock <;> simp
        · have hmu : mutb g F (.r p q) b := ⟨⟨e, l, hc⟩, by rw [hρ]; simpa [ob1] using hb⟩
          exact ⟨(h.wr _ _ hmu).2, (h.wr _ _ hmu).1, _, hmu⟩
        · obtain ⟨e', l', h3⟩ := hh
          by_cases e1 : p' = p ∧ q' = q
          · obtain ⟨rfl, rfl⟩ := e1; exact ⟨e, l, hc⟩
          · rw [upd_other _ _ (by simpa using e1)] at h3; exact ⟨e', l', h3⟩
      | false =>
        simp only [Bool.false_eq_true, if_false, Pr.run, Option.some.injEq, Prod.mk.injEq] at hr
        obtain ⟨rfl, rfl⟩ := hr
        obtain ⟨h1, h2, h3⟩ := h.freeze hc
        rw [hρ] at h3
        refine ⟨.nil h1 h2 ⟨fun _ _ _ hc => by rwa [upd_other _ _ (by simp)] at hc, fun p' q' hh => ?_⟩, ?_, fun _ => rfl, .inl ⟨_, rfl⟩⟩
        · obtain ⟨e', l', h3⟩ := hh
          by_cases e1 : p' = p ∧ q' = q
          · obtain ⟨rfl, rfl⟩ := e1; exact ⟨e, l, hc⟩
          · rw [upd_other _ _ (by simpa using e1)] at h3; exact ⟨e', l', h3⟩
        · simp only [ob1, addR_nil, withR_self]
          exact .d _ _ h3
    · rename_i e l hc
      simp only [Pr.run, Option.some.injEq, Prod.mk.injEq] at hr
      obtain ⟨rfl, rfl⟩ := hr
      have hd := h.fros p q e l hc
      rw [hρ] at hd
      refine ⟨.nil h .refl (.refl F), ?_, fun _ => rfl, .inl ⟨_, rfl⟩⟩
      simp only [ob1, addR_nil, withR_self]
      exact .d _ _ hd
    · cases hr
  | d y _ hd =>
    simp only [out1, Pr.run, Option.some.injEq, Prod.mk.injEq] at hr
    obtain ⟨rfl, rfl⟩ := hr
    refine ⟨.nil h .refl (.refl F), ?_, fun hl => hl, .inl ⟨_, rfl⟩⟩
    simp only [ob1, addR_nil, withR_self]
    exact .d _ _ hd
  | _ => simp [out1, Pr.run] at hr

theorem out1L_sound : ∀ (c : List AV) {C : Ctx} {g : Gh} {F : St} (h : Rel C g F a w) {keep : Bool} {xs : List Value} {c' : List AV} {F' : St}, xs.length = c.length →
    (∀ (j : Nat) (v : AV) (x : Value), c[j]? = some v → xs[j]? = some x → v.leaf = true ∧ VRs C g F w v x) → (out1L keep c).run F = some (c', F') →
    Outs C g F F' a w (obL c' xs) ∧ c'.length = c.length ∧ (∀ (j : Nat) (v : AV) (x : Value), c'[j]? = some v → xs[j]? = some x → leafI v = true ∧ ((∃ y, v = .d y) ∨ ∃ e l, v = .own e l) ∧ IV1 w (Safe (C.withR (addR C.R (obL c' xs))) g F' w) C.Z (live F') g v x) := by
  intro c
  induction c with
  | nil =>
    intro C g F h keep xs c' F' hl hv hr
    simp only [out1L, Pr.run, Option.some.injEq, Prod.mk.injEq] at hr
    obtain ⟨rfl, rfl⟩ := hr
    exact ⟨by simp only [obL]; exact .nil h .refl (.refl F), rfl, fun j v x hj => by simp at hj⟩
  | cons v r ih =>
    intro C g F h keep xs c' F' hl hv hr
    cases xs with
    | nil => simp at hl
    | cons x s =>
      unfold out1L at hr
      obtain ⟨v1, F1, h1, hr2⟩ := Pr.bind_some hr
      obtain ⟨c1, F2, h2, hr3⟩ := Pr.bind_some hr2
      simp only [Pr.run, Option.some.injEq, Prod.mk.injEq] at hr3
      obtain ⟨rfl, rfl⟩ := hr3
      obtain ⟨hl0, hv0⟩ := hv 0 v x rfl rfl
      obtain ⟨o1, i1, l1, s1⟩ := out1_sound h hv0 h1
      obtain ⟨o2, l2, i2⟩ := ih o1.rel (xs := s) (by simpa using hl) (fun j v' x' hj hx => by
        obtain ⟨k1, k2⟩ := hv (j + 1) v' x' (by simpa using hj) (by simpa using hx)
        exact ⟨k1, k2.mono o1.ext⟩) h2
      have hRR : ((C.withR (addR C.R (ob1 v1 x))).withR (addR (C.withR (addR C.R (ob1 v1 x))).R (obL c1 s))) = C.withR (addR C.R (ob1 v1 x ++ obL c1 s)) := by
        rw [show (C.withR (addR C.R (ob1 v1 x))).R = addR C.R (ob1 v1 x) from rfl, addR_append]; rfl
      have e2 := o2.ext
      rw [hRR] at i2 e2
      refine ⟨o1.trans o2, by simp [l2], fun j v' x' hj hx => ?_⟩
      cases j with
      | zero =>
        simp at hj hx; subst hj; subst hx
        exact ⟨l1 hl0, s1, i1.mono e2 (fun _ _ => rfl)⟩
      | succ j => simp at hj hx; exact i2 j v' x' hj hx

theorem allD_get : ∀ {l : List AV} {ds : List D}, allD l = some ds → l = ds.map AV.d := by
  intro l
  induction l with
  | nil => intro ds h; simp [allD] at h; subst h; rfl
  | cons v r ih =>
    intro ds h
    cases v with
    | d x =>
      simp only [allD, Option.map_eq_some_iff] at h
      obtain ⟨d', h1, rfl⟩ := h
      rw [ih h1]; rfl
    | _ => simp [allD] at h

theorem obL_d : ∀ {ds : List D} {xs : List Value}, obL (ds.map AV.d) xs = [] := by
  intro ds
  induction ds with
  | nil => intro xs; rfl
  | cons d r ih => intro xs; cases xs with
    | nil => rfl
    | cons x s => simp only [List.map_cons, obL, ob1, List.nil_append]; exact ih

theorem toD_shr {v : AV} {x : D} {F F' : St} (hr : (toD v).run F = some (x, F')) : Shr F F' ∧ (v.leaf = true → x.leaf = true) := by
  cases v with
  | row p q =>
    simp only [toD, Pr.run] at hr
    split at hr
    · rename_i e l hc
      simp only [Pr.run, Option.some.injEq, Prod.mk.injEq] at hr
      obtain ⟨rfl, rfl⟩ := hr
      refine ⟨⟨fun _ _ _ hc => by rwa [upd_other _ _ (by simp)] at hc, fun p' q' hh => ?_⟩, fun _ => rfl⟩
      obtain ⟨e', l', h3⟩ := hh
      by_cases e1 : p' = p ∧ q' = q
      · obtain ⟨rfl, rfl⟩ := e1; exact ⟨e, l, hc⟩
      · rw [upd_other _ _ (by simpa using e1)] at h3; exact ⟨e', l', h3⟩
    · simp only [Pr.run, Option.some.injEq, Prod.mk.injEq] at hr
      obtain ⟨rfl, rfl⟩ := hr
      exact ⟨.refl _, fun _ => rfl⟩
    · cases hr
  | d y => simp only [toD, Pr.run, Option.some.injEq, Prod.mk.injEq] at hr; obtain ⟨rfl, rfl⟩ := hr; exact ⟨.refl _, fun h => h⟩
  | nils e => simp only [toD, Pr.run, Option.some.injEq, Prod.mk.injEq] at hr; obtain ⟨rfl, rfl⟩ := hr; exact ⟨.refl _, fun _ => rfl⟩
  | _ => simp [toD, Pr.run] at hr

theorem toDs_shr : ∀ {l : List AV} {xs : List D} {F F' : St}, (toDs l).run F = some (xs, F') → Shr F F' ∧ ∀ (j : Nat) (v : AV) (x : D), l[j]? = some v → xs[j]? = some x → v.leaf = true → x.leaf = true := by
  intro l
  induction l with
  | nil => intro xs F F' hr; simp only [toDs, Pr.run, Option.some.injEq, Prod.mk.injEq] at hr; obtain ⟨rfl, rfl⟩ := hr; exact ⟨.refl _, fun j v x hj => by simp at hj⟩
  | cons v r ih =>
    intro xs F F' hr
    simp only [toDs] at hr
    obtain ⟨x, F1, h1, hr2⟩ := Pr.bind_some hr
    obtain ⟨l, F2, h2, hr3⟩ := Pr.bind_some hr2
    simp only [Pr.run, Option.some.injEq, Prod.mk.injEq] at hr3
    obtain ⟨rfl, rfl⟩ := hr3
    obtain ⟨k1, k2⟩ := toD_shr h1
    obtain ⟨k3, k4⟩ := ih h2
    refine ⟨k1.trans k3, fun j v' x' hj hx => ?_⟩
    cases j with
    | zero => simp at hj hx; subst hj; subst hx; exact k2
    | succ j => simp at hj hx; exact k4 j v' x' hj hx

theorem outB_sound : ∀ (c : List AV) {C : Ctx} {g : Gh} {F : St} (h : Rel C g F a w) {xs : List Value} {c' : List AV} {F' : St}, xs.length = c.length →
    (∀ (j : Nat) (v : AV) (x : Value), c[j]? = some v → xs[j]? = some x → VRs C g F w v x) → (outB c).run F = some (c', F') →
    Outs C g F F' a w (obB c' xs) ∧ c'.length = c.length ∧ (∀ (j : Nat) (v : AV) (x : Value), c'[j]? = some v → xs[j]? = some x → IVB w (Safe (C.withR (addR C.R (obB c' xs))) g F' w) C.Z v x) := by
  intro c
  induction c with
  | nil =>
    intro C g F h xs c' F' hl hv hr
    simp only [outB, Pr.run, Option.some.injEq, Prod.mk.injEq] at hr
    obtain ⟨rfl, rfl⟩ := hr
    exact ⟨by simp only [obB]; exact .nil h .refl (.refl F), rfl, fun j v x hj => by simp at hj⟩
  | cons v r ih =>
    intro C g F h xs c' F' hl hv hr
    cases xs with
    | nil => simp at hl
    | cons x s =>
      have hv0 := hv 0 v x rfl rfl
      cases v with
      | d y =>
        simp only [outB] at hr
        obtain ⟨c1, F2, h2, hr3⟩ := Pr.bind_some hr
        simp only [Pr.run, Option.some.injEq, Prod.mk.injEq] at hr3
        obtain ⟨rfl, rfl⟩ := hr3
        obtain ⟨o2, l2, i2⟩ := ih h (xs := s) (by simpa using hl) (fun j v' x' hj hx => hv (j + 1) v' x' (by simpa using hj) (by simpa using hx)) h2
        simp only [obB, obB1, List.nil_append]
        refine ⟨o2, by simp [l2], fun j v' x' hj hx => ?_⟩
        cases j with
        | zero =>
          simp at hj hx; subst hj; subst hx
          have := hv0.mono o2.ext
          cases this with
          | d _ _ hd => exact hd
        | succ j => simp at hj hx; exact i2 j v' x' hj hx
      | ptr p q off =>
        cases off with
        | succ off => simp [outB, Pr.run] at hr
        | zero =>
          simp only [outB, Pr.run] at hr
          split at hr
          · rename_i cc hc
            split at hr
            · rename_i hp
              obtain ⟨ds, F1, h1, hr2⟩ := Pr.bind_some hr
              simp only [Pr.run] at hr2
              split at hr2
              · rename_i c2 hc2
                simp only [Pr.run] at hr2
                obtain ⟨c1, F2, h2, hr3⟩ := Pr.bind_some hr2
                simp only [Pr.run, Option.some.injEq, Prod.mk.injEq] at hr3
                obtain ⟨rfl, rfl⟩ := hr3
                cases hv0 with
                | ptr _ _ _ hlv =>
                  obtain ⟨cs, e, m1, m2, m3⟩ := (h.vars p q cc hc).cells hp
                  obtain ⟨⟨r1, e1⟩, ld, qd⟩ := toDs_sound cc h (us := cs.toList) (by simpa using m2) (fun j v u hj hu => by
                    obtain ⟨-, u', k2, -, k4⟩ := m3 j v hj
                    have : u = u' := by simp only [Array.getElem?_toList] at hu; rw [k2] at hu; simpa using hu.symm
                    rw [this]; exact k4) h1
                  obtain ⟨sh, lf⟩ := toDs_shr h1
                  obtain ⟨r2, e2⟩ := r1.dropVar hc2
                  have hmu : mutb g F (.x p q) (g.η p q) := ⟨⟨cc, hc⟩, rfl⟩
                  have o1 : Outs C g F (F1.upd (.x p q) .gone) a w [g.η p q] := ⟨r2, e1.trans e2, (by simp), fun b hb => by
                    obtain rfl : b = g.η p q := by simpa using hb
                    exact ⟨(h.wr _ _ hmu).2, (h.wr _ _ hmu).1, _, hmu⟩, ⟨fun p' q' c' hc' => by
                      by_cases e3 : p' = p ∧ q' = q
                      · obtain ⟨rfl, rfl⟩ := e3; rw [upd_same] at hc'; cases hc'
                      · rw [upd_other _ _ (by simpa using e3)] at hc'; exact sh.1 _ _ _ hc', fun p' q' hh => sh.2 p' q' (by
                      obtain ⟨e', l', h3⟩ := hh
                      rw [upd_other _ _ (by simp)] at h3; exact ⟨e', l', h3⟩)⟩⟩
                  obtain ⟨o2, l2, i2⟩ := ih r2 (xs := s) (by simpa using hl) (fun j v' x' hj hx => (hv (j + 1) v' x' (by simpa using hj) (by simpa using hx)).mono (e1.trans e2)) h2
                  have o3 := o1.trans o2
                  have hRR : ((C.withR (addR C.R [g.η p q])).withR (addR (C.withR (addR C.R [g.η p q])).R (obB c1 s))) = C.withR (addR C.R ([g.η p q] ++ obB c1 s)) := by
                    rw [show (C.withR (addR C.R [g.η p q])).R = addR C.R [g.η p q] from rfl, addR_append]; rfl
                  have e4 := o2.ext
                  rw [hRR] at i2 e4
                  refine ⟨o3, by simp [l2], fun j v' x' hj hx => ?_⟩
                  cases j with
                  | zero =>
                    simp at hj hx; subst hj; subst hx
                    refine ⟨_, cs, e, rfl, m1, by omega, fun j x hj => ?_⟩
                    have hjc : j < cc.length := by rw [← ld]; exact (List.getElem?_eq_some_iff.1 hj).1
                    obtain ⟨k1, u, k2, k3, k4⟩ := m3 j cc[j] (List.getElem?_eq_getElem hjc)
                    refine ⟨lf j _ x (List.getElem?_eq_getElem hjc) hj k1, u, k2, k3, ?_⟩
                    exact (qd j x u hj (by simpa using k2)).mono (e2.trans e4).block
                  | succ j => simp at hj hx; exact i2 j v' x' hj hx
              · cases hr2
            · cases hr
          · cases hr
      | _ => simp [outB, Pr.run] at hr

theorem outVal_sound (h : Rel C g F a w) {keep : Bool} {v v' : AV} {x : Value} {F' : St} (hv : VRs C g F w v x) (hr : (outVal keep v).run F = some (v', F')) :
    Outs C g F F' a w (ob2 v' x) ∧ IV2 w (Safe (C.withR (addR C.R (ob2 v' x))) g F' w) C.Z (live F') g v' x ∧ isTup v' = false := by
  by_cases hagg : ∃ c, v = .agg c
  · obtain ⟨c, rfl⟩ := hagg
    cases hv with
    | agg _ cs h1 h2 h3 =>
      simp only [outVal] at hr
      obtain ⟨l', F2, k1, hr2⟩ := Pr.bind_some hr
      simp only [Pr.run, Option.some.injEq, Prod.mk.injEq] at hr2
      obtain ⟨rfl, rfl⟩ := hr2
      obtain ⟨o1, l1, i1⟩ := out1L_sound c h (xs := cs.toList) (by simpa using h1.symm) (fun j v x hj hx => ⟨h2 v (List.mem_of_getElem? hj), h3 j v x hj (by simpa using hx)⟩) k1
      unfold mkAgg
      cases hd : allD l' with
      | some ds =>
        have hl := allD_get hd
        subst hl
        rw [obL_d] at o1 i1
        have hm : mkAgg (ds.map AV.d) = .d (.agg ds) := by unfold mkAgg; rw [hd]
        simp only [ob2, ob1]
        refine ⟨o1, ?_, rfl⟩
        have := mkAgg_rel (w := w) (S := Safe (C.withR (addR C.R [])) g F2 w) (Z := C.Z) (L := live F2) (g := g) (l := ds.map AV.d) (cs := cs) (by omega) (fun y hy => by
          obtain ⟨j, hj⟩ := List.mem_iff_getElem?.1 hy
          have hlt : j < cs.size := by have := (List.getElem?_eq_some_iff.1 hj).1; omega
          obtain ⟨k1, k2, -⟩ := i1 j y cs[j] hj (by simp [hlt])
          rcases k2 with ⟨z, rfl⟩ | ⟨e, l, rfl⟩
          · exact k1
          · simp at hy) (fun j v u hj hu => by
          obtain ⟨k1, k2, k3⟩ := i1 j v u hj (by simpa using hu)
          rcases k2 with ⟨z, rfl⟩ | ⟨e, l, rfl⟩
          · exact k3
          · have := List.mem_of_getElem? hj; simp at this)
        rw [hm] at this
        exact this
      | none =>
        simp only [ob2]
        exact ⟨o1, ⟨cs, rfl, by omega, fun j v u hj hu => by
          obtain ⟨k1, -, k3⟩ := i1 j v u hj (by simpa using hu)
          exact ⟨k1, k3⟩⟩, rfl⟩
  · by_cases hfn : ∃ f y c, v = .fn f y c
    · obtain ⟨f, y, c, rfl⟩ := hfn
      cases hv with
      | fn _ _ _ xs cs h1 h2 h3 h4 =>
        cases y with
        | cons => simp [outVal, out1, Pr.run] at hr
        | nil =>
          simp only [outVal] at hr
          obtain ⟨c', F2, k1, hr2⟩ := Pr.bind_some hr
          simp only [Pr.run, Option.some.injEq, Prod.mk.injEq] at hr2
          obtain ⟨rfl, rfl⟩ := hr2
          obtain ⟨o1, l1, i1⟩ := outB_sound c h (xs := cs.toList) (by simpa using h2.symm) (fun j v x hj hx => h4 j v x hj (by simpa using hx)) k1
          have hxs : xs = #[] := by apply Array.eq_empty_of_size_eq_zero; simpa using h1.symm
          subst hxs
          exact ⟨o1, ⟨cs, rfl, rfl, by omega, fun j v u hj hu => i1 j v u hj (by simpa using hu)⟩, rfl⟩
    have : outVal keep v = out1 keep v := by cases v <;> first | exact absurd ⟨_, rfl⟩ hagg | exact absurd ⟨_, _, _, rfl⟩ hfn | rfl
    rw [this] at hr
    obtain ⟨o1, i1, -, s1⟩ := out1_sound h hv hr
    rcases s1 with ⟨y, rfl⟩ | ⟨e, l, rfl⟩
    · exact ⟨o1, i1, rfl⟩
    · exact ⟨o1, i1, rfl⟩

theorem IV1_of_ext {w : World} {S S' : Nat → Prop} {Z : TypeId → Option Ty} {L L' : Key → Prop} {g g' : Gh} (H : Ext w S L g w S' L' g') {v : AV} {x : Value} (h : IV2 w S Z L g v x) : IV2 w S' Z L' g' v x := by
  cases v with
  | agg l =>
    obtain ⟨cs, h1, h2, h3⟩ := h
    exact ⟨cs, h1, h2, fun j v u hj hu => ⟨(h3 j v u hj hu).1, (h3 j v u hj hu).2.mono H (fun _ _ => rfl)⟩⟩
  | own e l => exact IV1.mono (v := .own e l) H h (fun _ _ => rfl)
  | fn f y c =>
    obtain ⟨cs, h1, h2, h3, h4⟩ := h
    exact ⟨cs, h1, h2, h3, fun j v u hj hu => (h4 j v u hj hu).mono H.block (fun _ _ => rfl)⟩
  | _ => exact VR.mono H h

theorem outVals_sound : ∀ (c : List AV) {C : Ctx} {g : Gh} {F : St} (h : Rel C g F a w) {keep : Bool} {xs : List Value} {c' : List AV} {F' : St}, xs.length = c.length →
    (∀ (j : Nat) (v : AV) (x : Value), c[j]? = some v → xs[j]? = some x → VRs C g F w v x) → (outVals keep c).run F = some (c', F') →
    Outs C g F F' a w (obT c' xs) ∧ c'.length = c.length ∧ (∀ v ∈ c', isTup v = false) ∧ (∀ (j : Nat) (v : AV) (x : Value), c'[j]? = some v → xs[j]? = some x → IV2 w (Safe (C.withR (addR C.R (obT c' xs))) g F' w) C.Z (live F') g v x) := by
  intro c
  induction c with
  | nil =>
    intro C g F h keep xs c' F' hl hv hr
    simp only [outVals, Pr.run, Option.some.injEq, Prod.mk.injEq] at hr
    obtain ⟨rfl, rfl⟩ := hr
    exact ⟨by simp only [obT]; exact .nil h .refl (.refl F), rfl, fun v hv => by simp at hv, fun j v x hj => by simp at hj⟩
  | cons v r ih =>
    intro C g F h keep xs c' F' hl hv hr
    cases xs with
    | nil => simp at hl
    | cons x s =>
      unfold outVals at hr
      obtain ⟨v1, F1, h1, hr2⟩ := Pr.bind_some hr
      obtain ⟨c1, F2, h2, hr3⟩ := Pr.bind_some hr2
      simp only [Pr.run, Option.some.injEq, Prod.mk.injEq] at hr3
      obtain ⟨rfl, rfl⟩ := hr3
      have hv0 := hv 0 v x rfl rfl
      obtain ⟨o1, i1, t1⟩ := outVal_sound h hv0 h1
      obtain ⟨o2, l2, t2, i2⟩ := ih o1.rel (xs := s) (by simpa using hl) (fun j v' x' hj hx => (hv (j + 1) v' x' (by simpa using hj) (by simpa using hx)).mono o1.ext) h2
      have hRR : ((C.withR (addR C.R (ob2 v1 x))).withR (addR (C.withR (addR C.R (ob2 v1 x))).R (obT c1 s))) = C.withR (addR C.R (ob2 v1 x ++ obT c1 s)) := by
        rw [show (C.withR (addR C.R (ob2 v1 x))).R = addR C.R (ob2 v1 x) from rfl, addR_append]; rfl
      have e2 := o2.ext
      rw [hRR] at i2 e2
      refine ⟨o1.trans o2, by simp [l2], fun y hy => ?_, fun j v' x' hj hx => ?_⟩
      · rcases List.mem_cons.1 hy with rfl | hy
        · exact t1
        · exact t2 y hy
      · cases j with
        | zero => simp at hj hx; subst hj; subst hx; exact IV1_of_ext e2 i1
        | succ j => simp at hj hx; exact i2 j v' x' hj hx

/-- One result. -/
def readOne (tmps : Array Value) : ResultVar → Sem Value
  | .tmp t => pure (tmps.getD t undef)
  | .cell a t => do loadVar t (← asAddr (tmps.getD a undef))

theorem readResults_sound (hZ : ∀ T t, E.ty T = some t → TyFacts P E.ty T t) (hC : C.Z = E.ty) (h : Rel C g F a w) : ∀ {rs : List ResultVar} {l : List AV} {F' : St}, (readResults E rs).run F = some (l, F') →
    F' = F ∧ ∃ xs : List Value, xs.length = l.length ∧ l.length = rs.length ∧ (rs.mapM (readOne a.tmps)).run P w = .ok xs w ∧ ∀ (j : Nat) (v : AV) (x : Value), l[j]? = some v → xs[j]? = some x → VRs C g F w v x := by
  intro rs
  induction rs with
  | nil =>
    intro l F' hr
    simp only [readResults, Pr.run, Option.some.injEq, Prod.mk.injEq] at hr
    obtain ⟨rfl, rfl⟩ := hr
    exact ⟨rfl, [], rfl, rfl, by simp [Sem.run_pure], fun j v x hj => by simp at hj⟩
  | cons y r ih =>
    intro l F' hr
    cases y with
    | tmp t =>
      simp only [readResults] at hr
      obtain ⟨v, F1, h1, hr2⟩ := Pr.bind_some hr
      obtain ⟨hv, rfl⟩ := getS_some h1
      obtain ⟨l1, F2, h2, hr3⟩ := Pr.bind_some hr2
      simp only [Pr.run, Option.some.injEq, Prod.mk.injEq] at hr3
      obtain ⟨rfl, rfl⟩ := hr3
      obtain ⟨rfl, xs, k1, k2, k3, k4⟩ := ih h2
      refine ⟨rfl, a.tmps.getD t undef :: xs, by simp [k1], by simp [k2], ?_, fun j v' x' hj hx => ?_⟩
      · rw [List.mapM_cons]
        simp only [readOne, Sem.run_bind, Sem.run_pure, Result.andThen_ok, k3]
      · cases j with
        | zero => simp at hj hx; subst hj; subst hx; simpa using (h.slots t v hv).2
        | succ j => simp at hj hx; exact k4 j v' x' hj hx
    | cell ad T =>
      simp only [readResults] at hr
      obtain ⟨pv, F1, h1, hr2⟩ := Pr.bind_some hr
      obtain ⟨hv, rfl⟩ := getS_some h1
      obtain ⟨v, F2, h2, hr3⟩ := Pr.bind_some hr2
      obtain ⟨rfl, x, q1, q2⟩ := evLoad_sound (P := P) hZ hC h (h.slots ad pv hv).2 h2
      obtain ⟨l1, F3, h3, hr4⟩ := Pr.bind_some hr3
      simp only [Pr.run, Option.some.injEq, Prod.mk.injEq] at hr4
      obtain ⟨rfl, rfl⟩ := hr4
      obtain ⟨rfl, xs, k1, k2, k3, k4⟩ := ih h3
      have hld : (readOne a.tmps (.cell ad T)).run P w = .ok x w := by
        simp only [readOne]
        unfold Instr.loadAt at q1
        generalize a.tmps.getD ad undef = pp at q1 ⊢
        cases pp with
        | pointer o => cases o with
          | some A => exact q1
          | none => simp [Instr.sureAddr] at q1
        | _ => simp [Instr.sureAddr] at q1
      refine ⟨rfl, x :: xs, by simp [k1], by simp [k2], ?_, fun j v' x' hj hx => ?_⟩
      · rw [List.mapM_cons]
        simp only [Sem.run_bind, hld, Sem.run_pure, Result.andThen_ok, k3]
      · cases j with
        | zero => simp at hj hx; subst hj; subst hx; exact q2
        | succ j => simp at hj hx; exact k4 j v' x' hj hx

theorem results_run {fn : Func} {tmps : Array Value} {xs : List Value} (h : (fn.results.toList.mapM (readOne tmps)).run P w = .ok xs w) :
    (results fn tmps).run P w = .ok (if h : xs.length = 1 then xs[0] else .tuple xs.toArray) w := by
  show Sem.run P (fn.results.mapM (readOne tmps) >>= fun vs => pure (if h : vs.size = 1 then vs[0] else Value.tuple vs)) w = _
  rw [Array.mapM_eq_mapM_toList]
  simp only [Sem.run_bind, Sem.run_map, h, Result.andThen_ok, Sem.run_pure]
  rfl
end
end Go.Eng
end

section
namespace Go.Eng
open Go

theorem argSlots_mem : ∀ {args : List AV} {i k : Nat} {v : AV}, (k, v) ∈ argSlots i args → i ≤ k ∧ args[k - i]? = some v := by
  intro args
  induction args with
  | nil => intro i k v h; simp [argSlots] at h
  | cons x r ih =>
    intro i k v h
    simp only [argSlots, List.mem_cons] at h
    rcases h with h | h
    · obtain ⟨rfl, rfl⟩ : k = i ∧ v = x := by simpa using h
      exact ⟨Nat.le_refl _, by simp⟩
    · obtain ⟨h1, h2⟩ := ih h
      refine ⟨by omega, ?_⟩
      rw [show k - i = (k - (i + 1)) + 1 from by omega]
      simpa using h2

theorem obS_nil {a : Act} : ∀ {sl : List (Nat × AV)}, (∀ k v, (k, v) ∈ sl → ∀ e l, v ≠ .own e l) → obS a sl = [] := by
  intro sl
  induction sl with
  | nil => intro _; rfl
  | cons kv r ih =>
    obtain ⟨k, v⟩ := kv
    intro h
    simp only [obS, ih fun k' v' hm => h k' v' (List.mem_cons_of_mem _ hm), List.append_nil]
    have := h k v (by simp)
    cases v <;> first | rfl | exact absurd rfl (this _ _)

theorem PackR_len {w : World} {S : Nat → Prop} {Z : TypeId → Option Ty} {L : Key → Prop} {g : Gh} : ∀ {cs : List (List AV)} {s : List (Nat × Array Value)}, PackR w S Z L g cs s → cs.length = s.length := by
  intro cs
  induction cs with
  | nil => intro s h; cases s with
    | nil => rfl
    | cons => exact h.elim
  | cons c r ih => intro s h; cases s with
    | nil => exact h.elim
    | cons y s => simp [ih h.2]

theorem IV_of_IV2 {w : World} {S : Nat → Prop} {Z : TypeId → Option Ty} {L : Key → Prop} {g : Gh} {v : AV} {x : Value} (ht : isTup v = false) (h : IV2 w S Z L g v x) : IV w S Z L g v x ∧ ob v x = ob2 v x := by
  cases v <;> first | exact ⟨h, rfl⟩ | simp [isTup] at ht

section
variable {P : Program} {E : Env}

/-- A function of the program's, as the environment has it. -/
def FnOK (P : Program) (f : FuncId) (fn : Fun) : Prop :=
  ∃ fn0 : Func, P.funcs[f]? = some fn0 ∧ fn0.body = some fn.body ∧ fn0.name ≠ "runtime.NumGoroutine" ∧ fn0.ntmps = fn.ntmps ∧ fn0.results.toList = fn.results

theorem finish_sound {C : Ctx} {g : Gh} {F : St} {a : Act} {w0 w : World} {S : Nat → Prop} {pack : List (List AV)} {s : List (Nat × Array Value)} (hZ : ∀ T t, E.ty T = some t → TyFacts P E.ty T t) (hC : C.Z = E.ty)
    (h : Rel C g F a w) (hw0 : C.w0 = w0) (hQ : C.Q = S) (hW : C.W = fun b => b ∈ packB pack s) (hpin : C.pin = s.map (·.1)) {keep : Bool} {fn0 : Func} {rs : List ResultVar} (hrs : fn0.results.toList = rs)
    {res : AV} {out : List (List AV)} {F' : St} (hr : (finish E keep rs s.length).run F = some ((res, out), F')) :
    ∃ v S' s', (results fn0 a.tmps).run P w = .ok v w ∧ OutOK E.ty w0 S (packB pack s) s w S' res v out s' := by
  unfold finish at hr
  obtain ⟨l, F1, h1, hr2⟩ := Pr.bind_some hr
  obtain ⟨rfl, xs, k1, k2, k3, k4⟩ := readResults_sound hZ hC h h1
  obtain ⟨l', F2, h2, hr3⟩ := Pr.bind_some hr2
  obtain ⟨o2, l2, t2, i2⟩ := outVals_sound l h (xs := xs) (by omega) k4 h2
  obtain ⟨p, F3, h3, hr4⟩ := Pr.bind_some hr3
  obtain ⟨s', r3, e3, p3, ls, lc, hη, n3, b3, -, -, -⟩ := lend_sound _ o2.rel h3
  obtain ⟨res', F4, h4, hr5⟩ := Pr.bind_some hr4
  obtain ⟨k5, rfl⟩ := Pr.opt_some h4
  obtain ⟨p', F5, h5, hr6⟩ := Pr.bind_some hr5
  obtain ⟨k6, rfl⟩ := Pr.opt_some h5
  simp only [Pr.run, Option.some.injEq, Prod.mk.injEq] at hr6
  obtain ⟨⟨rfl, rfl⟩, rfl⟩ := hr6
  rw [← hrs] at k3
  have hres := results_run (P := P) (w := w) (fn := fn0) (tmps := a.tmps) k3
  have lns : s'.length = s.length := by rw [ls]; simp [varIdx]
  -- the value
  have hval : IV w (Safe (C.withR (addR C.R (obT l' xs))) g F2 w) C.Z (live F2) g (single l') (if h : xs.length = 1 then xs[0] else .tuple xs.toArray) ∧
      ob (single l') (if h : xs.length = 1 then xs[0] else .tuple xs.toArray) = obT l' xs ∧ ∀ m, single l' = .tup m → ∀ y ∈ m, isTup y = false := by
    by_cases hx : xs.length = 1
    · obtain ⟨x, rfl⟩ := List.length_eq_one_iff.1 hx
      obtain ⟨y, rfl⟩ := List.length_eq_one_iff.1 (show l'.length = 1 by omega)
      have ht := t2 y (by simp)
      obtain ⟨m1, m2⟩ := IV_of_IV2 ht (i2 0 y x rfl rfl)
      simp only [List.length_cons, List.length_nil, dif_pos, List.getElem_cons_zero]
      refine ⟨m1, ?_, fun m hm => ?_⟩
      · show ob y x = _
        rw [m2]; simp [obT]
      · have : single [y] = y := rfl
        rw [this] at hm; subst hm; simp [isTup] at ht
    · rw [dif_neg hx]
      have hs : single l' = .tup l' := by
        cases l' with
        | nil => rfl
        | cons y r => cases r with
          | nil => simp at l2; omega
          | cons => rfl
      rw [hs]
      refine ⟨⟨xs.toArray, rfl, by simp; omega, fun j v u hj hu => i2 j v u hj (by simpa using hu)⟩, rfl, fun m hm => ?_⟩
      cases hm; exact t2
  obtain ⟨v1, v2, v3⟩ := hval
  generalize hvv : (if h : xs.length = 1 then xs[0] else Value.tuple xs.toArray) = v at *
  have hRR : ((C.withR (addR C.R (obT l' xs))).withR (addR (C.withR (addR C.R (obT l' xs))).R (packB p s'))) = C.withR (addR C.R (obT l' xs ++ packB p s')) := by
    rw [show (C.withR (addR C.R (obT l' xs))).R = addR C.R (obT l' xs) from rfl, addR_append]; rfl
  rw [hRR] at r3 e3 p3
  have v4 : IV w (Safe (C.withR (addR C.R (obT l' xs ++ packB p s'))) g F5 w) C.Z (live F5) g (single l') v := by
    generalize single l' = sv at v1
    cases sv with
    | tup m =>
      obtain ⟨vs, q1, q2, q3⟩ := v1
      exact ⟨vs, q1, q2, fun j y u hj hu => IV1_of_ext e3 (q3 j y u hj hu)⟩
    | agg m => exact IV1_of_ext (v := .agg m) e3 v1
    | own e m => exact IV1_of_ext (v := .own e m) e3 v1
    | d m => exact IV1_of_ext (v := .d m) e3 v1
    | nils m => exact IV1_of_ext (v := .nils m) e3 v1
    | row p q => exact IV1_of_ext (v := .row p q) e3 v1
    | ptr p q o => exact IV1_of_ext (v := .ptr p q o) e3 v1
    | eS e l i o => exact IV1_of_ext (v := .eS e l i o) e3 v1
    | eR p q e i o => exact IV1_of_ext (v := .eR p q e i o) e3 v1
    | fn f x c => exact IV1_of_ext (v := .fn f x c) e3 v1
    | bx l => exact IV1_of_ext (v := .bx l) e3 v1
    | yf p q => exact IV1_of_ext (v := .yf p q) e3 v1
    | ob o cap => exact IV1_of_ext (v := .ob o cap) e3 v1
  obtain ⟨w1, w2, w3⟩ := IV_ren (L' := fun _ => False) (g' := gk []) v4 v3 k5
  have hob : ob res' v = obT l' xs := by rw [w2, v2]
  have hm : ∀ q r t, okIdx s.length (q, r) = some t → live F5 (.x q r) → Lk s'.length (.x t.1 t.2) ∧ (gk s').η t.1 t.2 = g.η q r := fun q r t hr _ => by
    simp only [okIdx] at hr
    split at hr
    · rename_i hq
      obtain rfl := Option.some.inj hr
      obtain ⟨rfl, hq2⟩ := hq
      have hlt : q < s'.length := by omega
      refine ⟨⟨q, hlt, rfl⟩, ?_⟩
      have := hη q (q, 1) s'[q] (by simp [varIdx, hq2]) (List.getElem?_eq_getElem hlt)
      simp [gk, List.getD_eq_getElem?_getD, hlt, this]
    · cases hr
  obtain ⟨pr1, pr2, pr3⟩ := p3.ren hm k6
  refine ⟨v, Safe (C.withR (addR C.R (obT l' xs ++ packB p s'))) g F5 w, s', hres, ?_⟩
  have hB : ∀ b ∈ obT l' xs ++ packB p s', b < w.heap.size ∧ (b ∈ packB pack s ∨ w0.heap.size ≤ b) := fun b hb => by
    rcases List.mem_append.1 hb with hb | hb
    · obtain ⟨-, m2, k, m3⟩ := o2.src b hb
      refine ⟨mutb_lt h m3, ?_⟩
      rw [hW, hw0] at m2; exact m2
    · obtain ⟨-, m2, k, m3⟩ := b3 b hb
      refine ⟨mutb_lt o2.rel m3, ?_⟩
      have m2' : C.W b ∨ C.w0.heap.size ≤ b := m2
      rw [hW, hw0] at m2'; exact m2'
  refine ⟨?_, ?_, ?_, w3, ?_, ?_, fun b hb => ⟨hb.1, fun hb' => ?_⟩, fun b hb => ?_, fun b hb => ?_⟩
  · have := h.keep
    rw [hw0, hW] at this
    exact this
  · apply List.ext_getElem?
    intro i
    by_cases hi : i < s.length
    · have hi' : i < s'.length := by omega
      have q1 := hη i (i, 1) s'[i] (by simp [varIdx, hi]) (List.getElem?_eq_getElem hi')
      obtain ⟨-, -, q2⟩ := h.pins i (s[i]).1 (by rw [hpin]; simp [hi])
      simp [hi, hi', ← q1, q2]
    · have hi' : ¬ i < s'.length := by omega
      simp [hi, hi']
  · rw [← hC]; exact w1
  · rw [← hC]; exact pr1
  · rw [hob, pr2]
    rw [List.nodup_append]
    exact ⟨o2.nodup, n3, fun b hb b' hb' e => (b3 b' hb').1 (.inr (e ▸ hb))⟩
  · rw [hob, pr2] at hb'
    exact hb.2.2.2 (.inr hb')
  · rw [hob, pr2] at hb
    exact hB b hb
  · rcases hb.2.2.1 with q | q | q
    · have q' : C.Q b := q
      rw [hQ] at q'; exact .inl q'
    · have q' : C.W b := q
      rw [hW] at q'; exact .inr (.inl q')
    · have q' : C.w0.heap.size ≤ b := q
      rw [hw0] at q'; exact .inr (.inr q')

theorem body_sound (hm : P.follows .mixedOrders = true) (hZ : ∀ T t, E.ty T = some t → TyFacts P E.ty T t) {ev : Ev} (hEv : SoundEv P E.ty ev) {f : FuncId} {fn : Fun} (hf : FnOK P f fn) (hY : YbOK E f fn.ntmps fn.body) {k : Nat}
    {args : List AV} {pack : List (List AV)} {res : AV} {out : List (List AV)} (hr : evBody E f fn ev k args pack = some (res, out)) : CallOK P E.ty f args pack res out := by
  obtain ⟨fn0, f1, f2, f3, f4, f5⟩ := hf
  refine ⟨⟨fn0, f1, by rw [f2]; rfl, f3⟩, fun w S cargs s hin => ?_⟩
  unfold evBody at hr
  split at hr
  · rename_i hlen
    obtain ⟨n1, n2, n3⟩ := hlen
    rw [Option.bind_eq_some_iff] at hr
    obtain ⟨⟨ex, F2⟩, hr1, hr2⟩ := hr
    rw [Option.bind_eq_some_iff] at hr1
    obtain ⟨F1, h1, h2⟩ := hr1
    have hps := PackR_len hin.pk
    have hal : args.length = cargs.size := by simpa using hin.len
    let C : Ctx := { Z := E.ty, N := fn.ntmps, w0 := w, Q := S, W := fun b => b ∈ packB pack s, R := fun b => b ∈ packB pack s, pin := s.map (·.1) }
    let a0 : Act := { tmps := cargs ++ Array.replicate (fn0.ntmps - cargs.size) undef, defers := [] }
    have hsz : a0.tmps.size = fn.ntmps := by simp [a0, f4]; omega
    have hR0 : Rel C (gk s) (base (varIdx pack.length)) a0 w := by
      refine { slots := fun k v hv => by simp [base] at hv, vars := fun p q c hc => ?_, owns := fun p q e l hc => by simp [base] at hc, fros := fun p q e l hc => by simp [base] at hc, tabs := hin.tabs.mono fun b hb => ⟨⟨(hin.safe b hb).1, fun k => mutb_base, .inl hb, (hin.safe b hb).2⟩, rfl⟩,
               inj := fun k k' b hk => absurd hk mutb_base, wr := fun k b hk => absurd hk mutb_base, rlt := hin.lt, keep := ⟨rfl, rfl, rfl, Nat.le_refl _, fun b _ _ => rfl⟩, defers := fun d hd => by simp [a0] at hd, dnodup := List.nodup_nil, size := hsz, pins := fun i b hb => ?_ }
      · simp only [base] at hc; split at hc <;> cases hc
      · have hb' : (s.map (·.1))[i]? = some b := hb
        rw [List.getElem?_map, Option.map_eq_some_iff] at hb'
        obtain ⟨y, hy, rfl⟩ := hb'
        have hi : i < s.length := (List.getElem?_eq_some_iff.1 hy).1
        refine ⟨by omega, by simp [base, varIdx]; omega, ?_⟩
        simp [gk, List.getD_eq_getElem?_getD, hy]
    have hnoown : ∀ k v, (k, v) ∈ argSlots 0 args → ∀ e l, v ≠ .own e l := fun k v hm e l he => by
      subst he
      obtain ⟨-, hg⟩ := argSlots_mem hm
      have hlt : k - 0 < cargs.toList.length := by rw [← hin.len]; exact (List.getElem?_eq_some_iff.1 hg).1
      have := hin.val _ _ _ hg (List.getElem?_eq_getElem hlt)
      cases this
    have hob : obS a0 (argSlots 0 args) = [] := obS_nil hnoown
    have hLk : ∀ k, Lk s.length k → live (base (varIdx pack.length)) k := fun k hk => by
      obtain ⟨i, hi, rfl⟩ := hk
      simp [live, base, varIdx]; omega
    have hx : Ext w S (Lk s.length) (gk s) w S (live (base (varIdx pack.length))) (gk s) := ⟨fun b hb => ⟨hb, rfl⟩, fun p q hp => ⟨hLk _ hp, rfl⟩, fun p q hp => ⟨hLk _ hp, rfl⟩⟩
    unfold start at h1
    obtain ⟨g1, r1⟩ := fresh_sound hR0 S (fun b hb => ⟨(hin.safe b hb).1, fun k => mutb_base, .inl hb, (hin.safe b hb).2⟩) (s := s) (fun i p y hp hy => by
        simp only [varIdx, List.getElem?_map, Option.map_eq_some_iff] at hp
        obtain ⟨j, hj, rfl⟩ := hp
        have : j = i := by
          have := List.getElem?_eq_some_iff.1 hj
          simpa using this.2.symm
        subst this
        simp [gk, List.getD_eq_getElem?_getD, hy])
      (by
        unfold varIdx
        rw [List.nodup_iff_pairwise_ne, List.pairwise_map]
        refine List.Pairwise.imp (fun {i j} hij heq => hij (by simpa using heq)) (List.nodup_iff_pairwise_ne.1 List.nodup_range))
      (PackR_mono (fun _ hb => hb) hx hin.pk)
      (fun k v hm => by
        obtain ⟨-, hg⟩ := argSlots_mem hm
        have hg' : args[k]? = some v := by simpa using hg
        have hlt : k < cargs.toList.length := by rw [← hin.len]; exact (List.getElem?_eq_some_iff.1 hg').1
        have hv := hin.val _ _ _ hg' (List.getElem?_eq_getElem hlt)
        have hlt' : k < cargs.size := by simpa using hlt
        have hget : a0.tmps.getD k undef = cargs.toList[k] := by
          simp [a0, Array.getD_eq_getD_getElem?, Array.getElem?_append, hlt']
        rw [hget]
        refine ⟨by show k < fn.ntmps; omega, ?_⟩
        have hv2 := hv.mono hx
        have hno := hnoown k v hm
        cases v <;> first | exact hv2 | exact absurd rfl (hno _ _))
      (fun b hb => by
        rw [hob, List.append_nil] at hb
        exact ⟨hb, .inl hb⟩)
      (by rw [hob, List.append_nil]; exact hin.nodup) h1
    have r2 := r1.weakenR (R' := fun _ => False) (fun b hb => hb.elim)
    refine calls_FR.1 (callsIn_of_wp_marks (F := FR none) (n := 0) f1 f2 trivial (code_sound (ro := none) (C := C.withR fun _ => False) hm hZ rfl hEv fn.body (.inl rfl) hY r2 h2 (fun g' a' w' r3 => ?_)))
    have fin : ∀ {res : AV} {out : List (List AV)} {F' : St}, (finish E (E.keep f) fn.results pack.length).run F2 = some ((res, out), F') →
        LeavesInM (FR none) 0 P fn0 a'.tmps (fun e w' => ∃ v S' s', e = .returned v ∧ OutOK E.ty w S (packB pack s) s w' S' res v out s') a'.defers .returning w' := fun hfin => by
      rw [hps] at hfin
      refine leavesM a'.defers rfl r3 fun R' w'' r4 => ?_
      obtain ⟨v, S', s', q1, q2⟩ := finish_sound hZ rfl r4 (w0 := w) (S := S) (pack := pack) (s := s) rfl rfl rfl rfl f5 hfin
      exact ⟨v, q1, v, S', s', rfl, q2⟩
    cases ex with
    | exit i => cases hr2
    | normal =>
      simp only [Option.map_eq_some_iff] at hr2
      obtain ⟨⟨⟨res1, out1⟩, F3⟩, h3, h4⟩ := hr2
      simp only [Prod.mk.injEq] at h4
      obtain ⟨rfl, rfl⟩ := h4
      exact fin h3
    | ret =>
      simp only [Option.map_eq_some_iff] at hr2
      obtain ⟨⟨⟨res1, out1⟩, F3⟩, h3, h4⟩ := hr2
      simp only [Prod.mk.injEq] at h4
      obtain ⟨rfl, rfl⟩ := h4
      exact fin h3
  · cases hr

/-! ### Rounds -/
section
variable {C : Ctx} {g : Gh} {F : St} {a : Act} {w : World}
theorem setLp_sound (h : Rel C g F a w) {m s t l : Nat} {F' : St} {u : Unit} (hr : (setLp m s t).run F = some (u, F')) (hl : g.η m 1 = l) :
    ∃ r, w.heap[l]? = some (.loop r) ∧ LpSt s r ∧ ∀ r' : Loop, r'.tmps = r.tmps → r'.params = r.params → r'.assign = r.assign → r'.body = r.body → LpSt t r' → Rel C g F' a (w.putObj l (.loop r')) := by
  simp only [setLp, Pr.run] at hr
  split at hr
  · rename_i f i st ks cap hc
    split at hr
    · rename_i hst
      subst hst
      simp only [Pr.run, Option.some.injEq, Prod.mk.injEq] at hr
      obtain ⟨-, rfl⟩ := hr
      rcases h.vars _ _ _ hc with ⟨cs', e', c1, c2, c3⟩ | ⟨o, cap2, c1, c2⟩
      · have := (c3 0 _ rfl).1; simp [AV.leaf] at this
      · obtain ⟨rfl, rfl⟩ : Ob.lp f i st ks = o ∧ cap = cap2 := by simpa using c1
        obtain ⟨t2, y2, r, d1, d2, d3, d4, d5, d6, d7, d8, d9, d10, d11⟩ := c2
        rw [hl] at d3
        refine ⟨r, d3, d9, fun r' e1 e2 e3 e4 e5 => ?_⟩
        have hlt : l < w.heap.size := (Array.getElem?_eq_some_iff.1 d3).1
        have hg : w.grownBy (w.putObj l (.loop r')) (some (g.η m 1)) := ⟨rfl, rfl, rfl, by simp, fun k hk hne => World.putObj_heap_other (fun e => hne (by rw [hl, e]))⟩
        have hmu : mutb g F (.x m 1) (g.η m 1) := ⟨⟨_, hc⟩, rfl⟩
        refine (h.setOb hc hg (.inr ⟨.lp f i t ks, cap, rfl, t2, y2, r', d1, d2, by rw [hl]; exact World.putObj_heap_same hlt, trivial, by rw [e2]; exact d5, by rw [e3]; exact d6, by rw [e4]; exact d7, by rw [e1]; exact d8, e5, d10, fun j k v hk hv => ?_⟩)).1
        rw [e1]
        exact ⟨(d11 j k v hk hv).1, (d11 j k v hk hv).2.mono ⟨fun b hb => ⟨hb, hg.block b hb.1 (by simp; exact fun e1 => hb.2.1 _ (e1 ▸ hmu))⟩, fun _ _ hp => ⟨hp, rfl⟩, fun _ _ hp => ⟨hp, rfl⟩⟩⟩
    · cases hr
  · cases hr

theorem foldSet_size : ∀ (l : List (Nat × Value)) (t : Array Value), (l.foldl (fun t p => t.setIfInBounds p.1 p.2) t).size = t.size := by
  intro l
  induction l with
  | nil => intro t; rfl
  | cons p r ih => intro t; simp [List.foldl_cons, ih]

theorem foldSet_other {k : Nat} : ∀ (l : List (Nat × Value)) (t : Array Value), (∀ p ∈ l, p.1 ≠ k) → (l.foldl (fun t p => t.setIfInBounds p.1 p.2) t).getD k undef = t.getD k undef := by
  intro l
  induction l with
  | nil => intro t _; rfl
  | cons p r ih =>
    intro t h
    rw [List.foldl_cons, ih _ (fun q hq => h q (List.mem_cons_of_mem _ hq))]
    have := h p (by simp)
    simp [Array.getD_eq_getD_getElem?, Array.getElem?_setIfInBounds_ne this]

theorem foldSet_get {k : Nat} {x : Value} : ∀ (l : List (Nat × Value)) (t : Array Value), (l.map (·.1)).Nodup → (k, x) ∈ l → k < t.size → (l.foldl (fun t p => t.setIfInBounds p.1 p.2) t).getD k undef = x := by
  intro l
  induction l with
  | nil => intro t _ h; cases h
  | cons p r ih =>
    intro t hnd hm hk
    rw [List.foldl_cons]
    rw [List.map_cons, List.nodup_cons] at hnd
    rcases List.mem_cons.1 hm with rfl | hm
    · rw [foldSet_other _ _ (fun q hq e => hnd.1 (by have := List.mem_map_of_mem (f := (·.1)) hq; rw [e] at this; exact this))]
      simp [Array.getD_eq_getD_getElem?, hk]
    · exact ih _ hnd.2 hm (by simpa using hk)

theorem nodupN_sound : ∀ {l : List Nat}, nodupN l = true → l.Nodup
  | [], _ => List.nodup_nil
  | p :: r, h => by
    simp only [nodupN, Bool.and_eq_true, Bool.not_eq_true', List.contains_eq_mem, decide_eq_false_iff_not] at h
    exact List.nodup_cons.2 ⟨h.1, nodupN_sound h.2⟩

theorem endRd_sound (hZ : ∀ T t, E.ty T = some t → TyFacts P E.ty T t) (hC : C.Z = E.ty) (h : Rel C g F a w) {w0 : World} {S : Nat → Prop} {pack : List (List AV)} {s : List (Nat × Array Value)} (hw0 : C.w0 = w0) (hQ : C.Q = S) (hW : C.W = fun b => b ∈ packB pack s) (hpin : C.pin = s.map (·.1))
    {m l : Nat} (hm : (s.map (·.1))[m]? = some l) {ex : Ex} {res : AV} {out : List (List AV)} {F' : St} (hr : (endRd E C.N m s.length ex).run F = some ((res, out), F')) :
    roundPost P l (fun e w' => ∃ v S' s', e = .returned v ∧ OutOK E.ty w0 S (packB pack s) s w' S' res v out s') ex.toExit a w := by
  unfold endRd at hr
  obtain ⟨_, F1, h1, hr2⟩ := Pr.bind_some hr
  obtain ⟨_, F2, h2, hr3⟩ := Pr.bind_some hr2
  have hη : g.η m 1 = l := (h.pins m l (by rw [hpin]; exact hm)).2.2
  obtain ⟨r, k1, k2, k3⟩ := setLp_sound h h1 hη
  have fin : ∀ (jump : Option Code), LpSt (exCode ex) { r with state := if jump.isNone then .ready else .done, pending := jump } → jump.isNone = (exCode ex == 0) →
      ∃ v w', (Instr.endRound l jump).run P w = .ok v w' ∧ ∃ v' S' s', Ending.returned v = .returned v' ∧ OutOK E.ty w0 S (packB pack s) s w' S' res v' out s' := fun jump hj hb => by
    have hrun := run_endRound (P := P) jump k1
    have r1 := k3 { r with state := if jump.isNone then .ready else .done, pending := jump } rfl rfl rfl rfl hj
    have r2 := putT_sound r1 (x := .bool (exCode ex == 0)) (.d _ _ (.v _ rfl)) h2
    obtain ⟨v, S', s', q1, q2⟩ := finish_sound (P := P) hZ hC r2 hw0 hQ hW hpin (fn0 := { (default : Func) with results := #[.tmp 0] }) rfl hr3
    have hres := results_run (P := P) (w := w.putObj l (.loop { r with state := if jump.isNone then .ready else .done, pending := jump })) (fn := { (default : Func) with results := #[.tmp 0] }) (tmps := (a.put (some 0) (.bool (exCode ex == 0))).tmps)
      (xs := [(a.put (some 0) (.bool (exCode ex == 0))).tmps.getD 0 undef]) (by simp [readOne, Sem.run_bind, Sem.run_pure])
    rw [hres] at q1
    have hN : 0 < C.N := by
      simp only [putT] at h2
      split at h2
      · assumption
      · cases h2
    have hv : v = .bool (exCode ex == 0) := by
      have h3 := h.size
      simp at q1
      rw [← q1]
      simp [Act.put, Array.getD_eq_getD_getElem?, h3, hN]
    subst hv
    rw [hb] at hrun
    exact ⟨_, _, hrun, _, S', s', rfl, by rw [hb] at q2; exact q2⟩
  cases ex with
  | normal => exact fin none ⟨rfl, rfl⟩ rfl
  | ret => exact fin (some .ret) ⟨rfl, rfl⟩ rfl
  | exit i => exact fin (some (.exit i)) ⟨rfl, rfl⟩ rfl

end

theorem PackR_get {w : World} {S : Nat → Prop} {Z : TypeId → Option Ty} {L : Key → Prop} {g : Gh} {o : Ob} {cap : List AV} : ∀ {cs : List (List AV)} {s : List (Nat × Array Value)} {i : Nat}, PackR w S Z L g cs s → cs[i]? = some [.ob o cap] →
    ∃ p, s[i]? = some p ∧ ObR w S Z L g p.1 o cap := by
  intro cs
  induction cs with
  | nil => intro s i h hi; simp at hi
  | cons c r ih =>
    intro s i h hi
    cases s with
    | nil => exact h.elim
    | cons y s =>
      obtain ⟨h0, h1⟩ := h
      cases i with
      | succ i => simpa using ih h1 (by simpa using hi)
      | zero =>
        simp at hi
        subst hi
        refine ⟨y, rfl, ?_⟩
        rcases h0 with ⟨-, -, h2⟩ | ⟨o', cap', h2, -, h3⟩
        · have := (h2 0 _ rfl).1; simp [leafI, AV.leaf] at this
        · obtain ⟨rfl, rfl⟩ : o = o' ∧ cap = cap' := by simpa using h2
          exact h3

theorem IV1_of_VR {w : World} {S : Nat → Prop} {Z : TypeId → Option Ty} {L : Key → Prop} {g : Gh} {v : AV} {x : Value} (h : VR w S Z L g v x) : IV1 w S Z L g v x ∧ ∀ e l, v ≠ .own e l := by
  cases v with
  | own e l => cases h
  | _ => exact ⟨h, fun _ _ => by simp⟩

theorem round_sound (hm : P.follows .mixedOrders = true) (hZ : ∀ T t, E.ty T = some t → TyFacts P E.ty T t) {ev : Ev} (hEv : SoundEv P E.ty ev) {k : Nat} {args : List AV} {pack : List (List AV)} {res : AV} {out : List (List AV)}
    (hr : evRound E ev k args pack = some (res, out)) : RoundOK P E.ty args pack res out := by
  intro w S cargs s hin
  unfold evRound at hr
  split at hr
  · rename_i m hlast
    split at hr
    · rename_i f i ks cap hpk
      split at hr
      · rename_i y hy
        split at hr
        · rename_i hcond
          obtain ⟨n1, n2, n3, n4⟩ := hcond
          simp only [Bool.and_eq_true] at n4
          obtain ⟨nd, hlt, na, nb⟩ := n4
          rw [Option.bind_eq_some_iff] at hr
          obtain ⟨F1, h1, hr⟩ := hr
          rw [Option.bind_eq_some_iff] at hr
          obtain ⟨⟨ex0, F2⟩, h2, hr⟩ := hr
          split at hr
          · rename_i F2' heq
            obtain ⟨rfl, rfl⟩ : ex0 = .normal ∧ F2 = F2' := by simpa using heq
            rw [Option.bind_eq_some_iff] at hr
            obtain ⟨⟨u3, F3⟩, h3, hr⟩ := hr
            rw [Option.bind_eq_some_iff] at hr
            obtain ⟨⟨ex, F4⟩, h4, hr⟩ := hr
            simp only [Option.map_eq_some_iff] at hr
            obtain ⟨⟨⟨res1, out1⟩, F5⟩, h5, h6⟩ := hr
            simp only [Prod.mk.injEq] at h6
            obtain ⟨rfl, rfl⟩ := h6
            have hps := PackR_len hin.pk
            -- the arguments
            obtain ⟨init, hinit⟩ : ∃ init, args = init ++ [.yf m 1] := by
              rcases List.eq_nil_or_concat args with rfl | ⟨init, z, rfl⟩
              · simp at hlast
              · simp at hlast; subst hlast; exact ⟨init, by simp⟩
            have hil : init.length = y.ps.size := by rw [hinit] at n1; simpa using n1
            obtain ⟨ysl, x, hys⟩ : ∃ ysl x, cargs.toList = ysl ++ [x] := by
              rcases List.eq_nil_or_concat cargs.toList with h0 | ⟨init, z, h0⟩
              · have := hin.len; rw [h0, hinit] at this; simp at this
              · exact ⟨init, z, by simpa using h0⟩
            have hyl : ysl.length = y.ps.size := by have := hin.len; rw [hys, hinit] at this; simp at this; omega
            have hlastv := hin.val y.ps.size (.yf m 1) x (by rw [hinit, List.getElem?_append_right (by omega)]; simp [hil]) (by rw [hys, List.getElem?_append_right (by omega)]; simp [hyl])
            obtain ⟨p, hp, hob⟩ := PackR_get hin.pk hpk
            have hηp : (gk s).η m 1 = p.1 := by simp [gk, List.getD_eq_getElem?_getD, hp]
            obtain ⟨t, yb, r, d1, d2, d3, -, d5, d6, d7, d8, d9, d10, d11⟩ := hob
            have hyb : yb = y := by
              unfold Env.ybAt at hy
              rw [d1, Option.bind_some, d2] at hy
              exact Option.some.inj hy
            subst hyb
            have hx : x = .func (.yield p.1) #[] #[] := by rw [← hηp]; cases hlastv; rfl
            refine ⟨p.1, r, ysl.toArray, Array.toList_inj.1 (by rw [hys, hx]; simp), d3, by simp [hyl, d5], ?_⟩
            rw [d6, d7, d5]
            have hfold : (yb.ps.zip ysl.toArray).foldl (fun tmps (t, a) => tmps.setIfInBounds t a) r.tmps = (yb.ps.toList.zip ysl).foldl (fun t p => t.setIfInBounds p.1 p.2) r.tmps := by
              rw [← Array.foldl_toList, Array.toList_zip]
            rw [hfold]
            have hnd := nodupN_sound nd
            let C : Ctx := { Z := E.ty, N := yb.N, w0 := w, Q := S, W := fun b => b ∈ packB pack s, R := fun b => b ∈ packB pack s, pin := s.map (·.1) }
            let a0 : Act := { tmps := (yb.ps.toList.zip ysl).foldl (fun t p => t.setIfInBounds p.1 p.2) r.tmps, defers := [] }
            have hsz : a0.tmps.size = yb.N := (foldSet_size _ _).trans d8
            have hR0 : Rel C (gk s) (base (varIdx pack.length)) a0 w := by
              refine { slots := fun k v hv => by simp [base] at hv, vars := fun p q c hc => ?_, owns := fun p q e l hc => by simp [base] at hc, fros := fun p q e l hc => by simp [base] at hc, tabs := hin.tabs.mono fun b hb => ⟨⟨(hin.safe b hb).1, fun k => mutb_base, .inl hb, (hin.safe b hb).2⟩, rfl⟩,
                       inj := fun k k' b hk => absurd hk mutb_base, wr := fun k b hk => absurd hk mutb_base, rlt := hin.lt, keep := ⟨rfl, rfl, rfl, Nat.le_refl _, fun b _ _ => rfl⟩, defers := fun d hd => by simp [a0] at hd, dnodup := List.nodup_nil, size := hsz, pins := fun i b hb => ?_ }
              · simp only [base] at hc; split at hc <;> cases hc
              · have hb' : (s.map (·.1))[i]? = some b := hb
                rw [List.getElem?_map, Option.map_eq_some_iff] at hb'
                obtain ⟨y, hy, rfl⟩ := hb'
                have hi : i < s.length := (List.getElem?_eq_some_iff.1 hy).1
                refine ⟨by omega, by simp [base, varIdx]; omega, ?_⟩
                simp [gk, List.getD_eq_getElem?_getD, hy]
            have hLk : ∀ k, Lk s.length k → live (base (varIdx pack.length)) k := fun k hk => by
              obtain ⟨i, hi, rfl⟩ := hk
              simp [live, base, varIdx]; omega
            have hx : Ext w S (Lk s.length) (gk s) w S (live (base (varIdx pack.length))) (gk s) := ⟨fun b hb => ⟨hb, rfl⟩, fun p q hp => ⟨hLk _ hp, rfl⟩, fun p q hp => ⟨hLk _ hp, rfl⟩⟩
            have hsl : ∀ k v, (k, v) ∈ ks.zip cap ++ yb.ps.toList.zip args → k < yb.N ∧ VR w S E.ty (Lk s.length) (gk s) v (a0.tmps.getD k undef) := fun k v hm => by
              rcases List.mem_append.1 hm with hm | hm
              · obtain ⟨j, hj⟩ := List.mem_iff_getElem?.1 hm
                rw [List.getElem?_zip_eq_some] at hj
                obtain ⟨q1, q2⟩ := d11 j k v hj.1 hj.2
                refine ⟨q1, ?_⟩
                have hk : a0.tmps.getD k undef = r.tmps.getD k undef := foldSet_other _ _ (fun q hq e => by
                  have h7 := (List.of_mem_zip (a := q.1) (b := q.2) hq).1
                  exact (List.nodup_append.1 hnd).2.2 k (List.mem_of_getElem? hj.1) q.1 h7 e.symm)
                rw [hk]; exact q2
              · obtain ⟨j, hj⟩ := List.mem_iff_getElem?.1 hm
                rw [List.getElem?_zip_eq_some] at hj
                have hjl : j < yb.ps.size := by have := (List.getElem?_eq_some_iff.1 hj.1).1; simpa using this
                have hkN : k < yb.N := by simpa using List.all_eq_true.1 hlt k (List.mem_of_getElem? hj.1)
                have hyj : ysl[j]? = some ysl[j] := List.getElem?_eq_getElem (by omega)
                have hv := hin.val j v ysl[j] hj.2 (by rw [hys, List.getElem?_append_left (by omega)]; exact hyj)
                refine ⟨hkN, ?_⟩
                have hk : a0.tmps.getD k undef = ysl[j] := foldSet_get _ _ (by
                  rw [List.map_fst_zip (by simp [hyl])]
                  exact (List.nodup_append.1 hnd).2.1) (List.mem_iff_getElem?.2 ⟨j, by rw [List.getElem?_zip_eq_some]; exact ⟨hj.1, hyj⟩⟩) (by rw [d8]; exact hkN)
                rw [hk]; exact hv
            have hob : obS a0 (ks.zip cap ++ yb.ps.toList.zip args) = [] := obS_nil (fun k v hm => (IV1_of_VR (hsl k v hm).2).2)
            obtain ⟨g1, r1⟩ := fresh_sound hR0 S (fun b hb => ⟨(hin.safe b hb).1, fun k => mutb_base, .inl hb, (hin.safe b hb).2⟩) (s := s) (fun i p y hp hy => by
                simp only [varIdx, List.getElem?_map, Option.map_eq_some_iff] at hp
                obtain ⟨j, hj, rfl⟩ := hp
                have : j = i := by
                  have := List.getElem?_eq_some_iff.1 hj
                  simpa using this.2.symm
                subst this
                simp [gk, List.getD_eq_getElem?_getD, hy])
              (by
                unfold varIdx
                rw [List.nodup_iff_pairwise_ne, List.pairwise_map]
                refine List.Pairwise.imp (fun {i j} hij heq => hij (by simpa using heq)) (List.nodup_iff_pairwise_ne.1 List.nodup_range))
              (PackR_mono (fun _ hb => hb) hx hin.pk)
              (fun k v hm => ⟨(hsl k v hm).1, (IV1_of_VR ((hsl k v hm).2.mono hx)).1⟩)
              (fun b hb => by
                rw [hob, List.append_nil] at hb
                exact ⟨hb, .inl hb⟩)
              (by rw [hob, List.append_nil]; exact hin.nodup) h1
            have r2 := r1.weakenR (R' := fun _ => False) (fun b hb => hb.elim)
            have hpm : (s.map (·.1))[m]? = some p.1 := by rw [List.getElem?_map, hp]; rfl
            refine roundIn_of_wpIn (F := Fence.wide) (n := 0) trivial ?_
            refine code_sound (ro := some p.1) (C := C.withR fun _ => False) hm hZ rfl hEv (f := f) (k := k) yb.assign (.inr na) (YbOK.of_noRange na) r2 h2 (fun g2 a2 w2 r3 => ?_)
            obtain ⟨rr, k1, k2, k3⟩ := setLp_sound r3 h3 (r3.pins m p.1 hpm).2.2
            refine ⟨_, run_beginRound k1 k2.1, ?_⟩
            have r4 := k3 { rr with state := .busy } rfl rfl rfl rfl rfl
            refine code_sound (ro := some p.1) (C := C.withR fun _ => False) hm hZ rfl hEv (f := f) (k := k) yb.body (.inr nb) (YbOK.of_noRange nb) r4 h4 (fun g3 a3 w3 r5 => ?_)
            rw [hps] at h5
            exact endRd_sound hZ rfl r5 (w0 := w) (S := S) (pack := pack) (s := s) rfl rfl rfl rfl hpm h5
          · cases hr
        · cases hr
      · cases hr
    · cases hr
  · cases hr

/-- What is asked of what is told from outside. -/
def ExtOK (P : Program) (E : Env) : Prop := ∀ f g, E.ext f = some g → ∀ ev, SoundEv P E.ty ev → ∀ args pack res out, g ev args pack = some (res, out) → CallOK P E.ty f args pack res out

/-- The evaluator is sound. -/
theorem evFn_sound (hm : P.follows .mixedOrders = true) (hZ : ∀ T t, E.ty T = some t → TyFacts P E.ty T t) (hF : ∀ f fn, E.fn f = some fn → FnOK P f fn) (hY : ∀ f fn, E.fn f = some fn → YbOK E f fn.ntmps fn.body) (hX : ExtOK P E) : ∀ k, SoundEv P E.ty (evFn E k) := by
  intro k
  induction k with
  | zero => intro f args pack res out h; simp [evFn] at h
  | succ k ih =>
    intro f args pack res out h
    simp only [evFn] at h
    split at h
    · rename_i hf
      exact ⟨fun hne => absurd hf hne, fun _ => round_sound hm hZ ih h⟩
    rename_i hf
    refine ⟨fun _ => ?_, fun he => absurd he hf⟩
    split at h
    · rename_i g hg
      exact hX f g hg _ ih args pack res out h
    · split at h
      · rename_i fn hfn
        exact body_sound hm hZ ih (hF f fn hfn) (hY f fn hfn) h
      · cases h
end
end Go.Eng
end

section
namespace Go.Eng
open Go

/-! ### Shapes -/
/-- Leaves of data. -/
inductive Lf where
  | int (k : IntKind) | str | bool | sl (e : TypeId) | nilp | nilf | nili

def Lf.T : Lf → Type
  | .int _ => Int
  | .str => ByteArray
  | .bool => Bool
  | .sl _ => List D
  | _ => Unit
def Lf.enc : (l : Lf) → l.T → D
  | .int k, (i : Int) => .v (.int k i)
  | .str, (s : ByteArray) => .v (.string s)
  | .bool, (b : Bool) => .v (.bool b)
  | .sl e, (l : List D) => .sl e l
  | .nilp, _ => .v (.pointer none)
  | .nilf, _ => .v .nilFunc
  | .nili, _ => .v .nilIface
def ikEq : IntKind → IntKind → Bool
  | .i8, .i8 | .i16, .i16 | .i32, .i32 | .i64, .i64 | .u8, .u8 | .u16, .u16 | .u32, .u32 | .u64, .u64 => true
  | _, _ => false
def Lf.dec : (l : Lf) → D → Option l.T
  | .int k, .v (.int k' i) => if ikEq k' k = true then some i else none
  | .str, .v (.string s) => some s
  | .bool, .v (.bool b) => some b
  | .sl e, .sl e' l => if e' = e then some l else none
  | .nilp, .v (.pointer none) => some ()
  | .nilf, .v .nilFunc => some ()
  | .nili, .v .nilIface => some ()
  | _, _ => none

def LfsT : List Lf → Type
  | [] => Unit
  | l :: r => l.T × LfsT r
def lfsEnc : (l : List Lf) → LfsT l → List D
  | [], _ => []
  | l :: r, x => l.enc x.1 :: lfsEnc r x.2
def lfsDec : (l : List Lf) → List D → Option (LfsT l)
  | [], [] => some ()
  | l :: r, d :: ds => match l.dec d with
    | some a => match lfsDec r ds with
      | some b => some (a, b)
      | none => none
    | none => none
  | _, _ => none

mutual
inductive Sh where
  | lf (l : Lf)
  | agg (l : List Lf)
  | own (e : TypeId)
  | ptr (a b off : Nat)
  | yf (a b : Nat)
  | bx (l : List Lf)
  | it
  | lp (f i : Nat) (ks : List Nat) (cap : Shs)
  | lp0 (f i : Nat) (ks : List Nat) (cap : Shs)
  | fn (f : FuncId) (x c : Shs)
  | mix (l : Shs)
  | tup (l : Shs)
inductive Shs where
  | nil
  | cons (h : Sh) (t : Shs)
end

mutual
def Sh.T : Sh → Type
  | .lf l => l.T
  | .agg l => LfsT l
  | .own _ => List D
  | .ptr _ _ _ => Unit
  | .yf _ _ => Unit
  | .bx l => LfsT l
  | .lp _ _ _ c => Nat × c.T
  | .lp0 _ _ _ c => c.T
  | .it => ByteArray × Nat
  | .fn _ x c => x.T × c.T
  | .mix l => l.T
  | .tup l => l.T
def Shs.T : Shs → Type
  | .nil => Unit
  | .cons h t => h.T × t.T
end

mutual
def Sh.enc : (s : Sh) → s.T → AV
  | .lf l, x => .d (l.enc x)
  | .agg l, x => .d (.agg (lfsEnc l x))
  | .own e, (l : List D) => .own e l
  | .ptr a b off, _ => .ptr a b off
  | .yf a b, _ => .yf a b
  | .bx l, x => .bx (lfsEnc l x)
  | .lp f i ks c, (y : Nat × c.T) => .ob (.lp f i y.1 ks) (c.enc y.2)
  | .lp0 f i ks c, y => .ob (.lp f i 0 ks) (c.enc y)
  | .it, (x : ByteArray × Nat) => .ob (.it x.1 x.2) []
  | .fn f x c, (y : x.T × c.T) => .fn (.func f) (x.enc y.1) (c.enc y.2)
  | .mix l, x => .agg (l.enc x)
  | .tup l, x => .tup (l.enc x)
def Shs.enc : (s : Shs) → s.T → List AV
  | .nil, _ => []
  | .cons h t, (x : h.T × t.T) => h.enc x.1 :: t.enc x.2
end

def ksEq : List Nat → List Nat → Bool
  | [], [] => true
  | a :: r, b :: s => Nat.beq a b && ksEq r s
  | _, _ => false

mutual
def Sh.dec : (s : Sh) → AV → Option s.T
  | .lf l, .d x => l.dec x
  | .agg l, .d (.agg x) => lfsDec l x
  | .own e, .own e' l => if e' = e then some l else none
  | .ptr a b off, .ptr a' b' off' => if a' = a then (if b' = b then (if off' = off then some () else none) else none) else none
  | .fn f x c, .fn (.func f') x' c' => if f' = f then (match x.dec x' with
      | some u => match c.dec c' with
        | some v => some (u, v)
        | none => none
      | none => none) else none
  | .it, .ob (.it s p) [] => some (s, p)
  | .bx l, .bx x => lfsDec l x
  | .yf a b, .yf a' b' => if a' = a then (if b' = b then some () else none) else none
  | .lp f i ks c, .ob (.lp f' i' st ks') cap => if f' = f then (if i' = i then (match ksEq ks' ks with
      | true => match c.dec cap with
        | some v => some (st, v)
        | none => none
      | false => none) else none) else none
  | .lp0 f i ks c, .ob (.lp f' i' 0 ks') cap => if f' = f then (if i' = i then (match ksEq ks' ks with
      | true => c.dec cap
      | false => none) else none) else none
  | .mix l, .agg x => l.dec x
  | .tup l, .tup x => l.dec x
  | _, _ => none
def Shs.dec : (s : Shs) → List AV → Option s.T
  | .nil, [] => some ()
  | .cons h t, a :: r => match h.dec a with
    | some u => match t.dec r with
      | some v => some (u, v)
      | none => none
    | none => none
  | _, _ => none
end

def CsT : List Shs → Type
  | [] => Unit
  | s :: r => s.T × CsT r
def csEnc : (l : List Shs) → CsT l → List (List AV)
  | [], _ => []
  | s :: r, x => s.enc x.1 :: csEnc r x.2
def csDec : (l : List Shs) → List (List AV) → Option (CsT l)
  | [], [] => some ()
  | s :: r, c :: cs => match s.dec c with
    | some u => match csDec r cs with
      | some v => some (u, v)
      | none => none
    | none => none
  | _, _ => none

def SlT : List (Nat × Sh) → Type
  | [] => Unit
  | s :: r => s.2.T × SlT r
def slEnc : (l : List (Nat × Sh)) → SlT l → List (Nat × AV)
  | [], _ => []
  | s :: r, x => (s.1, s.2.enc x.1) :: slEnc r x.2
def slDec : (l : List (Nat × Sh)) → List (Nat × AV) → Option (SlT l)
  | [], [] => some ()
  | s :: r, (k, a) :: t => if k = s.1 then (match s.2.dec a with
      | some u => match slDec r t with
        | some v => some (u, v)
        | none => none
      | none => none) else none
  | _, _ => none

structure HSh where
  vs : List (Nat × Nat)
  cs : List Shs
  sl : List (Nat × Sh)
def HSh.T (h : HSh) : Type := CsT h.cs × SlT h.sl
def HSh.enc (h : HSh) (x : h.T) : HD := ⟨h.vs, csEnc h.cs x.1, slEnc h.sl x.2⟩
def vsEq : List (Nat × Nat) → List (Nat × Nat) → Bool
  | [], [] => true
  | a :: r, b :: s => Nat.beq a.1 b.1 && (Nat.beq a.2 b.2 && vsEq r s)
  | _, _ => false
def HSh.dec (h : HSh) (H : HD) : Option h.T :=
  match vsEq H.vs h.vs with
  | true => match csDec h.cs H.cs with
    | some u => match slDec h.sl H.sl with
      | some v => some (u, v)
      | none => none
    | none => none
  | false => none

/-- Results: one value, and what was lent. -/
def RT (res : Sh) : List Shs → Type
  | [] => res.T
  | o :: r => res.T × CsT (o :: r)
def rtEnc (res : Sh) : (out : List Shs) → RT res out → AV × List (List AV)
  | [], x => (res.enc x, [])
  | o :: r, (x : res.T × CsT (o :: r)) => (res.enc x.1, csEnc (o :: r) x.2)
def rtDec (res : Sh) : (out : List Shs) → AV × List (List AV) → Option (RT res out)
  | [], (a, []) => res.dec a
  | o :: r, (a, c) => match res.dec a with
    | some u => match csDec (o :: r) c with
      | some v => some (u, v)
      | none => none
    | none => none
  | _, _ => none

def exEq : Ex → Ex → Bool
  | .normal, .normal => true
  | .ret, .ret => true
  | .exit i, .exit j => Nat.beq i j
  | _, _ => false

def AltT : List (Ex × HSh) → Type
  | [] => Empty
  | [a] => a.2.T
  | a :: b :: r => a.2.T ⊕ AltT (b :: r)
def altEnc : (l : List (Ex × HSh)) → AltT l → Ex × HD
  | [], x => nomatch (show Empty from x)
  | [a], x => (a.1, a.2.enc x)
  | a :: b :: r, (x : a.2.T ⊕ AltT (b :: r)) => match x with
    | .inl v => (a.1, a.2.enc v)
    | .inr v => altEnc (b :: r) v
def altEl {β : Type} : (l : List (Ex × HSh)) → AltT l → (Ex × HD → Option β) → Option β
  | [], x, _ => nomatch (show Empty from x)
  | [a], x, K => K (a.1, a.2.enc x)
  | a :: b :: r, (x : a.2.T ⊕ AltT (b :: r)), K => match x with
    | .inl v => K (a.1, a.2.enc v)
    | .inr v => altEl (b :: r) v K
def altDec : (l : List (Ex × HSh)) → Ex × HD → Option (AltT l)
  | [], _ => none
  | [a], (ex, H) => match exEq ex a.1 with
    | true => a.2.dec H
    | false => none
  | a :: b :: r, (ex, H) => match exEq ex a.1 with
    | true => match a.2.dec H with
      | some v => some (.inl v)
      | none => match altDec (b :: r) (ex, H) with
        | some v => some (.inr v)
        | none => none
    | false => match altDec (b :: r) (ex, H) with
      | some v => some (.inr v)
      | none => none

def loopsOf : Code → List Code
  | .seq a b => loopsOf a ++ loopsOf b
  | .cond _ a b => loopsOf a ++ loopsOf b
  | .block _ c => loopsOf c
  | .loop c => c :: loopsOf c
  | _ => []

/-! ### Tables -/
structure FE where
  f : FuncId
  args : Shs
  pack : List Shs
  res : Sh
  out : List Shs
  nat : args.T → CsT pack → Option (RT res out)

structure LE where
  f : FuncId
  id : Nat
  inn : HSh
  outs : List (Ex × HSh)
  nat : inn.T → Option (AltT outs)

structure Tab where
  fns : List FE
  loops : List LE
  /-- for tools: where it stands still -/
  why : Nat → Option Empty
  missF : FuncId → List AV → List (List AV) → Option Empty
  missL : FuncId → Nat → HD → Option Empty

def no {β : Type} (o : Option Empty) : Option β := o.bind fun e => nomatch e
/-- A place's number. -/
def plc (a b : Nat) : Nat := a * 1000 + b
/-- The end of a region. -/
def endR {β : Type} (b : Bool) (o : Option Empty) (k : Option β) : Option β := match b with
  | true => no o
  | false => k

/-! ### What is known of slots -/
abbrev Kw := List (Key × Bool)
def keyEq : Key → Key → Bool
  | .s a, .s b => Nat.beq a b
  | .x a b, .x c d => Nat.beq a c && Nat.beq b d
  | .r a b, .r c d => Nat.beq a c && Nat.beq b d
  | _, _ => false
def known : Kw → Key → Option Bool
  | [], _ => none
  | p :: r, k => match keyEq p.1 k with
    | true => some p.2
    | false => known r k
def forget : Kw → Key → Kw
  | [], _ => []
  | p :: r, k => match keyEq p.1 k with
    | true => forget r k
    | false => p :: forget r k

def Pr.cps {α β : Type} (w : Option Empty) : Pr α → St → Kw → List Key → List Key → (α → St → Kw → List Key → List Key → Option β) → Option β
  | .ret a, F, K, rd, wr, k => k a F K rd wr
  | .fail, _, _, _, _, _ => no w
  | .get key g, F, K, rd, wr, k => (g (F key)).cps w F K (key :: rd) wr k
  | .set key c p, F, K, rd, wr, k => p.cps w (F.upd key c) (forget K key) rd (key :: wr) k
  | .ask s f, F, K, rd, wr, k => cond s ((f true).cps w F K rd wr k) ((f false).cps w F K rd wr k)
  | .askS key f, F, K, rd, wr, k =>
    match F key with
    | .val (.d (.v (.bool s))) =>
      match known K key with
      | some t => (f (some t)).cps w F K (key :: rd) wr k
      | none => cond s ((f (some true)).cps w F ((key, true) :: K) (key :: rd) wr k) ((f (some false)).cps w F ((key, false) :: K) (key :: rd) wr k)
    | .val (.tup []) => (f none).cps w F K (key :: rd) wr k
    | _ => no w
  | .chk c d p, F, K, rd, wr, k => @ite _ c d (p.cps w F K rd wr k) none
  | .lookD o f, F, K, rd, wr, k => o.bind fun x => (f x).cps w F K rd wr k
  | .lookN o f, F, K, rd, wr, k => o.bind fun x => (f x).cps w F K rd wr k
  | .lookB o f, F, K, rd, wr, k => o.bind fun x => (f x).cps w F K rd wr k
  | .lookR o f, F, K, rd, wr, k => o.bind fun x => (f x).cps w F K rd wr k

def findF {β : Type} (T : Tab) (g : FuncId) (args : List AV) (pack : List (List AV)) (K : AV × List (List AV) → Option β) : List FE → Option β
  | [] => no (T.missF g args pack)
  | e :: r => match Nat.beq e.f g with
    | true => match e.args.dec args with
      | some a => match csDec e.pack pack with
        | some p => (e.nat a p).bind fun x => K (rtEnc e.res e.out x)
        | none => findF T g args pack K r
      | none => findF T g args pack K r
    | false => findF T g args pack K r

def findL {β : Type} (T : Tab) (f : FuncId) (id : Nat) (H : HD) (K : Ex × HD → Option β) : List LE → Option β
  | [] => no (T.missL f id H)
  | e :: r => match Nat.beq e.f f && Nat.beq e.id id with
    | true => match e.inn.dec H with
      | some a => (e.nat a).bind fun x => altEl e.outs x K
      | none => findL T f id H K r
    | false => findL T f id H K r

/-! ### Operations -/
/-- The leaves of a type. -/
def leavesOf (E : Env) : Nat → TypeId → Option (List Lf)
  | 0, _ => none
  | n + 1, t => match E.ty t with
    | none => none
    | some ty =>
      if ty.str then some [.str] else if ty.bl then some [.bool] else
      match ty.ik with
      | some k => some [.int k]
      | none => match ty.elem with
        | some e => some [.sl e]
        | none => match ty.fields with
          | [] => none
          | fs => fs.foldr (fun p acc => match leavesOf E n p.2 with
            | some l => match acc with
              | some m => some (l ++ m)
              | none => none
            | none => none) (some [])

def rd (f : Lf) (l : List D) (i : Nat) : Option f.T := (l[i]?).bind f.dec
def rdS (l : List D) (i : Nat) : Option ByteArray := rd .str l i
def rdI (k : IntKind) (l : List D) (i : Nat) : Option Int := rd (.int k) l i
def rdB (l : List D) (i : Nat) : Option Bool := rd .bool l i
def rdL (e : TypeId) (l : List D) (i : Nat) : Option (List D) := rd (.sl e) l i
def nat? (z : Int) : Option Nat := if 0 ≤ z then some z.toNat else none
def chr (s : ByteArray) (n : Nat) : Int := ((s.data.toList.getD n 0).toNat : Nat)
def w64 (z : Int) : Int := IntKind.i64.wrap z
def bs (l : List UInt8) : ByteArray := ⟨l.toArray⟩
def aggDec (fs : List Lf) : D → Option (LfsT fs)
  | .agg l => lfsDec fs l
  | _ => none
def rdA (fs : List Lf) (l : List D) (i : Nat) : Option (LfsT fs) := (l[i]?).bind (aggDec fs)

def evElemOf (e : TypeId) (x : D) (off : Nat) (T : TypeId) (t : Ty) : Pr AV :=
  if off = 0 ∧ T = e then .ret (.d x) else
  match x with
  | .agg c =>
    if off + t.size ≤ c.length then
      if t.agg then .ret (.d (.agg ((c.drop off).take t.size))) else
      match c[off]? with
      | some y => .ret (.d y)
      | none => .fail
    else .fail
  | _ => .fail

section
variable {β : Type}
abbrev Kont (α β : Type) := α → St → Kw → List Key → List Key → Option β

def cElem (E : Env) (w : Option Empty) (e : TypeId) (l : List D) (i off : Nat) (T : TypeId) (t : Ty) (F : St) (K : Kw) (r wr : List Key) (k : Kont AV β) : Option β :=
  match E.ty e with
  | none => no w
  | some te => match leavesOf E 8 e with
    | none => no w
    | some fs => match te.agg with
      | true => (rdA fs l i).bind fun v => (evElemOf e (.agg (lfsEnc fs v)) off T t).cps w F K r wr k
      | false => match fs with
        | [f] => (rd f l i).bind fun v => (evElemOf e (f.enc v) off T t).cps w F K r wr k
        | _ => no w

def cLoad (E : Env) (w : Option Empty) (T : TypeId) (a : AV) (F : St) (K : Kw) (r wr : List Key) (k : Kont AV β) : Option β :=
  match a with
  | .eS e l i off => match E.ty T with
    | none => no w
    | some t => cElem E w e l i off T t F K r wr k
  | .eR x y e' i off => match E.ty T with
    | none => no w
    | some t => match F (.r x y) with
      | .own e l => if e = e' then cElem E w e l i off T t F K (.r x y :: r) wr k else no w
      | .fro e l => if e = e' then cElem E w e l i off T t F K (.r x y :: r) wr k else no w
      | _ => no w
  | a => (evLoad E T a).cps w F K r wr k

/-- A call's head, and its tail. -/
def enterPre (args : List AV) : Pr (List (Nat × Nat) × List AV × List (List AV)) :=
  (borrows args).bind fun bs => (reach 3 (addNew [] (refsL bs))).bind fun vs =>
  if vs.isEmpty then (Pr.opt (renL (toIdx []) bs)).bind fun bs' => .ret (vs, bs', [])
  else if nodupB vs = false then .fail else
    (freezeArgs args).bind fun _ => (lend vs).bind fun cs =>
    (Pr.opt (renL (toIdx vs) bs)).bind fun bs' => (Pr.opt (cs.mapM (renL (toIdx vs)))).bind fun cs' => .ret (vs, bs', cs')

def enterPost (u : Nat) (args : List AV) (vs : List (Nat × Nat)) (r : AV × List (List AV)) : Pr AV :=
  if vs.isEmpty then
    if r.2.isEmpty = false then .fail else
    if allScal r.1 then .ret r.1 else
    (freezeArgs args).bind fun _ => (Pr.opt (r.1.ren fun _ => none)).bind fun res' => attach u res'
  else
    (Pr.opt (r.2.mapM (renL (ofIdx vs)))).bind fun out' =>
    (takeBack u 1 vs out').bind fun _ => (Pr.opt (r.1.ren fun _ => none)).bind fun res' => attach u res'

def cEnter (T : Tab) (w : Option Empty) (u : Nat) (g : FuncId) (args : List AV) (F : St) (K : Kw) (r wr : List Key) (k : Kont AV β) : Option β :=
  (enterPre args).cps w F K r wr fun q F K r wr => findF T g q.2.1 q.2.2 (fun x => (enterPost u args q.1 x).cps w F K r wr k) T.fns

def noEv : Ev := fun _ _ _ => none

def cCall (E : Env) (T : Tab) (w : Option Empty) (u : Nat) (c : Call) (F : St) (K : Kw) (r wr : List Key) (k : Kont AV β) : Option β :=
  match c.callee with
  | .value f => (operand none f).cps w F K r wr fun v F K r wr =>
    match v with
    | .fn (.func g) first cap => (operands E (c.args.toList.zip c.argTypes.toList)).cps w F K r wr fun l F K r wr =>
      if l.length = c.args.size then (if g = rnd then no w else cEnter T w u g (first ++ l ++ cap) F K r wr k) else no w
    | .yf p q => (operands E (c.args.toList.zip c.argTypes.toList)).cps w F K r wr fun l F K r wr =>
      if l.length = c.args.size then cEnter T w u rnd (l ++ [.yf p q]) F K r wr fun v F K r wr => (yieldPost p q v).cps w F K r wr k else no w
    | _ => no w
  | _ => (evCall E u noEv c).cps w F K r wr k

def cOp (E : Env) (T : Tab) (w : Option Empty) (u : Nat) (o : Oper) (F : St) (K : Kw) (r wr : List Key) (k : Kont AV β) : Option β :=
  match o.op with
  | .call c => cCall E T w u c F K r wr k
  | .load t a => (operand none a).cps w F K r wr fun v F K r wr => cLoad E w t v F K r wr k
  | _ => (evOp E u noEv o).cps w F K r wr k

def cOper (E : Env) (T : Tab) (N u : Nat) (ops : Array Oper) (o : Oper) (F : St) (K : Kw) (k : Kont Unit β) : Option β :=
  (isWanted ops o).cps (T.why u) F K [] [] fun t F K r wr =>
    match t with
    | true => cOp E T (T.why u) u o F K r wr fun v F K r wr => (putT N o.dst v).cps (T.why u) F K r wr k
    | false => (putT N o.dst (.tup [])).cps (T.why u) F K r wr k

def cOps (E : Env) (T : Tab) (N id : Nat) (ops : Array Oper) : List Nat → St → Kw → List (List Key × List Key) → (St → Kw → List (List Key × List Key) → Option β) → Option β
  | [], F, K, L, k => k F K L
  | i :: rest, F, K, L, k => match ops[i]? with
    | none => none
    | some o => cOper E T N (id * 1000 + i) ops o F K fun _ F' K' r wr => cOps E T N id ops rest F' K' ((r.reverse, wr.reverse) :: L) k

/-- How the rounds have left it. -/
def cExs (w : Option Empty) (st : Nat) (F : St) (K : Kw) (k : Ex → St → Kw → Option β) : List Nat → Option β
  | [] => none
  | i :: r => cond (decide (st = i + 3)) (k (.exit i) F K) (cExs w st F K k r)
def cEx (w : Option Empty) (ids : List Nat) (st : Nat) (F : St) (K : Kw) (k : Ex → St → Kw → Option β) : Option β :=
  cond (decide (st = 0)) (k .normal F K) (cond (decide (st = 2)) (k .ret F K) (cExs w st F K k ids))

def cRange (E : Env) (T : Tab) (f : Nat) (g0 : Operand) (as bd : Code) (F : St) (K : Kw) (k : Ex → St → Kw → Option β) : Option β :=
  (rangePre E f (rfId as bd) g0).cps (T.why (plc (rfId as bd) 994)) F K [] [] fun q F K r wr =>
  cEnter T (T.why (plc (rfId as bd) 993)) (rfId as bd * 1000 + 998) q.1 q.2 F K r wr fun _ F K r wr =>
  (rangePost' (rfId as bd)).cps (T.why (plc (rfId as bd) 992)) F K r wr fun st F K _ _ => cEx (T.why (plc (rfId as bd) 991)) (exitsOf bd) st F K k

def cCode (E : Env) (T : Tab) (f N : Nat) : Code → St → Kw → (Ex → St → Kw → Option β) → Option β
  | .skip, F, K, k => k .normal F K
  | .region id ops draw, F, K, k => cOps E T N id ops (List.range ops.size) F K [] fun F' K' L =>
    endR (draw && !(backs ops && ordered (Region.before ops) L.reverse)) (T.why (plc id 999)) (k .normal F' K')
  | .seq a b, F, K, k => cCode E T f N a F K fun ex F' K' =>
    match ex with
    | .normal => cCode E T f N b F' K' k
    | .exit i => k (.exit i) F' K'
    | .ret => k .ret F' K'
  | .cond (.tmp c) a b, F, K, k =>
    match F (.s c) with
    | .val (.d (.v (.bool s))) =>
      match known K (.s c) with
      | some true => cCode E T f N a F K k
      | some false => cCode E T f N b F K k
      | none => cond s (cCode E T f N a F ((.s c, true) :: K) k) (cCode E T f N b F ((.s c, false) :: K) k)
    | _ => no (T.why (plc (firstRegion a) 998))
  | .block id c, F, K, k => cCode E T f N c F K fun ex F' K' =>
    match ex with
    | .normal => k .normal F' K'
    | .exit j => match Nat.beq j id with
      | true => k .normal F' K'
      | false => k (.exit j) F' K'
    | .ret => k .ret F' K'
  | .loop c, F, K, k => match normH (E.live f (firstRegion c)) F with
    | none => no (T.why (plc (firstRegion c) 997))
    | some H => findL T f (firstRegion c) H (fun x => match freshH x.2 with
      | none => no (T.why (plc (firstRegion c) 996))
      | some F' => k x.1 F' []) T.loops
  | .rangeFunc g0 ps as bd, F, K, k => cRange E T f g0 as bd F K k
  | .exit id, F, K, k => k (.exit id) F K
  | .ret, F, K, k => k .ret F K
  | c, _, _, _ => no (T.why (plc (firstRegion c) 995))

def NT (E : Env) (f : Nat) : Nat := match E.fn f with
  | some fn => fn.ntmps
  | none => 0

/-- A round. -/
def cRd (E : Env) (T : Tab) (args : List AV) (pack : List (List AV)) (dec : AV × List (List AV) → Option β) : Option β :=
  match args.getLast? with
  | some (.yf m 1) => match pack[m]? with
    | some [.ob (.lp f i 0 ks) cap] => match E.ybAt f i with
      | some y =>
        if args.length = y.ps.size + 1 ∧ ks.length = cap.length ∧ pack.length ≤ 8 ∧ (nodupN (ks ++ y.ps.toList) && (y.ps.toList.all (· < y.N) && (noRange y.assign && noRange y.body))) = true then
          match y.N == NT E f && ((loopsOf y.assign).isEmpty && (loopsOf y.body).isEmpty) with
          | true => match fresh (varIdx pack.length) pack (ks.zip cap ++ y.ps.toList.zip args) with
            | none => no (T.why 999999006)
            | some F => cCode E T f y.N y.assign F [] fun ex F K => match ex with
              | .normal => (setLp m 0 1).cps (T.why 999999007) F K [] [] fun _ F K _ _ => cCode E T f y.N y.body F K fun ex F K =>
                (endRd E y.N m pack.length ex).cps (T.why 999999008) F K [] [] fun x _ _ _ _ => dec x
              | _ => none
          | false => no (T.why 999999009)
        else none
      | none => none
    | _ => none
  | _ => none

def cFn (E : Env) (T : Tab) (f : FuncId) (args : List AV) (pack : List (List AV)) (dec : AV × List (List AV) → Option β) : Option β :=
  match Nat.beq f rnd with
  | true => cRd E T args pack dec
  | false =>
  match E.ext f with
  | some _ => none
  | none => match E.fn f with
    | none => none
    | some fn =>
      if args.length = fn.nparams ∧ fn.nparams ≤ fn.ntmps ∧ pack.length ≤ 8 then
        match start args pack with
        | none => none
        | some F => cCode E T f fn.ntmps fn.body F [] fun ex F' K' =>
          match ex with
          | .exit _ => none
          | .normal => (finish E (E.keep f) fn.results pack.length).cps (T.why 999999001) F' K' [] [] fun x _ _ _ _ => dec x
          | .ret => (finish E (E.keep f) fn.results pack.length).cps (T.why 999999002) F' K' [] [] fun x _ _ _ _ => dec x
      else none

/-- One round of a loop. -/
def cRound (E : Env) (T : Tab) (f N : Nat) (c : Code) (H : HD) (K : HD → Option β) (dec : Ex × HD → Option β) : Option β :=
  match freshH H with
  | none => no (T.why 999999003)
  | some F => cCode E T f N c F [] fun ex F' _ =>
    match ex with
    | .normal => match normH (E.live f (firstRegion c)) F' with
      | none => no (T.why 999999004)
      | some H' => K H'
    | .exit i => match normH (E.out f (firstRegion c)) F' with
      | none => no (T.why 999999005)
      | some H' => match freshH H' with
        | none => none
        | some _ => dec (.exit i, H')
    | .ret => match normH (E.out f (firstRegion c)) F' with
      | none => no (T.why 999999005)
      | some H' => match freshH H' with
        | none => none
        | some _ => dec (.ret, H')
end

def bodyOf (E : Env) (f : Nat) : Code := match E.fn f with
  | some fn => fn.body
  | none => .skip
def loopAt (E : Env) (f id : Nat) : Code := ((loopsOf (bodyOf E f)).filter fun c => Nat.beq (firstRegion c) id).headD .skip
end Go.Eng
end
