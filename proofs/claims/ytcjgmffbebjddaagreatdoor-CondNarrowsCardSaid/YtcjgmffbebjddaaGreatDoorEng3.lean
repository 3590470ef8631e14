/- The engine, part 3: EngP, EngQ, EngQ2, EngQ3, EngT, EngT2, EngU of this author. A pure reading of the code of the model, and its soundness. Nothing is assumed. -/
import Derived.Test.YtcjgmffbebjddaaGreatDoorEng2
import Derived.RangeFuncRecord
set_option linter.all false

section
namespace Go.Eng
open Go

section
variable {P : Program} {E : Env} {C : Ctx} {g : Gh} {F : St} {a : Act} {w : World}

def Ctx.withR (C : Ctx) (R : Nat → Prop) : Ctx := { C with R := R }

theorem Rel.updateR (h : Rel C g F a w) {R' : Nat → Prop} {g' : Gh} {F' : St} {w' : World}
    (hb : ∀ b, Safe C g F w b → w'.heap[b]? = w.heap[b]?) (hsz : w.heap.size ≤ w'.heap.size)
    (hm : ∀ k b, mutb g' F' k b → (∃ k', mutb g F k' b) ∨ C.R b ∨ w.heap.size ≤ b)
    (hR : ∀ b, R' b → (∃ k', mutb g F k' b) ∨ C.R b ∨ w.heap.size ≤ b)
    (hl : ∀ k, F k ≠ .dead → F' k ≠ .dead)
    (hη : ∀ p q, F (.x p q) ≠ .dead → g'.η p q = g.η p q) (hρ : ∀ p q, F (.r p q) ≠ .dead → g'.ρ p q = g.ρ p q) :
    Ext w (Safe C g F w) (live F) g w' (Safe (C.withR R') g' F' w') (live F') g' where
  block b hs := ⟨⟨Nat.lt_of_lt_of_le hs.1 hsz, fun k hk => by
    rcases hm k b hk with ⟨k', h'⟩ | h' | h'
    · exact hs.2.1 k' h'
    · exact hs.2.2.2 h'
    · exact absurd hs.1 (by omega), hs.2.2.1, fun hr => by
    rcases hR b hr with ⟨k', h'⟩ | h' | h'
    · exact hs.2.1 k' h'
    · exact hs.2.2.2 h'
    · exact absurd hs.1 (by omega)⟩, hb b hs⟩
  x p q hp := ⟨hl _ hp, hη p q hp⟩
  r p q hp := ⟨hl _ hp, hρ p q hp⟩

theorem Rel.changeR (h : Rel C g F a w) {R' : Nat → Prop} {g' : Gh} {F' : St} {a' : Act} {w' : World}
    (hx : Ext w (Safe C g F w) (live F) g w' (Safe (C.withR R') g' F' w') (live F') g')
    (hslots : ∀ k v, F' (.s k) = .val v → F (.s k) = .val v ∧ a'.tmps.getD k undef = a.tmps.getD k undef)
    (hvars : ∀ p q c, F' (.x p q) = .obj c → (F (.x p q) = .obj c ∧ w'.heap[g.η p q]? = w.heap[g.η p q]?) ∨
      VarR w' (Safe (C.withR R') g' F' w') C.Z (live F') g' (g'.η p q) c)
    (howns : ∀ p q e l, F' (.r p q) = .own e l → (F (.r p q) = .own e l ∧ ∀ b, (g.ρ p q).ownBlock = some b → w'.heap[b]? = w.heap[b]?) ∨ OwnR w' (Safe (C.withR R') g' F' w') C.Z e l (g'.ρ p q))
    (hfros : ∀ p q e l, F' (.r p q) = .fro e l → F (.r p q) = .fro e l)
    (hinj : ∀ k k' b, mutb g' F' k b → mutb g' F' k' b → k = k') (hwr : ∀ k b, mutb g' F' k b → (C.W b ∨ C.w0.heap.size ≤ b) ∧ ¬ R' b) (hlt : ∀ b, R' b → b < w'.heap.size)
    (hkeep : Keep C.w0 C.W w') (hd : a'.defers = a.defers) (hs : a'.tmps.size = C.N) : Rel (C.withR R') g' F' a' w' where
  slots k v hv := by
    obtain ⟨h1, h2⟩ := hslots k v hv
    obtain ⟨h3, h4⟩ := h.slots k v h1
    exact ⟨by rw [hs, ← h.size]; exact h3, by rw [h2]; exact h4.mono hx⟩
  vars p q c hc := by
    rcases hvars p q c hc with ⟨h1, h2⟩ | h1
    · rw [(hx.x p q (by rw [live, h1]; simp)).2]
      exact (h.vars p q c h1).mono hx h2
    · exact h1
  owns p q e l hc := by
    rcases howns p q e l hc with ⟨h1, h2⟩ | h1
    · rw [(hx.r p q (by rw [live, h1]; simp)).2]
      exact (h.owns p q e l h1).mono h2 hx.block
    · exact h1
  fros p q e l hc := by
    have h1 := hfros p q e l hc
    rw [(hx.r p q (by rw [live, h1]; simp)).2]
    exact (h.fros p q e l h1).mono hx.block
  tabs := h.tabs.mono hx.block
  inj := hinj
  wr := hwr
  rlt := hlt
  keep := hkeep
  defers d hd' := by
    rw [hd] at hd'
    obtain ⟨b, h1, h2, h3⟩ := h.defers d hd'
    exact ⟨b, h1, (hx.block b h2).1, (hx.block b h2).2.trans h3.1, h3.2⟩
  dnodup := by rw [hd]; exact h.dnodup
  size := hs
  pins i b hb := by
    obtain ⟨h1, h2, h3⟩ := h.pins i b hb
    obtain ⟨k1, k2⟩ := hx.x i 1 h2
    exact ⟨h1, k1, k2.trans h3⟩

def unR (R : Nat → Prop) (l : List Nat) : Nat → Prop := fun b => R b ∧ b ∉ l

/-- A row that was set aside is taken up. -/
theorem Rel.adoptRow (h : Rel C g F a w) {p q : Nat} (hn : F (.r p q) = .dead) {e : TypeId} {l : List D} {v : Value} (hown : OwnR w (Safe C g F w) C.Z e l v)
    (hR : ∀ b, v.ownBlock = some b → C.R b ∧ (C.W b ∨ C.w0.heap.size ≤ b)) :
    Rel (C.withR (unR C.R v.ownBlock.toList)) (g.setρ p q v) (F.upd (.r p q) (.own e l)) a w ∧
    Ext w (Safe C g F w) (live F) g w (Safe (C.withR (unR C.R v.ownBlock.toList)) (g.setρ p q v) (F.upd (.r p q) (.own e l)) w) (live (F.upd (.r p q) (.own e l))) (g.setρ p q v) := by
  have hx := h.updateR (R' := unR C.R v.ownBlock.toList) (g' := g.setρ p q v) (F' := F.upd (.r p q) (.own e l)) (w' := w) (fun b hb => rfl) (Nat.le_refl _)
    (fun k b hk => by rcases mutb_setρ hk with h1 | h1; exact .inl ⟨k, h1.1⟩; exact .inr (.inl (hR b h1.2).1))
    (fun b hb => .inr (.inl hb.1))
    (fun k hk => by unfold St.upd; split <;> simp_all) (fun _ _ _ => rfl)
    (fun p' q' hp => by
      by_cases e1 : p' = p ∧ q' = q
      · obtain ⟨rfl, rfl⟩ := e1; exact absurd hn hp
      · simp [Gh.setρ, e1])
  refine ⟨h.changeR hx (fun k v hv => ⟨by rwa [upd_other _ _ (by simp)] at hv, rfl⟩) (fun p' q' c' hc' => .inl ⟨by rwa [upd_other _ _ (by simp)] at hc', rfl⟩) (fun p' q' e' l' hc' => ?_)
    (fun p' q' e' l' hc' => ?_) (fun k k' b h1 h2 => ?_) (fun k b hk => ?_) (fun b hb => h.rlt b hb.1) h.keep rfl h.size, hx⟩
  · by_cases e1 : p' = p ∧ q' = q
    · obtain ⟨rfl, rfl⟩ := e1
      rw [upd_same] at hc'
      obtain ⟨rfl, rfl⟩ : e = e' ∧ l = l' := by simpa using hc'
      refine .inr ?_
      rw [show (g.setρ p' q' v).ρ p' q' = v by simp [Gh.setρ]]
      exact hown.mono (fun _ _ => rfl) (fun b hb => ⟨(hx.block b hb).1, rfl⟩)
    · rw [upd_other _ _ (by simpa using e1)] at hc'
      exact .inl ⟨hc', fun b hb => rfl⟩
  · by_cases e1 : p' = p ∧ q' = q
    · obtain ⟨rfl, rfl⟩ := e1
      rw [upd_same] at hc'; cases hc'
    · rwa [upd_other _ _ (by simpa using e1)] at hc'
  · rcases mutb_setρ h1 with ⟨a1, n1⟩ | ⟨a1, b1⟩ <;> rcases mutb_setρ h2 with ⟨a2, n2⟩ | ⟨a2, b2⟩
    · exact h.inj k k' b a1 a2
    · exact absurd (hR b b2).1 (h.wr _ _ a1).2
    · exact absurd (hR b b1).1 (h.wr _ _ a2).2
    · rw [a1, a2]
  · rcases mutb_setρ hk with ⟨h1, _⟩ | ⟨_, h1⟩
    · exact ⟨(h.wr k b h1).1, fun hr => (h.wr k b h1).2 hr.1⟩
    · exact ⟨(hR b h1).2, fun hr => hr.2 (by rw [h1]; simp)⟩

theorem mutb_setη {p q b0 : Nat} {c : List AV} {k : Key} {b : Nat} (hk : mutb (g.setη p q b0) (F.upd (.x p q) (.obj c)) k b) :
    (mutb g F k b ∧ k ≠ .x p q) ∨ (k = .x p q ∧ b = b0) := by
  cases k with
  | s k => exact hk.elim
  | x p' q' =>
    obtain ⟨⟨c', hc'⟩, hb⟩ := hk
    by_cases e1 : p' = p ∧ q' = q
    · obtain ⟨rfl, rfl⟩ := e1
      exact .inr ⟨rfl, by simpa [Gh.setη] using hb.symm⟩
    · have hne : Key.x p' q' ≠ .x p q := by simpa using e1
      rw [upd_other _ _ hne] at hc'
      exact .inl ⟨⟨⟨c', hc'⟩, by simpa [Gh.setη, e1] using hb⟩, hne⟩
  | r p' q' =>
    obtain ⟨⟨e', l', hc'⟩, hb⟩ := hk
    rw [upd_other _ _ (by simp)] at hc'
    exact .inl ⟨⟨⟨e', l', hc'⟩, hb⟩, by simp⟩

/-- A variable that was set aside is taken up: under its own name, or a new one. -/
theorem Rel.adoptVar (h : Rel C g F a w) {p q b0 : Nat} (hn : (∀ c, F (.x p q) ≠ .obj c) ∧ (F (.x p q) = .dead ∨ g.η p q = b0)) {c : List AV}
    (hc : VarR w (Safe C (g.setη p q b0) (F.upd (.x p q) .gone) w) C.Z (live (F.upd (.x p q) .gone)) (g.setη p q b0) b0 c)
    (hR : C.R b0 ∧ (C.W b0 ∨ C.w0.heap.size ≤ b0)) :
    Rel (C.withR (unR C.R [b0])) (g.setη p q b0) (F.upd (.x p q) (.obj c)) a w ∧
    Ext w (Safe C g F w) (live F) g w (Safe (C.withR (unR C.R [b0])) (g.setη p q b0) (F.upd (.x p q) (.obj c)) w) (live (F.upd (.x p q) (.obj c))) (g.setη p q b0) := by
  have hη : ∀ p' q', F (.x p' q') ≠ .dead → (g.setη p q b0).η p' q' = g.η p' q' := fun p' q' hp => by
    by_cases e1 : p' = p ∧ q' = q
    · obtain ⟨rfl, rfl⟩ := e1
      rcases hn.2 with h1 | h1
      · exact absurd h1 hp
      · simp [Gh.setη, h1]
    · simp [Gh.setη, e1]
  have hx := h.updateR (R' := unR C.R [b0]) (g' := g.setη p q b0) (F' := F.upd (.x p q) (.obj c)) (w' := w) (fun b hb => rfl) (Nat.le_refl _)
    (fun k b hk => by rcases mutb_setη hk with h1 | h1; exact .inl ⟨k, h1.1⟩; exact .inr (.inl (by rw [h1.2]; exact hR.1)))
    (fun b hb => .inr (.inl hb.1))
    (fun k hk => by unfold St.upd; split <;> simp_all) hη (fun _ _ _ => rfl)
  -- values told before the variable is there
  have conv : Ext w (Safe C (g.setη p q b0) (F.upd (.x p q) .gone) w) (live (F.upd (.x p q) .gone)) (g.setη p q b0) w (Safe (C.withR (unR C.R [b0])) (g.setη p q b0) (F.upd (.x p q) (.obj c)) w) (live (F.upd (.x p q) (.obj c))) (g.setη p q b0) := by
    refine ⟨fun b hb => ⟨?_, rfl⟩, fun p' q' hp => ⟨?_, rfl⟩, fun p' q' hp => ⟨?_, rfl⟩⟩
    · refine ⟨hb.1, fun k hk => ?_, hb.2.2.1, fun hr => hb.2.2.2 hr.1⟩
      rcases mutb_setη hk with h1 | h1
      · refine hb.2.1 k ?_
        cases k with
        | s k => exact h1.1.elim
        | x p' q' =>
          have hne : ¬ (p' = p ∧ q' = q) := by simpa using h1.2
          obtain ⟨⟨c', hc'⟩, h2⟩ := h1.1
          exact ⟨⟨c', by rw [upd_other _ _ h1.2]; exact hc'⟩, by simp [Gh.setη, hne, h2]⟩
        | r p' q' => exact ⟨by obtain ⟨⟨e', l', hc'⟩, _⟩ := h1.1; exact ⟨e', l', by rw [upd_other _ _ (by simp)]; exact hc'⟩, h1.1.2⟩
      · exact hb.2.2.2 (by rw [h1.2]; exact hR.1)
    · simp only [live, St.upd] at hp ⊢; split <;> simp_all
    · simpa [live, St.upd] using hp
  refine ⟨h.changeR hx (fun k v hv => ⟨by rwa [upd_other _ _ (by simp)] at hv, rfl⟩) (fun p' q' c' hc' => ?_) (fun p' q' e' l' hc' => .inl ⟨by rwa [upd_other _ _ (by simp)] at hc', fun b hb => rfl⟩)
    (fun p' q' e' l' hc' => by rwa [upd_other _ _ (by simp)] at hc') (fun k k' b h1 h2 => ?_) (fun k b hk => ?_) (fun b hb => h.rlt b hb.1) h.keep rfl h.size, hx⟩
  · by_cases e1 : p' = p ∧ q' = q
    · obtain ⟨rfl, rfl⟩ := e1
      rw [upd_same] at hc'
      obtain rfl : c = c' := by simpa using hc'
      refine .inr ?_
      rw [show (g.setη p' q' b0).η p' q' = b0 by simp [Gh.setη]]
      exact hc.mono conv rfl
    · rw [upd_other _ _ (by simpa using e1)] at hc'
      exact .inl ⟨hc', rfl⟩
  · rcases mutb_setη h1 with ⟨a1, n1⟩ | ⟨a1, b1⟩ <;> rcases mutb_setη h2 with ⟨a2, n2⟩ | ⟨a2, b2⟩
    · exact h.inj k k' b a1 a2
    · exact absurd hR.1 (by rw [← b2]; exact (h.wr _ _ a1).2)
    · exact absurd hR.1 (by rw [← b1]; exact (h.wr _ _ a2).2)
    · rw [a1, a2]
  · rcases mutb_setη hk with ⟨h1, _⟩ | ⟨_, h1⟩
    · exact ⟨(h.wr k b h1).1, fun hr => (h.wr k b h1).2 hr.1⟩
    · exact ⟨by rw [h1]; exact hR.2, fun hr => hr.2 (by simp [h1])⟩

def addR (R : Nat → Prop) (l : List Nat) : Nat → Prop := fun b => R b ∨ b ∈ l

/-- A row is set aside. -/
theorem Rel.dropRow (h : Rel C g F a w) {p q : Nat} {e : TypeId} {l : List D} (ho : F (.r p q) = .own e l) :
    Rel (C.withR (addR C.R (g.ρ p q).ownBlock.toList)) g (F.upd (.r p q) .gone) a w ∧
    Ext w (Safe C g F w) (live F) g w (Safe (C.withR (addR C.R (g.ρ p q).ownBlock.toList)) g (F.upd (.r p q) .gone) w) (live (F.upd (.r p q) .gone)) g := by
  have hmu : ∀ b, b ∈ (g.ρ p q).ownBlock.toList → mutb g F (.r p q) b := fun b hb => ⟨⟨e, l, ho⟩, by simpa using hb⟩
  have hm : ∀ k b, mutb g (F.upd (.r p q) .gone) k b → mutb g F k b ∧ k ≠ .r p q := by
    intro k b hk
    cases k with
    | s k => exact hk.elim
    | x p' q' => exact ⟨by simpa [mutb, St.upd] using hk, by simp⟩
    | r p' q' =>
      by_cases e1 : p' = p ∧ q' = q
      · obtain ⟨rfl, rfl⟩ := e1
        obtain ⟨⟨e', l', hc'⟩, _⟩ := hk
        rw [upd_same] at hc'; cases hc'
      · have h3 : Key.r p' q' ≠ .r p q := by simpa using e1
        obtain ⟨⟨e', l', hc'⟩, hb⟩ := hk
        rw [upd_other _ _ h3] at hc'
        exact ⟨⟨⟨e', l', hc'⟩, hb⟩, h3⟩
  have hx := h.updateR (R' := addR C.R (g.ρ p q).ownBlock.toList) (g' := g) (F' := F.upd (.r p q) .gone) (w' := w) (fun b hb => rfl) (Nat.le_refl _)
    (fun k b hk => .inl ⟨k, (hm k b hk).1⟩) (fun b hb => by rcases hb with h1 | h1; exact .inr (.inl h1); exact .inl ⟨_, hmu b h1⟩)
    (fun k hk => by unfold St.upd; split <;> simp_all) (fun _ _ _ => rfl) (fun _ _ _ => rfl)
  refine ⟨h.changeR hx (fun k v hv => ⟨by rwa [upd_other _ _ (by simp)] at hv, rfl⟩) (fun p' q' c' hc' => .inl ⟨by rwa [upd_other _ _ (by simp)] at hc', rfl⟩) (fun p' q' e' l' hc' => .inl ⟨?_, fun b hb => rfl⟩)
    (fun p' q' e' l' hc' => ?_) (fun k k' b h1 h2 => h.inj k k' b (hm k b h1).1 (hm k' b h2).1) (fun k b hk => ?_) (fun b hb => by rcases hb with h1 | h1; exact h.rlt b h1; exact mutb_lt h (hmu b h1)) h.keep rfl h.size, hx⟩
  · by_cases e1 : p' = p ∧ q' = q
    · obtain ⟨rfl, rfl⟩ := e1
      rw [upd_same] at hc'; cases hc'
    · rwa [upd_other _ _ (by simpa using e1)] at hc'
  · by_cases e1 : p' = p ∧ q' = q
    · obtain ⟨rfl, rfl⟩ := e1
      rw [upd_same] at hc'; cases hc'
    · rwa [upd_other _ _ (by simpa using e1)] at hc'
  · obtain ⟨h1, h2⟩ := hm k b hk
    refine ⟨(h.wr k b h1).1, fun hr => ?_⟩
    rcases hr with h3 | h3
    · exact (h.wr k b h1).2 h3
    · exact h2 (h.inj _ _ _ h1 (hmu b h3))

/-- A variable is set aside. -/
theorem Rel.dropVar (h : Rel C g F a w) {p q : Nat} {c : List AV} (ho : F (.x p q) = .obj c) :
    Rel (C.withR (addR C.R [g.η p q])) g (F.upd (.x p q) .gone) a w ∧
    Ext w (Safe C g F w) (live F) g w (Safe (C.withR (addR C.R [g.η p q])) g (F.upd (.x p q) .gone) w) (live (F.upd (.x p q) .gone)) g := by
  have hmu : mutb g F (.x p q) (g.η p q) := ⟨⟨c, ho⟩, rfl⟩
  have hmu' : ∀ b, b ∈ [g.η p q] → mutb g F (.x p q) b := fun b hb => by
    obtain rfl : b = g.η p q := by simpa using hb
    exact hmu
  have hm : ∀ k b, mutb g (F.upd (.x p q) .gone) k b → mutb g F k b ∧ k ≠ .x p q := by
    intro k b hk
    cases k with
    | s k => exact hk.elim
    | r p' q' => exact ⟨by simpa [mutb, St.upd] using hk, by simp⟩
    | x p' q' =>
      by_cases e1 : p' = p ∧ q' = q
      · obtain ⟨rfl, rfl⟩ := e1
        obtain ⟨⟨c', hc'⟩, _⟩ := hk
        rw [upd_same] at hc'; cases hc'
      · have h3 : Key.x p' q' ≠ .x p q := by simpa using e1
        obtain ⟨⟨c', hc'⟩, hb⟩ := hk
        rw [upd_other _ _ h3] at hc'
        exact ⟨⟨⟨c', hc'⟩, hb⟩, h3⟩
  have hx := h.updateR (R' := addR C.R [g.η p q]) (g' := g) (F' := F.upd (.x p q) .gone) (w' := w) (fun b hb => rfl) (Nat.le_refl _)
    (fun k b hk => .inl ⟨k, (hm k b hk).1⟩) (fun b hb => by rcases hb with h1 | h1; exact .inr (.inl h1); exact .inl ⟨_, hmu' b h1⟩)
    (fun k hk => by unfold St.upd; split <;> simp_all) (fun _ _ _ => rfl) (fun _ _ _ => rfl)
  refine ⟨h.changeR hx (fun k v hv => ⟨by rwa [upd_other _ _ (by simp)] at hv, rfl⟩) (fun p' q' c' hc' => .inl ⟨?_, rfl⟩) (fun p' q' e' l' hc' => .inl ⟨by rwa [upd_other _ _ (by simp)] at hc', fun b hb => rfl⟩)
    (fun p' q' e' l' hc' => by rwa [upd_other _ _ (by simp)] at hc') (fun k k' b h1 h2 => h.inj k k' b (hm k b h1).1 (hm k' b h2).1) (fun k b hk => ?_)
    (fun b hb => by rcases hb with h1 | h1; exact h.rlt b h1; exact mutb_lt h (hmu' b h1)) h.keep rfl h.size, hx⟩
  · by_cases e1 : p' = p ∧ q' = q
    · obtain ⟨rfl, rfl⟩ := e1
      rw [upd_same] at hc'; cases hc'
    · rwa [upd_other _ _ (by simpa using e1)] at hc'
  · obtain ⟨h1, h2⟩ := hm k b hk
    refine ⟨(h.wr k b h1).1, fun hr => ?_⟩
    rcases hr with h3 | h3
    · exact (h.wr k b h1).2 h3
    · exact h2 (h.inj _ _ _ h1 (hmu' b h3))
end
end Go.Eng
end

section
namespace Go.Eng
open Go

def leafI : AV → Bool
  | .own _ _ => true
  | v => v.leaf

def IV1 (w : World) (S : Nat → Prop) (Z : TypeId → Option Ty) (L : Key → Prop) (g : Gh) : AV → Value → Prop
  | .own e l, x => OwnR w S Z e l x
  | v, x => VR w S Z L g v x

/-- A variable that goes out with a closure. -/
def BxR (w : World) (S : Nat → Prop) (Z : TypeId → Option Ty) (l : List D) (u : Value) : Prop :=
  ∃ b cs e, u = .pointer (some ⟨b, 0, none⟩) ∧ w.heap[b]? = some (.cells cs e (0, 0)) ∧ cs.size = l.length ∧
    ∀ (j : Nat) (x : D), l[j]? = some x → x.leaf = true ∧ ∃ y, cs[j]? = some y ∧ y.oneCell' = true ∧ DR w S Z x y
def IVB (w : World) (S : Nat → Prop) (Z : TypeId → Option Ty) : AV → Value → Prop
  | .bx l, u => BxR w S Z l u
  | .d x, u => DR w S Z x u
  | _, _ => False
def obB1 : AV → Value → List Nat
  | .bx _, .pointer (some A) => [A.block]
  | _, _ => []
def obB : List AV → List Value → List Nat
  | v :: r, x :: s => obB1 v x ++ obB r s
  | _, _ => []

def IV2 (w : World) (S : Nat → Prop) (Z : TypeId → Option Ty) (L : Key → Prop) (g : Gh) : AV → Value → Prop
  | .fn f y c, x => ∃ cs, y = [] ∧ x = .func f #[] cs ∧ c.length = cs.size ∧ ∀ (j : Nat) (v : AV) (u : Value), c[j]? = some v → cs[j]? = some u → IVB w S Z v u
  | .agg l, x => ∃ cs, x = .agg cs ∧ l.length = cs.size ∧ ∀ (j : Nat) (v : AV) (u : Value), l[j]? = some v → cs[j]? = some u → leafI v = true ∧ IV1 w S Z L g v u
  | v, x => IV1 w S Z L g v x

def IV (w : World) (S : Nat → Prop) (Z : TypeId → Option Ty) (L : Key → Prop) (g : Gh) : AV → Value → Prop
  | .tup l, x => ∃ vs, x = .tuple vs ∧ l.length = vs.size ∧ ∀ (j : Nat) (v : AV) (u : Value), l[j]? = some v → vs[j]? = some u → IV2 w S Z L g v u
  | v, x => IV2 w S Z L g v x

def ob1 : AV → Value → List Nat
  | .own _ _, x => x.ownBlock.toList
  | _, _ => []
def obL : List AV → List Value → List Nat
  | v :: r, x :: s => ob1 v x ++ obL r s
  | _, _ => []
def ob2 : AV → Value → List Nat
  | .fn _ _ c, .func _ _ cs => obB c cs.toList
  | .agg l, .agg cs => obL l cs.toList
  | v, x => ob1 v x
def obT : List AV → List Value → List Nat
  | v :: r, x :: s => ob2 v x ++ obT r s
  | _, _ => []
def ob : AV → Value → List Nat
  | .tup l, .tuple vs => obT l vs.toList
  | v, x => ob2 v x

def PackR (w : World) (S : Nat → Prop) (Z : TypeId → Option Ty) (L : Key → Prop) (g : Gh) : List (List AV) → List (Nat × Array Value) → Prop
  | [], [] => True
  | c :: r, p :: s => (((∃ e, w.heap[p.1]? = some (.cells p.2 e (0, 0))) ∧ p.2.size = c.length ∧
      (∀ (j : Nat) (v : AV), c[j]? = some v → leafI v = true ∧ ∃ u, p.2[j]? = some u ∧ u.oneCell' = true ∧ IV1 w S Z L g v u)) ∨ ∃ o cap, c = [.ob o cap] ∧ p.2 = #[] ∧ ObR w S Z L g p.1 o cap) ∧ PackR w S Z L g r s
  | _, _ => False
def packB : List (List AV) → List (Nat × Array Value) → List Nat
  | c :: r, p :: s => p.1 :: (obL c p.2.toList ++ packB r s)
  | _, _ => []

section
variable {P : Program} {E : Env} {C : Ctx} {g : Gh} {F : St} {a : Act} {w : World}

theorem IVB.mono {w w' : World} {S S' : Nat → Prop} {Z : TypeId → Option Ty} (hS : ∀ b, S b → S' b ∧ w'.heap[b]? = w.heap[b]?) {v : AV} {x : Value} (h : IVB w S Z v x)
    (hb : ∀ b ∈ obB1 v x, w'.heap[b]? = w.heap[b]?) : IVB w' S' Z v x := by
  cases v with
  | bx l =>
    obtain ⟨b, cs, e, rfl, h2, h3, h4⟩ := h
    refine ⟨b, cs, e, rfl, (hb b (by simp [obB1])).trans h2, h3, fun j x hj => ?_⟩
    obtain ⟨k1, y, k2, k3, k4⟩ := h4 j x hj
    exact ⟨k1, y, k2, k3, k4.mono hS⟩
  | d y => exact DR.mono hS h
  | _ => exact h.elim

theorem IV1.mono {w w' : World} {S S' : Nat → Prop} {Z : TypeId → Option Ty} {L L' : Key → Prop} {g g' : Gh} (H : Ext w S L g w' S' L' g') {v : AV} {x : Value} (h : IV1 w S Z L g v x)
    (hb : ∀ b ∈ ob1 v x, w'.heap[b]? = w.heap[b]?) : IV1 w' S' Z L' g' v x := by
  cases v with
  | own e l => exact OwnR.mono h (fun b hb' => hb b (by simp [ob1, hb'])) H.block
  | _ => exact VR.mono H h

theorem unR_append (R : Nat → Prop) (l m : List Nat) : unR (unR R l) m = unR R (l ++ m) := by
  funext b; simp [unR, and_assoc]
theorem addR_append (R : Nat → Prop) (l m : List Nat) : addR (addR R l) m = addR R (l ++ m) := by
  funext b; simp [addR, or_assoc]
theorem unR_nil (R : Nat → Prop) : unR R [] = R := by funext b; simp [unR]
theorem addR_nil (R : Nat → Prop) : addR R [] = R := by funext b; simp [addR]
theorem withR_self (C : Ctx) : C.withR C.R = C := rfl

/-- Rows of a list of cells are taken up. -/
theorem attach1_sound (h : Rel C g F a w) {u n : Nat} {v v' : AV} {x : Value} {F' : St} (hv : IV1 w (Safe C g F w) C.Z (live F) g v x) (hl : leafI v = true) (hR : ∀ b ∈ ob1 v x, C.R b ∧ (C.W b ∨ C.w0.heap.size ≤ b))
    (hr : (attach1 u n v).run F = some (v', F')) :
    ∃ g', Rel (C.withR (unR C.R (ob1 v x))) g' F' a w ∧ Ext w (Safe C g F w) (live F) g w (Safe (C.withR (unR C.R (ob1 v x))) g' F' w) (live F') g' ∧
      v'.leaf = true ∧ VRs (C.withR (unR C.R (ob1 v x))) g' F' w v' x ∧ (∀ p q, F' (.x p q) = F (.x p q)) ∧ g'.η = g.η := by
  cases v with
  | own e l =>
    simp only [attach1, Go.Eng.newRow, Pr.run] at hr
    split at hr
    · rename_i hd
      simp only [Pr.run, Option.some.injEq, Prod.mk.injEq] at hr
      obtain ⟨rfl, rfl⟩ := hr
      obtain ⟨h1, h2⟩ := h.adoptRow hd hv (fun b hb => hR b (by simp [ob1, hb]))
      obtain ⟨A, c, rfl, -, -⟩ := OwnR.slice hv
      exact ⟨_, h1, h2, rfl, .row u n A _ c (by simp [live, St.upd]) (by simp [Gh.setρ]), fun p q => upd_other _ _ (by simp), rfl⟩
    · cases hr
  | _ =>
    simp only [attach1, Pr.run, Option.some.injEq, Prod.mk.injEq] at hr
    obtain ⟨rfl, rfl⟩ := hr
    simp only [ob1, unR_nil, withR_self]
    exact ⟨g, h, .refl, hl, hv, fun _ _ => trivial, rfl⟩

theorem attachL_sound (u : Nat) : ∀ (c : List AV) {C : Ctx} {g : Gh} {F : St} (h : Rel C g F a w) {n : Nat} {xs : List Value} {c' : List AV} {F' : St} (S : Nat → Prop), (∀ b, S b → Safe C g F w b) → xs.length = c.length →
    (∀ (j : Nat) (v : AV) (x : Value), c[j]? = some v → xs[j]? = some x → leafI v = true ∧ IV1 w S C.Z (live F) g v x) → (∀ b ∈ obL c xs, C.R b ∧ (C.W b ∨ C.w0.heap.size ≤ b)) → (obL c xs).Nodup →
    (attachL u n c).run F = some (c', F') →
    ∃ g', Rel (C.withR (unR C.R (obL c xs))) g' F' a w ∧ Ext w (Safe C g F w) (live F) g w (Safe (C.withR (unR C.R (obL c xs))) g' F' w) (live F') g' ∧ c'.length = c.length ∧
      (∀ (j : Nat) (v : AV) (x : Value), c'[j]? = some v → xs[j]? = some x → v.leaf = true ∧ VRs (C.withR (unR C.R (obL c xs))) g' F' w v x) ∧ (∀ p q, F' (.x p q) = F (.x p q)) ∧ g'.η = g.η := by
  intro c
  induction c with
  | nil =>
    intro C g F h n xs c' F' S hS hl hv hR hnd hr
    simp only [attachL, Pr.run, Option.some.injEq, Prod.mk.injEq] at hr
    obtain ⟨rfl, rfl⟩ := hr
    simp only [obL, unR_nil, withR_self]
    exact ⟨g, h, .refl, trivial, fun j v x hj => by simp at hj, fun _ _ => trivial, rfl⟩
  | cons v r ih =>
    intro C g F h n xs c' F' S hS hl hv hR hnd hr
    cases xs with
    | nil => simp at hl
    | cons x s =>
      unfold attachL at hr
      obtain ⟨v1, F1, h1, hr2⟩ := Pr.bind_some hr
      obtain ⟨c1, F2, h2, hr3⟩ := Pr.bind_some hr2
      simp only [Pr.run, Option.some.injEq, Prod.mk.injEq] at hr3
      obtain ⟨rfl, rfl⟩ := hr3
      simp only [obL] at hR hnd ⊢
      obtain ⟨hl0, hv0⟩ := hv 0 v x rfl rfl
      have lift : ∀ {v x}, IV1 w S C.Z (live F) g v x → IV1 w (Safe C g F w) C.Z (live F) g v x := fun hh => hh.mono ⟨fun b hb => ⟨hS b hb, rfl⟩, fun _ _ hp => ⟨hp, rfl⟩, fun _ _ hp => ⟨hp, rfl⟩⟩ (fun _ _ => rfl)
      obtain ⟨g1, r1, e1, l1, q1, x1, y1⟩ := attach1_sound h (lift hv0) hl0 (fun b hb => hR b (List.mem_append_left _ hb)) h1
      have hdis : ∀ b ∈ obL r s, b ∉ ob1 v x := fun b hb hb' => (List.nodup_append.1 hnd).2.2 b hb' b hb rfl
      obtain ⟨g2, r2, e2, l2, q2, x2, y2⟩ := ih r1 (n := n + 1) (xs := s) S (fun b hb => (e1.block b (hS b hb)).1) (by simpa using hl)
        (fun j v' x' hj hx => by
          obtain ⟨k1, k2⟩ := hv (j + 1) v' x' (by simpa using hj) (by simpa using hx)
          exact ⟨k1, k2.mono ⟨fun b hb => ⟨hb, rfl⟩, e1.x, e1.r⟩ (fun _ _ => rfl)⟩)
        (fun b hb => ⟨⟨(hR b (List.mem_append_right _ hb)).1, hdis b hb⟩, (hR b (List.mem_append_right _ hb)).2⟩) (List.nodup_append.1 hnd).2.1 h2
      have hRR : unR (C.withR (unR C.R (ob1 v x))).R (obL r s) = unR C.R (ob1 v x ++ obL r s) := unR_append _ _ _
      rw [show ((C.withR (unR C.R (ob1 v x))).withR (unR (C.withR (unR C.R (ob1 v x))).R (obL r s))) = C.withR (unR C.R (ob1 v x ++ obL r s)) by rw [hRR]; rfl] at r2 e2 q2
      refine ⟨g2, r2, e1.trans e2, by simp [l2], fun j v' x' hj hx => ?_, fun p q => (x2 p q).trans (x1 p q), y2.trans y1⟩
      cases j with
      | zero =>
        simp at hj hx; subst hj; subst hx
        exact ⟨l1, q1.mono e2⟩
      | succ j => simp at hj hx; exact q2 j v' x' hj hx

theorem PackR_mono {w : World} {S S0 S0' : Nat → Prop} {Z : TypeId → Option Ty} {L L' : Key → Prop} {g g' : Gh} (_ : ∀ b, S b → S b) (H : Ext w S0 L g w S0' L' g') : ∀ {cs : List (List AV)} {s : List (Nat × Array Value)}, PackR w S Z L g cs s → PackR w S Z L' g' cs s := by
  intro cs
  induction cs with
  | nil => intro s h; cases s <;> exact h
  | cons c r ih =>
    intro s h
    cases s with
    | nil => exact h
    | cons y s =>
      obtain ⟨h0, h4⟩ := h
      refine ⟨?_, ih h4⟩
      rcases h0 with ⟨h1, h2, h3⟩ | ⟨o, cap, h1, h2, h3⟩
      · refine .inl ⟨h1, h2, fun j v hj => ?_⟩
        obtain ⟨k1, u, k2, k3, k4⟩ := h3 j v hj
        exact ⟨k1, u, k2, k3, k4.mono ⟨fun b hb => ⟨hb, rfl⟩, H.x, H.r⟩ (fun _ _ => rfl)⟩
      · exact .inr ⟨o, cap, h1, h2, h3.mono ⟨fun b hb => ⟨hb, rfl⟩, H.x, H.r⟩ rfl⟩

theorem setη_self (g : Gh) (p q : Nat) : g.setη p q (g.η p q) = g := by
  unfold Gh.setη
  congr 1
  funext p' q'
  by_cases e1 : p' = p ∧ q' = q
  · obtain ⟨rfl, rfl⟩ := e1; simp
  · simp [e1]

theorem upd_self (F : St) (k : Key) (c : Cell) (h : F k = c) : F.upd k c = F := by
  funext k'; unfold St.upd; split
  · rename_i e; rw [e, h]
  · rfl

/-- Variables are taken up again. -/
theorem takeBack_sound (u : Nat) : ∀ (vs : List (Nat × Nat)) {C : Ctx} {g : Gh} {F : St} (h : Rel C g F a w) {n : Nat} {cs : List (List AV)} {s : List (Nat × Array Value)} {F' : St} (S : Nat → Prop), (∀ b, S b → Safe C g F w b) →
    (∀ (i : Nat) (p : Nat × Nat) (y : Nat × Array Value), vs[i]? = some p → s[i]? = some y → g.η p.1 p.2 = y.1) → (∀ p ∈ vs, F (.x p.1 p.2) = .gone) → vs.Nodup → PackR w S C.Z (live F) g cs s →
    (∀ b ∈ packB cs s, C.R b ∧ (C.W b ∨ C.w0.heap.size ≤ b)) → (packB cs s).Nodup → (takeBack u n vs cs).run F = some ((), F') →
    ∃ g', Rel (C.withR (unR C.R (packB cs s))) g' F' a w ∧ Ext w (Safe C g F w) (live F) g w (Safe (C.withR (unR C.R (packB cs s))) g' F' w) (live F') g' := by
  intro vs
  induction vs with
  | nil =>
    intro C g F h n cs s F' S hS hη hg hvn hP hR hnd hr
    cases cs with
    | nil =>
      simp only [takeBack, Pr.run, Option.some.injEq, Prod.mk.injEq, true_and] at hr
      subst hr
      cases s <;> simp only [packB, unR_nil, withR_self] <;> exact ⟨g, h, .refl⟩
    | cons c r => simp [takeBack, Pr.run] at hr
  | cons p vs ih =>
    intro C g F h n cs s F' S hS hη hg hvn hP hR hnd hr
    cases cs with
    | nil => simp [takeBack, Pr.run] at hr
    | cons c r =>
      cases s with
      | nil => exact hP.elim
      | cons y s =>
        unfold takeBack at hr
        obtain ⟨c', F1, h1, hr2⟩ := Pr.bind_some hr
        simp only [Pr.run] at hr2
        obtain ⟨hP0, hP'⟩ := hP
        simp only [packB] at hR hnd ⊢
        have hnd2 := List.nodup_cons.1 hnd
        have hnd3 := List.nodup_append.1 hnd2.2
        have hη0 := hη 0 p y rfl rfl
        obtain ⟨g1, r1, e1, q1, x1, y1⟩ : ∃ g', Rel (C.withR (unR C.R (obL c y.2.toList))) g' F1 a w ∧ Ext w (Safe C g F w) (live F) g w (Safe (C.withR (unR C.R (obL c y.2.toList))) g' F1 w) (live F1) g' ∧
            VarR w (Safe (C.withR (unR C.R (obL c y.2.toList))) g' F1 w) C.Z (live F1) g' y.1 c' ∧ (∀ p q, F1 (.x p q) = F (.x p q)) ∧ g'.η = g.η := by
          rcases hP0 with ⟨⟨e, hh⟩, hsz, hc⟩ | ⟨o, cap, rfl, hy, ho⟩
          · obtain ⟨g1, r1, e1, l1, q1, x1, y1⟩ := attachL_sound u c h (n := 100000 * n) (xs := y.2.toList) S hS (by simpa using hsz) (fun j v x hj hx => by
                obtain ⟨k1, x', k2, -, k4⟩ := hc j v hj
                have : x = x' := by simp only [Array.getElem?_toList] at hx; rw [k2] at hx; simpa using hx.symm
                rw [this]; exact ⟨k1, k4⟩)
              (fun b hb => hR b (List.mem_cons_of_mem _ (List.mem_append_left _ hb))) hnd3.1 h1
            refine ⟨g1, r1, e1, .inl ⟨y.2, e, hh, by rw [l1]; exact hsz, fun j v hj => ?_⟩, x1, y1⟩
            have hjl : j < y.2.size := by rw [hsz, ← l1]; exact (List.getElem?_eq_some_iff.1 hj).1
            obtain ⟨v0, hv0⟩ : ∃ v0, c[j]? = some v0 := ⟨c[j]'(by omega), List.getElem?_eq_getElem (by omega)⟩
            obtain ⟨-, x', k2, k3, -⟩ := hc j v0 hv0
            obtain ⟨m1, m2⟩ := q1 j v x' hj (by simpa using k2)
            exact ⟨m1, x', k2, k3, m2⟩
          · simp only [attachL, attach1, Pr.bind, Pr.run, Option.some.injEq, Prod.mk.injEq] at h1
            obtain ⟨rfl, rfl⟩ := h1
            have : obL [AV.ob o cap] y.2.toList = [] := by rw [hy]; rfl
            simp only [this, unR_nil, withR_self]
            exact ⟨g, h, .refl, .inr ⟨o, cap, rfl, ho.mono ⟨fun b hb => ⟨hS b hb, rfl⟩, fun _ _ hp => ⟨hp, rfl⟩, fun _ _ hp => ⟨hp, rfl⟩⟩ rfl⟩, fun _ _ => trivial, rfl⟩
        have hF1 : F1 (.x p.1 p.2) = .gone := by rw [x1]; exact hg p (by simp)
        have hη1 : g1.η p.1 p.2 = y.1 := by rw [y1]; exact hη0
        have hb0 : (C.withR (unR C.R (obL c y.2.toList))).R y.1 := ⟨(hR y.1 (by simp)).1, fun hb => hnd2.1 (List.mem_append_left _ hb)⟩
        obtain ⟨r2, e2⟩ := r1.adoptVar (p := p.1) (q := p.2) (b0 := y.1) (c := c') ⟨(fun c'' hc'' => by rw [hF1] at hc''; cases hc''), .inr hη1⟩ (by
            have q2 := q1
            rw [← hη1] at q2 ⊢
            rw [setη_self, upd_self _ _ _ hF1]
            exact q2)
          ⟨hb0, (hR y.1 (by simp)).2⟩
        rw [← hη1, setη_self, hη1] at r2 e2
        have hR2 : unR (C.withR (unR C.R (obL c y.2.toList))).R [y.1] = unR C.R (y.1 :: obL c y.2.toList) := by
          funext b; apply propext; simp only [unR, Ctx.withR, List.mem_cons, List.mem_nil_iff, or_false, not_or]
          exact ⟨fun ⟨⟨a1, a2⟩, a3⟩ => ⟨a1, a3, a2⟩, fun ⟨a1, a2, a3⟩ => ⟨⟨a1, a3⟩, a2⟩⟩
        rw [show ((C.withR (unR C.R (obL c y.2.toList))).withR (unR (C.withR (unR C.R (obL c y.2.toList))).R [y.1])) = C.withR (unR C.R (y.1 :: obL c y.2.toList)) by rw [hR2]; rfl] at r2 e2
        have e12 := e1.trans e2
        obtain ⟨g3, r3, e3⟩ := ih r2 (n := n + 1) (cs := r) (s := s) S (fun b hb => (e12.block b (hS b hb)).1)
          (fun i p' y' hp' hy' => by rw [y1]; exact hη (i + 1) p' y' (by simpa using hp') (by simpa using hy'))
          (fun p' hp' => by
            have hne : p' ≠ p := fun e => (List.nodup_cons.1 hvn).1 (e ▸ hp')
            rw [upd_other _ _ (by simp; intro h1 h2; exact hne (Prod.ext h1 h2)), x1]
            exact hg p' (by simp [hp']))
          (List.nodup_cons.1 hvn).2 (PackR_mono (fun _ hb => hb) e12 hP')
          (fun b hb => ⟨⟨(hR b (by simp [hb])).1, fun hb' => by
            rcases List.mem_cons.1 hb' with rfl | hb'
            · exact hnd2.1 (List.mem_append_right _ hb)
            · exact hnd3.2.2 b hb' b hb rfl⟩, (hR b (by simp [hb])).2⟩) hnd3.2.1 hr2
        have hR3 : unR (C.withR (unR C.R (y.1 :: obL c y.2.toList))).R (packB r s) = unR C.R (y.1 :: (obL c y.2.toList ++ packB r s)) := by
          rw [show (C.withR (unR C.R (y.1 :: obL c y.2.toList))).R = unR C.R (y.1 :: obL c y.2.toList) from rfl, unR_append]; rfl
        rw [show ((C.withR (unR C.R (y.1 :: obL c y.2.toList))).withR (unR (C.withR (unR C.R (y.1 :: obL c y.2.toList))).R (packB r s))) = C.withR (unR C.R (y.1 :: (obL c y.2.toList ++ packB r s))) by rw [hR3]; rfl] at r3 e3
        exact ⟨g3, r3, e12.trans e3⟩
end
end Go.Eng
end

section
namespace Go.Eng
open Go

section
variable {P : Program} {E : Env} {C : Ctx} {g : Gh} {F : St} {a : Act} {w : World}

theorem renL_get {m : Nat × Nat → Option (Nat × Nat)} : ∀ {l l' : List AV}, renL m l = some l' → l'.length = l.length ∧ ∀ (j : Nat) (v' : AV), l'[j]? = some v' → ∃ v, l[j]? = some v ∧ v.ren m = some v' := by
  intro l
  induction l with
  | nil => intro l' h; simp [renL] at h; subst h; exact ⟨rfl, fun j v' hj => by simp at hj⟩
  | cons v r ih =>
    intro l' h
    simp only [renL, Option.bind_eq_some_iff, Option.map_eq_some_iff] at h
    obtain ⟨v1, h1, r1, h2, rfl⟩ := h
    obtain ⟨i1, i2⟩ := ih h2
    refine ⟨by simp [i1], fun j v' hj => ?_⟩
    cases j with
    | zero => simp at hj; subst hj; exact ⟨v, rfl, h1⟩
    | succ j => simp at hj; simpa using i2 j v' hj

theorem ren_leaf {m : Nat × Nat → Option (Nat × Nat)} {v v' : AV} (h : v.ren m = some v') : v'.leaf = v.leaf ∧ leafI v' = leafI v := by
  cases v with
  | fn f x c => simp only [AV.ren, Option.bind_eq_some_iff, Option.map_eq_some_iff] at h; obtain ⟨x', -, c', -, rfl⟩ := h; exact ⟨rfl, rfl⟩
  | agg l => simp only [AV.ren, Option.map_eq_some_iff] at h; obtain ⟨x', -, rfl⟩ := h; exact ⟨rfl, rfl⟩
  | tup l => simp only [AV.ren, Option.map_eq_some_iff] at h; obtain ⟨x', -, rfl⟩ := h; exact ⟨rfl, rfl⟩
  | ptr p q o => simp only [AV.ren, Option.map_eq_some_iff] at h; obtain ⟨x', -, rfl⟩ := h; exact ⟨rfl, rfl⟩
  | yf p q => simp only [AV.ren, Option.map_eq_some_iff] at h; obtain ⟨x', -, rfl⟩ := h; exact ⟨rfl, rfl⟩
  | ob p q => simp only [AV.ren, Option.map_eq_some_iff] at h; obtain ⟨x', -, rfl⟩ := h; exact ⟨rfl, rfl⟩
  | _ => simp [AV.ren] at h <;> subst h <;> exact ⟨rfl, rfl⟩

theorem VR.ren {w : World} {S : Nat → Prop} {Z : TypeId → Option Ty} {L L' : Key → Prop} {g g' : Gh} {m : Nat × Nat → Option (Nat × Nat)}
    (hm : ∀ p q r, m (p, q) = some r → L (.x p q) → L' (.x r.1 r.2) ∧ g'.η r.1 r.2 = g.η p q) {v : AV} {x : Value} (h : VR w S Z L g v x) : ∀ {v' : AV}, v.ren m = some v' → VR w S Z L' g' v' x := by
  induction h with
  | d y x hd => intro v' hv; simp [AV.ren] at hv; subst hv; exact .d _ _ hd
  | nils e => intro v' hv; simp [AV.ren] at hv; subst hv; exact .nils e
  | row => intro v' hv; simp [AV.ren] at hv
  | ptr p q off hl =>
    intro v' hv
    simp only [AV.ren, Option.map_eq_some_iff] at hv
    obtain ⟨r, h1, rfl⟩ := hv
    obtain ⟨h2, h3⟩ := hm p q r h1 hl
    rw [← h3]
    exact .ptr _ _ _ h2
  | yf p q hl =>
    intro v' hv
    simp only [AV.ren, Option.map_eq_some_iff] at hv
    obtain ⟨r, h1, rfl⟩ := hv
    obtain ⟨h2, h3⟩ := hm p q r h1 hl
    rw [← h3]
    exact .yf _ _ h2
  | eS => intro v' hv; simp [AV.ren] at hv
  | eR => intro v' hv; simp [AV.ren] at hv
  | fn f x c xs cs h1 h2 h3 h4 ih1 ih2 =>
    intro v' hv
    simp only [AV.ren, Option.bind_eq_some_iff, Option.map_eq_some_iff] at hv
    obtain ⟨x', k1, c', k2, rfl⟩ := hv
    obtain ⟨i1, i2⟩ := renL_get k1
    obtain ⟨j1, j2⟩ := renL_get k2
    refine .fn f x' c' xs cs (by omega) (by omega) (fun j a u hj hu => ?_) (fun j a u hj hu => ?_)
    · obtain ⟨v, hv, hr⟩ := i2 j a hj; exact ih1 j v u hv hu hr
    · obtain ⟨v, hv, hr⟩ := j2 j a hj; exact ih2 j v u hv hu hr
  | agg l cs h1 h2 h3 ih =>
    intro v' hv
    simp only [AV.ren, Option.map_eq_some_iff] at hv
    obtain ⟨l', k1, rfl⟩ := hv
    obtain ⟨i1, i2⟩ := renL_get k1
    refine .agg l' cs (by omega) (fun y hy => ?_) (fun j a u hj hu => ?_)
    · obtain ⟨j, hj⟩ := List.mem_iff_getElem?.1 hy
      obtain ⟨v, hv, hr⟩ := i2 j y hj
      rw [(ren_leaf hr).1]; exact h2 v (List.mem_of_getElem? hv)
    · obtain ⟨v, hv, hr⟩ := i2 j a hj; exact ih j v u hv hu hr
  | tup l cs h1 h3 ih =>
    intro v' hv
    simp only [AV.ren, Option.map_eq_some_iff] at hv
    obtain ⟨l', k1, rfl⟩ := hv
    obtain ⟨i1, i2⟩ := renL_get k1
    exact .tup l' cs (by omega) (fun j a u hj hu => by obtain ⟨v, hv, hr⟩ := i2 j a hj; exact ih j v u hv hu hr)

theorem IV1.ren {w : World} {S : Nat → Prop} {Z : TypeId → Option Ty} {L L' : Key → Prop} {g g' : Gh} {m : Nat × Nat → Option (Nat × Nat)}
    (hm : ∀ p q r, m (p, q) = some r → L (.x p q) → L' (.x r.1 r.2) ∧ g'.η r.1 r.2 = g.η p q) {v v' : AV} {x : Value} (h : IV1 w S Z L g v x) (hv : v.ren m = some v') : IV1 w S Z L' g' v' x ∧ ob1 v' x = ob1 v x := by
  cases v with
  | own e l => simp [AV.ren] at hv; subst hv; exact ⟨h, rfl⟩
  | fn f y c =>
    have h2 := VR.ren hm h hv
    simp only [AV.ren, Option.bind_eq_some_iff, Option.map_eq_some_iff] at hv; obtain ⟨x', -, c', -, rfl⟩ := hv
    exact ⟨h2, rfl⟩
  | agg l =>
    have h2 := VR.ren hm h hv
    simp only [AV.ren, Option.map_eq_some_iff] at hv; obtain ⟨x', -, rfl⟩ := hv
    exact ⟨h2, rfl⟩
  | tup l =>
    have h2 := VR.ren hm h hv
    simp only [AV.ren, Option.map_eq_some_iff] at hv; obtain ⟨x', -, rfl⟩ := hv
    exact ⟨h2, rfl⟩
  | ptr p q o =>
    have h2 := VR.ren hm h hv
    simp only [AV.ren, Option.map_eq_some_iff] at hv; obtain ⟨x', -, rfl⟩ := hv
    exact ⟨h2, rfl⟩
  | yf p q =>
    have h2 := VR.ren hm h hv
    simp only [AV.ren, Option.map_eq_some_iff] at hv; obtain ⟨x', -, rfl⟩ := hv
    exact ⟨h2, rfl⟩
  | d y =>
    have h2 := VR.ren hm h hv
    simp [AV.ren] at hv; subst hv; exact ⟨h2, rfl⟩
  | nils e =>
    have h2 := VR.ren hm h hv
    simp [AV.ren] at hv; subst hv; exact ⟨h2, rfl⟩
  | ob o cap => cases h
  | bx l => cases h
  | _ => simp [AV.ren] at hv

theorem obL_ren {m : Nat × Nat → Option (Nat × Nat)} {w : World} {S : Nat → Prop} {Z : TypeId → Option Ty} {L : Key → Prop} {g : Gh}
    (hm : ∀ p q r, m (p, q) = some r → L (.x p q) → L (.x p q) ∧ g.η p q = g.η p q) : ∀ {l l' : List AV} {xs : List Value}, renL m l = some l' → obL l' xs = obL l xs := by
  intro l
  induction l with
  | nil => intro l' xs h; simp [renL] at h; subst h; rfl
  | cons v r ih =>
    intro l' xs h
    simp only [renL, Option.bind_eq_some_iff, Option.map_eq_some_iff] at h
    obtain ⟨v1, h1, r1, h2, rfl⟩ := h
    cases xs with
    | nil => rfl
    | cons x s =>
      simp only [obL, ih h2]
      congr 1
      cases v with
      | own e l => simp [AV.ren] at h1; subst h1; rfl
      | fn f y c => simp only [AV.ren, Option.bind_eq_some_iff, Option.map_eq_some_iff] at h1; obtain ⟨x', -, c', -, rfl⟩ := h1; rfl
      | agg l => simp only [AV.ren, Option.map_eq_some_iff] at h1; obtain ⟨x', -, rfl⟩ := h1; rfl
      | tup l => simp only [AV.ren, Option.map_eq_some_iff] at h1; obtain ⟨x', -, rfl⟩ := h1; rfl
      | ptr p q o => simp only [AV.ren, Option.map_eq_some_iff] at h1; obtain ⟨x', -, rfl⟩ := h1; rfl
      | yf p q => simp only [AV.ren, Option.map_eq_some_iff] at h1; obtain ⟨x', -, rfl⟩ := h1; rfl
      | d y => simp [AV.ren] at h1; subst h1; rfl
      | nils e => simp [AV.ren] at h1; subst h1; rfl
      | bx l => simp [AV.ren] at h1; subst h1; rfl
      | ob o cap => simp only [AV.ren, Option.map_eq_some_iff] at h1; obtain ⟨x', -, rfl⟩ := h1; rfl
      | _ => simp [AV.ren] at h1

theorem ObR.ren {w : World} {S : Nat → Prop} {Z : TypeId → Option Ty} {L L' : Key → Prop} {g g' : Gh} {m : Nat × Nat → Option (Nat × Nat)}
    (hm : ∀ p q r, m (p, q) = some r → L (.x p q) → L' (.x r.1 r.2) ∧ g'.η r.1 r.2 = g.η p q) {b : Nat} {o : Ob} {cap cap' : List AV} (h : ObR w S Z L g b o cap) (hr : renL m cap = some cap') : ObR w S Z L' g' b o cap' := by
  cases o with
  | it s pos =>
    obtain ⟨rfl, h2⟩ := h
    simp only [renL, Option.some.injEq] at hr
    exact ⟨hr.symm, h2⟩
  | lp f i st ks =>
    obtain ⟨t, yb, r, h1, h2, h3, h4, h5, h6, h7, h8, h9, h10, h11⟩ := h
    obtain ⟨i1, i2⟩ := renL_get hr
    exact ⟨t, yb, r, h1, h2, h3, h4, h5, h6, h7, h8, h9, by omega, fun j k v hk hv => by
      obtain ⟨v0, hv0, hr0⟩ := i2 j v hv
      exact ⟨(h11 j k v0 hk hv0).1, (h11 j k v0 hk hv0).2.ren hm hr0⟩⟩

theorem PackR.ren {w : World} {S : Nat → Prop} {Z : TypeId → Option Ty} {L L' : Key → Prop} {g g' : Gh} {m : Nat × Nat → Option (Nat × Nat)}
    (hm : ∀ p q r, m (p, q) = some r → L (.x p q) → L' (.x r.1 r.2) ∧ g'.η r.1 r.2 = g.η p q) : ∀ {cs cs' : List (List AV)} {s : List (Nat × Array Value)}, PackR w S Z L g cs s → cs.mapM (renL m) = some cs' →
    PackR w S Z L' g' cs' s ∧ packB cs' s = packB cs s ∧ cs'.length = cs.length := by
  intro cs
  induction cs with
  | nil => intro cs' s h hr; simp at hr; subst hr; cases s <;> exact ⟨h, rfl, rfl⟩
  | cons c r ih =>
    intro cs' s h hr
    cases s with
    | nil => exact h.elim
    | cons y s =>
      rw [List.mapM_cons] at hr
      simp only [Option.pure_def, Option.bind_eq_bind, Option.bind_eq_some_iff, Option.some.injEq] at hr
      obtain ⟨c', h1, r', h2, rfl⟩ := hr
      obtain ⟨k0, k4⟩ := h
      obtain ⟨i1, i2, i3⟩ := ih k4 h2
      obtain ⟨j1, j2⟩ := renL_get h1
      refine ⟨⟨?_, i1⟩, ?_, by simp [i3]⟩
      · rcases k0 with ⟨k1, k2, k3⟩ | ⟨o, cap, rfl, k2, k3⟩
        · refine .inl ⟨k1, by omega, fun j v hj => ?_⟩
          obtain ⟨v0, hv0, hr0⟩ := j2 j v hj
          obtain ⟨q1, u, q2, q3, q4⟩ := k3 j v0 hv0
          exact ⟨by rw [(ren_leaf hr0).2]; exact q1, u, q2, q3, (q4.ren hm hr0).1⟩
        · simp only [renL, AV.ren, Option.bind_eq_some_iff, Option.map_eq_some_iff, Option.map_some, Option.some.injEq] at h1
          obtain ⟨x, ⟨cap', h5, rfl⟩, h6⟩ := h1
          exact .inr ⟨o, cap', h6.symm, k2, k3.ren hm h5⟩
      · simp only [packB, i2, obL_ren (w := w) (S := S) (Z := Z) (L := L) (g := g) (fun _ _ _ _ hl => ⟨hl, rfl⟩) h1]

/-- What a cell that is lent leaves. -/
def DetOK (C : Ctx) (g : Gh) (F F' : St) (a : Act) (w : World) (v' : AV) (x : Value) : Prop :=
  Rel (C.withR (addR C.R (ob1 v' x))) g F' a w ∧ Ext w (Safe C g F w) (live F) g w (Safe (C.withR (addR C.R (ob1 v' x))) g F' w) (live F') g ∧ leafI v' = true ∧
    IV1 w (Safe (C.withR (addR C.R (ob1 v' x))) g F' w) C.Z (live F') g v' x ∧ (ob1 v' x).Nodup ∧ (∀ b ∈ ob1 v' x, ¬ C.R b ∧ (C.W b ∨ C.w0.heap.size ≤ b) ∧ ∃ k, mutb g F k b) ∧
    (∀ p q, F' (.x p q) = F (.x p q)) ∧ (∀ k, F' (.s k) = F (.s k))

theorem DetOK.same (h : Rel C g F a w) {v : AV} {x : Value} (hv : VRs C g F w v x) (hl : v.leaf = true) (ho : ∀ e l, v ≠ .own e l) : DetOK C g F F a w v x := by
  have e0 : ob1 v x = [] := by cases v <;> first | rfl | exact absurd rfl (ho _ _)
  have e1 : IV1 w (Safe C g F w) C.Z (live F) g v x := by cases v <;> first | exact hv | exact absurd rfl (ho _ _)
  have e2 : leafI v = true := by cases v <;> first | exact hl | exact absurd rfl (ho _ _)
  unfold DetOK
  rw [e0, addR_nil, withR_self]
  exact ⟨h, .refl, e2, e1, List.nodup_nil, fun b hb => by simp at hb, fun _ _ => rfl, fun _ => rfl⟩

/-- A cell's row goes with it. -/
theorem detach1_sound (h : Rel C g F a w) {v v' : AV} {x : Value} {F' : St} (hv : VRs C g F w v x) (hl : v.leaf = true) (hr : (detach1 v).run F = some (v', F')) : DetOK C g F F' a w v' x := by
  cases v with
  | row p q =>
    cases hv with
    | row _ _ A n c hlv hρ =>
      simp only [detach1, Pr.run] at hr
      split at hr
      · rename_i e l hc
        simp only [Pr.run, Option.some.injEq, Prod.mk.injEq] at hr
        obtain ⟨rfl, rfl⟩ := hr
        obtain ⟨h1, h2⟩ := h.dropRow hc
        rw [hρ] at h1 h2
        have ho := h.owns p q e l hc
        rw [hρ] at ho
        refine ⟨h1, h2, rfl, ho.mono (fun _ _ => rfl) h2.block, ?_, fun b hb => ?_, fun _ _ => upd_other _ _ (by simp), fun _ => upd_other _ _ (by simp)⟩
        · simp only [ob1]; cases (Value.slice A n c).ownBlock <;> simp
        · have hmu : mutb g F (.r p q) b := ⟨⟨e, l, hc⟩, by rw [hρ]; simpa [ob1] using hb⟩
          exact ⟨(h.wr _ _ hmu).2, (h.wr _ _ hmu).1, _, hmu⟩
      · rename_i e l hc
        simp only [Pr.run, Option.some.injEq, Prod.mk.injEq] at hr
        obtain ⟨rfl, rfl⟩ := hr
        have hd := h.fros p q e l hc
        rw [hρ] at hd
        exact .same h (.d _ _ hd) rfl (by intros; simp)
      · cases hr
  | own e l => simp [AV.leaf] at hl
  | nils e =>
    simp only [detach1, Pr.run, Option.some.injEq, Prod.mk.injEq] at hr
    obtain ⟨rfl, rfl⟩ := hr
    cases hv
    have e0 : ob1 (.own e []) (.slice none 0 0) = [] := rfl
    unfold DetOK
    rw [e0, addR_nil, withR_self]
    exact ⟨h, .refl, rfl, .inl ⟨rfl, rfl⟩, List.nodup_nil, fun b hb => by simp at hb, fun _ _ => rfl, fun _ => rfl⟩
  | _ =>
    simp only [detach1, Pr.run, Option.some.injEq, Prod.mk.injEq] at hr
    obtain ⟨rfl, rfl⟩ := hr
    exact .same h hv hl (by intros; simp)

/-- What is lent, as a list. -/
def DetsOK (C : Ctx) (g : Gh) (F F' : St) (a : Act) (w : World) (c' : List AV) (xs : List Value) : Prop :=
  Rel (C.withR (addR C.R (obL c' xs))) g F' a w ∧ Ext w (Safe C g F w) (live F) g w (Safe (C.withR (addR C.R (obL c' xs))) g F' w) (live F') g ∧ c'.length = xs.length ∧
    (∀ (j : Nat) (v : AV) (x : Value), c'[j]? = some v → xs[j]? = some x → leafI v = true ∧ IV1 w (Safe (C.withR (addR C.R (obL c' xs))) g F' w) C.Z (live F') g v x) ∧ (obL c' xs).Nodup ∧
    (∀ b ∈ obL c' xs, ¬ C.R b ∧ (C.W b ∨ C.w0.heap.size ≤ b) ∧ ∃ k, mutb g F k b) ∧ (∀ p q, F' (.x p q) = F (.x p q)) ∧ (∀ k, F' (.s k) = F (.s k))

theorem mutb_back (h : Rel C g F a w) {F' : St} {R' : Nat → Prop} (h' : Rel (C.withR R') g F' a w) (hR : ∀ b, C.R b → R' b) (hx : ∀ p q, (∃ c, F' (.x p q) = .obj c) → ∃ c, F (.x p q) = .obj c)
    (hr : ∀ p q, (∃ e l, F' (.r p q) = .own e l) → ∃ e l, F (.r p q) = .own e l) {k : Key} {b : Nat} (hk : mutb g F' k b) : mutb g F k b := by
  cases k with
  | s k => exact hk.elim
  | x p q => exact ⟨hx p q hk.1, hk.2⟩
  | r p q => exact ⟨hr p q hk.1, hk.2⟩

theorem detach1_own {v v' : AV} {F F' : St} (hr : (detach1 v).run F = some (v', F')) : ∀ p q, (∃ e l, F' (.r p q) = .own e l) → ∃ e l, F (.r p q) = .own e l := by
  intro p q hh
  cases v with
  | row p' q' =>
    simp only [detach1, Pr.run] at hr
    split at hr
    · simp only [Pr.run, Option.some.injEq, Prod.mk.injEq] at hr
      obtain ⟨-, rfl⟩ := hr
      by_cases e1 : p = p' ∧ q = q'
      · obtain ⟨rfl, rfl⟩ := e1
        obtain ⟨e, l, h1⟩ := hh
        rw [upd_same] at h1; cases h1
      · obtain ⟨e, l, h1⟩ := hh
        rw [upd_other _ _ (by simpa using e1)] at h1
        exact ⟨e, l, h1⟩
    · simp only [Pr.run, Option.some.injEq, Prod.mk.injEq] at hr
      obtain ⟨-, rfl⟩ := hr
      exact hh
    · cases hr
  | _ => simp only [detach1, Pr.run, Option.some.injEq, Prod.mk.injEq] at hr; obtain ⟨-, rfl⟩ := hr; exact hh

theorem detachL_own : ∀ {c c' : List AV} {F F' : St}, (detachL c).run F = some (c', F') → ∀ p q, (∃ e l, F' (.r p q) = .own e l) → ∃ e l, F (.r p q) = .own e l := by
  intro c
  induction c with
  | nil => intro c' F F' hr p q hh; simp only [detachL, Pr.run, Option.some.injEq, Prod.mk.injEq] at hr; obtain ⟨-, rfl⟩ := hr; exact hh
  | cons v r ih =>
    intro c' F F' hr p q hh
    unfold detachL at hr
    obtain ⟨v1, F1, h1, hr2⟩ := Pr.bind_some hr
    obtain ⟨c1, F2, h2, hr3⟩ := Pr.bind_some hr2
    simp only [Pr.run, Option.some.injEq, Prod.mk.injEq] at hr3
    obtain ⟨-, rfl⟩ := hr3
    exact detach1_own h1 p q (ih h2 p q hh)

theorem detachL_sound : ∀ (c : List AV) {C : Ctx} {g : Gh} {F : St} (h : Rel C g F a w) {xs : List Value} {c' : List AV} {F' : St}, xs.length = c.length →
    (∀ (j : Nat) (v : AV) (x : Value), c[j]? = some v → xs[j]? = some x → v.leaf = true ∧ VRs C g F w v x) → (detachL c).run F = some (c', F') → DetsOK C g F F' a w c' xs := by
  intro c
  induction c with
  | nil =>
    intro C g F h xs c' F' hl hv hr
    simp only [detachL, Pr.run, Option.some.injEq, Prod.mk.injEq] at hr
    obtain ⟨rfl, rfl⟩ := hr
    have : xs = [] := List.eq_nil_of_length_eq_zero (by simpa using hl)
    subst this
    unfold DetsOK
    simp only [obL, addR_nil, withR_self]
    exact ⟨h, .refl, rfl, fun j v x hj => by simp at hj, List.nodup_nil, fun b hb => by simp at hb, fun _ _ => trivial, fun _ => trivial⟩
  | cons v r ih =>
    intro C g F h xs c' F' hl hv hr
    cases xs with
    | nil => simp at hl
    | cons x s =>
      unfold detachL at hr
      obtain ⟨v1, F1, h1, hr2⟩ := Pr.bind_some hr
      obtain ⟨c1, F2, h2, hr3⟩ := Pr.bind_some hr2
      simp only [Pr.run, Option.some.injEq, Prod.mk.injEq] at hr3
      obtain ⟨rfl, rfl⟩ := hr3
      obtain ⟨hl0, hv0⟩ := hv 0 v x rfl rfl
      obtain ⟨r1, e1, l1, q1, n1, b1, x1, s1⟩ := detach1_sound h hv0 hl0 h1
      obtain ⟨r2, e2, l2, q2, n2, b2, x2, s2⟩ := ih r1 (xs := s) (by simpa using hl) (fun j v' x' hj hx => by
        obtain ⟨k1, k2⟩ := hv (j + 1) v' x' (by simpa using hj) (by simpa using hx)
        exact ⟨k1, k2.mono e1⟩) h2
      have hRR : ((C.withR (addR C.R (ob1 v1 x))).withR (addR (C.withR (addR C.R (ob1 v1 x))).R (obL c1 s))) = C.withR (addR C.R (ob1 v1 x ++ obL c1 s)) := by
        rw [show (C.withR (addR C.R (ob1 v1 x))).R = addR C.R (ob1 v1 x) from rfl, addR_append]; rfl
      rw [hRR] at r2 e2 q2
      refine ⟨r2, e1.trans e2, by simp [l2], fun j v' x' hj hx => ?_, ?_, fun b hb => ?_, fun p q => (x2 p q).trans (x1 p q), fun k => (s2 k).trans (s1 k)⟩
      · cases j with
        | zero =>
          simp at hj hx; subst hj; subst hx
          exact ⟨l1, q1.mono e2 (fun _ _ => rfl)⟩
        | succ j => simp at hj hx; exact q2 j v' x' hj hx
      · simp only [obL]
        rw [List.nodup_append]
        exact ⟨n1, n2, fun b hb b' hb' e => (b2 b' hb').1 (.inr (e ▸ hb))⟩
      · simp only [obL, List.mem_append] at hb
        rcases hb with hb | hb
        · exact b1 b hb
        · obtain ⟨k1, k2, k, k3⟩ := b2 b hb
          refine ⟨fun hR => k1 (.inl hR), k2, k, mutb_back h r1 (fun b hb => .inl hb) (fun p q hh => by rw [x1] at hh; exact hh) (detach1_own h1) k3⟩

/-- Variables are lent. -/
theorem lend_sound : ∀ (vs : List (Nat × Nat)) {C : Ctx} {g : Gh} {F : St} (h : Rel C g F a w) {cs : List (List AV)} {F' : St}, (lend vs).run F = some (cs, F') →
    ∃ s : List (Nat × Array Value), Rel (C.withR (addR C.R (packB cs s))) g F' a w ∧ Ext w (Safe C g F w) (live F) g w (Safe (C.withR (addR C.R (packB cs s))) g F' w) (live F') g ∧
      PackR w (Safe (C.withR (addR C.R (packB cs s))) g F' w) C.Z (live F') g cs s ∧ s.length = vs.length ∧ cs.length = vs.length ∧
      (∀ (i : Nat) (p : Nat × Nat) (y : Nat × Array Value), vs[i]? = some p → s[i]? = some y → g.η p.1 p.2 = y.1) ∧ (packB cs s).Nodup ∧
      (∀ b ∈ packB cs s, ¬ C.R b ∧ (C.W b ∨ C.w0.heap.size ≤ b) ∧ ∃ k, mutb g F k b) ∧ (∀ p ∈ vs, F' (.x p.1 p.2) = .gone) ∧ (∀ p q, F (.x p q) = .gone → F' (.x p q) = .gone) ∧ (∀ k, F' (.s k) = F (.s k)) := by
  intro vs
  induction vs with
  | nil =>
    intro C g F h cs F' hr
    simp only [lend, Pr.run, Option.some.injEq, Prod.mk.injEq] at hr
    obtain ⟨rfl, rfl⟩ := hr
    refine ⟨[], ?_⟩
    simp only [packB, addR_nil, withR_self]
    exact ⟨h, .refl, trivial, rfl, rfl, fun i p y hp => by simp at hp, List.nodup_nil, fun b hb => by simp at hb, fun p hp => by simp at hp, fun p q hh => hh, fun _ => trivial⟩
  | cons p vs ih =>
    intro C g F h cs F' hr
    simp only [lend, Pr.run] at hr
    split at hr
    · rename_i c hc
      obtain ⟨c', F1, h1, hr2⟩ := Pr.bind_some hr
      simp only [Pr.run] at hr2
      obtain ⟨cs', F2, h2, hr3⟩ := Pr.bind_some hr2
      simp only [Pr.run, Option.some.injEq, Prod.mk.injEq] at hr3
      obtain ⟨rfl, rfl⟩ := hr3
      obtain ⟨xs, r1, e1, q1, n1, b1, x1, s1⟩ : ∃ xs : Array Value, Rel (C.withR (addR C.R (obL c' xs.toList))) g F1 a w ∧ Ext w (Safe C g F w) (live F) g w (Safe (C.withR (addR C.R (obL c' xs.toList))) g F1 w) (live F1) g ∧
          (∀ {S' : Nat → Prop} {L' : Key → Prop}, Ext w (Safe (C.withR (addR C.R (obL c' xs.toList))) g F1 w) (live F1) g w S' L' g →
            ((∃ e, w.heap[g.η p.1 p.2]? = some (.cells xs e (0, 0))) ∧ xs.size = c'.length ∧ (∀ (j : Nat) (v : AV), c'[j]? = some v → leafI v = true ∧ ∃ u, xs[j]? = some u ∧ u.oneCell' = true ∧ IV1 w S' C.Z L' g v u)) ∨
            ∃ o cap, c' = [.ob o cap] ∧ xs = #[] ∧ ObR w S' C.Z L' g (g.η p.1 p.2) o cap) ∧
          (obL c' xs.toList).Nodup ∧ (∀ b ∈ obL c' xs.toList, ¬ C.R b ∧ (C.W b ∨ C.w0.heap.size ≤ b) ∧ ∃ k, mutb g F k b) ∧ (∀ p q, F1 (.x p q) = F (.x p q)) ∧ (∀ k, F1 (.s k) = F (.s k)) := by
        rcases h.vars p.1 p.2 c hc with ⟨xs, e, hh, hsz, hcs⟩ | ⟨o, cap, rfl, ho⟩
        · obtain ⟨r1, e1, l1, q1, n1, b1, x1, s1⟩ := detachL_sound c h (xs := xs.toList) (by simpa using hsz) (fun j v x hj hx => by
            obtain ⟨k1, u, k2, -, k4⟩ := hcs j v hj
            have : x = u := by simp only [Array.getElem?_toList] at hx; rw [k2] at hx; simpa using hx.symm
            rw [this]; exact ⟨k1, k4⟩) h1
          have hone : ∀ (j : Nat) (u : Value), xs[j]? = some u → u.oneCell' = true := fun j u hu => by
            have hj : j < c.length := by rw [← hsz]; exact (Array.getElem?_eq_some_iff.1 hu).1
            obtain ⟨-, u', k2, k3, -⟩ := hcs j _ (List.getElem?_eq_getElem hj)
            rw [hu] at k2; obtain rfl : u = u' := by simpa using k2
            exact k3
          refine ⟨xs, r1, e1, fun hx => .inl ⟨⟨e, hh⟩, by rw [l1]; simp, fun j v hj => ?_⟩, n1, b1, x1, s1⟩
          have hj' : j < xs.size := by have := (List.getElem?_eq_some_iff.1 hj).1; rw [l1] at this; simpa using this
          have hu : xs[j]? = some xs[j] := Array.getElem?_eq_getElem hj'
          obtain ⟨k1, k2⟩ := q1 j v xs[j] hj (by simp [hj'])
          exact ⟨k1, xs[j], hu, hone j _ hu, k2.mono hx (fun _ _ => rfl)⟩
        · simp only [detachL, detach1, Pr.bind, Pr.run, Option.some.injEq, Prod.mk.injEq] at h1
          obtain ⟨rfl, rfl⟩ := h1
          refine ⟨#[], ?_⟩
          have : obL [AV.ob o cap] (#[] : Array Value).toList = [] := rfl
          simp only [this, addR_nil, withR_self]
          exact ⟨h, .refl, fun hx => .inr ⟨o, cap, rfl, trivial, ho.mono hx rfl⟩, List.nodup_nil, fun b hb => by simp at hb, fun _ _ => trivial, fun _ => trivial⟩
      have hc1 : F1 (.x p.1 p.2) = .obj c := by rw [x1]; exact hc
      obtain ⟨r2, e2⟩ := r1.dropVar hc1
      have hR2 : ((C.withR (addR C.R (obL c' xs.toList))).withR (addR (C.withR (addR C.R (obL c' xs.toList))).R [g.η p.1 p.2])) = C.withR (addR C.R (g.η p.1 p.2 :: obL c' xs.toList)) := by
        unfold Ctx.withR
        congr 1
        funext b; apply propext; simp only [addR, List.mem_cons, List.mem_nil_iff, or_false]
        exact ⟨fun hh => by rcases hh with (h1 | h1) | h1; exact .inl h1; exact .inr (.inr h1); exact .inr (.inl h1), fun hh => by rcases hh with h1 | h1 | h1; exact .inl (.inl h1); exact .inr h1; exact .inl (.inr h1)⟩
      rw [hR2] at r2 e2
      obtain ⟨s, r3, e3, p3, ls, lc, hη, n3, b3, g3, gg3, s3⟩ := ih r2 h2
      have hR3 : ((C.withR (addR C.R (g.η p.1 p.2 :: obL c' xs.toList))).withR (addR (C.withR (addR C.R (g.η p.1 p.2 :: obL c' xs.toList))).R (packB cs' s))) = C.withR (addR C.R (g.η p.1 p.2 :: (obL c' xs.toList ++ packB cs' s))) := by
        rw [show (C.withR (addR C.R (g.η p.1 p.2 :: obL c' xs.toList))).R = addR C.R (g.η p.1 p.2 :: obL c' xs.toList) from rfl, addR_append]; rfl
      rw [hR3] at r3 e3 p3
      have hmuv : mutb g F1 (.x p.1 p.2) (g.η p.1 p.2) := ⟨⟨c, hc1⟩, rfl⟩
      refine ⟨(g.η p.1 p.2, xs) :: s, r3, (e1.trans e2).trans e3, ⟨q1 (e2.trans e3), p3⟩, by simp [ls], by simp [lc], fun i p' y hp hy => ?_, ?_, fun b hb => ?_, fun p' hp' => ?_, fun p' q' hh => ?_, fun k => ?_⟩
      · cases i with
        | zero => simp at hp hy; subst hp; subst hy; rfl
        | succ i => simp at hp hy; exact hη i p' y hp hy
      · simp only [packB]
        rw [List.nodup_cons, List.nodup_append]
        refine ⟨fun hb => ?_, n1, n3, fun b hb b' hb' e => (b3 b' hb').1 (.inr (List.mem_cons_of_mem _ (e ▸ hb)))⟩
        rcases List.mem_append.1 hb with hb | hb
        · exact (r1.wr _ _ hmuv).2 (.inr hb)
        · exact (b3 _ hb).1 (.inr (by simp))
      · simp only [packB, List.mem_cons, List.mem_append] at hb
        have hmu : mutb g F (.x p.1 p.2) (g.η p.1 p.2) := ⟨⟨c, hc⟩, rfl⟩
        rcases hb with rfl | hb | hb
        · exact ⟨(h.wr _ _ hmu).2, (h.wr _ _ hmu).1, _, hmu⟩
        · exact b1 b hb
        · obtain ⟨k1, k2, k, k3⟩ := b3 b hb
          refine ⟨fun hR => k1 (.inl hR), k2, k, mutb_back h r2 (fun b hb => .inl hb) (fun p' q' hh => ?_) (fun p' q' hh => ?_) k3⟩
          · obtain ⟨c0, h0⟩ := hh
            by_cases e1 : p' = p.1 ∧ q' = p.2
            · obtain ⟨rfl, rfl⟩ := e1; rw [upd_same] at h0; cases h0
            · rw [upd_other _ _ (by simpa using e1), x1] at h0; exact ⟨c0, h0⟩
          · obtain ⟨e0, l0, h0⟩ := hh
            rw [upd_other _ _ (by simp)] at h0
            exact detachL_own h1 p' q' ⟨e0, l0, h0⟩
      · rcases List.mem_cons.1 hp' with rfl | hp'
        · exact gg3 _ _ (upd_same _ _ _)
        · exact g3 p' hp'
      · refine gg3 _ _ ?_
        by_cases e1 : p' = p.1 ∧ q' = p.2
        · obtain ⟨rfl, rfl⟩ := e1; exact upd_same _ _ _
        · rw [upd_other _ _ (by simpa using e1), x1]; exact hh
      · rw [s3, upd_other _ _ (by simp), s1]
    · cases hr
end
end Go.Eng
end

section
namespace Go.Eng
open Go

section
variable {P : Program} {E : Env} {C : Ctx} {g : Gh} {F : St} {a : Act} {w : World}

/-- A result that has been taken up. -/
def AttOK (C : Ctx) (g : Gh) (F F' : St) (a : Act) (w : World) (v' : AV) (x : Value) (l : List Nat) : Prop :=
  ∃ g', Rel (C.withR (unR C.R l)) g' F' a w ∧ Ext w (Safe C g F w) (live F) g w (Safe (C.withR (unR C.R l)) g' F' w) (live F') g' ∧ VRs (C.withR (unR C.R l)) g' F' w v' x

theorem safe_dead {p q b0 : Nat} (hd : F (.x p q) = .dead) : ∀ b, Safe C g F w b → Safe C (g.setη p q b0) (F.upd (.x p q) .gone) w b := fun b hb => by
  refine ⟨hb.1, fun k hk => hb.2.1 k ?_, hb.2.2⟩
  cases k with
  | s k => exact hk.elim
  | x p' q' =>
    obtain ⟨⟨c', hc'⟩, hb'⟩ := hk
    by_cases e1 : p' = p ∧ q' = q
    · obtain ⟨rfl, rfl⟩ := e1
      rw [upd_same] at hc'; cases hc'
    · rw [upd_other _ _ (by simpa using e1)] at hc'
      exact ⟨⟨c', hc'⟩, by simpa [Gh.setη, e1] using hb'⟩
  | r p' q' =>
    obtain ⟨⟨e', l', hc'⟩, hb'⟩ := hk
    rw [upd_other _ _ (by simp)] at hc'
    exact ⟨⟨e', l', hc'⟩, hb'⟩

theorem attachB_sound (u : Nat) : ∀ (c : List AV) {C : Ctx} {g : Gh} {F : St} (h : Rel C g F a w) {n : Nat} {xs : List Value} {c' : List AV} {F' : St} (S : Nat → Prop), (∀ b, S b → Safe C g F w b) → xs.length = c.length →
    (∀ (j : Nat) (v : AV) (x : Value), c[j]? = some v → xs[j]? = some x → IVB w S C.Z v x) → (∀ b ∈ obB c xs, C.R b ∧ (C.W b ∨ C.w0.heap.size ≤ b)) → (obB c xs).Nodup →
    (attachB u n c).run F = some (c', F') →
    ∃ g', Rel (C.withR (unR C.R (obB c xs))) g' F' a w ∧ Ext w (Safe C g F w) (live F) g w (Safe (C.withR (unR C.R (obB c xs))) g' F' w) (live F') g' ∧ c'.length = c.length ∧
      (∀ (j : Nat) (v : AV) (x : Value), c'[j]? = some v → xs[j]? = some x → VRs (C.withR (unR C.R (obB c xs))) g' F' w v x) := by
  intro c
  induction c with
  | nil =>
    intro C g F h n xs c' F' S hS hl hv hR hnd hr
    simp only [attachB, Pr.run, Option.some.injEq, Prod.mk.injEq] at hr
    obtain ⟨rfl, rfl⟩ := hr
    simp only [obB, unR_nil, withR_self]
    exact ⟨g, h, .refl, trivial, fun j v x hj => by simp at hj⟩
  | cons v r ih =>
    intro C g F h n xs c' F' S hS hl hv hR hnd hr
    cases xs with
    | nil => simp at hl
    | cons x s =>
      have hv0 := hv 0 v x rfl rfl
      cases v with
      | bx l =>
        obtain ⟨b, cs, e, rfl, k2, k3, k4⟩ := hv0
        simp only [obB, obB1, List.singleton_append] at hR hnd ⊢
        simp only [attachB] at hr
        obtain ⟨v1, F1, h1, hr2⟩ := Pr.bind_some hr
        obtain ⟨c1, F2, h2, hr3⟩ := Pr.bind_some hr2
        simp only [Pr.run, Option.some.injEq, Prod.mk.injEq] at hr3
        obtain ⟨rfl, rfl⟩ := hr3
        simp only [newVar, Pr.run] at h1
        split at h1
        · rename_i hd
          simp only [Pr.run, Option.some.injEq, Prod.mk.injEq] at h1
          obtain ⟨rfl, rfl⟩ := h1
          have hb := hR b (by simp)
          obtain ⟨r1, e1⟩ := h.adoptVar (p := u) (q := n) (b0 := b) (c := l.map .d) ⟨fun c hc => (by rw [hd] at hc; cases hc), .inl hd⟩ (.inl ⟨cs, e, k2, by simpa using k3, fun j v hj => by
            simp only [List.getElem?_map, Option.map_eq_some_iff] at hj
            obtain ⟨x, hx, rfl⟩ := hj
            obtain ⟨m1, y, m2, m3, m4⟩ := k4 j x hx
            exact ⟨m1, y, m2, m3, .d _ _ (m4.mono fun b' hb' => ⟨safe_dead hd b' (hS b' hb'), rfl⟩)⟩⟩) hb
          have hnd2 := List.nodup_cons.1 hnd
          obtain ⟨g2, r2, e2, l2, q2⟩ := ih r1 (n := n + 1) (xs := s) S (fun b' hb' => (e1.block b' (hS b' hb')).1) (by simpa using hl) (fun j v' x' hj hx => hv (j + 1) v' x' (by simpa using hj) (by simpa using hx))
            (fun b' hb' => ⟨⟨(hR b' (List.mem_cons_of_mem _ hb')).1, fun he => hnd2.1 (by rw [show b' = b by simpa using he] at hb'; exact hb')⟩, (hR b' (List.mem_cons_of_mem _ hb')).2⟩) hnd2.2 h2
          have hRR : unR (C.withR (unR C.R [b])).R (obB r s) = unR C.R (b :: obB r s) := unR_append _ _ _
          rw [show ((C.withR (unR C.R [b])).withR (unR (C.withR (unR C.R [b])).R (obB r s))) = C.withR (unR C.R (b :: obB r s)) by rw [hRR]; rfl] at r2 e2 q2
          refine ⟨g2, r2, e1.trans e2, by simp [l2], fun j v' x' hj hx => ?_⟩
          cases j with
          | zero =>
            simp at hj hx; subst hj; subst hx
            have hp : VRs (C.withR (unR C.R [b])) (g.setη u n b) (F.upd (.x u n) (.obj (l.map .d))) w (.ptr u n 0) (.pointer (some ⟨(g.setη u n b).η u n, 0, none⟩)) := .ptr u n 0 (by simp [live, St.upd])
            rw [show (g.setη u n b).η u n = b by simp [Gh.setη]] at hp
            exact hp.mono e2
          | succ j => simp at hj hx; exact q2 j v' x' hj hx
        · cases h1
      | d y =>
        simp only [obB, obB1, List.nil_append] at hR hnd ⊢
        simp only [attachB] at hr
        obtain ⟨c1, F2, h2, hr3⟩ := Pr.bind_some hr
        simp only [Pr.run, Option.some.injEq, Prod.mk.injEq] at hr3
        obtain ⟨rfl, rfl⟩ := hr3
        obtain ⟨g2, r2, e2, l2, q2⟩ := ih h (n := n + 1) (xs := s) S hS (by simpa using hl) (fun j v' x' hj hx => hv (j + 1) v' x' (by simpa using hj) (by simpa using hx)) hR hnd h2
        refine ⟨g2, r2, e2, by simp [l2], fun j v' x' hj hx => ?_⟩
        cases j with
        | zero =>
          simp at hj hx; subst hj; subst hx
          exact (VR.d (g := g) (L := live F) _ _ (DR.mono (fun b' hb' => ⟨hS b' hb', rfl⟩) hv0)).mono e2
        | succ j => simp at hj hx; exact q2 j v' x' hj hx
      | _ => exact hv0.elim

theorem attach2_sound (h : Rel C g F a w) {u n : Nat} {v v' : AV} {x : Value} {F' : St} (S : Nat → Prop) (hS : ∀ b, S b → Safe C g F w b) (hv : IV2 w S C.Z (live F) g v x) (hnt : isTup v = false) (hR : ∀ b ∈ ob2 v x, C.R b ∧ (C.W b ∨ C.w0.heap.size ≤ b))
    (hnd : (ob2 v x).Nodup) (hr : (attach2 u n v).run F = some (v', F')) : AttOK C g F F' a w v' x (ob2 v x) := by
  cases v with
  | agg c =>
    obtain ⟨cs, rfl, hl, hc⟩ := hv
    simp only [ob2] at hR hnd ⊢
    obtain ⟨c', F1, h1, hr2⟩ := Pr.bind_some hr
    simp only [Pr.run, Option.some.injEq, Prod.mk.injEq] at hr2
    obtain ⟨rfl, rfl⟩ := hr2
    obtain ⟨g1, r1, e1, l1, q1, -, -⟩ := attachL_sound u c h (n := n) (xs := cs.toList) S hS (by simpa using hl.symm) (fun j v x hj hx => hc j v x hj (by simpa using hx)) hR hnd h1
    refine ⟨g1, r1, e1, .agg c' cs (by omega) (fun y hy => ?_) (fun j v x hj hx => (q1 j v x hj (by simpa using hx)).2)⟩
    obtain ⟨j, hj⟩ := List.mem_iff_getElem?.1 hy
    have hlt : j < cs.size := by have := (List.getElem?_eq_some_iff.1 hj).1; omega
    exact (q1 j y cs[j] hj (by simp [hlt])).1
  | fn f y c =>
    obtain ⟨cs, rfl, rfl, hl, hc⟩ := hv
    simp only [ob2] at hR hnd ⊢
    simp only [attach2] at hr
    obtain ⟨c', F1, h1, hr2⟩ := Pr.bind_some hr
    simp only [Pr.run, Option.some.injEq, Prod.mk.injEq] at hr2
    obtain ⟨rfl, rfl⟩ := hr2
    obtain ⟨g1, r1, e1, l1, q1⟩ := attachB_sound u c h (n := n) (xs := cs.toList) S hS (by simpa using hl.symm) (fun j v x hj hx => hc j v x hj (by simpa using hx)) hR hnd h1
    exact ⟨g1, r1, e1, .fn f [] c' #[] cs rfl (by omega) (fun j a u hj => by simp at hj) (fun j v x hj hx => q1 j v x hj (by simpa using hx))⟩
  | tup => simp [isTup] at hnt
  | own e l =>
    have hv' : IV1 w (Safe C g F w) C.Z (live F) g (.own e l) x := IV1.mono (v := .own e l) ⟨fun b hb => ⟨hS b hb, rfl⟩, fun _ _ hp => ⟨hp, rfl⟩, fun _ _ hp => ⟨hp, rfl⟩⟩ hv (fun _ _ => rfl)
    obtain ⟨g1, r1, e1, -, q1, -, -⟩ := attach1_sound h hv' rfl hR hr
    exact ⟨g1, r1, e1, q1⟩
  | _ =>
    simp only [attach2, attach1, Pr.run, Option.some.injEq, Prod.mk.injEq] at hr
    obtain ⟨rfl, rfl⟩ := hr
    refine ⟨g, ?_⟩
    simp only [ob2, ob1, unR_nil, withR_self]
    exact ⟨h, .refl, VR.mono ⟨fun b hb => ⟨hS b hb, rfl⟩, fun _ _ hp => ⟨hp, rfl⟩, fun _ _ hp => ⟨hp, rfl⟩⟩ hv⟩

theorem IV2_mono {w : World} {S S0 S0' : Nat → Prop} {Z : TypeId → Option Ty} {L L' : Key → Prop} {g g' : Gh} (H : Ext w S0 L g w S0' L' g') {v : AV} {x : Value} (h : IV2 w S Z L g v x) : IV2 w S Z L' g' v x := by
  have H' : Ext w S L g w S L' g' := ⟨fun b hb => ⟨hb, rfl⟩, H.x, H.r⟩
  cases v with
  | agg l =>
    obtain ⟨cs, h1, h2, h3⟩ := h
    exact ⟨cs, h1, h2, fun j v u hj hu => ⟨(h3 j v u hj hu).1, (h3 j v u hj hu).2.mono H' (fun _ _ => rfl)⟩⟩
  | own e l => exact h
  | fn f y c => exact h
  | _ => exact VR.mono H' h

theorem attachTup_sound (u : Nat) : ∀ (l : List AV) {C : Ctx} {g : Gh} {F : St} (h : Rel C g F a w) {n : Nat} {xs : List Value} {l' : List AV} {F' : St} (S : Nat → Prop), (∀ b, S b → Safe C g F w b) → xs.length = l.length →
    (∀ v ∈ l, isTup v = false) → (∀ (j : Nat) (v : AV) (x : Value), l[j]? = some v → xs[j]? = some x → IV2 w S C.Z (live F) g v x) → (∀ b ∈ obT l xs, C.R b ∧ (C.W b ∨ C.w0.heap.size ≤ b)) → (obT l xs).Nodup →
    (attachTup u n l).run F = some (l', F') →
    ∃ g', Rel (C.withR (unR C.R (obT l xs))) g' F' a w ∧ Ext w (Safe C g F w) (live F) g w (Safe (C.withR (unR C.R (obT l xs))) g' F' w) (live F') g' ∧ l'.length = l.length ∧
      (∀ (j : Nat) (v : AV) (x : Value), l'[j]? = some v → xs[j]? = some x → VRs (C.withR (unR C.R (obT l xs))) g' F' w v x) := by
  intro l
  induction l with
  | nil =>
    intro C g F h n xs l' F' S hS hl ht hv hR hnd hr
    simp only [attachTup, Pr.run, Option.some.injEq, Prod.mk.injEq] at hr
    obtain ⟨rfl, rfl⟩ := hr
    simp only [obT, unR_nil, withR_self]
    exact ⟨g, h, .refl, trivial, fun j v x hj => by simp at hj⟩
  | cons v r ih =>
    intro C g F h n xs l' F' S hS hl ht hv hR hnd hr
    cases xs with
    | nil => simp at hl
    | cons x s =>
      unfold attachTup at hr
      obtain ⟨v1, F1, h1, hr2⟩ := Pr.bind_some hr
      obtain ⟨l1, F2, h2, hr3⟩ := Pr.bind_some hr2
      simp only [Pr.run, Option.some.injEq, Prod.mk.injEq] at hr3
      obtain ⟨rfl, rfl⟩ := hr3
      simp only [obT] at hR hnd ⊢
      have hnd2 := List.nodup_append.1 hnd
      obtain ⟨g1, r1, e1, q1⟩ := attach2_sound h S hS (hv 0 v x rfl rfl) (ht v (by simp)) (fun b hb => hR b (List.mem_append_left _ hb)) hnd2.1 h1
      obtain ⟨g2, r2, e2, l2, q2⟩ := ih r1 (n := n + 1) (xs := s) S (fun b hb => (e1.block b (hS b hb)).1) (by simpa using hl) (fun v' hv' => ht v' (by simp [hv']))
        (fun j v' x' hj hx => IV2_mono e1 (hv (j + 1) v' x' (by simpa using hj) (by simpa using hx)))
        (fun b hb => ⟨⟨(hR b (List.mem_append_right _ hb)).1, fun hb' => hnd2.2.2 b hb' b hb rfl⟩, (hR b (List.mem_append_right _ hb)).2⟩) hnd2.2.1 h2
      have hRR : ((C.withR (unR C.R (ob2 v x))).withR (unR (C.withR (unR C.R (ob2 v x))).R (obT r s))) = C.withR (unR C.R (ob2 v x ++ obT r s)) := by
        rw [show (C.withR (unR C.R (ob2 v x))).R = unR C.R (ob2 v x) from rfl, unR_append]; rfl
      rw [hRR] at r2 e2 q2
      refine ⟨g2, r2, e1.trans e2, by simp [l2], fun j v' x' hj hx => ?_⟩
      cases j with
      | zero => simp at hj hx; subst hj; subst hx; exact q1.mono e2
      | succ j => simp at hj hx; exact q2 j v' x' hj hx

theorem attach_sound (h : Rel C g F a w) {u : Nat} {v v' : AV} {x : Value} {F' : St} (S : Nat → Prop) (hS : ∀ b, S b → Safe C g F w b) (hv : IV w S C.Z (live F) g v x) (hnt : ∀ l, v = .tup l → ∀ y ∈ l, isTup y = false)
    (hR : ∀ b ∈ ob v x, C.R b ∧ (C.W b ∨ C.w0.heap.size ≤ b)) (hnd : (ob v x).Nodup) (hr : (attach u v).run F = some (v', F')) : AttOK C g F F' a w v' x (ob v x) := by
  cases v with
  | tup l =>
    obtain ⟨vs, rfl, hl, hc⟩ := hv
    simp only [ob] at hR hnd ⊢
    simp only [attach] at hr
    obtain ⟨l', F1, h1, hr2⟩ := Pr.bind_some hr
    simp only [Pr.run, Option.some.injEq, Prod.mk.injEq] at hr2
    obtain ⟨rfl, rfl⟩ := hr2
    obtain ⟨g1, r1, e1, l1, q1⟩ := attachTup_sound u l h (n := 1) (xs := vs.toList) S hS (by simpa using hl.symm) (hnt l rfl) (fun j v x hj hx => hc j v x hj (by simpa using hx)) hR hnd h1
    exact ⟨g1, r1, e1, .tup l' vs (by omega) (fun j v x hj hx => q1 j v x hj (by simpa using hx))⟩
  | agg c => exact attach2_sound h (u := u) (v := .agg c) (n := 100) S hS hv rfl hR hnd hr
  | own e l => exact attach2_sound h (u := u) (v := .own e l) (n := 100) S hS hv rfl hR hnd hr
  | d y => exact attach2_sound h (u := u) (v := .d y) (n := 100) S hS hv rfl hR hnd hr
  | nils e => exact attach2_sound h (u := u) (v := .nils e) (n := 100) S hS hv rfl hR hnd hr
  | row p q => exact attach2_sound h (u := u) (v := .row p q) (n := 100) S hS hv rfl hR hnd hr
  | ptr p q o => exact attach2_sound h (u := u) (v := .ptr p q o) (n := 100) S hS hv rfl hR hnd hr
  | eS e l i o => exact attach2_sound h (u := u) (v := .eS e l i o) (n := 100) S hS hv rfl hR hnd hr
  | eR p q e i o => exact attach2_sound h (u := u) (v := .eR p q e i o) (n := 100) S hS hv rfl hR hnd hr
  | fn f y c => exact attach2_sound h (u := u) (v := .fn f y c) (n := 100) S hS hv rfl hR hnd hr
  | bx l => exact attach2_sound h (u := u) (v := .bx l) (n := 100) S hS hv rfl hR hnd hr
  | yf p q => exact attach2_sound h (u := u) (v := .yf p q) (n := 100) S hS hv rfl hR hnd hr
  | ob o cap => exact attach2_sound h (u := u) (v := .ob o cap) (n := 100) S hS hv rfl hR hnd hr

/-! What a call means. -/
def Lk (n : Nat) : Key → Prop := fun k => ∃ i, i < n ∧ k = .x i 1
def gk (s : List (Nat × Array Value)) : Gh := ⟨fun p _ => (s.getD p (0, #[])).1, fun _ _ => undef⟩

structure InOK (Z : TypeId → Option Ty) (w : World) (S : Nat → Prop) (args : List AV) (vals : List Value) (pack : List (List AV)) (s : List (Nat × Array Value)) : Prop where
  len : args.length = vals.length
  val : ∀ (j : Nat) (v : AV) (x : Value), args[j]? = some v → vals[j]? = some x → VR w S Z (Lk s.length) (gk s) v x
  pk : PackR w S Z (Lk s.length) (gk s) pack s
  nodup : (packB pack s).Nodup
  safe : ∀ b, S b → b < w.heap.size ∧ b ∉ packB pack s
  lt : ∀ b ∈ packB pack s, b < w.heap.size
  tabs : TabsOK w S Z

structure OutOK (Z : TypeId → Option Ty) (w : World) (S : Nat → Prop) (BL : List Nat) (s : List (Nat × Array Value)) (w' : World) (S' : Nat → Prop) (res : AV) (v : Value) (out : List (List AV)) (s' : List (Nat × Array Value)) : Prop where
  keep : Keep w (fun b => b ∈ BL) w'
  same : s'.map (·.1) = s.map (·.1)
  val : IV w' S' Z (fun _ => False) (gk []) res v
  flat : ∀ l, res = .tup l → ∀ y ∈ l, isTup y = false
  pk : PackR w' S' Z (Lk s'.length) (gk s') out s'
  nodup : (ob res v ++ packB out s').Nodup
  safe : ∀ b, S' b → b < w'.heap.size ∧ b ∉ ob res v ++ packB out s'
  lt : ∀ b ∈ ob res v ++ packB out s', b < w'.heap.size ∧ (b ∈ BL ∨ w.heap.size ≤ b)
  src : ∀ b, S' b → S b ∨ b ∈ BL ∨ w.heap.size ≤ b

def Enterable (P : Program) (f : FuncId) : Prop := ∃ fn, P.funcs[f]? = some fn ∧ fn.body.isSome = true ∧ fn.name ≠ "runtime.NumGoroutine"

def CallOK (P : Program) (Z : TypeId → Option Ty) (f : FuncId) (args : List AV) (pack : List (List AV)) (res : AV) (out : List (List AV)) : Prop :=
  Enterable P f ∧ ∀ (w : World) (S : Nat → Prop) (cargs : Array Value) (s : List (Nat × Array Value)), InOK Z w S args cargs.toList pack s →
    Calls P f cargs w (fun e w' => ∃ v S' s', e = .returned v ∧ OutOK Z w S (packB pack s) s w' S' res v out s')

/-- What a round means. -/
def RoundOf (P : Program) (cargs : Array Value) (w : World) (R : Ending → World → Prop) : Prop :=
  ∃ (l : Nat) (r : Loop) (ys : Array Value), cargs = ys.push (.func (.yield l) #[] #[]) ∧ w.heap[l]? = some (.loop r) ∧ ys.size = r.params.size ∧
    RoundIn Fence.wide 0 P l r.fn ((r.params.zip ys).foldl (fun tmps (t, a) => tmps.setIfInBounds t a) r.tmps) r.assign r.body w R

def RoundOK (P : Program) (Z : TypeId → Option Ty) (args : List AV) (pack : List (List AV)) (res : AV) (out : List (List AV)) : Prop :=
  ∀ (w : World) (S : Nat → Prop) (cargs : Array Value) (s : List (Nat × Array Value)), InOK Z w S args cargs.toList pack s →
    RoundOf P cargs w (fun e w' => ∃ v S' s', e = .returned v ∧ OutOK Z w S (packB pack s) s w' S' res v out s')

def SoundEv (P : Program) (Z : TypeId → Option Ty) (ev : Ev) : Prop := ∀ f args pack res out, ev f args pack = some (res, out) →
  (f ≠ rnd → CallOK P Z f args pack res out) ∧ (f = rnd → RoundOK P Z args pack res out)

theorem RoundOf.mono {P : Program} {cargs : Array Value} {w : World} {R R' : Ending → World → Prop} (h : RoundOf P cargs w R) (hR : ∀ e w', R e w' → R' e w') : RoundOf P cargs w R' := by
  obtain ⟨l, r, ys, h1, h2, h3, h4⟩ := h
  exact ⟨l, r, ys, h1, h2, h3, h4.mono hR⟩

/-- The world behind a call. -/
theorem Rel.behind {R1 R2 : Nat → Prop} (h : Rel (C.withR R1) g F a w) {w' : World} {BL : List Nat} (hk : Keep w (fun b => b ∈ BL) w') (hBL : ∀ b ∈ BL, R1 b ∧ (C.W b ∨ C.w0.heap.size ≤ b)) (hR2 : ∀ b, R2 b → R1 b ∨ w.heap.size ≤ b)
    (hlt : ∀ b, R2 b → b < w'.heap.size) : Rel (C.withR R2) g F a w' ∧ Ext w (Safe (C.withR R1) g F w) (live F) g w' (Safe (C.withR R2) g F w') (live F) g := by
  have hmb : ∀ k b, mutb g F k b → b < w.heap.size ∧ b ∉ BL := fun k b hm => ⟨mutb_lt h hm, fun hb => (h.wr k b hm).2 (hBL b hb).1⟩
  have hx := h.updateR (R' := R2) (g' := g) (F' := F) (w' := w') (fun b hb => hk.block b hb.1 (fun hb' => hb.2.2.2 (hBL b hb').1)) hk.size (fun k b hm => .inl ⟨k, hm⟩)
    (fun b hb => by rcases hR2 b hb with h1 | h1; exact .inr (.inl h1); exact .inr (.inr h1)) (fun _ hk => hk) (fun _ _ _ => rfl) (fun _ _ _ => rfl)
  refine ⟨h.changeR hx (fun k v hv => ⟨hv, rfl⟩) (fun p q c hc => .inl ⟨hc, ?_⟩) (fun p q e l hc => .inl ⟨hc, fun b hb => ?_⟩) (fun p q e l hc => hc) h.inj (fun k b hm => ⟨(h.wr k b hm).1, fun hr => ?_⟩) hlt ?_ rfl h.size, hx⟩
  · have := hmb (.x p q) _ ⟨⟨c, hc⟩, rfl⟩
    exact hk.block _ this.1 this.2
  · have := hmb (.r p q) b ⟨⟨e, l, hc⟩, hb⟩
    exact hk.block _ this.1 this.2
  · rcases hR2 b hr with h1 | h1
    · exact (h.wr k b hm).2 h1
    · have := (hmb k b hm).1; omega
  · have k0 := h.keep
    exact ⟨hk.os.trans k0.os, hk.tape.trans k0.tape, hk.output.trans k0.output, Nat.le_trans k0.size hk.size, fun b hb hW => (hk.block b (Nat.lt_of_lt_of_le hb k0.size) (fun hb' => by
      rcases (hBL b hb').2 with h1 | h1
      · exact hW h1
      · exact absurd hb (by have : (C.withR R1).w0.heap.size ≤ b := h1; omega))).trans (k0.block b hb hW)⟩
end
end Go.Eng
end

section
namespace Go.Eng
open Go

section
variable {P : Program} {E : Env} {C : Ctx} {g : Gh} {F : St} {a : Act} {w : World}

/-- Rows have been frozen, and nothing else. -/
def Fz (F F' : St) : Prop := (∀ k, F' (.s k) = F (.s k)) ∧ (∀ p q, F' (.x p q) = F (.x p q)) ∧ ∀ p q, F' (.r p q) = F (.r p q) ∨ ∃ e l, F (.r p q) = .own e l ∧ F' (.r p q) = .fro e l

theorem Fz.refl (F : St) : Fz F F := ⟨fun _ => rfl, fun _ _ => rfl, fun _ _ => .inl rfl⟩
theorem Fz.trans {F F1 F2 : St} (h : Fz F F1) (k : Fz F1 F2) : Fz F F2 :=
  ⟨fun i => (k.1 i).trans (h.1 i), fun p q => (k.2.1 p q).trans (h.2.1 p q), fun p q => by
    rcases k.2.2 p q with h1 | ⟨e, l, h1, h2⟩
    · rw [h1]; exact h.2.2 p q
    · rcases h.2.2 p q with h3 | ⟨e', l', h3, h4⟩
      · exact .inr ⟨e, l, by rw [← h3]; exact h1, h2⟩
      · rw [h4] at h1; cases h1⟩

def notOwn (F : St) (p q : Nat) : Prop := ∀ e l, F (.r p q) ≠ .own e l
theorem Fz.notOwn {F F' : St} (h : Fz F F') {p q : Nat} (hn : notOwn F p q) : notOwn F' p q := by
  intro e l he
  rcases h.2.2 p q with h1 | ⟨e', l', h1, h2⟩
  · rw [h1] at he; exact hn e l he
  · rw [h2] at he; cases he

theorem freeze1_spec (v : AV) (F : St) : ∃ F', (freeze1 v).run F = some ((), F') ∧ Fz F F' ∧ ∀ p q, v = .row p q → notOwn F' p q := by
  cases v with
  | row p q =>
    simp only [freeze1, Pr.run]
    cases hc : F (.r p q) with
    | own e l =>
      simp only [Pr.run]
      refine ⟨_, rfl, ⟨fun k => upd_other _ _ (by simp), fun _ _ => upd_other _ _ (by simp), fun p' q' => ?_⟩, fun p' q' he => ?_⟩
      · by_cases e1 : p' = p ∧ q' = q
        · obtain ⟨rfl, rfl⟩ := e1; exact .inr ⟨e, l, hc, upd_same _ _ _⟩
        · exact .inl (upd_other _ _ (by simpa using e1))
      · obtain ⟨rfl, rfl⟩ : p = p' ∧ q = q' := by simpa using he
        intro e' l' h1; rw [upd_same] at h1; cases h1
    | _ =>
      simp only [Pr.run]
      refine ⟨F, rfl, .refl F, fun p' q' he => ?_⟩
      obtain ⟨rfl, rfl⟩ : p = p' ∧ q = q' := by simpa using he
      intro e' l' h1; rw [hc] at h1; cases h1
  | _ => exact ⟨F, rfl, .refl F, fun p' q' he => by cases he⟩

theorem freezeL_spec : ∀ (l : List AV) (F : St), ∃ F', (freezeL l).run F = some ((), F') ∧ Fz F F' ∧ ∀ p q, AV.row p q ∈ l → notOwn F' p q := by
  intro l
  induction l with
  | nil => intro F; exact ⟨F, rfl, .refl F, fun p q h => by simp at h⟩
  | cons v r ih =>
    intro F
    obtain ⟨F1, h1, z1, n1⟩ := freeze1_spec v F
    obtain ⟨F2, h2, z2, n2⟩ := ih F1
    refine ⟨F2, ?_, z1.trans z2, fun p q h => ?_⟩
    · unfold freezeL; rw [Pr.run_bind, h1]; exact h2
    · rcases List.mem_cons.1 h with h | h
      · exact z2.notOwn (n1 p q h.symm)
      · exact n2 p q h

theorem freezeArgs_spec : ∀ (l : List AV) (F : St), ∃ F', (freezeArgs l).run F = some ((), F') ∧ Fz F F' ∧ (∀ p q, AV.row p q ∈ l → notOwn F' p q) ∧ ∀ c, AV.agg c ∈ l → ∀ p q, AV.row p q ∈ c → notOwn F' p q := by
  intro l
  induction l with
  | nil => intro F; exact ⟨F, rfl, .refl F, fun p q h => by simp at h, fun c h => by simp at h⟩
  | cons v r ih =>
    intro F
    by_cases hagg : ∃ c, v = .agg c
    · obtain ⟨c, rfl⟩ := hagg
      obtain ⟨F1, h1, z1, n1⟩ := freezeL_spec c F
      obtain ⟨F2, h2, z2, n2, m2⟩ := ih F1
      refine ⟨F2, ?_, z1.trans z2, fun p q h => ?_, fun c' h => ?_⟩
      · simp only [freezeArgs]; rw [Pr.run_bind, h1]; exact h2
      · rcases List.mem_cons.1 h with h | h
        · cases h
        · exact n2 p q h
      · rcases List.mem_cons.1 h with h | h
        · cases h; exact fun p q hp => z2.notOwn (n1 p q hp)
        · exact m2 c' h
    · obtain ⟨F1, h1, z1, n1⟩ := freeze1_spec v F
      obtain ⟨F2, h2, z2, n2, m2⟩ := ih F1
      refine ⟨F2, ?_, z1.trans z2, fun p q h => ?_, fun c' h => ?_⟩
      · cases v <;> first
          | exact absurd ⟨_, rfl⟩ hagg
          | (simp only [freezeArgs]; rw [Pr.run_bind, h1]; exact h2)
      · rcases List.mem_cons.1 h with h | h
        · exact z2.notOwn (n1 p q h.symm)
        · exact n2 p q h
      · rcases List.mem_cons.1 h with h | h
        · exact absurd ⟨_, h.symm⟩ hagg
        · exact m2 c' h

theorem freeze1_rel (h : Rel C g F a w) {v : AV} {F' : St} (hr : (freeze1 v).run F = some ((), F')) : Stp C g F F' a w := by
  cases v with
  | row p q =>
    simp only [freeze1, Pr.run] at hr
    split at hr
    · rename_i e l hc
      simp only [Pr.run, Option.some.injEq, Prod.mk.injEq, true_and] at hr
      subst hr
      obtain ⟨h1, h2, -⟩ := h.freeze hc
      exact ⟨h1, h2⟩
    · simp only [Pr.run, Option.some.injEq, Prod.mk.injEq, true_and] at hr
      subst hr
      exact ⟨h, .refl⟩
  | _ => simp only [freeze1, Pr.run, Option.some.injEq, Prod.mk.injEq, true_and] at hr; subst hr; exact ⟨h, .refl⟩

theorem freezeL_rel : ∀ {l : List AV} {F F' : St} (h : Rel C g F a w), (freezeL l).run F = some ((), F') → Stp C g F F' a w := by
  intro l
  induction l with
  | nil => intro F F' h hr; simp only [freezeL, Pr.run, Option.some.injEq, Prod.mk.injEq, true_and] at hr; subst hr; exact ⟨h, .refl⟩
  | cons v r ih =>
    intro F F' h hr
    unfold freezeL at hr
    obtain ⟨_, F1, h1, h2⟩ := Pr.bind_some hr
    have s1 := freeze1_rel h h1
    exact s1.trans (ih s1.1 h2)

theorem freezeArgs_rel : ∀ {l : List AV} {F F' : St} (h : Rel C g F a w), (freezeArgs l).run F = some ((), F') → Stp C g F F' a w := by
  intro l
  induction l with
  | nil => intro F F' h hr; simp only [freezeArgs, Pr.run, Option.some.injEq, Prod.mk.injEq, true_and] at hr; subst hr; exact ⟨h, .refl⟩
  | cons v r ih =>
    intro F F' h hr
    cases v <;> simp only [freezeArgs] at hr <;>
      (obtain ⟨_, F1, h1, h2⟩ := Pr.bind_some hr
       first
         | exact (freezeL_rel h h1).trans (ih (freezeL_rel h h1).1 h2)
         | exact (freeze1_rel h h1).trans (ih (freeze1_rel h h1).1 h2))

theorem borrow1_sound (h : Rel C g F a w) {v v' : AV} {x : Value} {F1 Ffr : St} (hv : VRs C g F w v x) (hr : (borrow1 v).run F = some (v', F1)) (hz : Fz F Ffr) (hs : Stp C g F Ffr a w) (hn : ∀ p q, v = .row p q → notOwn Ffr p q) :
    F1 = F ∧ VRs C g Ffr w v' x ∧ (v.leaf = true → v'.leaf = true) := by
  cases hv with
  | nils e =>
    simp only [borrow1, Pr.run, Option.some.injEq, Prod.mk.injEq] at hr
    obtain ⟨rfl, rfl⟩ := hr
    exact ⟨rfl, .d _ _ (.nil e none 0), fun _ => rfl⟩
  | row p q A n c hl hρ =>
    have key : ∀ {e l}, (F (.r p q) = .own e l ∨ F (.r p q) = .fro e l) → VRs C g Ffr w (.d (.sl e l)) (.slice A n c) := by
      intro e l hc
      have : Ffr (.r p q) = .fro e l := by
        rcases hz.2.2 p q with h1 | ⟨e', l', h1, h2⟩
        · rcases hc with hc | hc
          · exact absurd (h1.trans hc) (hn p q rfl e l)
          · exact h1.trans hc
        · rcases hc with hc | hc
          · rw [hc] at h1; cases h1; exact h2
          · rw [hc] at h1; cases h1
      have hd := hs.1.fros p q e l this
      rw [hρ] at hd
      exact .d _ _ hd
    simp only [borrow1, Pr.run] at hr
    split at hr
    · rename_i e l hc
      simp only [Pr.run, Option.some.injEq, Prod.mk.injEq] at hr
      obtain ⟨rfl, rfl⟩ := hr
      exact ⟨rfl, key (.inl hc), fun _ => rfl⟩
    · rename_i e l hc
      simp only [Pr.run, Option.some.injEq, Prod.mk.injEq] at hr
      obtain ⟨rfl, rfl⟩ := hr
      exact ⟨rfl, key (.inr hc), fun _ => rfl⟩
    · cases hr
  | d y _ hd => simp only [borrow1, Pr.run, Option.some.injEq, Prod.mk.injEq] at hr; obtain ⟨rfl, rfl⟩ := hr; exact ⟨rfl, VR.mono hs.2 (.d _ _ hd), id⟩
  | ptr p q o hl => simp only [borrow1, Pr.run, Option.some.injEq, Prod.mk.injEq] at hr; obtain ⟨rfl, rfl⟩ := hr; exact ⟨rfl, VR.mono hs.2 (.ptr p q o hl), id⟩
  | yf p q hl => simp only [borrow1, Pr.run, Option.some.injEq, Prod.mk.injEq] at hr; obtain ⟨rfl, rfl⟩ := hr; exact ⟨rfl, VR.mono hs.2 (.yf p q hl), id⟩
  | eS e l i off b o c t h1 h2 h3 => simp only [borrow1, Pr.run, Option.some.injEq, Prod.mk.injEq] at hr; obtain ⟨rfl, rfl⟩ := hr; exact ⟨rfl, VR.mono hs.2 (.eS e l i off b o c t h1 h2 h3), id⟩
  | eR p q e i off b0 n c t h1 h2 h3 => simp only [borrow1, Pr.run, Option.some.injEq, Prod.mk.injEq] at hr; obtain ⟨rfl, rfl⟩ := hr; exact ⟨rfl, VR.mono hs.2 (.eR p q e i off b0 n c t h1 h2 h3), id⟩
  | fn f y c xs cs h1 h2 h3 h4 => simp only [borrow1, Pr.run, Option.some.injEq, Prod.mk.injEq] at hr; obtain ⟨rfl, rfl⟩ := hr; exact ⟨rfl, VR.mono hs.2 (.fn f y c xs cs h1 h2 h3 h4), id⟩
  | agg l cs h1 h2 h3 => simp only [borrow1, Pr.run, Option.some.injEq, Prod.mk.injEq] at hr; obtain ⟨rfl, rfl⟩ := hr; exact ⟨rfl, VR.mono hs.2 (.agg l cs h1 h2 h3), id⟩
  | tup l cs h1 h2 => simp only [borrow1, Pr.run, Option.some.injEq, Prod.mk.injEq] at hr; obtain ⟨rfl, rfl⟩ := hr; exact ⟨rfl, VR.mono hs.2 (.tup l cs h1 h2), id⟩

theorem borrowL_sound (h : Rel C g F a w) {Ffr : St} (hz : Fz F Ffr) (hs : Stp C g F Ffr a w) : ∀ {l l' : List AV} {xs : List Value} {F1 : St}, xs.length = l.length → (∀ (j : Nat) (v : AV) (x : Value), l[j]? = some v → xs[j]? = some x → VRs C g F w v x) →
    (∀ p q, AV.row p q ∈ l → notOwn Ffr p q) → (∀ v ∈ l, v.leaf = true) → (borrowL l).run F = some (l', F1) → F1 = F ∧ l'.length = l.length ∧ (∀ v ∈ l', v.leaf = true) ∧
    ∀ (j : Nat) (v : AV) (x : Value), l'[j]? = some v → xs[j]? = some x → VRs C g Ffr w v x := by
  intro l
  induction l with
  | nil => intro l' xs F1 hl hv hn hlf hr; simp only [borrowL, Pr.run, Option.some.injEq, Prod.mk.injEq] at hr; obtain ⟨rfl, rfl⟩ := hr; exact ⟨rfl, rfl, fun v hv => by simp at hv, fun j v x hj => by simp at hj⟩
  | cons v r ih =>
    intro l' xs F1 hl hv hn hlf hr
    cases xs with
    | nil => simp at hl
    | cons x s =>
      unfold borrowL at hr
      obtain ⟨v1, F2, h1, hr2⟩ := Pr.bind_some hr
      obtain ⟨rfl, q1, lf1⟩ := borrow1_sound h (hv 0 v x rfl rfl) h1 hz hs (fun p q e => hn p q (by simp [e]))
      obtain ⟨l1, F3, h2, hr3⟩ := Pr.bind_some hr2
      obtain ⟨rfl, l2, lf2, q2⟩ := ih (xs := s) (by simpa using hl) (fun j v x hj hx => hv (j + 1) v x (by simpa using hj) (by simpa using hx)) (fun p q hp => hn p q (by simp [hp])) (fun v hv => hlf v (by simp [hv])) h2
      simp only [Pr.run, Option.some.injEq, Prod.mk.injEq] at hr3
      obtain ⟨rfl, rfl⟩ := hr3
      refine ⟨rfl, by simp [l2], fun v' hv' => ?_, fun j v' x' hj hx => ?_⟩
      · rcases List.mem_cons.1 hv' with rfl | hv'
        · exact lf1 (hlf v (by simp))
        · exact lf2 v' hv'
      · cases j with
        | zero => simp at hj hx; subst hj; subst hx; exact q1
        | succ j => simp at hj hx; exact q2 j v' x' hj hx

theorem borrow_sound (h : Rel C g F a w) {v v' : AV} {x : Value} {F1 Ffr : St} (hv : VRs C g F w v x) (hr : (borrow v).run F = some (v', F1)) (hz : Fz F Ffr) (hs : Stp C g F Ffr a w) (hn : ∀ p q, v = .row p q → notOwn Ffr p q)
    (hna : ∀ c, v = .agg c → ∀ p q, AV.row p q ∈ c → notOwn Ffr p q) : F1 = F ∧ VRs C g Ffr w v' x := by
  by_cases hagg : ∃ c, v = .agg c
  · obtain ⟨c, rfl⟩ := hagg
    cases hv with
    | agg _ cs h1 h2 h3 =>
      simp only [borrow] at hr
      obtain ⟨l', F2, k1, hr2⟩ := Pr.bind_some hr
      obtain ⟨rfl, k2, k3, k4⟩ := borrowL_sound h hz hs (xs := cs.toList) (by simpa using h1.symm) (fun j v x hj hx => h3 j v x hj (by simpa using hx)) (hna c rfl) h2 k1
      simp only [Pr.run, Option.some.injEq, Prod.mk.injEq] at hr2
      obtain ⟨rfl, rfl⟩ := hr2
      exact ⟨rfl, mkAgg_rel (by omega) k3 (fun j v x hj hx => k4 j v x hj (by simpa using hx))⟩
  · have : borrow v = borrow1 v := by cases v <;> first | exact absurd ⟨_, rfl⟩ hagg | rfl
    rw [this] at hr
    obtain ⟨k1, k2, -⟩ := borrow1_sound h hv hr hz hs hn
    exact ⟨k1, k2⟩

theorem borrows_sound (h : Rel C g F a w) {Ffr : St} (hz : Fz F Ffr) (hs : Stp C g F Ffr a w) : ∀ {l l' : List AV} {xs : List Value} {F1 : St}, xs.length = l.length → (∀ (j : Nat) (v : AV) (x : Value), l[j]? = some v → xs[j]? = some x → VRs C g F w v x) →
    (∀ p q, AV.row p q ∈ l → notOwn Ffr p q) → (∀ c, AV.agg c ∈ l → ∀ p q, AV.row p q ∈ c → notOwn Ffr p q) → (borrows l).run F = some (l', F1) → F1 = F ∧ l'.length = l.length ∧
    ∀ (j : Nat) (v : AV) (x : Value), l'[j]? = some v → xs[j]? = some x → VRs C g Ffr w v x := by
  intro l
  induction l with
  | nil => intro l' xs F1 hl hv hn hna hr; simp only [borrows, Pr.run, Option.some.injEq, Prod.mk.injEq] at hr; obtain ⟨rfl, rfl⟩ := hr; exact ⟨rfl, rfl, fun j v x hj => by simp at hj⟩
  | cons v r ih =>
    intro l' xs F1 hl hv hn hna hr
    cases xs with
    | nil => simp at hl
    | cons x s =>
      unfold borrows at hr
      obtain ⟨v1, F2, h1, hr2⟩ := Pr.bind_some hr
      obtain ⟨rfl, q1⟩ := borrow_sound h (hv 0 v x rfl rfl) h1 hz hs (fun p q e => hn p q (by simp [e])) (fun c e => hna c (by simp [e]))
      obtain ⟨l1, F3, h2, hr3⟩ := Pr.bind_some hr2
      obtain ⟨rfl, l2, q2⟩ := ih (xs := s) (by simpa using hl) (fun j v x hj hx => hv (j + 1) v x (by simpa using hj) (by simpa using hx)) (fun p q hp => hn p q (by simp [hp])) (fun c hc => hna c (by simp [hc])) h2
      simp only [Pr.run, Option.some.injEq, Prod.mk.injEq] at hr3
      obtain ⟨rfl, rfl⟩ := hr3
      refine ⟨rfl, by simp [l2], fun j v' x' hj hx => ?_⟩
      cases j with
      | zero => simp at hj hx; subst hj; subst hx; exact q1
      | succ j => simp at hj hx; exact q2 j v' x' hj hx

theorem contentRefs_same : ∀ {vs l : List (Nat × Nat)} {F F1 : St}, (contentRefs vs).run F = some (l, F1) → F1 = F := by
  intro vs
  induction vs with
  | nil => intro l F F1 hr; simp only [contentRefs, Pr.run, Option.some.injEq, Prod.mk.injEq] at hr; exact hr.2.symm
  | cons p r ih =>
    intro l F F1 hr
    simp only [contentRefs, Pr.run] at hr
    split at hr
    · obtain ⟨l1, F2, h1, h2⟩ := Pr.bind_some hr
      simp only [Pr.run, Option.some.injEq, Prod.mk.injEq] at h2
      rw [← h2.2]; exact ih h1
    · cases hr

theorem reach_same : ∀ {n : Nat} {vs l : List (Nat × Nat)} {F F1 : St}, (reach n vs).run F = some (l, F1) → F1 = F := by
  intro n
  induction n with
  | zero => intro vs l F F1 hr; simp only [reach, Pr.run, Option.some.injEq, Prod.mk.injEq] at hr; exact hr.2.symm
  | succ n ih =>
    intro vs l F F1 hr
    simp only [reach] at hr
    obtain ⟨l1, F2, h1, h2⟩ := Pr.bind_some hr
    rw [ih h2, contentRefs_same h1]

theorem nodupB_sound : ∀ {l : List (Nat × Nat)}, nodupB l = true → l.Nodup := by
  intro l
  induction l with
  | nil => intro _; exact List.nodup_nil
  | cons p r ih =>
    intro h
    simp only [nodupB, Bool.and_eq_true, Bool.not_eq_true'] at h
    refine List.nodup_cons.2 ⟨fun hm => ?_, ih h.2⟩
    have := h.1
    rw [List.contains_eq_mem] at this
    simp [hm] at this
end
end Go.Eng
end

section
namespace Go.Eng
open Go

section
variable {P : Program} {E : Env} {C : Ctx} {g : Gh} {F : St} {a : Act} {w : World}

theorem isScal_IV2 {w : World} {S S' : Nat → Prop} {Z : TypeId → Option Ty} {L L' : Key → Prop} {g g' : Gh} {v : AV} {x : Value} (hs : isScal v = true) (h : IV2 w S Z L g v x) : VR w S' Z L' g' v x ∧ ob2 v x = [] := by
  cases v with
  | d y =>
    cases y with
    | v z =>
      obtain ⟨rfl, hz⟩ := VR.scalar_of (show VR w S Z L g (.d (.v z)) x from h)
      exact ⟨.d _ _ (.v _ hz), rfl⟩
    | _ => simp [isScal] at hs
  | _ => simp [isScal] at hs

theorem allScal_IV {w : World} {S S' : Nat → Prop} {Z : TypeId → Option Ty} {L L' : Key → Prop} {g g' : Gh} {v : AV} {x : Value} (hs : allScal v = true) (h : IV w S Z L g v x) : VR w S' Z L' g' v x := by
  cases v with
  | tup l =>
    obtain ⟨vs, rfl, h1, h2⟩ := h
    refine .tup l vs h1 (fun j v u hj hu => (isScal_IV2 ?_ (h2 j v u hj hu)).1)
    simp only [allScal, List.all_eq_true] at hs
    exact hs v (List.mem_of_getElem? hj)
  | d y => exact (isScal_IV2 (v := .d y) hs h).1
  | _ => simp [allScal, isScal] at hs

theorem IV2_ren {w : World} {S : Nat → Prop} {Z : TypeId → Option Ty} {L L' : Key → Prop} {g g' : Gh} {v v' : AV} {x : Value} (h : IV2 w S Z L g v x) (hv : v.ren (fun _ => none) = some v') :
    IV2 w S Z L' g' v' x ∧ ob2 v' x = ob2 v x ∧ isTup v' = isTup v := by
  have hm : ∀ p q r, (fun _ : Nat × Nat => (none : Option (Nat × Nat))) (p, q) = some r → L (.x p q) → L' (.x r.1 r.2) ∧ g'.η r.1 r.2 = g.η p q := fun p q r hr => by cases hr
  cases v with
  | agg l =>
    obtain ⟨cs, rfl, h1, h2⟩ := h
    simp only [AV.ren, Option.map_eq_some_iff] at hv
    obtain ⟨l', k1, rfl⟩ := hv
    obtain ⟨i1, i2⟩ := renL_get k1
    refine ⟨⟨cs, rfl, by omega, fun j v u hj hu => ?_⟩, ?_, rfl⟩
    · obtain ⟨v0, hv0, hr0⟩ := i2 j v hj
      obtain ⟨q1, q2⟩ := h2 j v0 u hv0 hu
      exact ⟨by rw [(ren_leaf hr0).2]; exact q1, (q2.ren hm hr0).1⟩
    · simp only [ob2]
      exact obL_ren (w := w) (S := S) (Z := Z) (L := L) (g := g) (fun _ _ r hr => by cases hr) k1
  | tup l =>
    have h2 := VR.ren (L' := L') (g' := g') hm (show VR w S Z L g (.tup l) x from h) hv
    simp only [AV.ren, Option.map_eq_some_iff] at hv
    obtain ⟨l', k1, rfl⟩ := hv
    exact ⟨h2, rfl, rfl⟩
  | own e l =>
    have := IV1.ren (v := .own e l) hm h hv
    simp [AV.ren] at hv; subst hv
    exact ⟨this.1, rfl, rfl⟩
  | d y => have := VR.ren (L' := L') (g' := g') hm (show VR w S Z L g (.d y) x from h) hv; simp [AV.ren] at hv; subst hv; exact ⟨this, rfl, rfl⟩
  | nils y => have := VR.ren (L' := L') (g' := g') hm (show VR w S Z L g (.nils y) x from h) hv; simp [AV.ren] at hv; subst hv; exact ⟨this, rfl, rfl⟩
  | ptr p q o => simp [AV.ren] at hv
  | yf p q => simp [AV.ren] at hv
  | fn f y c =>
    obtain ⟨cs, rfl, rfl, h1, h2⟩ := h
    simp only [AV.ren, Option.bind_eq_some_iff, Option.map_eq_some_iff] at hv
    obtain ⟨x', hx', c', hc', rfl⟩ := hv
    simp only [renL, Option.some.injEq] at hx'
    subst hx'
    obtain ⟨i1, i2⟩ := renL_get hc'
    have he : c' = c := List.ext_getElem? fun j => by
      cases hj : c'[j]? with
      | none =>
        rw [List.getElem?_eq_none_iff] at hj
        symm; rw [List.getElem?_eq_none_iff]; omega
      | some a =>
        obtain ⟨v, hv, hr⟩ := i2 j a hj
        have hlt : j < cs.size := by have := (List.getElem?_eq_some_iff.1 hv).1; omega
        have hb := h2 j v cs[j] hv (Array.getElem?_eq_getElem hlt)
        rw [hv]
        cases v with
        | bx l => simp [AV.ren] at hr; rw [hr]
        | d y => simp [AV.ren] at hr; rw [hr]
        | _ => exact hb.elim
    subst he
    exact ⟨⟨cs, rfl, rfl, h1, h2⟩, rfl, rfl⟩
  | bx l => cases h
  | ob o => cases h
  | _ => simp [AV.ren] at hv

theorem obT_ren {w : World} {S : Nat → Prop} {Z : TypeId → Option Ty} {L : Key → Prop} {g : Gh} : ∀ {l l' : List AV} {xs : List Value}, xs.length = l.length → (∀ (j : Nat) (v : AV) (u : Value), l[j]? = some v → xs[j]? = some u → IV2 w S Z L g v u) →
    renL (fun _ => none) l = some l' → obT l' xs = obT l xs := by
  intro l
  induction l with
  | nil => intro l' xs hl h hr; simp [renL] at hr; subst hr; rfl
  | cons v r ih =>
    intro l' xs hl h hr
    simp only [renL, Option.bind_eq_some_iff, Option.map_eq_some_iff] at hr
    obtain ⟨v1, h1, r1, h2, rfl⟩ := hr
    cases xs with
    | nil => simp at hl
    | cons x s =>
      simp only [obT, ih (xs := s) (by simpa using hl) (fun j v u hj hu => h (j + 1) v u (by simpa using hj) (by simpa using hu)) h2, (IV2_ren (L' := L) (g' := g) (h 0 v x rfl rfl) h1).2.1]

theorem IV_ren {w : World} {S : Nat → Prop} {Z : TypeId → Option Ty} {L L' : Key → Prop} {g g' : Gh} {v v' : AV} {x : Value} (h : IV w S Z L g v x) (hf : ∀ l, v = .tup l → ∀ y ∈ l, isTup y = false) (hv : v.ren (fun _ => none) = some v') :
    IV w S Z L' g' v' x ∧ ob v' x = ob v x ∧ ∀ l, v' = .tup l → ∀ y ∈ l, isTup y = false := by
  cases v with
  | tup l =>
    obtain ⟨vs, rfl, h1, h2⟩ := h
    simp only [AV.ren, Option.map_eq_some_iff] at hv
    obtain ⟨l', k1, rfl⟩ := hv
    obtain ⟨i1, i2⟩ := renL_get k1
    refine ⟨⟨vs, rfl, by omega, fun j v u hj hu => ?_⟩, ?_, fun l0 e y hy => ?_⟩
    · obtain ⟨v0, hv0, hr0⟩ := i2 j v hj
      exact (IV2_ren (h2 j v0 u hv0 hu) hr0).1
    · simp only [ob]
      exact obT_ren (w := w) (S := S) (Z := Z) (L := L) (g := g) (by simpa using h1.symm) (fun j v u hj hu => h2 j v u hj (by simpa using hu)) k1
    · cases e
      obtain ⟨j, hj⟩ := List.mem_iff_getElem?.1 hy
      obtain ⟨v0, hv0, hr0⟩ := i2 j y hj
      have hlt : j < vs.size := by have := (List.getElem?_eq_some_iff.1 hj).1; omega
      rw [(IV2_ren (L' := L') (g' := g') (h2 j v0 vs[j] hv0 (by simp [hlt])) hr0).2.2]
      exact hf l rfl v0 (List.mem_of_getElem? hv0)
  | agg l =>
    have := IV2_ren (L' := L') (g' := g') (v := .agg l) h hv
    simp only [AV.ren, Option.map_eq_some_iff] at hv
    obtain ⟨l', k1, rfl⟩ := hv
    exact ⟨this.1, this.2.1, fun l0 e => by cases e⟩
  | own e l => have := IV2_ren (L := L) (g := g) (L' := L') (g' := g') (v := .own e l) h hv; simp [AV.ren] at hv; subst hv; exact ⟨this.1, this.2.1, fun l0 e => by cases e⟩
  | d y => have := IV2_ren (L' := L') (g' := g') (v := .d y) h hv; simp [AV.ren] at hv; subst hv; exact ⟨this.1, this.2.1, fun l0 e => by cases e⟩
  | nils y => have := IV2_ren (L' := L') (g' := g') (v := .nils y) h hv; simp [AV.ren] at hv; subst hv; exact ⟨this.1, this.2.1, fun l0 e => by cases e⟩
  | fn f y c =>
    have := IV2_ren (L := L) (g := g) (L' := L') (g' := g') (v := .fn f y c) h hv
    simp only [AV.ren, Option.bind_eq_some_iff, Option.map_eq_some_iff] at hv
    obtain ⟨x', -, c', -, rfl⟩ := hv
    exact ⟨this.1, this.2.1, fun l0 e => by cases e⟩
  | bx l => cases h
  | ob o => cases h
  | _ => simp [AV.ren] at hv

theorem toIdx_some {vs : List (Nat × Nat)} {p r : Nat × Nat} (h : toIdx vs p = some r) : ∃ i, vs[i]? = some p ∧ r = (i, 1) := by
  simp only [toIdx, Option.map_eq_some_iff] at h
  obtain ⟨i, h1, rfl⟩ := h
  refine ⟨i, ?_, rfl⟩
  rw [List.idxOf?_eq_some_iff] at h1
  obtain ⟨h2, h3, -⟩ := h1
  rw [List.getElem?_eq_getElem h2]; simpa using h3

theorem evEnter_core {ev : Ev} {gf : FuncId} {K : Array Value → World → (Ending → World → Prop) → Prop} (hmono : ∀ {cargs w R R'}, K cargs w R → (∀ e w', R e w' → R' e w') → K cargs w R')
    (hEv : ∀ args pack res out, ev gf args pack = some (res, out) → ∀ (w : World) (S : Nat → Prop) (cargs : Array Value) (s : List (Nat × Array Value)), InOK C.Z w S args cargs.toList pack s →
      K cargs w (fun e w' => ∃ v S' s', e = .returned v ∧ OutOK C.Z w S (packB pack s) s w' S' res v out s')) (h : Rel C g F a w) {u : Nat} {args : List AV} {vals : List Value} {v : AV} {F' : St} (hlen : vals.length = args.length)
    (hv : ∀ (j : Nat) (v : AV) (x : Value), args[j]? = some v → vals[j]? = some x → VRs C g F w v x) (hr : (evEnter u ev gf args).run F = some (v, F')) :
    K vals.toArray w (fun e w' => ∃ x g', e = .returned x ∧ Rel C g' F' a w' ∧ VRs C g' F' w' v x ∧ ∀ p q, live F (.x p q) → live F' (.x p q) ∧ g'.η p q = g.η p q) := by
  unfold evEnter at hr
  obtain ⟨bs, F1, h1, hr2⟩ := Pr.bind_some hr
  obtain ⟨vs, F2, h2, hr3⟩ := Pr.bind_some hr2
  obtain ⟨Ffr, f1, fz, fn1, fn2⟩ := freezeArgs_spec args F
  have hs := freezeArgs_rel h f1
  obtain ⟨rfl, lb, hb⟩ := borrows_sound h fz hs hlen hv fn1 fn2 h1
  obtain rfl := reach_same h2
  clear hr hr2
  split at hr3
  · -- no variables
    obtain ⟨bs', F3, h3, hr4⟩ := Pr.bind_some hr3
    obtain ⟨k3, rfl⟩ := Pr.opt_some h3
    obtain ⟨r, k4, hr5⟩ := Pr.lookR_some hr4
    obtain ⟨res, out⟩ := r
    clear hr3 hr4
    simp only at hr5
    split at hr5
    · cases hr5
    · rename_i hout
      have hout' : out = [] := by cases out <;> simp_all
      subst hout'
      have hcall := hEv bs' [] res [] k4
      obtain ⟨i1, i2⟩ := renL_get k3
      have hin : InOK C.Z w (Safe C g Ffr w) bs' vals.toArray.toList [] [] := by
        refine ⟨by simp; omega, fun j v x hj hx => ?_, trivial, List.nodup_nil, fun b hb => ⟨hb.1, by simp [packB]⟩, fun b hb => by simp [packB] at hb, hs.1.tabs⟩
        obtain ⟨v0, hv0, hr0⟩ := i2 j v hj
        exact (hb j v0 x hv0 (by simpa using hx)).ren (fun p q r hr => by simp [toIdx] at hr) hr0
      refine hmono (hcall w _ _ [] hin) ?_
      rintro e w' ⟨x, S', s', rfl, o⟩
      have hs' : s' = [] := by have := o.same; simpa using this
      subst hs'
      have hk : Keep w (fun b => b ∈ ([] : List Nat)) w' := by simpa [packB] using o.keep
      have hg : w.grownBy w' none := ⟨hk.os, hk.tape, hk.output, hk.size, fun b hb _ => hk.block b hb (by simp)⟩
      split at hr5
      · rename_i hsc
        simp only [Pr.run, Option.some.injEq, Prod.mk.injEq] at hr5
        obtain ⟨rfl, rfl⟩ := hr5
        exact ⟨x, g, rfl, h.grown hg, allScal_IV hsc o.val, fun p q hp => ⟨hp, rfl⟩⟩
      · obtain ⟨_, F5, h5, hr6⟩ := Pr.bind_some hr5
        rw [f1] at h5
        obtain rfl : Ffr = F5 := by simpa using h5
        obtain ⟨res', F6, h6, hr7⟩ := Pr.bind_some hr6
        obtain ⟨k6, rfl⟩ := Pr.opt_some h6
        obtain ⟨v1, v2, v3⟩ := IV_ren (L' := live F6) (g' := g) o.val o.flat k6
        -- behind the call
        have hlt : ∀ b ∈ ob res x, b < w'.heap.size ∧ w.heap.size ≤ b := fun b hb => by
          obtain ⟨q1, q2⟩ := o.lt b (List.mem_append_left _ hb)
          exact ⟨q1, q2.resolve_left (by simp [packB])⟩
        obtain ⟨r1, e1⟩ := Rel.behind (C := C) (R1 := C.R) (R2 := addR C.R (ob res x)) hs.1 hk (fun b hb => by simp at hb) (fun b hb => by
            rcases hb with h1 | h1
            · exact .inl h1
            · exact .inr (hlt b h1).2) (fun b hb => by
            rcases hb with h1 | h1
            · exact Nat.lt_of_lt_of_le (h.rlt b h1) hk.size
            · exact (hlt b h1).1)
        have hbase : C.w0.heap.size ≤ w.heap.size := h.keep.size
        obtain ⟨g1, r2, e2, q2⟩ := attach_sound r1 (S := S') (fun b hb => by
            obtain ⟨q1, q2⟩ := o.safe b hb
            have q3 : b ∉ ob res x := fun hb' => q2 (List.mem_append_left _ hb')
            rcases o.src b hb with h1 | h1 | h1
            · have := (e1.block b h1).1
              exact this
            · simp [packB] at h1
            · exact ⟨q1, fun k hm => by have := mutb_lt hs.1 hm; omega, .inr (.inr (Nat.le_trans hbase h1)), fun hR => by
                rcases hR with h2 | h2
                · have := h.rlt b h2; omega
                · exact q3 h2⟩)
          v1 v3 (fun b hb => by rw [v2] at hb; exact ⟨.inr hb, .inr (Nat.le_trans hbase (hlt b hb).2)⟩) (by rw [v2]; exact (List.nodup_append.1 o.nodup).1) hr7
        refine ⟨x, g1, rfl, ?_⟩
        have hRR : (C.withR (addR C.R (ob res x))).withR (unR (C.withR (addR C.R (ob res x))).R (ob res' x)) = C := by
          rw [v2]
          show C.withR _ = C
          have : unR (addR C.R (ob res x)) (ob res x) = C.R := by
            funext b; apply propext; simp only [unR, addR]
            exact ⟨fun ⟨h1, h2⟩ => h1.resolve_right h2, fun h1 => ⟨.inl h1, fun h2 => by have := h.rlt b h1; have := (hlt b h2).2; omega⟩⟩
          rw [show (C.withR (addR C.R (ob res x))).R = addR C.R (ob res x) from rfl, this]; rfl
        rw [hRR] at r2 q2
        exact ⟨r2, q2, fun p q hp => by
          have k1 := hs.2.x p q hp
          have k2 := e1.x p q k1.1
          have k3 := e2.x p q k2.1
          exact ⟨k3.1, k3.2.trans (k2.2.trans k1.2)⟩⟩
  · split at hr3
    · cases hr3
    · rename_i hnd0
      have hnd : vs.Nodup := nodupB_sound (by simpa using hnd0)
      obtain ⟨_, F3, h3, hr4⟩ := Pr.bind_some hr3
      rw [f1] at h3
      obtain rfl : Ffr = F3 := by simpa using h3
      obtain ⟨cs, F4, h4, hr5⟩ := Pr.bind_some hr4
      obtain ⟨bs', F5, h5, hr6⟩ := Pr.bind_some hr5
      obtain ⟨k5, rfl⟩ := Pr.opt_some h5
      obtain ⟨cs', F6, h6, hr7⟩ := Pr.bind_some hr6
      obtain ⟨k6, rfl⟩ := Pr.opt_some h6
      obtain ⟨r, k7, hr8⟩ := Pr.lookR_some hr7
      obtain ⟨res, out⟩ := r
      obtain ⟨out', F8, h8, hr9⟩ := Pr.bind_some hr8
      obtain ⟨k8, rfl⟩ := Pr.opt_some h8
      obtain ⟨_, F9, h9, hr10⟩ := Pr.bind_some hr9
      obtain ⟨res', F10, h10, hr11⟩ := Pr.bind_some hr10
      obtain ⟨k10, rfl⟩ := Pr.opt_some h10
      clear hr3 hr4 hr5 hr6 hr7 hr8 hr9 hr10
      obtain ⟨s, r1, e1, p1, ls, lc, hη, n1, b1, g1, -, -⟩ := lend_sound vs hs.1 h4
      have hcall := hEv bs' cs' res out k7
      obtain ⟨i1, i2⟩ := renL_get k5
      have hm : ∀ (L : Key → Prop), ∀ p q r, toIdx vs (p, q) = some r → L (.x p q) → Lk s.length (.x r.1 r.2) ∧ (gk s).η r.1 r.2 = g.η p q := by
        intro L p q r hr _
        obtain ⟨i, hi, rfl⟩ := toIdx_some hr
        have hil : i < s.length := by rw [ls]; exact (List.getElem?_eq_some_iff.1 hi).1
        refine ⟨⟨i, hil, rfl⟩, ?_⟩
        have := hη i (p, q) s[i] hi (List.getElem?_eq_getElem hil)
        simp [gk, List.getD_eq_getElem?_getD, hil, this]
      obtain ⟨pr1, pr2, pr3⟩ := p1.ren (hm _) k6
      have hin : InOK C.Z w (Safe (C.withR (addR C.R (packB cs s))) g F8 w) bs' vals.toArray.toList cs' s := by
        refine ⟨by simp; omega, fun j v x hj hx => ?_, pr1, by rw [pr2]; exact n1, fun b hb => ⟨hb.1, fun hb' => hb.2.2.2 (.inr (by rw [pr2] at hb'; exact hb'))⟩, fun b hb => ?_, r1.tabs⟩
        · obtain ⟨v0, hv0, hr0⟩ := i2 j v hj
          exact (VR.mono e1 (hb j v0 x hv0 (by simpa using hx))).ren (hm _) hr0
        · rw [pr2] at hb
          obtain ⟨-, -, k, hk⟩ := b1 b hb
          exact mutb_lt hs.1 hk
      refine hmono (hcall w _ _ s hin) ?_
      rintro e w' ⟨x, S', s', rfl, o⟩
      rw [pr2] at o
      have hls' : s'.length = s.length := by have := congrArg List.length o.same; simpa using this
      have hs'i : ∀ i (hi : i < s'.length) (hi' : i < s.length), (s'[i]).1 = (s[i]).1 := fun i hi hi' => by
        have := congrArg (fun l => l[i]?) o.same
        simpa [hi, hi'] using this
      have hbase : C.w0.heap.size ≤ w.heap.size := h.keep.size
      have hBLr : ∀ b ∈ packB cs s, addR C.R (packB cs s) b ∧ (C.W b ∨ C.w0.heap.size ≤ b) := fun b hb => ⟨.inr hb, (b1 b hb).2.1⟩
      have hwlt : ∀ b, C.R b → b < w.heap.size := h.rlt
      obtain ⟨r2, e2⟩ := Rel.behind (C := C) (R1 := addR C.R (packB cs s)) (R2 := addR C.R (ob res x ++ packB out s')) r1 o.keep hBLr (fun b hb => by
          rcases hb with h1 | h1
          · exact .inl (.inl h1)
          · rcases (o.lt b h1).2 with h2 | h2
            · exact .inl (.inr h2)
            · exact .inr h2) (fun b hb => by
          rcases hb with h1 | h1
          · exact Nat.lt_of_lt_of_le (hwlt b h1) o.keep.size
          · exact (o.lt b h1).1)
      have hS' : ∀ b, S' b → Safe (C.withR (addR C.R (ob res x ++ packB out s'))) g F8 w' b := fun b hb => by
        obtain ⟨q1, q2⟩ := o.safe b hb
        rcases o.src b hb with h1 | h1 | h1
        · have h3 := (e2.block b h1).1
          exact h3
        · refine ⟨q1, fun k hk => (r1.wr k b hk).2 (.inr h1), ?_, fun hR => ?_⟩
          · rcases (b1 b h1).2.1 with h3 | h3
            · exact .inr (.inl h3)
            · exact .inr (.inr h3)
          · rcases hR with h3 | h3
            · exact (b1 b h1).1 h3
            · exact q2 h3
        · refine ⟨q1, fun k hk => by have := mutb_lt r1 hk; omega, .inr (.inr (Nat.le_trans hbase h1)), fun hR => ?_⟩
          rcases hR with h3 | h3
          · have := hwlt b h3; omega
          · exact q2 h3
      have hnd2 := List.nodup_append.1 o.nodup
      have hWb : ∀ b ∈ ob res x ++ packB out s', C.W b ∨ C.w0.heap.size ≤ b := fun b hb => by
        rcases (o.lt b hb).2 with h2 | h2
        · exact (b1 b h2).2.1
        · exact .inr (Nat.le_trans hbase h2)
      -- variables
      have hm2 : ∀ p q r, ofIdx vs (p, q) = some r → Lk s'.length (.x p q) → live F8 (.x r.1 r.2) ∧ g.η r.1 r.2 = (gk s').η p q := by
        intro p q r hr _
        simp only [ofIdx] at hr
        split at hr
        · have hil : p < s.length := by rw [ls]; exact (List.getElem?_eq_some_iff.1 hr).1
          refine ⟨by rw [live, g1 r (List.mem_of_getElem? hr)]; simp, ?_⟩
          have h3 := hη p r s[p] hr (List.getElem?_eq_getElem hil)
          have hil' : p < s'.length := by omega
          rw [h3]
          simp [gk, List.getD_eq_getElem?_getD, hil', hs'i p hil' hil]
        · cases hr
      obtain ⟨po1, po2, po3⟩ := o.pk.ren hm2 k8
      obtain ⟨g2, r3, e3⟩ := takeBack_sound u vs r2 (n := 1) (cs := out') (s := s') S' hS' (fun i p y hp hy => by
          have hil : i < s.length := by rw [ls]; exact (List.getElem?_eq_some_iff.1 hp).1
          have hil' : i < s'.length := by omega
          rw [hη i p s[i] hp (List.getElem?_eq_getElem hil), ← hs'i i hil' hil]
          rw [List.getElem?_eq_getElem hil'] at hy
          obtain rfl : s'[i] = y := by simpa using hy
          rfl) (fun p hp => g1 p hp) hnd po1 (fun b hb => by rw [po2] at hb; exact ⟨.inr (List.mem_append_right _ hb), hWb b (List.mem_append_right _ hb)⟩) (by rw [po2]; exact hnd2.2.1) h9
      rw [po2] at r3 e3
      -- the result
      obtain ⟨v1, v2, v3⟩ := IV_ren (L' := live F10) (g' := g2) o.val o.flat k10
      obtain ⟨g3, r4, e4, q4⟩ := attach_sound r3 (S := S') (fun b hb => (e3.block b (hS' b hb)).1) v1 v3 (fun b hb => by
          rw [v2] at hb
          exact ⟨⟨.inr (List.mem_append_left _ hb), fun hb' => hnd2.2.2 b hb b hb' rfl⟩, hWb b (List.mem_append_left _ hb)⟩) (by rw [v2]; exact hnd2.1) hr11
      refine ⟨x, g3, rfl, ?_⟩
      have hRR : ((C.withR (addR C.R (ob res x ++ packB out s'))).withR (unR (C.withR (addR C.R (ob res x ++ packB out s'))).R (packB out s'))).withR
          (unR ((C.withR (addR C.R (ob res x ++ packB out s'))).withR (unR (C.withR (addR C.R (ob res x ++ packB out s'))).R (packB out s'))).R (ob res' x)) = C := by
        rw [v2]
        show C.withR _ = C
        have : unR (unR (addR C.R (ob res x ++ packB out s')) (packB out s')) (ob res x) = C.R := by
          funext b; apply propext; simp only [unR, addR, List.mem_append]
          constructor
          · rintro ⟨⟨h1 | h1 | h1, h2⟩, h3⟩
            · exact h1
            · exact absurd h1 h3
            · exact absurd h1 h2
          · intro h1
            have key : b ∉ ob res x ++ packB out s' := fun h2 => by
              rcases (o.lt b h2).2 with h3 | h3
              · exact (b1 b h3).1 h1
              · have := hwlt b h1; omega
            simp only [List.mem_append, not_or] at key
            exact ⟨⟨.inl h1, key.2⟩, key.1⟩
        show C.withR (unR (unR (addR C.R (ob res x ++ packB out s')) (packB out s')) (ob res x)) = C
        rw [this]; rfl
      rw [hRR] at r4 q4
      exact ⟨r4, q4, fun p q hp => by
        have k1 := hs.2.x p q hp
        have k2 := e1.x p q k1.1
        have k3 := e2.x p q k2.1
        have k4 := e3.x p q k3.1
        have k5 := e4.x p q k4.1
        exact ⟨k5.1, k5.2.trans (k4.2.trans (k3.2.trans (k2.2.trans k1.2)))⟩⟩

theorem evEnter_sound {ev : Ev} (hEv : SoundEv P C.Z ev) (h : Rel C g F a w) {u : Nat} {gf : FuncId} {args : List AV} {vals : List Value} {v : AV} {F' : St} (hne : gf ≠ rnd) (hlen : vals.length = args.length)
    (hv : ∀ (j : Nat) (v : AV) (x : Value), args[j]? = some v → vals[j]? = some x → VRs C g F w v x) (hr : (evEnter u ev gf args).run F = some (v, F')) :
    Enterable P gf ∧ Calls P gf vals.toArray w (fun e w' => ∃ x g', e = .returned x ∧ Rel C g' F' a w' ∧ VRs C g' F' w' v x ∧ ∀ p q, live F (.x p q) → live F' (.x p q) ∧ g'.η p q = g.η p q) :=
  evEnter_core (K := fun cargs w R => Enterable P gf ∧ Calls P gf cargs w R) (fun h hR => ⟨h.1, h.2.mono hR⟩)
    (fun args pack res out hev w S cargs s hin => ⟨((hEv gf args pack res out hev).1 hne).1, ((hEv gf args pack res out hev).1 hne).2 w S cargs s hin⟩) h hlen hv hr

theorem evEnter_round {ev : Ev} (hEv : SoundEv P C.Z ev) (h : Rel C g F a w) {u : Nat} {args : List AV} {vals : List Value} {v : AV} {F' : St} (hlen : vals.length = args.length)
    (hv : ∀ (j : Nat) (v : AV) (x : Value), args[j]? = some v → vals[j]? = some x → VRs C g F w v x) (hr : (evEnter u ev rnd args).run F = some (v, F')) :
    RoundOf P vals.toArray w (fun e w' => ∃ x g', e = .returned x ∧ Rel C g' F' a w' ∧ VRs C g' F' w' v x ∧ ∀ p q, live F (.x p q) → live F' (.x p q) ∧ g'.η p q = g.η p q) :=
  evEnter_core (K := RoundOf P) (fun h hR => h.mono hR) (fun args pack res out hev w S cargs s hin => (hEv rnd args pack res out hev).2 rfl w S cargs s hin) h hlen hv hr
end
end Go.Eng
end

section
namespace Go.Eng
open Go

section
variable {P : Program} {E : Env} {C : Ctx} {g : Gh} {F : St} {a : Act} {w : World}

theorem minmax_sound (lt : Bool) {x y v : Value} (h : minmax lt x y = some v) (w : World) : scalar v = true ∧ ((if lt then Builtin.min2 x y else Builtin.max2 x y)).run P w = .ok v w := by
  unfold minmax at h
  split at h
  · split at h
    · obtain rfl := Option.some.inj h
      cases lt <;> exact ⟨rfl, by simp [Builtin.min2, Builtin.max2]⟩
    · cases h
  · cases h

theorem foldMM_sound (lt : Bool) : ∀ {l : List AV} {xs : List Value} {x v : Value}, xs.length = l.length → (∀ (j : Nat) (v : AV) (x : Value), l[j]? = some v → xs[j]? = some x → VRs C g F w v x) → scalar x = true → foldMM lt x l = some v →
    scalar v = true ∧ (xs.foldlM (if lt then Builtin.min2 else Builtin.max2) x).run P w = .ok v w := by
  intro l
  induction l with
  | nil =>
    intro xs x v hl hv hs h
    have : xs = [] := List.eq_nil_of_length_eq_zero (by simpa using hl)
    subst this
    simp only [foldMM, Option.some.injEq] at h
    subst h
    exact ⟨hs, by simp⟩
  | cons a r ih =>
    intro xs x v hl hv hs h
    cases xs with
    | nil => simp at hl
    | cons y s =>
      cases a with
      | d z =>
        cases z with
        | v z =>
          simp only [foldMM, Option.bind_eq_some_iff] at h
          obtain ⟨m, h1, h2⟩ := h
          obtain ⟨rfl, -⟩ := (hv 0 _ y rfl rfl).scalar_of
          obtain ⟨k1, k2⟩ := minmax_sound (P := P) lt h1 w
          obtain ⟨i1, i2⟩ := ih (xs := s) (by simpa using hl) (fun j v x hj hx => hv (j + 1) v x (by simpa using hj) (by simpa using hx)) k1 h2
          refine ⟨i1, ?_⟩
          rw [List.foldlM_cons, Sem.run_bind]
          have : ((if lt then Builtin.min2 else Builtin.max2) x y).run P w = .ok m w := by cases lt <;> simpa using k2
          rw [this]
          exact i2
        | _ => simp [foldMM] at h
      | _ => simp [foldMM] at h

theorem builtin_sound (hZ : ∀ T t, E.ty T = some t → TyFacts P E.ty T t) (hC : C.Z = E.ty) (h : Rel C g F a w) {u : Nat} {b : Builtin} {args : List AV} {vals : List Value} {tys : List TypeId} {ty : TypeId} {consts : Array Bool} {v : AV} {F' : St}
    (hl : vals.length = args.length) (hv : ∀ (j : Nat) (v : AV) (x : Value), args[j]? = some v → vals[j]? = some x → VRs C g F w v x) (hr : (evBuiltin E u b args tys).run F = some (v, F')) :
    ∃ g' x w', (builtin b tys.toArray ty consts vals.toArray).run P w = .ok (.value x) w' ∧ Rel C g' F' a w' ∧ VRs C g' F' w' v x := by
  unfold evBuiltin at hr
  split at hr
  · rename_i x t
    obtain ⟨xv, rfl⟩ : ∃ xv, vals = [xv] := by
      match vals, hl with
      | [xv], _ => exact ⟨xv, rfl⟩
    have hx := hv 0 x xv rfl rfl
    split at hr
    · rename_i s
      obtain ⟨ty', F1, h1, hr2⟩ := Pr.bind_some hr
      obtain ⟨hT, rfl⟩ := Pr.opt_some h1
      split at hr2
      · rename_i hst
        simp only [Pr.run, Option.some.injEq, Prod.mk.injEq] at hr2
        obtain ⟨rfl, rfl⟩ := hr2
        obtain ⟨rfl, -⟩ := hx.scalar_of
        have hu := (hZ t ty' hT).str hst
        exact ⟨g, .int .i64 s.size, w, by simp [builtin, Builtin.len_, run_underlying hu, goInt], h, .d _ _ (.v _ rfl)⟩
      · cases hr2
    · obtain ⟨ty', F1, h1, hr2⟩ := Pr.bind_some hr
      obtain ⟨hT, rfl⟩ := Pr.opt_some h1
      split at hr2
      · rename_i n e ha
        simp only [Pr.run, Option.some.injEq, Prod.mk.injEq] at hr2
        obtain ⟨rfl, rfl⟩ := hr2
        have hu := ((hZ t ty' hT).arr n e ha).1
        exact ⟨g, .int .i64 n, w, by simp [builtin, Builtin.len_, run_underlying hu, goInt], h, .d _ _ (.v _ rfl)⟩
      · obtain ⟨e0, F2, h2, hr3⟩ := Pr.bind_some hr2
        obtain ⟨he, rfl⟩ := Pr.opt_some h2
        obtain ⟨⟨e, l⟩, F3, h3, hr4⟩ := Pr.bind_some hr3
        obtain ⟨rfl, A, c, rfl, -, -, -⟩ := elems_sound h hx h3
        simp only [Pr.run, Option.some.injEq, Prod.mk.injEq] at hr4
        obtain ⟨rfl, rfl⟩ := hr4
        have hu := (hZ t ty' hT).elem e0 he
        exact ⟨g, .int .i64 l.length, w, by simp [builtin, Builtin.len_, run_underlying hu, goInt], h, .d _ _ (.v _ rfl)⟩
  · rename_i x y t t'
    obtain ⟨xv, yv, rfl⟩ : ∃ xv yv, vals = [xv, yv] := by
      match vals, hl with
      | [xv, yv], _ => exact ⟨xv, yv, rfl⟩
    obtain ⟨g', z, w', k1, k2, k3⟩ := append_sound (P := P) (ty := ty) hZ hC h (hv 0 x xv rfl rfl) (hv 1 y yv rfl rfl) hr
    exact ⟨g', z, w', by simp [builtin, k1], k2, k3⟩
  · rename_i x r _
    obtain ⟨m, F1, h1, hr2⟩ := Pr.bind_some hr
    obtain ⟨hm, rfl⟩ := Pr.opt_some h1
    simp only [Pr.run, Option.some.injEq, Prod.mk.injEq] at hr2
    obtain ⟨rfl, rfl⟩ := hr2
    cases vals with
    | nil => simp at hl
    | cons xv s =>
      obtain ⟨rfl, hs⟩ := (hv 0 _ xv rfl rfl).scalar_of
      obtain ⟨k1, k2⟩ := foldMM_sound (P := P) (C := C) (g := g) (F := F1) (w := w) true (xs := s) (by simpa using hl) (fun j v x hj hx => hv (j + 1) v x (by simpa using hj) (by simpa using hx)) hs hm
      exact ⟨g, m, w, by simp only [if_true] at k2; simp [builtin, Builtin.min_, k2], h, .d _ _ (.v _ k1)⟩
  · rename_i x r _
    obtain ⟨m, F1, h1, hr2⟩ := Pr.bind_some hr
    obtain ⟨hm, rfl⟩ := Pr.opt_some h1
    simp only [Pr.run, Option.some.injEq, Prod.mk.injEq] at hr2
    obtain ⟨rfl, rfl⟩ := hr2
    cases vals with
    | nil => simp at hl
    | cons xv s =>
      obtain ⟨rfl, hs⟩ := (hv 0 _ xv rfl rfl).scalar_of
      obtain ⟨k1, k2⟩ := foldMM_sound (P := P) (C := C) (g := g) (F := F1) (w := w) false (xs := s) (by simpa using hl) (fun j v x hj hx => hv (j + 1) v x (by simpa using hj) (by simpa using hx)) hs hm
      exact ⟨g, m, w, by simp only [Bool.false_eq_true, if_false] at k2; simp [builtin, Builtin.max_, k2], h, .d _ _ (.v _ k1)⟩
  · cases hr

theorem zip_get {c : Call} {j : Nat} {o : Operand × TypeId} (h : (c.args.toList.zip c.argTypes.toList)[j]? = some o) : c.args[j]? = some o.1 := by
  rw [List.getElem?_zip_eq_some] at h
  simpa using h.1

theorem call_sound (hZ : ∀ T t, E.ty T = some t → TyFacts P E.ty T t) (hC : C.Z = E.ty) {ev : Ev} (hEv : SoundEv P C.Z ev) (h : Rel C g F a w) {u : Nat} {o : Oper} {c : Call} (ho : o.op = .call c) {v : AV} {F' : St}
    (hr : (evCall E u ev c).run F = some (v, F')) {next : Act → World → Prop} {Q : Exit → Act → World → Prop} (hn : ∀ g' x w', Rel C g' F' a w' → VRs C g' F' w' v x → next (a.put o.dst x) w') : o.wp P a w next Q := by
  have args_ok : ∀ {l : List AV} {F1 : St}, (operands E (c.args.toList.zip c.argTypes.toList)).run F = some (l, F1) → l.length = c.args.size → F1 = F ∧ (c.args.map a.eval).toList.length = l.length ∧
      ∀ (j : Nat) (v : AV) (x : Value), l[j]? = some v → (c.args.map a.eval).toList[j]? = some x → VRs C g F w v x := by
    intro l F1 h1 hlen
    obtain ⟨rfl, k1, k2⟩ := operands_sound h _ h1
    refine ⟨rfl, by simp [hlen], fun j v x hj hx => ?_⟩
    obtain ⟨o', ho'⟩ : ∃ o', (c.args.toList.zip c.argTypes.toList)[j]? = some o' := ⟨_, List.getElem?_eq_getElem (by rw [← k1]; exact (List.getElem?_eq_some_iff.1 hj).1)⟩
    have hz := zip_get ho'
    have : x = a.eval o'.1 := by
      simp only [Array.toList_map, List.getElem?_map, Array.getElem?_toList, hz, Option.map_some, Option.some.injEq] at hx
      exact hx.symm
    rw [this]; exact k2 j v o' hj ho'
  unfold evCall at hr
  split at hr
  · rename_i b hb
    obtain ⟨l, F1, h1, hr2⟩ := Pr.bind_some hr
    split at hr2
    · rename_i hlen
      obtain ⟨rfl, k1, k2⟩ := args_ok h1 hlen
      obtain ⟨g', x, w', q1, q2, q3⟩ := builtin_sound (P := P) (ty := o.type) (consts := c.args.map fun | .const _ => true | _ => false) hZ hC h k1 k2 hr2
      refine wp_value (x := x) (w' := w') ?_ (hn g' x w' q2 q3)
      simp only [execOp, ho, resolve, hb, Sem.run_bind, Sem.run_pure, Result.andThen_ok, invoke]
      simp only [Array.toArray_toList] at q1
      exact q1
    · cases hr2
  · rename_i fo hf
    obtain ⟨fv, F1, h1, hr2⟩ := Pr.bind_some hr
    obtain ⟨rfl, hfv⟩ := operand_sound h h1
    split at hr2
    · rename_i gf first cap
      obtain ⟨l, F2, h2, hr3⟩ := Pr.bind_some hr2
      split at hr3
      · rename_i hlen
        split at hr3
        · cases hr3
        rename_i hne
        obtain ⟨rfl, k1, k2⟩ := args_ok h2 hlen
        generalize hfe : a.eval fo = fval at hfv
        cases hfv with
        | fn _ _ _ xs cs q1 q2 q3 q4 =>
          have hall : ∀ (j : Nat) (v : AV) (x : Value), (first ++ l ++ cap)[j]? = some v → (xs.toList ++ (c.args.map a.eval).toList ++ cs.toList)[j]? = some x → VRs C g F2 w v x := by
            intro j v x hj hx
            by_cases c1 : j < first.length
            · rw [List.append_assoc, List.getElem?_append_left c1] at hj
              rw [List.append_assoc, List.getElem?_append_left (by simp; omega)] at hx
              exact q3 j v x hj (by simpa using hx)
            · rw [List.append_assoc, List.getElem?_append_right (by omega)] at hj
              rw [List.append_assoc, List.getElem?_append_right (by simp; omega)] at hx
              simp only [Array.length_toList, ← q1] at hx
              by_cases c2 : j - first.length < l.length
              · rw [List.getElem?_append_left c2] at hj
                rw [List.getElem?_append_left (by omega)] at hx
                exact k2 _ v x hj hx
              · rw [List.getElem?_append_right (by omega)] at hj
                rw [List.getElem?_append_right (by omega), k1] at hx
                exact q4 _ v x hj (by simpa using hx)
          obtain ⟨⟨fn, e1, e2, e3⟩, hcall⟩ := evEnter_sound hEv h hne (vals := xs.toList ++ (c.args.map a.eval).toList ++ cs.toList) (by simp only [List.length_append, k1, Array.length_toList, q1, q2]) hall hr3
          have hrun : (execOp a.eval o).run P w = .ok (.enter gf (xs.toList ++ (c.args.map a.eval).toList ++ cs.toList).toArray) w := by
            have e2' : fn.body.isNone = false := by cases hb : fn.body <;> simp_all
            simp only [execOp, ho, resolve, hf, hfe, Deferred.ofValue, Sem.run_bind, Sem.run_pure, Result.andThen_ok, invoke, callFunc, program, Sem.run, e1]
            simp [e3, e2']
          unfold Oper.wp
          rw [hrun, Oper.upon_enter]
          refine hcall.mono ?_
          rintro e w' ⟨x, g', rfl, r1, r2, -⟩
          exact hn g' x w' r1 r2
      · cases hr3
    · cases hr2
  · cases hr
end
end Go.Eng
end
