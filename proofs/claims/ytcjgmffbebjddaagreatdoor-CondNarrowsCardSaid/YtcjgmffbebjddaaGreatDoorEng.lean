/- The engine, part 6: EngN, EngTy, EngDec, EngRow, EngExt, EngEx2, EngPl of this author. A pure reading of the code of the model, and its soundness. Nothing is assumed. -/
import Derived.Test.YtcjgmffbebjddaaGreatDoorEng5
import Derived.ChangeArms
import Derived.ChangeOld
import Derived.SliceStrings
import Derived.Below
import Derived.Carry
import Derived.ChangeShapes
import Derived.Lib.Join
import Derived.Lib.ItoaNum
import Derived.Lib.Bytealg
import Derived.Laws.Strings
import Derived.Lib.LaidTab
set_option linter.all false

section
namespace Go.Eng
open Go

/-! ### From some fuel on -/
def Evt (P : Nat → Prop) : Prop := ∃ k, ∀ n, k ≤ n → P n
theorem Evt.of {P : Nat → Prop} (h : ∀ n, P n) : Evt P := ⟨0, fun n _ => h n⟩
theorem Evt.and {P Q : Nat → Prop} (h : Evt P) (g : Evt Q) : Evt fun n => P n ∧ Q n := by
  obtain ⟨a, h⟩ := h
  obtain ⟨b, g⟩ := g
  exact ⟨max a b, fun n hn => ⟨h n (by omega), g n (by omega)⟩⟩
theorem Evt.mono {P Q : Nat → Prop} (h : Evt P) (hi : ∀ n, P n → Q n) : Evt Q := by
  obtain ⟨a, h⟩ := h
  exact ⟨a, fun n hn => hi n (h n hn)⟩

/-! ### Shapes -/
theorem ikEq_eq : ∀ {a b : IntKind}, ikEq a b = true → a = b := by
  intro a b
  cases a <;> cases b <;> simp [ikEq]

theorem Lf.dec_enc : ∀ {l : Lf} {d : D} {x : l.T}, l.dec d = some x → d = l.enc x := by
  intro l d x h
  cases l with
  | int k =>
    cases d with
    | v y =>
      cases y <;> simp only [Lf.dec] at h <;> first | cases h; done | skip
      split at h
      · rename_i hk
        rw [ikEq_eq hk]
        obtain rfl := Option.some.inj h
        rfl
      · cases h
    | _ => cases h
  | str =>
    cases d with
    | v y => cases y <;> simp only [Lf.dec] at h <;> first | (obtain rfl := Option.some.inj h; rfl) | cases h
    | _ => cases h
  | bool =>
    cases d with
    | v y => cases y <;> simp only [Lf.dec] at h <;> first | (obtain rfl := Option.some.inj h; rfl) | cases h
    | _ => cases h
  | sl e =>
    cases d with
    | sl e' l =>
      simp only [Lf.dec] at h
      split at h
      · rename_i he
        obtain rfl := Option.some.inj h
        rw [he]; rfl
      · cases h
    | _ => cases h
  | nilp =>
    cases d with
    | v y =>
      cases y with
      | pointer a => cases a with
        | none => rfl
        | some a => simp [Lf.dec] at h
      | _ => cases h
    | _ => cases h
  | nilf =>
    cases d with
    | v y => cases y <;> first | rfl | cases h
    | _ => cases h
  | nili =>
    cases d with
    | v y => cases y <;> first | rfl | cases h
    | _ => cases h

theorem ksEq_eq : ∀ {a b : List Nat}, ksEq a b = true → a = b := by
  intro a
  induction a with
  | nil => intro b h; cases b with
    | nil => rfl
    | cons => cases h
  | cons x r ih =>
    intro b h
    cases b with
    | nil => cases h
    | cons y s =>
      simp only [ksEq, Bool.and_eq_true] at h
      rw [Nat.eq_of_beq_eq_true h.1, ih h.2]

theorem lfsDec_enc : ∀ {l : List Lf} {d : List D} {x : LfsT l}, lfsDec l d = some x → d = lfsEnc l x := by
  intro l
  induction l with
  | nil => intro d x h; cases d with
    | nil => rfl
    | cons => cases h
  | cons a r ih =>
    intro d x h
    cases d with
    | nil => cases h
    | cons d ds =>
      simp only [lfsDec] at h
      cases h1 : a.dec d with
      | none => rw [h1] at h; cases h
      | some u =>
        rw [h1] at h
        simp only at h
        cases h2 : lfsDec r ds with
        | none => rw [h2] at h; cases h
        | some v =>
          rw [h2] at h
          obtain rfl := Option.some.inj h
          simp only [lfsEnc, ← Lf.dec_enc h1, ← ih h2]

mutual
theorem Sh.dec_enc : ∀ {s : Sh} {a : AV} {x : s.T}, s.dec a = some x → a = s.enc x
  | .lf l, a, x, h => by
    cases a <;> first | (simp only [Sh.enc]; rw [← Lf.dec_enc h]) | cases h
  | .agg l, a, x, h => by
    cases a with
    | d y => cases y <;> first | (simp only [Sh.enc]; rw [← lfsDec_enc h]) | cases h
    | _ => cases h
  | .own e, a, x, h => by
    cases a with
    | own e' l =>
      have h' : (if e' = e then some l else none : Option (List D)) = some x := h
      split at h'
      · rename_i he
        obtain rfl := Option.some.inj h'
        rw [he]; rfl
      · cases h'
    | _ => cases h
  | .ptr p q o, a, x, h => by
    cases a with
    | ptr p' q' o' =>
      have h' : (if p' = p then (if q' = q then (if o' = o then some () else none) else none) else none : Option Unit) = some x := h
      split at h'
      · split at h'
        · split at h'
          · rename_i h1 h2 h3
            rw [h1, h2, h3]; rfl
          · cases h'
        · cases h'
      · cases h'
    | _ => cases h
  | .fn f y c, a, x, h => by
    cases a with
    | fn g y' c' =>
      cases g with
      | func f' =>
        have h' : (if f' = f then (match y.dec y' with
          | some u => match c.dec c' with
            | some v => some (u, v)
            | none => none
          | none => none) else none : Option (y.T × c.T)) = some x := h
        clear h
        split at h'
        · rename_i he
          cases h1 : y.dec y' with
          | none => rw [h1] at h'; cases h'
          | some u =>
            rw [h1] at h'
            simp only at h'
            cases h2 : c.dec c' with
            | none => rw [h2] at h'; cases h'
            | some v =>
              rw [h2] at h'
              obtain rfl := Option.some.inj h'
              show _ = AV.fn (.func f) (y.enc u) (c.enc v)
              rw [← Shs.dec_enc h1, ← Shs.dec_enc h2, he]
        · cases h'
      | _ => cases h
    | _ => cases h
  | .it, a, x, h => by
    cases a with
    | ob o cap =>
      cases o with
      | it s pos =>
        cases cap with
        | nil => obtain rfl := Option.some.inj h; rfl
        | cons => cases h
      | lp f i st ks => cases h
    | _ => cases h
  | .bx l, a, x, h => by
    cases a <;> first | (simp only [Sh.enc]; rw [← lfsDec_enc h]) | cases h
  | .yf p q, a, x, h => by
    cases a with
    | yf p' q' =>
      have h' : (if p' = p then (if q' = q then some () else none) else none : Option Unit) = some x := h
      split at h'
      · split at h'
        · rename_i h1 h2
          rw [h1, h2]; rfl
        · cases h'
      · cases h'
    | _ => cases h
  | .lp f i ks c, a, x, h => by
    cases a with
    | ob o cap =>
      cases o with
      | it s pos => cases h
      | lp f' i' st ks' =>
        have h' : (if f' = f then (if i' = i then (match ksEq ks' ks with
          | true => match c.dec cap with
            | some v => some (st, v)
            | none => none
          | false => none) else none) else none : Option (Nat × c.T)) = some x := h
        split at h'
        · split at h'
          · rename_i h1 h2
            split at h'
            · rename_i h3
              cases h4 : c.dec cap with
              | none => rw [h4] at h'; cases h'
              | some v =>
                rw [h4] at h'
                obtain rfl := Option.some.inj h'
                show _ = AV.ob (.lp f i st ks) (c.enc v)
                rw [← Shs.dec_enc h4, h1, h2, ksEq_eq h3]
            · cases h'
          · cases h'
        · cases h'
    | _ => cases h
  | .lp0 f i ks c, a, x, h => by
    cases a with
    | ob o cap =>
      cases o with
      | it s pos => cases h
      | lp f' i' st ks' =>
        cases st with
        | succ st => cases h
        | zero =>
          have h' : (if f' = f then (if i' = i then (match ksEq ks' ks with
            | true => c.dec cap
            | false => none) else none) else none : Option c.T) = some x := h
          split at h'
          · split at h'
            · rename_i h1 h2
              split at h'
              · rename_i h3
                show _ = AV.ob (.lp f i 0 ks) (c.enc x)
                rw [← Shs.dec_enc h', h1, h2, ksEq_eq h3]
              · cases h'
            · cases h'
          · cases h'
    | _ => cases h
  | .mix l, a, x, h => by
    cases a <;> first | (simp only [Sh.enc]; rw [← Shs.dec_enc h]) | cases h
  | .tup l, a, x, h => by
    cases a <;> first | (simp only [Sh.enc]; rw [← Shs.dec_enc h]) | cases h
theorem Shs.dec_enc : ∀ {s : Shs} {a : List AV} {x : s.T}, s.dec a = some x → a = s.enc x
  | .nil, a, x, h => by
    cases a with
    | nil => rfl
    | cons => cases h
  | .cons s t, a, x, h => by
    cases a with
    | nil => cases h
    | cons a r =>
      have h' : (match s.dec a with
        | some u => match t.dec r with
          | some v => some (u, v)
          | none => none
        | none => none : Option (s.T × t.T)) = some x := h
      clear h
      cases h1 : s.dec a with
      | none => rw [h1] at h'; cases h'
      | some u =>
        rw [h1] at h'
        simp only at h'
        cases h2 : t.dec r with
        | none => rw [h2] at h'; cases h'
        | some v =>
          rw [h2] at h'
          obtain rfl := Option.some.inj h'
          show _ = s.enc u :: t.enc v
          rw [← Sh.dec_enc h1, ← Shs.dec_enc h2]
end

theorem csDec_enc : ∀ {l : List Shs} {d : List (List AV)} {x : CsT l}, csDec l d = some x → d = csEnc l x := by
  intro l
  induction l with
  | nil => intro d x h; cases d with
    | nil => rfl
    | cons => cases h
  | cons a r ih =>
    intro d x h
    cases d with
    | nil => cases h
    | cons d ds =>
      simp only [csDec] at h
      cases h1 : a.dec d with
      | none => rw [h1] at h; cases h
      | some u =>
        rw [h1] at h
        simp only at h
        cases h2 : csDec r ds with
        | none => rw [h2] at h; cases h
        | some v =>
          rw [h2] at h
          obtain rfl := Option.some.inj h
          simp only [csEnc]
          rw [← Shs.dec_enc h1, ← ih h2]

theorem slDec_enc : ∀ {l : List (Nat × Sh)} {d : List (Nat × AV)} {x : SlT l}, slDec l d = some x → d = slEnc l x := by
  intro l
  induction l with
  | nil => intro d x h; cases d with
    | nil => rfl
    | cons => cases h
  | cons a r ih =>
    intro d x h
    cases d with
    | nil => cases h
    | cons d ds =>
      obtain ⟨k, d⟩ := d
      simp only [slDec] at h
      split at h
      · rename_i hk
        cases h1 : a.2.dec d with
        | none => rw [h1] at h; cases h
        | some u =>
          rw [h1] at h
          simp only at h
          cases h2 : slDec r ds with
          | none => rw [h2] at h; cases h
          | some v =>
            rw [h2] at h
            obtain rfl := Option.some.inj h
            simp only [slEnc]
            rw [← Sh.dec_enc h1, ← ih h2, hk]
      · cases h

theorem vsEq_eq : ∀ {a b : List (Nat × Nat)}, vsEq a b = true → a = b := by
  intro a
  induction a with
  | nil => intro b h; cases b with
    | nil => rfl
    | cons => cases h
  | cons x r ih =>
    intro b h
    cases b with
    | nil => cases h
    | cons y s =>
      simp only [vsEq, Bool.and_eq_true] at h
      obtain ⟨h1, h2, h3⟩ := h
      obtain ⟨x1, x2⟩ := x
      obtain ⟨y1, y2⟩ := y
      obtain rfl : x1 = y1 := Nat.eq_of_beq_eq_true h1
      obtain rfl : x2 = y2 := Nat.eq_of_beq_eq_true h2
      rw [ih h3]

theorem HSh.dec_enc {h : HSh} {H : HD} {x : h.T} (hd : h.dec H = some x) : H = h.enc x := by
  obtain ⟨vs, cs, sl⟩ := H
  unfold HSh.dec at hd
  simp only at hd
  split at hd
  · rename_i hv
    cases h1 : csDec h.cs cs with
    | none => rw [h1] at hd; cases hd
    | some u =>
      rw [h1] at hd
      simp only at hd
      cases h2 : slDec h.sl sl with
      | none => rw [h2] at hd; cases hd
      | some v =>
        rw [h2] at hd
        obtain rfl := Option.some.inj hd
        simp only [HSh.enc]
        rw [← csDec_enc h1, ← slDec_enc h2, ← vsEq_eq hv]
  · cases hd

theorem rtDec_enc : ∀ {out : List Shs} {res : Sh} {y : AV × List (List AV)} {x : RT res out}, rtDec res out y = some x → y = rtEnc res out x := by
  intro out res y x h
  obtain ⟨a, c⟩ := y
  cases out with
  | nil =>
    cases c with
    | nil =>
      simp only [rtEnc]
      have h' : res.dec a = some x := h
      rw [← Sh.dec_enc h']
    | cons => cases h
  | cons o r =>
    have h' : (match res.dec a with
      | some u => match csDec (o :: r) c with
        | some v => some (u, v)
        | none => none
      | none => none : Option (res.T × CsT (o :: r))) = some x := h
    clear h
    cases h1 : res.dec a with
    | none => rw [h1] at h'; cases h'
    | some u =>
      rw [h1] at h'
      simp only at h'
      cases h2 : csDec (o :: r) c with
      | none => rw [h2] at h'; cases h'
      | some v =>
        rw [h2] at h'
        obtain rfl := Option.some.inj h'
        show _ = (res.enc u, csEnc (o :: r) v)
        rw [← Sh.dec_enc h1, ← csDec_enc h2]

theorem exEq_eq : ∀ {a b : Ex}, exEq a b = true → a = b := by
  intro a b h
  cases a <;> cases b <;> simp [exEq] at h <;> first | rfl | (rw [h])

theorem altDec_enc : ∀ {l : List (Ex × HSh)} {y : Ex × HD} {x : AltT l}, altDec l y = some x → y = altEnc l x := by
  intro l
  induction l with
  | nil => intro y x h; cases h
  | cons a r ih =>
    intro y x h
    obtain ⟨ex, H⟩ := y
    cases r with
    | nil =>
      simp only [altDec] at h
      split at h
      · rename_i he
        simp only [altEnc]
        have h' : a.2.dec H = some x := h
        rw [← HSh.dec_enc h', exEq_eq he]
      · cases h
    | cons b r =>
      have tail : ∀ {x : AltT (a :: b :: r)}, (match altDec (b :: r) (ex, H) with
          | some v => some (.inr v)
          | none => none : Option (AltT (a :: b :: r))) = some x → (ex, H) = altEnc (a :: b :: r) x := by
        intro x h
        cases h1 : altDec (b :: r) (ex, H) with
        | none => rw [h1] at h; cases h
        | some v =>
          rw [h1] at h
          obtain rfl := Option.some.inj h
          exact ih h1
      simp only [altDec] at h
      split at h
      · rename_i he
        cases h1 : a.2.dec H with
        | none => rw [h1] at h; exact tail h
        | some v =>
          rw [h1] at h
          obtain rfl := Option.some.inj h
          simp only [altEnc]
          rw [← HSh.dec_enc h1, exEq_eq he]
      · exact tail h

theorem altEl_eq {β : Type} : ∀ {l : List (Ex × HSh)} {x : AltT l} {K : Ex × HD → Option β}, altEl l x K = K (altEnc l x) := by
  intro l
  induction l with
  | nil => intro x; exact nomatch (show Empty from x)
  | cons a r ih =>
    intro x K
    cases r with
    | nil => rfl
    | cons b r =>
      cases x with
      | inl v => rfl
      | inr v => exact ih

/-! ### Slots -/
theorem keyEq_eq : ∀ {a b : Key}, keyEq a b = true ↔ a = b := by
  intro a b
  cases a <;> cases b <;> simp [keyEq]

def Kn (F : St) (K : Kw) : Prop := ∀ k t, known K k = some t → F k = .val (.d (.v (.bool t)))

theorem known_cons {p : Key × Bool} {r : Kw} {k : Key} : known (p :: r) k = if p.1 = k then some p.2 else known r k := by
  simp only [known]
  cases h : keyEq p.1 k with
  | true => rw [if_pos (keyEq_eq.1 h)]
  | false => rw [if_neg (fun e => by rw [keyEq_eq.2 e] at h; cases h)]

theorem forget_cons {p : Key × Bool} {r : Kw} {k : Key} : forget (p :: r) k = if p.1 = k then forget r k else p :: forget r k := by
  simp only [forget]
  cases h : keyEq p.1 k with
  | true => rw [if_pos (keyEq_eq.1 h)]
  | false => rw [if_neg (fun e => by rw [keyEq_eq.2 e] at h; cases h)]

theorem known_forget : ∀ {K : Kw} {k j : Key} {t : Bool}, known (forget K k) j = some t → j ≠ k ∧ known K j = some t := by
  intro K
  induction K with
  | nil => intro k j t h; simp [forget, known] at h
  | cons p r ih =>
    intro k j t h
    rw [forget_cons] at h
    split at h
    · rename_i hp
      obtain ⟨h1, h2⟩ := ih h
      refine ⟨h1, ?_⟩
      rw [known_cons, if_neg (fun e => h1 (by rw [← e, hp]))]
      exact h2
    · rename_i hp
      rw [known_cons] at h ⊢
      split at h
      · rename_i hj
        rw [if_pos hj]
        exact ⟨fun e => hp (hj.trans e), h⟩
      · rename_i hj
        rw [if_neg hj]
        exact ih h

theorem Kn.set {F : St} {K : Kw} (h : Kn F K) (k : Key) (c : Cell) : Kn (F.upd k c) (forget K k) := fun j t hj => by
  obtain ⟨h1, h2⟩ := known_forget hj
  have := h j t h2
  simpa [St.upd, h1] using this

theorem Kn.cons {F : St} {K : Kw} (h : Kn F K) {k : Key} {s : Bool} (hF : F k = .val (.d (.v (.bool s)))) : Kn F ((k, s) :: K) := fun j t hj => by
  rw [known_cons] at hj
  split at hj
  · rename_i e
    subst e
    have : s = t := by simpa using hj
    subst this
    exact hF
  · exact h j t hj

theorem Kn.none (F : St) : Kn F [] := fun k t h => by simp [known] at h

/-! ### Programs -/
def Did {α : Type} (q : Nat → Pr α) (F : St) (v : α) (F' : St) (l : List Key × List Key) : Prop := Evt fun n => (q n).run F = some (v, F') ∧ (q n).log F = l

theorem Pr.log_bind {α β : Type} (p : Pr α) (f : α → Pr β) : ∀ {F : St} {v : α} {F' : St}, p.run F = some (v, F') →
    (p.bind f).log F = ((p.log F).1 ++ ((f v).log F').1, (p.log F).2 ++ ((f v).log F').2) := by
  induction p with
  | ret a => intro F v F' h; simp only [Pr.run, Option.some.injEq, Prod.mk.injEq] at h; obtain ⟨rfl, rfl⟩ := h; simp [Pr.bind, Pr.log]
  | fail => intro F v F' h; cases h
  | get k g ih => intro F v F' h; simp only [Pr.run] at h; simp only [Pr.bind, Pr.log, ih _ h, List.cons_append]
  | set k c p ih => intro F v F' h; simp only [Pr.run] at h; simp only [Pr.bind, Pr.log, ih h, List.cons_append]
  | ask b g ih => intro F v F' h; simp only [Pr.run] at h; simp only [Pr.bind, Pr.log, ih _ h]
  | askS k g ih =>
    intro F v F' h
    obtain ⟨t, ht, h'⟩ : ∃ t : Option Bool, ((∃ s, F k = .val (.d (.v (.bool s))) ∧ t = some s) ∨ (F k = .val (.tup []) ∧ t = none)) ∧ (g t).run F = some (v, F') := by
      simp only [Pr.run] at h
      split at h
      · rename_i s hs; exact ⟨some s, .inl ⟨s, hs, rfl⟩, h⟩
      · rename_i hs; exact ⟨none, .inr ⟨hs, rfl⟩, h⟩
      · cases h
    rcases ht with ⟨s, hs, rfl⟩ | ⟨hs, rfl⟩
    · simp only [Pr.bind, Pr.log, hs, ih _ h', List.cons_append]
    · simp only [Pr.bind, Pr.log, hs, ih _ h', List.cons_append]
  | chk c d p ih =>
    intro F v F' h
    cases d with
    | isTrue hc => simp only [Pr.run] at h; simp only [Pr.bind, Pr.log, ih h]
    | isFalse hc => cases h
  | lookD o g ih =>
    intro F v F' h
    obtain ⟨x, rfl, h⟩ := Pr.lookD_some h
    simp only [Pr.bind, Pr.log, ih _ h]
  | lookN o g ih =>
    intro F v F' h
    obtain ⟨x, rfl, h⟩ := Pr.lookN_some h
    simp only [Pr.bind, Pr.log, ih _ h]
  | lookB o g ih =>
    intro F v F' h
    obtain ⟨x, rfl, h⟩ := Pr.lookB_some h
    simp only [Pr.bind, Pr.log, ih _ h]
  | lookR o g ih =>
    intro F v F' h
    obtain ⟨x, rfl, h⟩ := Pr.lookR_some h
    simp only [Pr.bind, Pr.log, ih _ h]

theorem Did.const {α : Type} {p : Pr α} {F : St} {v : α} {F' : St} (h : p.run F = some (v, F')) : Did (fun _ => p) F v F' (p.log F) := Evt.of fun _ => ⟨h, rfl⟩

theorem Did.bind {α β : Type} {q : Nat → Pr α} {g : Nat → α → Pr β} {F : St} {v : α} {F1 : St} {l1 : List Key × List Key} {x : β} {F2 : St} {l2 : List Key × List Key}
    (h : Did q F v F1 l1) (h2 : Did (fun n => g n v) F1 x F2 l2) : Did (fun n => (q n).bind (g n)) F x F2 (l1.1 ++ l2.1, l1.2 ++ l2.2) :=
  (h.and h2).mono fun n ⟨⟨a, b⟩, c, d⟩ => by
    refine ⟨by rw [Pr.run_bind, a]; exact c, ?_⟩
    rw [Pr.log_bind _ _ a, b, d]

theorem no_none {β : Type} {o : Option Empty} {y : β} : no o ≠ some y := by
  cases o with
  | none => intro h; cases h
  | some e => exact nomatch e

/-- What follows a handed-on evaluation. -/
def Snd {α β : Type} (c : Kont α β → Option β) (q : Nat → Pr α) (F : St) (K : Kw) (r wr : List Key) : Prop :=
  ∀ k y, c k = some y → Kn F K → ∃ v F' K' l, Did q F v F' l ∧ Kn F' K' ∧ k v F' K' (l.1.reverse ++ r) (l.2.reverse ++ wr) = some y

theorem Snd.bind {α γ β : Type} {c : Kont α β → Option β} {q : Nat → Pr α} {F : St} {K : Kw} {r wr : List Key} {d : α → St → Kw → List Key → List Key → Kont γ β → Option β} {g : Nat → α → Pr γ}
    (h : Snd c q F K r wr) (h2 : ∀ v F' K' r' wr', Snd (d v F' K' r' wr') (fun n => g n v) F' K' r' wr') :
    Snd (fun k => c fun v F' K' r' wr' => d v F' K' r' wr' k) (fun n => (q n).bind (g n)) F K r wr := fun k y hk hK => by
  obtain ⟨v, F1, K1, l1, a1, a2, a3⟩ := h _ y hk hK
  obtain ⟨x, F2, K2, l2, b1, b2, b3⟩ := h2 v F1 K1 _ _ k y a3 a2
  exact ⟨x, F2, K2, _, a1.bind b1, b2, by simpa using b3⟩

theorem Snd.fail {α β : Type} {q : Nat → Pr α} {F : St} {K : Kw} {r wr : List Key} {o : Option Empty} : Snd (β := β) (fun _ => no o) q F K r wr := fun k y h _ => absurd h no_none
theorem Snd.none {α β : Type} {q : Nat → Pr α} {F : St} {K : Kw} {r wr : List Key} : Snd (β := β) (fun _ => Option.none) q F K r wr := fun k y h _ => by cases h

theorem Snd.congr {α β : Type} {c : Kont α β → Option β} {q q' : Nat → Pr α} {F : St} {K : Kw} {r wr : List Key} (h : Snd c q F K r wr) (hq : ∀ n, q n = q' n) : Snd c q' F K r wr := by
  have : q = q' := funext hq
  rwa [← this]

theorem Pr.cps_snd {α β : Type} (w : Option Empty) (p : Pr α) : ∀ (F : St) (K : Kw) (r wr : List Key), Snd (β := β) (fun k => p.cps w F K r wr k) (fun _ => p) F K r wr := by
  have key : ∀ (F : St) (K : Kw) (r wr : List Key) (k : Kont α β) (y : β), p.cps w F K r wr k = some y → Kn F K → ∃ v F' K', p.run F = some (v, F') ∧ Kn F' K' ∧ k v F' K' ((p.log F).1.reverse ++ r) ((p.log F).2.reverse ++ wr) = some y := by
    induction p with
    | ret a =>
      intro F K r wr k y h hK
      have h' : k a F K r wr = some y := h
      exact ⟨a, F, K, rfl, hK, by simpa [Pr.log] using h'⟩
    | fail => intro F K r wr k y h hK; exact absurd h no_none
    | get ky g ih =>
      intro F K r wr k y h hK
      obtain ⟨v, F', K', a, b, c⟩ := ih _ _ _ _ _ _ _ h hK
      exact ⟨v, F', K', a, b, by simpa [Pr.log] using c⟩
    | set ky c p ih =>
      intro F K r wr k y h hK
      obtain ⟨v, F', K', a, b, c⟩ := ih _ _ _ _ _ _ h (hK.set ky c)
      exact ⟨v, F', K', a, b, by simpa [Pr.log] using c⟩
    | ask s f ih =>
      intro F K r wr k y h hK
      simp only [Pr.cps] at h
      cases s with
      | true => exact ih _ _ _ _ _ _ _ h hK
      | false => exact ih _ _ _ _ _ _ _ h hK
    | askS ky f ih =>
      intro F K r wr k y h hK
      simp only [Pr.cps] at h
      split at h
      · rename_i s hs
        have fin : ∀ (K1 : Kw), Kn F K1 → (f (some s)).cps w F K1 (ky :: r) wr k = some y → ∃ v F' K', (Pr.askS ky f).run F = some (v, F') ∧ Kn F' K' ∧ k v F' K' (((Pr.askS ky f).log F).1.reverse ++ r) (((Pr.askS ky f).log F).2.reverse ++ wr) = some y := fun K1 hK1 h1 => by
          obtain ⟨v, F', K', a, b, c⟩ := ih _ _ _ _ _ _ _ h1 hK1
          refine ⟨v, F', K', by simp only [Pr.run, hs]; exact a, b, ?_⟩
          have e : (Pr.askS ky f).log F = (ky :: ((f (some s)).log F).1, ((f (some s)).log F).2) := by simp only [Pr.log, hs]
          rw [e]
          simpa using c
        cases hkn : known K ky with
        | some t =>
          rw [hkn] at h
          simp only at h
          have := hK ky t hkn
          rw [hs] at this
          have hst : s = t := by simpa using this
          subst hst
          exact fin K hK h
        | none =>
          rw [hkn] at h
          simp only at h
          cases s with
          | true => exact fin _ (hK.cons hs) h
          | false => exact fin _ (hK.cons hs) h
      · rename_i hs
        obtain ⟨v, F', K', a, b, c⟩ := ih _ _ _ _ _ _ _ h hK
        refine ⟨v, F', K', by simp only [Pr.run, hs]; exact a, b, ?_⟩
        have e : (Pr.askS ky f).log F = (ky :: ((f none).log F).1, ((f none).log F).2) := by simp only [Pr.log, hs]
        rw [e]
        simpa using c
      · exact absurd h no_none
    | chk c d p ih =>
      intro F K r wr k y h hK
      simp only [Pr.cps] at h
      cases d with
      | isTrue hc =>
        have h' : p.cps w F K r wr k = some y := h
        obtain ⟨v, F', K', a, b, c⟩ := ih _ _ _ _ _ _ h' hK
        exact ⟨v, F', K', a, b, c⟩
      | isFalse hc => cases h
    | lookD o f ih =>
      intro F K r wr k y h hK
      simp only [Pr.cps, Option.bind_eq_some_iff] at h
      obtain ⟨x, rfl, h⟩ := h
      obtain ⟨v, F', K', a, b, c⟩ := ih _ _ _ _ _ _ _ h hK
      exact ⟨v, F', K', a, b, c⟩
    | lookN o f ih =>
      intro F K r wr k y h hK
      simp only [Pr.cps, Option.bind_eq_some_iff] at h
      obtain ⟨x, rfl, h⟩ := h
      obtain ⟨v, F', K', a, b, c⟩ := ih _ _ _ _ _ _ _ h hK
      exact ⟨v, F', K', a, b, c⟩
    | lookB o f ih =>
      intro F K r wr k y h hK
      simp only [Pr.cps, Option.bind_eq_some_iff] at h
      obtain ⟨x, rfl, h⟩ := h
      obtain ⟨v, F', K', a, b, c⟩ := ih _ _ _ _ _ _ _ h hK
      exact ⟨v, F', K', a, b, c⟩
    | lookR o f ih =>
      intro F K r wr k y h hK
      simp only [Pr.cps, Option.bind_eq_some_iff] at h
      obtain ⟨x, rfl, h⟩ := h
      obtain ⟨v, F', K', a, b, c⟩ := ih _ _ _ _ _ _ _ h hK
      exact ⟨v, F', K', a, b, c⟩
  intro F K r wr k y h hK
  obtain ⟨v, F', K', a, b, c⟩ := key F K r wr k y h hK
  exact ⟨v, F', K', _, Did.const a, b, c⟩

/-! ### Tables -/
variable {E : Env}

def FE.ok (E : Env) (e : FE) : Prop := ∀ a p r, e.nat a p = some r → Evt fun n => evFn E n e.f (e.args.enc a) (csEnc e.pack p) = some (rtEnc e.res e.out r)

theorem findF_sound {β : Type} {T : Tab} {g : FuncId} {args : List AV} {pack : List (List AV)} {K : AV × List (List AV) → Option β} {y : β} : ∀ {l : List FE}, (∀ e ∈ l, e.ok E) → findF T g args pack K l = some y →
    ∃ x, K x = some y ∧ Evt fun n => evFn E n g args pack = some x := by
  intro l
  induction l with
  | nil => intro _ h; exact absurd h no_none
  | cons e r ih =>
    intro ho h
    have ho' : ∀ e ∈ r, e.ok E := fun e he => ho e (List.mem_cons_of_mem _ he)
    simp only [findF] at h
    split at h
    · rename_i hg
      cases h1 : e.args.dec args with
      | none => rw [h1] at h; exact ih ho' h
      | some a =>
        rw [h1] at h
        simp only at h
        cases h2 : csDec e.pack pack with
        | none => rw [h2] at h; exact ih ho' h
        | some p =>
          rw [h2] at h
          simp only [Option.bind_eq_some_iff] at h
          obtain ⟨x, h3, h4⟩ := h
          refine ⟨_, h4, ?_⟩
          have := ho e (List.mem_cons_self ..) a p x h3
          rw [← Shs.dec_enc h1, ← csDec_enc h2, Nat.eq_of_beq_eq_true hg] at this
          exact this
    · exact ih ho' h

/-- A loop from a head on: n rounds at most; its end as what is live behind it. -/
def itn (nm : St → Option St) (body : St → Option (Ex × St)) : Nat → St → Option (Ex × St)
  | 0, _ => none
  | k + 1, F => (body F).bind fun
    | (.normal, F') => (nm F').bind (itn nm body k)
    | r => some r

theorem iter_eq (nm : St → Option St) (body : St → Option (Ex × St)) : ∀ (k : Nat) (F : St), iter nm body k F = (nm F).bind (itn nm body k) := by
  intro k
  induction k with
  | zero => intro F; cases h : nm F <;> simp [iter, itn]
  | succ k ih =>
    intro F
    simp only [iter]
    congr 1
    funext F0
    simp only [itn]
    congr 1
    funext r
    obtain ⟨ex, F'⟩ := r
    cases ex <;> simp only [ih]

def itx (E : Env) (f N : Nat) (ev : Ev) (k : Nat) (c : Code) (n : Nat) (F : St) : Option (Ex × St) :=
  (itn (norm (E.live f (firstRegion c))) (evCode E f N ev k c) n F).bind fun r => (norm (E.out f (firstRegion c)) r.2).map fun F' => (r.1, F')

def LDid (E : Env) (f : FuncId) (c : Code) (H : HD) (x : Ex × HD) : Prop :=
  ∃ F0, freshH H = some F0 ∧ ∀ F1, freshH x.2 = some F1 → ∃ k0, ∀ k, k0 ≤ k → ∀ n, k0 ≤ n → itx E f (NT E f) (evFn E k) k c n F0 = some (x.1, F1)

def LE.ok (E : Env) (e : LE) : Prop := ∀ c ∈ loopsOf (bodyOf E e.f), firstRegion c = e.id → ∀ v y, e.nat v = some y → LDid E e.f c (e.inn.enc v) (altEnc e.outs y)

theorem findL_sound {β : Type} {T : Tab} {f : FuncId} {c : Code} {H : HD} {K : Ex × HD → Option β} {y : β} (hc : c ∈ loopsOf (bodyOf E f)) : ∀ {l : List LE}, (∀ e ∈ l, e.ok E) → findL T f (firstRegion c) H K l = some y →
    ∃ x, K x = some y ∧ LDid E f c H x := by
  intro l
  induction l with
  | nil => intro _ h; exact absurd h no_none
  | cons e r ih =>
    intro ho h
    have ho' : ∀ e ∈ r, e.ok E := fun e he => ho e (List.mem_cons_of_mem _ he)
    simp only [findL] at h
    split at h
    · rename_i hg
      simp only [Bool.and_eq_true] at hg
      have g1 : e.f = f := Nat.eq_of_beq_eq_true hg.1
      have g2 : e.id = firstRegion c := Nat.eq_of_beq_eq_true hg.2
      cases h1 : e.inn.dec H with
      | none => rw [h1] at h; exact ih ho' h
      | some a =>
        rw [h1] at h
        simp only [Option.bind_eq_some_iff] at h
        obtain ⟨x, h3, h4⟩ := h
        rw [altEl_eq] at h4
        refine ⟨_, h4, ?_⟩
        have := ho e (List.mem_cons_self ..) c (by rw [g1]; exact hc) g2.symm a x h3
        rw [← HSh.dec_enc h1, g1] at this
        exact this
    · exact ih ho' h

def TabOK (E : Env) (T : Tab) : Prop := (∀ e ∈ T.fns, e.ok E) ∧ (∀ e ∈ T.loops, e.ok E)

/-! ### Operations -/
theorem Pr.bind_assoc {α β γ : Type} (p : Pr α) (f : α → Pr β) (g : β → Pr γ) : (p.bind f).bind g = p.bind fun x => (f x).bind g := by
  induction p with
  | ret a => rfl
  | fail => rfl
  | get k h ih => simp only [Pr.bind, ih]
  | set k c p ih => simp only [Pr.bind, ih]
  | ask b h ih => simp only [Pr.bind, ih]
  | askS k h ih => simp only [Pr.bind, ih]
  | chk c d p ih => simp only [Pr.bind, ih]
  | lookD o h ih => simp only [Pr.bind, ih]
  | lookN o h ih => simp only [Pr.bind, ih]
  | lookB o h ih => simp only [Pr.bind, ih]
  | lookR o h ih => simp only [Pr.bind, ih]

theorem Pr.ite_bind {α β : Type} {c : Prop} [Decidable c] {p q : Pr α} {f : α → Pr β} : (if c then p else q).bind f = if c then p.bind f else q.bind f := by
  split <;> rfl

theorem enter_eq (u : Nat) (ev : Ev) (g : FuncId) (args : List AV) : evEnter u ev g args = (enterPre args).bind fun q => .lookR (ev g q.2.1 q.2.2) fun x => enterPost u args q.1 x := by
  unfold evEnter enterPre
  rw [Pr.bind_assoc]
  congr 1; funext bs
  rw [Pr.bind_assoc]
  congr 1; funext vs
  rw [Pr.ite_bind]
  split
  · rename_i hv
    rw [Pr.bind_assoc]
    congr 1; funext bs'
    simp only [Pr.bind, enterPost, hv, if_true]
  · rename_i hv
    rw [Pr.ite_bind]
    split
    · rfl
    · simp only [Pr.bind_assoc, Pr.bind, enterPost, hv, Bool.false_eq_true, if_false]

section
variable {β : Type} {T : Tab} {w : Option Empty} {u : Nat} {F : St} {K : Kw} {r wr : List Key}

theorem cEnter_snd (hT : TabOK E T) {g : FuncId} {args : List AV} : Snd (β := β) (fun k => cEnter T w u g args F K r wr k) (fun n => evEnter u (evFn E n) g args) F K r wr := by
  refine Snd.congr (q := fun n => (enterPre args).bind fun q => .lookR (evFn E n g q.2.1 q.2.2) fun x => enterPost u args q.1 x) ?_ (fun n => (enter_eq _ _ _ _).symm)
  refine Snd.bind (Pr.cps_snd w (enterPre args) F K r wr) fun q F K r wr => ?_
  intro k y hk hK
  obtain ⟨x, h1, h2⟩ := findF_sound hT.1 hk
  obtain ⟨v, F', K', l, d, hK', hk'⟩ := Pr.cps_snd w (enterPost u args q.1 x) F K r wr k y h1 hK
  refine ⟨v, F', K', l, (d.and h2).mono fun n hn => ?_, hK', hk'⟩
  obtain ⟨⟨a, b⟩, c⟩ := hn
  simp only [Pr.run, Pr.log, c]
  exact ⟨a, b⟩

theorem evElem_eq (e : TypeId) (l : List D) (i off : Nat) (T : TypeId) (t : Ty) : evElem e l i off T t = .lookD l[i]? fun x => evElemOf e x off T t := rfl

theorem cElem_snd {e : TypeId} {l : List D} {i off : Nat} {T : TypeId} {t : Ty} : Snd (β := β) (fun k => cElem E w e l i off T t F K r wr k) (fun _ => evElem e l i off T t) F K r wr := by
  intro k y hk hK
  simp only [cElem] at hk
  split at hk
  · exact absurd hk no_none
  split at hk
  · exact absurd hk no_none
  rename_i fs hfs
  have fin : ∀ x, l[i]? = some x → (evElemOf e x off T t).cps w F K r wr k = some y →
      ∃ v F' K' l', Did (fun _ => evElem e l i off T t) F v F' l' ∧ Kn F' K' ∧ k v F' K' (l'.1.reverse ++ r) (l'.2.reverse ++ wr) = some y := fun x hx h => by
    obtain ⟨v, F', K', l', d, hK', hk'⟩ := Pr.cps_snd w _ F K r wr k y h hK
    refine ⟨v, F', K', l', d.mono fun n hn => ?_, hK', hk'⟩
    simp only [evElem_eq, Pr.run, Pr.log, hx]
    exact hn
  split at hk
  · simp only [rdA, Option.bind_eq_some_iff] at hk
    obtain ⟨v, ⟨x, hx, hv⟩, h⟩ := hk
    refine fin x hx ?_
    cases x with
    | agg c =>
      have := lfsDec_enc (show lfsDec fs c = some v from hv)
      rw [this]
      exact h
    | _ => cases hv
  · split at hk
    · simp only [rd, Option.bind_eq_some_iff] at hk
      obtain ⟨v, ⟨x, hx, hv⟩, h⟩ := hk
      refine fin x hx ?_
      rw [Lf.dec_enc hv]
      exact h
    · exact absurd hk no_none

theorem cLoad_snd {t : TypeId} {a : AV} : Snd (β := β) (fun k => cLoad E w t a F K r wr k) (fun _ => evLoad E t a) F K r wr := by
  cases a with
  | eS e l i off =>
    simp only [cLoad]
    cases hT : E.ty t with
    | none => exact Snd.fail
    | some ty =>
      refine Snd.congr (cElem_snd (E := E)) fun n => ?_
      simp only [evLoad, hT]; rfl
  | eR x y e' i off =>
    intro k z hk hK
    simp only [cLoad] at hk
    cases hT : E.ty t with
    | none => rw [hT] at hk; exact absurd hk no_none
    | some ty =>
      rw [hT] at hk
      simp only at hk
      have fin : ∀ e l, (F (.r x y) = .own e l ∨ F (.r x y) = .fro e l) → (if e = e' then cElem E w e l i off t ty F K (.r x y :: r) wr k else no w) = some z →
          ∃ v F' K' l', Did (fun _ => evLoad E t (.eR x y e' i off)) F v F' l' ∧ Kn F' K' ∧ k v F' K' (l'.1.reverse ++ r) (l'.2.reverse ++ wr) = some z := fun e l hF h => by
        split at h
        · rename_i he
          obtain ⟨v, F', K', l', d, hK', hk'⟩ := cElem_snd (E := E) k z h hK
          refine ⟨v, F', K', (.r x y :: l'.1, l'.2), d.mono fun n hn => ?_, hK', by simpa using hk'⟩
          have e1 : evLoad E t (.eR x y e' i off) = .get (.r x y) fun
              | .own e l => if e = e' then evElem e l i off t ty else .fail
              | .fro e l => if e = e' then evElem e l i off t ty else .fail
              | _ => .fail := by simp only [evLoad, hT]; rfl
          rw [e1]
          obtain ⟨h1, h2⟩ := hn
          rcases hF with hF | hF
          · simp only [Pr.run, Pr.log, hF, he, if_true]
            rw [he] at h1 h2
            exact ⟨h1, by rw [h2]⟩
          · simp only [Pr.run, Pr.log, hF, he, if_true]
            rw [he] at h1 h2
            exact ⟨h1, by rw [h2]⟩
        · exact absurd h no_none
      split at hk
      · rename_i e l hF; exact fin e l (.inl hF) hk
      · rename_i e l hF; exact fin e l (.inr hF) hk
      · exact absurd hk no_none
  | _ => exact Pr.cps_snd w _ F K r wr

theorem cCall_snd (hT : TabOK E T) {c : Call} : Snd (β := β) (fun k => cCall E T w u c F K r wr k) (fun n => evCallY E u (evFn E n) c) F K r wr := by
  obtain ⟨callee, args, argTypes⟩ := c
  cases callee with
  | value f =>
    refine Snd.congr (q := fun n => (operand none f).bind fun v => match v with
      | .fn (.func g) first cap => (operands E (args.toList.zip argTypes.toList)).bind fun l =>
        if l.length = args.size then (if g = rnd then .fail else evEnter u (evFn E n) g (first ++ l ++ cap)) else .fail
      | .yf p q => (operands E (args.toList.zip argTypes.toList)).bind fun l => if l.length = args.size then evYield u (evFn E n) p q l else .fail
      | _ => .fail) ?_ (fun n => rfl)
    simp only [cCall]
    refine Snd.bind (d := fun v F K r wr k => match v with
      | .fn (.func g) first cap => (operands E (args.toList.zip argTypes.toList)).cps w F K r wr fun l F K r wr =>
        if l.length = args.size then (if g = rnd then no w else cEnter T w u g (first ++ l ++ cap) F K r wr k) else no w
      | .yf p q => (operands E (args.toList.zip argTypes.toList)).cps w F K r wr fun l F K r wr =>
        if l.length = args.size then cEnter T w u rnd (l ++ [.yf p q]) F K r wr fun v F K r wr => (yieldPost p q v).cps w F K r wr k else no w
      | _ => no w) (Pr.cps_snd w (operand none f) F K r wr) fun v F K r wr => ?_
    cases v with
    | fn g first cap =>
      cases g with
      | func g =>
        refine Snd.bind (d := fun l F K r wr k => if l.length = args.size then (if g = rnd then no w else cEnter T w u g (first ++ l ++ cap) F K r wr k) else no w) (g := fun n l => if l.length = args.size then (if g = rnd then .fail else evEnter u (evFn E n) g (first ++ l ++ cap)) else .fail)
          (Pr.cps_snd w _ F K r wr) fun l F K r wr => ?_
        by_cases hl : l.length = args.size
        · simp only [hl, if_true]
          by_cases hg : g = rnd
          · simp only [hg, if_true]
            exact Snd.fail
          · simp only [hg, if_false]
            exact cEnter_snd hT
        · simp only [hl, if_false]
          exact Snd.fail
      | _ => exact Snd.fail
    | yf p q =>
      refine Snd.bind (d := fun l F K r wr k => if l.length = args.size then cEnter T w u rnd (l ++ [.yf p q]) F K r wr fun v F K r wr => (yieldPost p q v).cps w F K r wr k else no w) (g := fun n l => if l.length = args.size then evYield u (evFn E n) p q l else .fail)
        (Pr.cps_snd w _ F K r wr) fun l F K r wr => ?_
      by_cases hl : l.length = args.size
      · simp only [hl, if_true]
        exact Snd.bind (d := fun v F K r wr k => (yieldPost p q v).cps w F K r wr k) (cEnter_snd hT) fun v F K r wr => Pr.cps_snd w _ F K r wr
      · simp only [hl, if_false]
        exact Snd.fail
    | _ => exact Snd.fail
  | builtin b => exact Pr.cps_snd w (evCall E u noEv ⟨.builtin b, args, argTypes⟩) F K r wr
  | invoke r0 m0 => exact Pr.cps_snd w (evCall E u noEv ⟨.invoke r0 m0, args, argTypes⟩) F K r wr

theorem cOp_snd (hT : TabOK E T) {o : Oper} : Snd (β := β) (fun k => cOp E T w u o F K r wr k) (fun n => evOpY E u (evFn E n) o) F K r wr := by
  obtain ⟨dst, op, type, pos, after, guard⟩ := o
  cases op with
  | call c => exact cCall_snd hT
  | load t a =>
    refine Snd.congr (q := fun n => (operand none a).bind fun v => evLoad E t v) ?_ (fun n => rfl)
    exact Snd.bind (d := fun v F K r wr k => cLoad E w t v F K r wr k) (Pr.cps_snd w _ F K r wr) fun v F K r wr => cLoad_snd
  | pick c x y => cases c <;> exact Pr.cps_snd w (evOp E u noEv ⟨dst, .pick _ x y, type, pos, after, guard⟩) F K r wr
  | next x st => exact Snd.congr (Pr.cps_snd w (evOp E u noEv ⟨dst, .next x st, type, pos, after, guard⟩) F K r wr) fun n => by cases st <;> rfl
  | slice t x lo hi mx => exact Snd.congr (Pr.cps_snd w (evOp E u noEv ⟨dst, .slice t x lo hi mx, type, pos, after, guard⟩) F K r wr) fun n => by cases mx <;> rfl
  | _ => exact Pr.cps_snd w (evOp E u noEv ⟨dst, _, type, pos, after, guard⟩) F K r wr

theorem cOper_snd (hT : TabOK E T) {N : Nat} {ops : Array Oper} {o : Oper} : Snd (β := β) (fun k => cOper E T N u ops o F K k) (fun n => evOper E N u (evFn E n) ops o) F K [] [] := by
  unfold cOper evOper
  refine Snd.bind (d := fun t F K r wr k => match t with
    | true => cOp E T (T.why u) u o F K r wr fun v F K r wr => (putT N o.dst v).cps (T.why u) F K r wr k
    | false => (putT N o.dst (.tup [])).cps (T.why u) F K r wr k) (g := fun n t => match t with
    | true => (evOpY E u (evFn E n) o).bind fun v => putT N o.dst v
    | false => putT N o.dst (.tup [])) (Pr.cps_snd _ _ F K [] []) fun t F K r wr => ?_
  cases t with
  | true => exact Snd.bind (d := fun v F K r wr k => (putT N o.dst v).cps (T.why u) F K r wr k) (cOp_snd hT) fun v F K r wr => Pr.cps_snd _ _ F K r wr
  | false => exact Pr.cps_snd _ _ F K r wr

theorem cOps_sound (hT : TabOK E T) {N id : Nat} {ops : Array Oper} : ∀ {l : List Nat} {F : St} {K : Kw} {L : List (List Key × List Key)} {k : St → Kw → List (List Key × List Key) → Option β} {y : β},
    cOps E T N id ops l F K L k = some y → Kn F K → ∃ F' K' L', Kn F' K' ∧ k F' K' (L'.reverse ++ L) = some y ∧ Evt fun n => evOps E N id (evFn E n) ops l F = some F' ∧ logs E N id (evFn E n) ops l F = L' := by
  intro l
  induction l with
  | nil =>
    intro F K L k y h hK
    have h' : k F K L = some y := h
    exact ⟨F, K, [], hK, by simpa using h', Evt.of fun n => ⟨rfl, rfl⟩⟩
  | cons i l ih =>
    intro F K L k y h hK
    simp only [cOps] at h
    cases ho : ops[i]? with
    | none => rw [ho] at h; cases h
    | some o =>
      rw [ho] at h
      simp only at h
      obtain ⟨v, F1, K1, l1, a1, a2, a3⟩ := cOper_snd hT _ _ h hK
      obtain ⟨F2, K2, L2, b1, b2, b3⟩ := ih a3 a2
      refine ⟨F2, K2, l1 :: L2, b1, ?_, (a1.and b3).mono fun n hn => ?_⟩
      · simpa using b2
      · obtain ⟨⟨c1, c2⟩, d1, d2⟩ := hn
        simp only [evOps, ho, c1, Option.bind_some, logs, c2]
        exact ⟨d1, by rw [d2]⟩

theorem normH_eq {live : List Nat} {F : St} : norm live F = (normH live F).bind freshH := rfl
theorem cCode_region {f N id : Nat} {ops : Array Oper} {draw : Bool} {F : St} {K : Kw} {k : Ex → St → Kw → Option β} : cCode E T f N (.region id ops draw) F K k =
    cOps E T N id ops (List.range ops.size) F K [] fun F' K' L =>
    endR (draw && !(backs ops && ordered (Region.before ops) L.reverse)) (T.why (plc id 999)) (k .normal F' K') := rfl
theorem cCode_seq {f N : Nat} {a b : Code} {F : St} {K : Kw} {k : Ex → St → Kw → Option β} : cCode E T f N (.seq a b) F K k = cCode E T f N a F K fun ex F' K' =>
    match ex with
    | .normal => cCode E T f N b F' K' k
    | .exit i => k (.exit i) F' K'
    | .ret => k .ret F' K' := rfl
theorem cCode_cond {f N c : Nat} {a b : Code} {F : St} {K : Kw} {k : Ex → St → Kw → Option β} : cCode E T f N (.cond (.tmp c) a b) F K k =
    match F (.s c) with
    | .val (.d (.v (.bool s))) =>
      match known K (.s c) with
      | some true => cCode E T f N a F K k
      | some false => cCode E T f N b F K k
      | none => cond s (cCode E T f N a F ((.s c, true) :: K) k) (cCode E T f N b F ((.s c, false) :: K) k)
    | _ => no (T.why (plc (firstRegion a) 998)) := rfl
theorem cCode_block {f N id : Nat} {c : Code} {F : St} {K : Kw} {k : Ex → St → Kw → Option β} : cCode E T f N (.block id c) F K k = cCode E T f N c F K fun ex F' K' =>
    match ex with
    | .normal => k .normal F' K'
    | .exit j => match Nat.beq j id with
      | true => k .normal F' K'
      | false => k (.exit j) F' K'
    | .ret => k .ret F' K' := rfl
theorem cCode_range {f N : Nat} {g0 : Operand} {ps : Array Nat} {as bd : Code} {F : St} {K : Kw} {k : Ex → St → Kw → Option β} : cCode E T f N (.rangeFunc g0 ps as bd) F K k = cRange E T f g0 as bd F K k := rfl
theorem cExs_some {w : Option Empty} {st : Nat} {F : St} {K : Kw} {k : Ex → St → Kw → Option β} {y : β} : ∀ {ids : List Nat}, cExs w st F K k ids = some y → ∃ ex, exIn ids st = some ex ∧ k ex F K = some y := by
  intro ids
  induction ids with
  | nil => intro h; cases h
  | cons i r ih =>
    intro h
    simp only [cExs] at h
    by_cases hb : st = i + 3
    · rw [decide_eq_true hb] at h
      exact ⟨_, by simp only [exIn, hb, if_true], h⟩
    · rw [decide_eq_false hb] at h
      obtain ⟨ex, h1, h2⟩ := ih h
      exact ⟨ex, by simp only [exIn, hb, if_false]; exact h1, h2⟩
theorem cEx_some {w : Option Empty} {st : Nat} {F : St} {K : Kw} {k : Ex → St → Kw → Option β} {y : β} {ids : List Nat} (h : cEx w ids st F K k = some y) : ∃ ex, exOf ids st = some ex ∧ k ex F K = some y := by
  unfold cEx at h
  unfold exOf
  by_cases h0 : st = 0
  · rw [decide_eq_true h0] at h
    exact ⟨_, by simp only [h0, if_true], h⟩
  · rw [decide_eq_false h0] at h
    by_cases h2 : st = 2
    · rw [decide_eq_true h2] at h
      exact ⟨_, by rw [if_neg h0, if_pos h2], h⟩
    · rw [decide_eq_false h2] at h
      obtain ⟨ex, h3, h4⟩ := cExs_some h
      exact ⟨ex, by rw [if_neg h0, if_neg h2]; exact h3, h4⟩
theorem cRange_some (hT : TabOK E T) {f : Nat} {g0 : Operand} {as bd : Code} {F : St} {K : Kw} {k : Ex → St → Kw → Option β} {y : β} (h : cRange E T f g0 as bd F K k = some y) (hK : Kn F K) :
    ∃ st F' K' ex, Kn F' K' ∧ exOf (exitsOf bd) st = some ex ∧ k ex F' K' = some y ∧ Evt fun n => (rangeP E (evFn E n) f (rfId as bd) g0).run F = some (st, F') := by
  have hs : Snd (β := β) (fun k' => (rangePre E f (rfId as bd) g0).cps (T.why (plc (rfId as bd) 994)) F K [] [] fun q F K r wr =>
      cEnter T (T.why (plc (rfId as bd) 993)) (rfId as bd * 1000 + 998) q.1 q.2 F K r wr fun _ F K r wr => (rangePost' (rfId as bd)).cps (T.why (plc (rfId as bd) 992)) F K r wr k') (fun n => rangeP E (evFn E n) f (rfId as bd) g0) F K [] [] := by
    unfold rangeP
    refine Snd.bind (d := fun (q : FuncId × List AV) F K r wr k' => cEnter T (T.why (plc (rfId as bd) 993)) (rfId as bd * 1000 + 998) q.1 q.2 F K r wr fun _ F K r wr => (rangePost' (rfId as bd)).cps (T.why (plc (rfId as bd) 992)) F K r wr k')
      (g := fun n (q : FuncId × List AV) => (evEnter (rfId as bd * 1000 + 998) (evFn E n) q.1 q.2).bind fun _ => rangePost' (rfId as bd)) (Pr.cps_snd _ _ F K [] []) fun q F K r wr => ?_
    exact Snd.bind (d := fun _ F K r wr k' => (rangePost' (rfId as bd)).cps (T.why (plc (rfId as bd) 992)) F K r wr k') (cEnter_snd hT) fun _ F K r wr => Pr.cps_snd _ _ F K r wr
  obtain ⟨st, F1, K1, l1, a1, a2, a3⟩ := hs _ _ h hK
  obtain ⟨ex, b1, b2⟩ := cEx_some a3
  exact ⟨st, F1, K1, ex, a2, b1, b2, a1.mono fun n hn => hn.1⟩
theorem cCode_loop {f N : Nat} {c : Code} {F : St} {K : Kw} {k : Ex → St → Kw → Option β} : cCode E T f N (.loop c) F K k = match normH (E.live f (firstRegion c)) F with
    | none => no (T.why (plc (firstRegion c) 997))
    | some H => findL T f (firstRegion c) H (fun x => match freshH x.2 with
      | none => no (T.why (plc (firstRegion c) 996))
      | some F' => k x.1 F' []) T.loops := by kernel_rfl

theorem cCode_sound (hT : TabOK E T) {f : FuncId} : ∀ (c : Code), (∀ c' ∈ loopsOf c, c' ∈ loopsOf (bodyOf E f)) → ∀ {F : St} {K : Kw} {k : Ex → St → Kw → Option β} {y : β}, cCode E T f (NT E f) c F K k = some y → Kn F K →
    ∃ ex F' K', Kn F' K' ∧ k ex F' K' = some y ∧ Evt fun n => evCode E f (NT E f) (evFn E n) n c F = some (ex, F') := by
  intro c
  induction c with
  | skip => intro _ F K k y h hK; exact ⟨.normal, F, K, hK, h, Evt.of fun n => rfl⟩
  | region id ops draw =>
    intro _ F K k y h hK
    rw [cCode_region] at h
    obtain ⟨F1, K1, L1, a1, a2, a3⟩ := cOps_sound hT h hK
    rw [List.append_nil, List.reverse_reverse] at a2
    unfold endR at a2
    split at a2
    · exact absurd a2 no_none
    · rename_i hd
      refine ⟨.normal, F1, K1, a1, a2, a3.mono fun n hn => ?_⟩
      obtain ⟨b1, b2⟩ := hn
      simp only [evCode, evRegion, b2]
      rw [if_neg (by rw [hd]; simp), b1]
      rfl
  | seq a b iha ihb =>
    intro hl F K k y h hK
    rw [cCode_seq] at h
    obtain ⟨ex, F1, K1, a1, a2, a3⟩ := iha (fun c' hc => hl c' (by simp only [loopsOf, List.mem_append]; exact .inl hc)) h hK
    cases ex with
    | normal =>
      obtain ⟨ex, F2, K2, b1, b2, b3⟩ := ihb (fun c' hc => hl c' (by simp only [loopsOf, List.mem_append]; exact .inr hc)) a2 a1
      exact ⟨ex, F2, K2, b1, b2, (a3.and b3).mono fun n ⟨c1, c2⟩ => by simp only [evCode, c1, Option.bind_some]; exact c2⟩
    | exit i => exact ⟨_, F1, K1, a1, a2, a3.mono fun n c1 => by simp only [evCode, c1, Option.bind_some]⟩
    | ret => exact ⟨_, F1, K1, a1, a2, a3.mono fun n c1 => by simp only [evCode, c1, Option.bind_some]⟩
  | cond c a b iha ihb =>
    intro hl F K k y h hK
    cases c with
    | tmp c =>
      rw [cCode_cond] at h
      split at h
      · rename_i s hs
        have hop : (operand none (.tmp c)).run F = some (.d (.v (.bool s)), F) := by simp only [operand, getS, Pr.run, hs]
        have finT : ∀ K1, Kn F K1 → s = true → cCode E T f (NT E f) a F K1 k = some y → ∃ ex F' K', Kn F' K' ∧ k ex F' K' = some y ∧ Evt fun n => evCode E f (NT E f) (evFn E n) n (.cond (.tmp c) a b) F = some (ex, F') := fun K1 hK1 e h1 => by
          subst e
          obtain ⟨ex, F1, K1, a1, a2, a3⟩ := iha (fun c' hc => hl c' (by simp only [loopsOf, List.mem_append]; exact .inl hc)) h1 hK1
          exact ⟨ex, F1, K1, a1, a2, a3.mono fun n c1 => by simp only [evCode, hop, Option.bind_some, if_true]; exact c1⟩
        have finF : ∀ K1, Kn F K1 → s = false → cCode E T f (NT E f) b F K1 k = some y → ∃ ex F' K', Kn F' K' ∧ k ex F' K' = some y ∧ Evt fun n => evCode E f (NT E f) (evFn E n) n (.cond (.tmp c) a b) F = some (ex, F') := fun K1 hK1 e h1 => by
          subst e
          obtain ⟨ex, F1, K1, a1, a2, a3⟩ := ihb (fun c' hc => hl c' (by simp only [loopsOf, List.mem_append]; exact .inr hc)) h1 hK1
          exact ⟨ex, F1, K1, a1, a2, a3.mono fun n c1 => by simp only [evCode, hop, Option.bind_some, Bool.false_eq_true, if_false]; exact c1⟩
        cases hkn : known K (.s c) with
        | some t =>
          rw [hkn] at h
          have := hK _ t hkn
          rw [hs] at this
          have hst : s = t := by simpa using this
          cases t with
          | true => exact finT K hK hst h
          | false => exact finF K hK hst h
        | none =>
          rw [hkn] at h
          simp only at h
          cases s with
          | true => exact finT _ (hK.cons hs) rfl h
          | false => exact finF _ (hK.cons hs) rfl h
      · exact absurd h no_none
    | _ => exact absurd h no_none
  | block id c ih =>
    intro hl F K k y h hK
    rw [cCode_block] at h
    obtain ⟨ex, F1, K1, a1, a2, a3⟩ := ih (fun c' hc => hl c' hc) h hK
    cases ex with
    | normal => exact ⟨_, F1, K1, a1, a2, a3.mono fun n c1 => by simp only [evCode, c1, Option.bind_some]⟩
    | exit j =>
      simp only at a2
      split at a2
      · rename_i hj
        exact ⟨_, F1, K1, a1, a2, a3.mono fun n c1 => by simp only [evCode, c1, Option.bind_some, Nat.eq_of_beq_eq_true hj, if_true]⟩
      · rename_i hj
        exact ⟨_, F1, K1, a1, a2, a3.mono fun n c1 => by simp only [evCode, c1, Option.bind_some]; rw [if_neg]; intro e; rw [e] at hj; simp at hj⟩
    | ret => exact ⟨_, F1, K1, a1, a2, a3.mono fun n c1 => by simp only [evCode, c1, Option.bind_some]⟩
  | loop c ih =>
    intro hl F K k y h hK
    rw [cCode_loop] at h
    cases hH : normH (E.live f (firstRegion c)) F with
    | none => rw [hH] at h; exact absurd h no_none
    | some H =>
      rw [hH] at h
      simp only at h
      obtain ⟨x, h1, F0, h2, h3⟩ := findL_sound (E := E) (c := c) (hl c (by simp [loopsOf])) hT.2 h
      split at h1
      · exact absurd h1 no_none
      · rename_i F1 hF1
        refine ⟨x.1, F1, [], Kn.none _, h1, ?_⟩
        obtain ⟨k0, h4⟩ := h3 F1 hF1
        refine ⟨k0, fun n hn => ?_⟩
        have e : evCode E f (NT E f) (evFn E n) n (.loop c) F = (iter (norm (E.live f (firstRegion c))) (evCode E f (NT E f) (evFn E n) n c) n F).bind fun r => (norm (E.out f (firstRegion c)) r.2).map fun F' => (r.1, F') := rfl
        show evCode E f (NT E f) (evFn E n) n (.loop c) F = _
        rw [e, iter_eq, normH_eq, hH, Option.bind_some, h2, Option.bind_some]
        exact h4 n hn n hn
  | rangeFunc g0 ps as bd =>
    intro _ F K k y h hK
    rw [cCode_range] at h
    obtain ⟨st, F1, K1, ex, a1, a2, a3, a4⟩ := cRange_some hT h hK
    exact ⟨ex, F1, K1, a1, a3, a4.mono fun n hn => by simp only [evCode, hn, Option.bind_some, a2, Option.map_some]⟩
  | exit id => intro _ F K k y h hK; exact ⟨.exit id, F, K, hK, h, Evt.of fun n => rfl⟩
  | ret => intro _ F K k y h hK; exact ⟨.ret, F, K, hK, h, Evt.of fun n => rfl⟩
  | _ => intro _ F K k y h hK; exact absurd h no_none

theorem isEmpty_loops {c : Code} (h : (loopsOf c).isEmpty = true) {f : Nat} : ∀ c' ∈ loopsOf c, c' ∈ loopsOf (bodyOf E f) := fun c' hc => by
  cases hl : loopsOf c with
  | nil => rw [hl] at hc; simp at hc
  | cons a r => rw [hl] at h; cases h

theorem cRd_sound (hT : TabOK E T) {args : List AV} {pack : List (List AV)} {dec : AV × List (List AV) → Option β} {y : β} (h : cRd E T args pack dec = some y) :
    ∃ x, dec x = some y ∧ Evt fun n => evFn E n rnd args pack = some x := by
  unfold cRd at h
  split at h
  · rename_i m hlast
    split at h
    · rename_i f i ks cap hpk
      split at h
      · rename_i yb hy
        split at h
        · rename_i hc
          split at h
          · rename_i hl
            simp only [Bool.and_eq_true, beq_iff_eq] at hl
            obtain ⟨hN, hl1, hl2⟩ := hl
            split at h
            · exact absurd h no_none
            · rename_i F hF
              rw [hN] at h
              obtain ⟨ex, F1, K1, a1, a2, a3⟩ := cCode_sound hT yb.assign (isEmpty_loops hl1) h (Kn.none _)
              split at a2
              · obtain ⟨_, F2, K2, l2, b1, b2, b3⟩ := Pr.cps_snd _ _ F1 K1 [] [] _ y a2 a1
                obtain ⟨ex3, F3, K3, c1, c2, c3⟩ := cCode_sound hT yb.body (isEmpty_loops hl2) b3 b2
                obtain ⟨v, F4, K4, l4, d1, d2, d3⟩ := Pr.cps_snd _ _ F3 K3 [] [] _ y c2 c1
                refine ⟨v, d3, ?_⟩
                obtain ⟨k0, e⟩ := (a3.and b1).and (c3.and d1)
                refine ⟨k0 + 1, fun n hn => ?_⟩
                obtain ⟨m', rfl⟩ : ∃ m, n = m + 1 := ⟨n - 1, by omega⟩
                obtain ⟨⟨e1, e2, -⟩, e3, e4, -⟩ := e m' (by omega)
                simp only [evFn, if_true]
                unfold evRound
                simp only [hlast, hpk, hy, hc, and_self, if_true, hF, Option.bind_some]
                rw [hN, e1]
                simp only [Option.bind_some, e2, e3]
                rw [e4]
                rfl
              · cases a2
          · exact absurd h no_none
        · cases h
      · cases h
    · cases h
  · cases h

theorem cFn_sound (hT : TabOK E T) {f : FuncId} {args : List AV} {pack : List (List AV)} {dec : AV × List (List AV) → Option β} {y : β} (h : cFn E T f args pack dec = some y) :
    ∃ x, dec x = some y ∧ Evt fun n => evFn E n f args pack = some x := by
  unfold cFn at h
  split at h
  · rename_i hf
    have := Nat.eq_of_beq_eq_true hf
    subst this
    exact cRd_sound hT h
  rename_i hrnd
  have hrnd' : ¬ f = rnd := fun e => by subst e; simp at hrnd
  cases hx : E.ext f with
  | some g => rw [hx] at h; cases h
  | none =>
    rw [hx] at h
    simp only at h
    cases hf : E.fn f with
    | none => rw [hf] at h; cases h
    | some fn =>
      rw [hf] at h
      simp only at h
      split at h
      · rename_i hl
        cases hs : start args pack with
        | none => rw [hs] at h; cases h
        | some F =>
          rw [hs] at h
          simp only at h
          have hN : NT E f = fn.ntmps := by simp [NT, hf]
          have hB : bodyOf E f = fn.body := by simp [bodyOf, hf]
          rw [← hN] at h
          obtain ⟨ex, F1, K1, a1, a2, a3⟩ := cCode_sound hT fn.body (fun c hc => by rw [hB]; exact hc) h (Kn.none _)
          have fin : ∀ {w : Option Empty}, ex ≠ .exit 0 → (∀ i, ex ≠ .exit i) → ((finish E (E.keep f) fn.results pack.length).cps w F1 K1 [] [] fun x _ _ _ _ => dec x) = some y → ∃ x, dec x = some y ∧ Evt fun n => evFn E n f args pack = some x := fun _ hex h1 => by
            obtain ⟨v, F2, K2, l, b1, b2, b3⟩ := Pr.cps_snd _ _ F1 K1 [] [] _ y h1 a1
            refine ⟨v, b3, ?_⟩
            obtain ⟨k0, c⟩ := a3.and b1
            refine ⟨k0 + 1, fun n hn => ?_⟩
            obtain ⟨m, rfl⟩ : ∃ m, n = m + 1 := ⟨n - 1, by omega⟩
            obtain ⟨c1, c2, -⟩ := c m (by omega)
            simp only [evFn, hrnd', if_false, hx, hf]
            unfold evBody
            rw [if_pos hl, hs, Option.bind_some]
            rw [hN] at c1
            rw [c1, Option.bind_some]
            cases ex with
            | exit i => exact absurd rfl (hex i)
            | normal => simp only [c2, Option.map_some]
            | ret => simp only [c2, Option.map_some]
          cases ex with
          | exit i => cases a2
          | normal => exact fin (by simp) (by simp) a2
          | ret => exact fin (by simp) (by simp) a2
      · cases h

/-- A function's entry. -/
theorem FE.rule (hT : TabOK E T) {e : FE} (h : ∀ a p, cFn E T e.f (e.args.enc a) (csEnc e.pack p) (rtDec e.res e.out) = e.nat a p) : e.ok E := by
  intro a p r hr
  rw [← h] at hr
  obtain ⟨x, h1, h2⟩ := cFn_sound hT hr
  rw [← rtDec_enc h1]
  exact h2

/-- A loop's entry. -/
theorem LE.rule (hT : TabOK E T) {f id : Nat} {inn : HSh} {outs : List (Ex × HSh)} {g : Nat → inn.T → Option (AltT outs)} (hu : ((loopsOf (bodyOf E f)).filter fun c => Nat.beq (firstRegion c) id) = [loopAt E f id])
    (h0 : ∀ v, g 0 v = none)
    (hs : ∀ n v, cRound E T f (NT E f) (loopAt E f id) (inn.enc v) (fun H => match inn.dec H with | some u => g n u | none => no (T.why 999999006)) (altDec outs) = g (n + 1) v) :
    ∀ n, (⟨f, id, inn, outs, g n⟩ : LE).ok E := by
  intro n c hc hid
  have hca : c = loopAt E f id := by
    have : c ∈ (loopsOf (bodyOf E f)).filter fun c => Nat.beq (firstRegion c) id := by
      rw [List.mem_filter]
      exact ⟨hc, by simp only at hid; rw [hid]; simp⟩
    rw [hu] at this
    simpa using this
  have hcl : ∀ c' ∈ loopsOf c, c' ∈ loopsOf (bodyOf E f) := by
    have key : ∀ (b : Code), c ∈ loopsOf b → ∀ c' ∈ loopsOf c, c' ∈ loopsOf b := by
      intro b
      induction b with
      | seq x y ihx ihy =>
        intro hb c' hc'
        simp only [loopsOf, List.mem_append] at hb ⊢
        rcases hb with hb | hb
        · exact .inl (ihx hb c' hc')
        · exact .inr (ihy hb c' hc')
      | cond v x y ihx ihy =>
        intro hb c' hc'
        simp only [loopsOf, List.mem_append] at hb ⊢
        rcases hb with hb | hb
        · exact .inl (ihx hb c' hc')
        · exact .inr (ihy hb c' hc')
      | block id x ih => intro hb c' hc'; simp only [loopsOf] at hb ⊢; exact ih hb c' hc'
      | loop x ih =>
        intro hb c' hc'
        simp only [loopsOf, List.mem_cons] at hb ⊢
        rcases hb with rfl | hb
        · exact .inr hc'
        · exact .inr (ih hb c' hc')
      | _ => intro hb; simp [loopsOf] at hb
    exact key _ hc
  rw [← hca] at hs
  clear hu
  induction n with
  | zero =>
    intro v y h
    have h1 : g 0 v = some y := h
    rw [h0] at h1; cases h1
  | succ n ih =>
    intro v y h
    have h' := hs n v
    have h1 : g (n + 1) v = some y := h
    rw [h1] at h'
    unfold cRound at h'
    cases hF : freshH (inn.enc v) with
    | none => rw [hF] at h'; exact absurd h' no_none
    | some F0 =>
      rw [hF] at h'
      simp only at h'
      obtain ⟨ex, F1, K1, a1, a2, a3⟩ := cCode_sound hT c hcl h' (Kn.none _)
      refine ⟨F0, hF, fun Fy hFy => ?_⟩
      have out : ∀ ex', (∀ i, ex = .exit i → ex' = ex) → ex ≠ .normal → ∀ H', normH (E.out f (firstRegion c)) F1 = some H' → altEnc outs y = (ex, H') → ∃ k0, ∀ k, k0 ≤ k → ∀ n, k0 ≤ n → itx E f (NT E f) (evFn E k) k c n F0 = some ((altEnc outs y).1, Fy) := fun ex' _ hex H' hH he => by
        obtain ⟨k0, b⟩ := a3
        refine ⟨k0 + 1, fun k hk m hm => ?_⟩
        obtain ⟨m, rfl⟩ : ∃ m', m = m' + 1 := ⟨m - 1, by omega⟩
        have b' := b k (by omega)
        simp only [itx, itn, b', Option.bind_some]
        have hf : norm (E.out f (firstRegion c)) F1 = some Fy := by
          rw [normH_eq, hH, Option.bind_some]
          have : freshH H' = some Fy := by
            have e2 : (altEnc outs y).2 = H' := by rw [he]
            rw [← e2]; exact hFy
          exact this
        cases ex with
        | normal => exact absurd rfl hex
        | exit i => simp only [Option.bind_some, hf, Option.map_some, he]
        | ret => simp only [Option.bind_some, hf, Option.map_some, he]
      cases ex with
      | normal =>
        simp only at a2
        cases hH : normH (E.live f (firstRegion c)) F1 with
        | none => rw [hH] at a2; exact absurd a2 no_none
        | some H =>
          rw [hH] at a2
          simp only at a2
          split at a2
          · rename_i u hu
            obtain ⟨F2, c1, c2⟩ := ih hc hid u y a2
            obtain ⟨k1, c3⟩ := c2 Fy hFy
            obtain ⟨k0, b⟩ := a3
            refine ⟨max k0 k1 + 1, fun k hk m hm => ?_⟩
            obtain ⟨m, rfl⟩ : ∃ m', m = m' + 1 := ⟨m - 1, by omega⟩
            have b' := b k (by omega)
            have hn : norm (E.live f (firstRegion c)) F1 = some F2 := by
              rw [normH_eq, hH, Option.bind_some, HSh.dec_enc hu]; exact c1
            have := c3 k (by omega) m (by omega)
            simp only [itx, itn, b', Option.bind_some, hn]
            exact this
          · exact absurd a2 no_none
      | exit i =>
        simp only at a2
        cases hH : normH (E.out f (firstRegion c)) F1 with
        | none => rw [hH] at a2; exact absurd a2 no_none
        | some H =>
          rw [hH] at a2
          simp only at a2
          split at a2
          · cases a2
          · exact out (.exit i) (fun _ _ => rfl) (by simp) H hH (altDec_enc a2).symm
      | ret =>
        simp only at a2
        cases hH : normH (E.out f (firstRegion c)) F1 with
        | none => rw [hH] at a2; exact absurd a2 no_none
        | some H =>
          rw [hH] at a2
          simp only at a2
          split at a2
          · cases a2
          · exact out .ret (fun _ h => by cases h) (by simp) H hH (altDec_enc a2).symm

/-! ### Tables, built up -/
def nnF : FuncId → List AV → List (List AV) → Option Empty := fun _ _ _ => none
def nnL : FuncId → Nat → HD → Option Empty := fun _ _ _ => none
def nnW : Nat → Option Empty := fun _ => none
def tab (fs : List FE) (ls : List LE) : Tab := ⟨fs, ls, nnW, nnF, nnL⟩
theorem TabOK.nil : TabOK E (tab [] []) := ⟨fun e h => by simp [tab] at h, fun e h => by simp [tab] at h⟩
theorem TabOK.f {e : FE} {fs : List FE} {ls : List LE} (h : e.ok E) (t : TabOK E (tab fs ls)) : TabOK E (tab (e :: fs) ls) :=
  ⟨fun x hx => by rcases List.mem_cons.1 hx with rfl | hx; exact h; exact t.1 x hx, t.2⟩
theorem TabOK.l {e : LE} {fs : List FE} {ls : List LE} (h : e.ok E) (t : TabOK E (tab fs ls)) : TabOK E (tab fs (e :: ls)) :=
  ⟨t.1, fun x hx => by rcases List.mem_cons.1 hx with rfl | hx; exact h; exact t.2 x hx⟩
end
end Go.Eng
end

section
namespace Go.Eng
open Go

def scalEq : Value → Value → Bool
  | .bool a, .bool b => a == b
  | .int k a, .int k' b => decide (k = k') && decide (a = b)
  | .string a, .string b => a.data.toList == b.data.toList
  | .nilFunc, .nilFunc => true
  | .nilIface, .nilIface => true
  | .pointer none, .pointer none => true
  | _, _ => false

theorem scalEq_sound {x y : Value} (h : scalEq x y = true) : scalar x = true ∧ y = x := by
  unfold scalEq at h
  split at h
  · exact ⟨rfl, by rw [beq_iff_eq.1 h]⟩
  · simp only [Bool.and_eq_true, decide_eq_true_eq] at h
    exact ⟨rfl, by rw [h.1, h.2]⟩
  · rename_i a b
    have := beq_iff_eq.1 h
    refine ⟨rfl, ?_⟩
    obtain ⟨⟨a⟩⟩ := a
    obtain ⟨⟨b⟩⟩ := b
    simp only at this
    rw [this]
  · exact ⟨rfl, rfl⟩
  · exact ⟨rfl, rfl⟩
  · exact ⟨rfl, rfl⟩
  · cases h

def zeroB : List AV → List Value → Bool
  | [], [] => true
  | .d (.v x) :: r, y :: s => scalEq x y && zeroB r s
  | .nils _ :: r, .slice none 0 0 :: s => zeroB r s
  | _, _ => false

theorem zeroB_sound : ∀ {l : List AV} {s : List Value}, zeroB l s = true → zeroOK l s := by
  intro l
  induction l with
  | nil => intro s h; cases s with
    | nil => trivial
    | cons => simp [zeroB] at h
  | cons v r ih =>
    intro s h
    unfold zeroB at h
    split at h
    · trivial
    · rename_i h2
      obtain ⟨rfl, rfl⟩ := List.cons.inj h2
      simp only [Bool.and_eq_true] at h
      obtain ⟨a, b⟩ := scalEq_sound h.1
      exact ⟨a, b, ih h.2⟩
    · rename_i h2
      obtain ⟨rfl, rfl⟩ := List.cons.inj h2
      exact ⟨rfl, ih h⟩
    · cases h

def sameFields : List (Nat × TypeId) → List Field → Bool
  | [], [] => true
  | p :: r, f :: s => p.1 == f.offset && p.2 == f.type && sameFields r s
  | _, _ => false

theorem sameFields_sound : ∀ {l : List (Nat × TypeId)} {s : List Field}, sameFields l s = true → l = s.map (fun f => (f.offset, f.type)) := by
  intro l
  induction l with
  | nil => intro s h; cases s with
    | nil => rfl
    | cons => simp [sameFields] at h
  | cons p r ih =>
    intro s h
    cases s with
    | nil => simp [sameFields] at h
    | cons f s =>
      simp only [sameFields, Bool.and_eq_true, beq_iff_eq] at h
      obtain ⟨⟨h1, h2⟩, h3⟩ := h
      rw [ih h3, List.map_cons, ← h1, ← h2]

def descOK (P : Program) (T : TypeId) (Z : TypeId → Option Ty) (t : Ty) (d : TypeDesc) : Bool :=
  (d.isRow == t.agg) &&
  (match t.elem with
   | none => true
   | some e => match d with | .slice e' => e' == e | _ => false) &&
  (match t.arr with
   | none => true
   | some (n, e) => match d with | .array n' e' => n' == n && e' == e && decide (0 < n) | _ => false) &&
  (t.fields.isEmpty || match d with
   | .struct fs => sameFields t.fields fs.toList && t.fields.all fun p => (Z p.2).isSome
   | _ => false) &&
  (match t.ik with
   | none => true
   | some k => match d with | .int k' => decide (k' = k) | _ => false) &&
  (!t.str || match d with | .string => true | _ => false) &&
  (!t.bl || match d with | .bool => true | _ => false) &&
  (t.agg || t.size == 1) &&
  (!t.cmp || (!P.stoodInHeld T && !P.eqGuardType P.depth T && match d with
   | .struct fs => sameFields t.fields fs.toList && fs.toList.all fun f => !(f.name == "_")
   | _ => false))

def infoOK (t : Ty) (i : TypeInfo) : Bool :=
  i.size == t.size && i.bytes == t.bytes &&
  (match t.zero with
   | none => true
   | some zl => match i.zero with | some z => zeroB zl z.cells.toList | none => false)

def tyOK (P : Program) (Z : TypeId → Option Ty) (T : TypeId) (t : Ty) : Bool :=
  (match P.info? T with | some i => infoOK t i | none => false) && (match P.underlying T with | some d => descOK P T Z t d | none => false)

theorem tyOK_sound {P : Program} {Z : TypeId → Option Ty} {T : TypeId} {t : Ty} (h : tyOK P Z T t = true) : TyFacts P Z T t := by
  unfold tyOK at h
  simp only [Bool.and_eq_true] at h
  obtain ⟨h1, h2⟩ := h
  cases hi : P.info? T with
  | none => rw [hi] at h1; cases h1
  | some i =>
    rw [hi] at h1
    cases hd : P.underlying T with
    | none => rw [hd] at h2; cases h2
    | some d =>
      rw [hd] at h2
      simp only [infoOK, descOK, Bool.and_eq_true, beq_iff_eq] at h1 h2
      obtain ⟨⟨a1, a2⟩, a3⟩ := h1
      obtain ⟨⟨⟨⟨⟨⟨⟨⟨b1, b2⟩, b3⟩, b4⟩, b5⟩, b6⟩, b7⟩, b8⟩, b9⟩ := h2
      refine ⟨⟨i, hi, a1, a2, fun zl hz => ?_⟩, ⟨d, hd, b1⟩, fun e he => ?_, fun n e he => ?_, fun hf => ?_, fun k hk => ?_, fun hs => ?_, fun hl => ?_, fun hb => ?_, fun hc => ?_⟩
      · rw [hz] at a3
        simp only at a3
        split at a3
        · rename_i z hz'
          exact ⟨z, hz', zeroB_sound a3⟩
        · cases a3
      · rw [he] at b2
        simp only at b2
        split at b2
        · rw [hd, beq_iff_eq.1 b2]
        · cases b2
      · rw [he] at b3
        simp only at b3
        split at b3
        · simp only [Bool.and_eq_true, beq_iff_eq, decide_eq_true_eq] at b3
          rw [hd, b3.1.1, b3.1.2]
          exact ⟨rfl, b3.2⟩
        · cases b3
      · simp only [Bool.or_eq_true] at b4
        rcases b4 with b4 | b4
        · exact absurd (List.isEmpty_iff.1 b4) hf
        · split at b4
          · rename_i fs
            simp only [Bool.and_eq_true, List.all_eq_true] at b4
            exact ⟨fs, hd, sameFields_sound b4.1, b4.2⟩
          · cases b4
      · rw [hk] at b5
        simp only at b5
        split at b5
        · rw [hd, of_decide_eq_true b5]
        · cases b5
      · rw [hs] at b6
        simp only [Bool.not_true, Bool.false_or] at b6
        split at b6
        · exact hd
        · cases b6
      · rw [hl] at b8
        simpa using b8
      · rw [hb] at b7
        simp only [Bool.not_true, Bool.false_or] at b7
        split at b7
        · exact hd
        · cases b7
      · rw [hc] at b9
        simp only [Bool.not_true, Bool.false_or, Bool.and_eq_true, Bool.not_eq_true'] at b9
        obtain ⟨⟨c1, c2⟩, c3⟩ := b9
        split at c3
        · rename_i fs
          simp only [Bool.and_eq_true, List.all_eq_true, Bool.not_eq_true', beq_eq_false_iff_ne] at c3
          exact ⟨c1, c2, fs, hd, sameFields_sound c3.1, c3.2⟩
        · cases c3

def lookupN {α : Type} : List (Nat × α) → Nat → Option α
  | [], _ => none
  | p :: r, n => if p.1 = n then some p.2 else lookupN r n

theorem lookupN_mem {α : Type} : ∀ {l : List (Nat × α)} {n : Nat} {v : α}, lookupN l n = some v → (n, v) ∈ l := by
  intro l
  induction l with
  | nil => intro n v h; cases h
  | cons p r ih =>
    intro n v h
    simp only [lookupN] at h
    split at h
    · rename_i hp
      obtain rfl := Option.some.inj h
      subst hp
      exact List.mem_cons_self ..
    · exact List.mem_cons_of_mem _ (ih h)
end Go.Eng
end

section
namespace Go.Eng
open Go

/-- What is known of the cells of a type's value. -/
def OKT (Z : TypeId → Option Ty) : Nat → TypeId → List D → Prop
  | 0, _, _ => False
  | n + 1, T, xs => ∃ t, Z T = some t ∧
    ((t.bl = true ∧ ∃ b, xs = [.v (.bool b)]) ∨
     (t.str = true ∧ ∃ s, xs = [.v (.string s)] ∧ s.size ≤ maxLen) ∨
     (∃ k i, t.ik = some k ∧ xs = [.v (.int k i)] ∧ (Lit.int k i).wf = true) ∨
     (∃ e te l, t.elem = some e ∧ Z e = some te ∧ xs = [.sl e l] ∧ l.length ≤ maxLen ∧ ∀ x ∈ l, D.shaped te x ∧ OKT Z n e x.cells) ∨
     (t.fields ≠ [] ∧ t.agg = true ∧ xs.length = t.size ∧ ∀ p ∈ t.fields, ∃ tp, Z p.2 = some tp ∧ OKT Z n p.2 ((xs.drop p.1).take tp.size)))

/-- The fields lie one behind the other. -/
def tiles (Z : TypeId → Option Ty) : Nat → List (Nat × TypeId) → Nat → Bool
  | o, [], n => o == n
  | o, p :: r, n => p.1 == o && match Z p.2 with
    | some tp => tiles Z (o + tp.size) r n
    | none => false

/-- Types that can be read so. -/
def plainT (Z : TypeId → Option Ty) : Nat → TypeId → Bool
  | 0, _ => false
  | n + 1, T => match Z T with
    | none => false
    | some t => t.bl || t.str || t.ik.isSome ||
      (match t.elem with
       | some e => plainT Z n e && (match Z e with | some te => decide (0 < te.size) | none => false)
       | none => false) ||
      (!t.fields.isEmpty && t.agg && tiles Z 0 t.fields t.size && t.fields.all fun p => plainT Z n p.2)

theorem choose_list {α : Type} {P : Nat → α → Prop} : ∀ (n : Nat), (∀ i, i < n → ∃ x, P i x) → ∃ l : List α, l.length = n ∧ ∀ i x, l[i]? = some x → P i x
  | 0, _ => ⟨[], rfl, fun i x h => by simp at h⟩
  | n + 1, h => by
    obtain ⟨l, h1, h2⟩ := choose_list n fun i hi => h i (by omega)
    obtain ⟨x, hx⟩ := h n (by omega)
    refine ⟨l ++ [x], by simp [h1], fun i y hy => ?_⟩
    by_cases hi : i < n
    · rw [List.getElem?_append_left (by omega)] at hy
      exact h2 i y hy
    · have hi' : i = n := by
        have := (List.getElem?_eq_some_iff.1 hy).1
        simp at this; omega
      subst hi'
      rw [List.getElem?_append_right (by omega)] at hy
      simp [h1] at hy
      subst hy
      exact hx

theorem cellsOf_eq {P : Program} {Z : TypeId → Option Ty} {T : TypeId} {t : Ty} (h : TyFacts P Z T t) : P.cellsOf T = t.size := by
  obtain ⟨i, h1, h2, -⟩ := h.info
  simp [Program.cellsOf, h1, h2]

section
variable {P : Program} {Z : TypeId → Option Ty} {H : Type} {enc : TypeId × Value → H} {w : World} {base : Nat} {spare : Nat → Bool} {held : Bool}

theorem one_cell {S : Nat → Prop} {d : D} {u : Value} (hl : d.leaf = true) (h : DR w S Z d u) : [d].length = [u].length ∧ (∀ y ∈ [d], y.leaf = true) ∧ ∀ (j : Nat) (y : D) (v : Value), [d][j]? = some y → [u][j]? = some v → DR w S Z y v := by
  refine ⟨rfl, fun y hy => by simp at hy; subst hy; exact hl, fun j y v hj hv => ?_⟩
  cases j with
  | zero => simp at hj hv; subst hj; subst hv; exact h
  | succ j => simp at hj

theorem tiles_le : ∀ {l : List (Nat × TypeId)} {o n : Nat}, tiles Z o l n = true → ∀ p ∈ l, o ≤ p.1 := by
  intro l
  induction l with
  | nil => intro o n h p hp; cases hp
  | cons q r ih =>
    intro o n h p hp
    simp only [tiles, Bool.and_eq_true, beq_iff_eq] at h
    obtain ⟨h1, h2⟩ := h
    rcases List.mem_cons.1 hp with rfl | hp
    · omega
    · split at h2
      · have := ih h2 p hp; omega
      · cases h2

theorem tile_parts {S : Nat → Prop} {m : Nat} {cs : List Value} : ∀ (l : List (Nat × TypeId)) (o : Nat), tiles Z o l cs.length = true →
    (∀ p ∈ l, ∀ tp, Z p.2 = some tp → ∃ xs : List D, xs.length = tp.size ∧ (∀ y ∈ xs, y.leaf = true) ∧ (∀ (j : Nat) (y : D) (u : Value), xs[j]? = some y → ((cs.drop p.1).take tp.size)[j]? = some u → DR w S Z y u) ∧ OKT Z m p.2 xs) →
    ∃ xs : List D, o + xs.length = cs.length ∧ (∀ y ∈ xs, y.leaf = true) ∧ (∀ (j : Nat) (y : D) (u : Value), xs[j]? = some y → cs[o + j]? = some u → DR w S Z y u) ∧
      ∀ p ∈ l, ∃ tp, Z p.2 = some tp ∧ OKT Z m p.2 ((xs.drop (p.1 - o)).take tp.size) := by
  intro l
  induction l with
  | nil =>
    intro o h _
    simp only [tiles, beq_iff_eq] at h
    exact ⟨[], by simpa using h, fun y hy => by simp at hy, fun j y u hj => by simp at hj, fun p hp => by cases hp⟩
  | cons q r ih =>
    intro o h hd
    simp only [tiles, Bool.and_eq_true, beq_iff_eq] at h
    obtain ⟨h1, h2⟩ := h
    cases hq : Z q.2 with
    | none => rw [hq] at h2; cases h2
    | some tq =>
      rw [hq] at h2
      simp only at h2
      obtain ⟨xs, x1, x2, x3, x4⟩ := hd q (List.mem_cons_self ..) tq hq
      obtain ⟨ys, y1, y2, y3, y4⟩ := ih (o + tq.size) h2 (fun p hp => hd p (List.mem_cons_of_mem _ hp))
      refine ⟨xs ++ ys, by simp; omega, fun y hy => ?_, fun j y u hj hu => ?_, fun p hp => ?_⟩
      · rcases List.mem_append.1 hy with hy | hy
        · exact x2 y hy
        · exact y2 y hy
      · by_cases hlt : j < xs.length
        · rw [List.getElem?_append_left hlt] at hj
          refine x3 j y u hj ?_
          rw [List.getElem?_take, if_pos (by omega), List.getElem?_drop, h1]
          exact hu
        · rw [List.getElem?_append_right (by omega)] at hj
          refine y3 (j - xs.length) y u hj ?_
          rw [show o + tq.size + (j - xs.length) = o + j from by omega]
          exact hu
      · rcases List.mem_cons.1 hp with rfl | hp
        · refine ⟨tq, hq, ?_⟩
          rw [h1, Nat.sub_self, List.drop_zero, List.take_append_of_le_length (by omega), List.take_of_length_le (by omega)]
          exact x4
        · obtain ⟨tp, z1, z2⟩ := y4 p hp
          refine ⟨tp, z1, ?_⟩
          have := tiles_le h2 p hp
          rw [show p.1 - o = xs.length + (p.1 - (o + tq.size)) from by omega, ← List.drop_drop, List.drop_left']
          · exact z2
          · rfl

theorem decode (hZ : ∀ T t, Z T = some t → TyFacts P Z T t) : ∀ (n : Nat) (T : TypeId), plainT Z n T = true → ∀ {fuel : Nat} {cs : List Value} {x : DataW H × List MemPlace}, DataW.trod enc P w base spare held fuel T cs = some x →
    ∃ xs : List D, xs.length = cs.length ∧ (∀ y ∈ xs, y.leaf = true) ∧ (∀ (j : Nat) (y : D) (u : Value), xs[j]? = some y → cs[j]? = some u → DR w (fun b => b < w.heap.size) Z y u) ∧ OKT Z n T xs ∧ ∀ t, Z T = some t → xs.length = t.size := by
  intro n
  induction n with
  | zero => intro T h; cases h
  | succ n ih =>
    intro T h fuel cs x hx
    simp only [plainT] at h
    cases hT : Z T with
    | none => rw [hT] at h; cases h
    | some t =>
      rw [hT] at h
      have tf := hZ T t hT
      obtain ⟨dsc, hu, hrow⟩ := tf.agg
      simp only [Bool.or_eq_true] at h
      rcases h with (((h | h) | h) | h) | h
      · have hub := tf.bl h
        obtain ⟨b, rfl, rfl⟩ := DataW.trod_bool hub hx
        obtain ⟨a1, a2, a3⟩ := one_cell (w := w) (Z := Z) (S := fun b => b < w.heap.size) (d := .v (.bool b)) rfl (.v _ rfl)
        refine ⟨_, a1, a2, a3, ⟨t, hT, .inl ⟨h, b, rfl⟩⟩, fun t' ht' => ?_⟩
        obtain rfl := Option.some.inj ht'
        rw [hub] at hu; obtain rfl := Option.some.inj hu
        exact (tf.leaf hrow.symm).symm
      · have hub := tf.str h
        obtain ⟨b, rfl, rfl, hb⟩ := DataW.trod_string hub hx
        obtain ⟨a1, a2, a3⟩ := one_cell (w := w) (Z := Z) (S := fun b => b < w.heap.size) (d := .v (.string b)) rfl (.v _ rfl)
        refine ⟨_, a1, a2, a3, ⟨t, hT, .inr (.inl ⟨h, b, rfl, hb⟩)⟩, fun t' ht' => ?_⟩
        obtain rfl := Option.some.inj ht'
        rw [hub] at hu; obtain rfl := Option.some.inj hu
        exact (tf.leaf hrow.symm).symm
      · obtain ⟨k, hk⟩ := Option.isSome_iff_exists.1 h
        have hub := tf.ik k hk
        obtain ⟨i, rfl, rfl, hi⟩ := DataW.trod_int hub hx
        obtain ⟨a1, a2, a3⟩ := one_cell (w := w) (Z := Z) (S := fun b => b < w.heap.size) (d := .v (.int k i)) rfl (.v _ rfl)
        refine ⟨_, a1, a2, a3, ⟨t, hT, .inr (.inr (.inl ⟨k, i, hk, rfl, hi⟩))⟩, fun t' ht' => ?_⟩
        obtain rfl := Option.some.inj ht'
        rw [hub] at hu; obtain rfl := Option.some.inj hu
        exact (tf.leaf hrow.symm).symm
      · cases he : t.elem with
        | none => rw [he] at h; cases h
        | some e =>
          rw [he] at h
          simp only [Bool.and_eq_true] at h
          obtain ⟨hp, hpos⟩ := h
          cases hte : Z e with
          | none => rw [hte] at hpos; cases hpos
          | some te =>
            rw [hte] at hpos
            have hpos := of_decide_eq_true hpos
            have tfe := hZ e te hte
            have hub := tf.elem e he
            have hsz : ∀ t', Z T = some t' → 1 = t'.size := fun t' ht' => by
              rw [hT] at ht'
              obtain rfl := Option.some.inj ht'
              rw [hub] at hu; obtain rfl := Option.some.inj hu
              exact (tf.leaf hrow.symm).symm
            rcases DataW.trod_slice hub hx with ⟨rfl, rfl⟩ | ⟨A, len, cap, elems, rest, m, rfl, rfl, rfl, hb, hl, hm, hlen, hel, -, -⟩
            · obtain ⟨a1, a2, a3⟩ := one_cell (w := w) (Z := Z) (S := fun b => b < w.heap.size) (d := .sl e []) rfl (.nil e none 0)
              refine ⟨_, a1, a2, a3, ⟨t, hT, .inr (.inr (.inr (.inl ⟨e, te, [], he, hte, rfl, Nat.zero_le _, fun x hx => by simp at hx⟩)))⟩, fun t' ht' => hsz t' (hT.trans ht')⟩
            · rw [cellsOf_eq tfe] at hel
              have each : ∀ i, i < len → ∃ y : D, D.shaped te y ∧ OKT Z n e y.cells ∧ ∃ ci : List Value, ci.length = te.size ∧ (∀ k, k < te.size → w.cell? ((A.add (i * te.size)).add k) = ci[k]?) ∧
                  ∀ (k : Nat) (z : D) (u : Value), y.cells[k]? = some z → ci[k]? = some u → DR w (fun b => b < w.heap.size) Z z u := fun i hi => by
                have h1 := hel i hi
                have hlt : i < elems.length := by omega
                rw [List.getElem?_eq_getElem hlt, Option.bind_eq_some_iff] at h1
                obtain ⟨ci, h2, h3⟩ := h1
                obtain ⟨-, c1, c2⟩ := World.cells?_some h2
                obtain ⟨xs, x1, x2, x3, x4, x5⟩ := ih e hp h3
                have x6 := x5 te hte
                cases hag : te.agg with
                | true => exact ⟨.agg xs, ⟨x6, x2, by simp [hag]⟩, x4, ci, c1, c2, x3⟩
                | false =>
                  have l1 := tfe.leaf hag
                  obtain ⟨y, rfl⟩ := List.length_eq_one_iff.1 (show xs.length = 1 by omega)
                  have hy := x2 y (by simp)
                  have hc : y.cells = [y] := by cases y <;> first | rfl | simp [D.leaf] at hy
                  refine ⟨y, ⟨by rw [hc]; exact x6, by rw [hc]; exact x2, ?_⟩, by rw [hc]; exact x4, ci, c1, c2, by rw [hc]; exact x3⟩
                  rw [hag]
                  exact ⟨fun ⟨c, e⟩ => by subst e; simp [D.leaf] at hy, fun h => by cases h⟩
              obtain ⟨l, l1, l2⟩ := choose_list len each
              have hd : DR w (fun b => b < w.heap.size) Z (.sl e l) (.slice (some A) len cap) := by
                by_cases h0 : l = []
                · subst h0
                  have : len = 0 := by simpa using l1.symm
                  subst this
                  exact .nil e _ _
                · have hl0 : 0 < len := by rw [← l1]; exact List.length_pos_iff.2 h0
                  obtain ⟨y0, hy0⟩ : ∃ y, l[0]? = some y := ⟨l[0]'(by omega), List.getElem?_eq_getElem (by omega)⟩
                  obtain ⟨-, -, c0, d1, d2, -⟩ := l2 0 y0 hy0
                  have d3 := d2 0 hpos
                  rw [Nat.zero_mul] at d3
                  have d4 : w.cell? A = some (c0[0]'(by omega)) := by
                    rw [List.getElem?_eq_getElem (by omega)] at d3
                    simpa [Addr.add] using d3
                  obtain ⟨b, o, sp⟩ := A
                  have hsp : sp = none := by
                    unfold World.cell? at d4
                    split at d4
                    · cases sp with
                      | none => rfl
                      | some _ => simp at d4
                    · cases d4
                  subst hsp
                  have hblt : b < w.heap.size := by
                    unfold World.cell? at d4
                    split at d4
                    · rename_i hh; exact (Array.getElem?_eq_some_iff.1 hh).1
                    · cases d4
                  have cellAt : ∀ i y, l[i]? = some y → ∃ ci : List Value, ci.length = te.size ∧ (∀ k, k < te.size → w.cell? ⟨b, o + (i * te.size + k), none⟩ = ci[k]?) ∧
                      ∀ (k : Nat) (z : D) (u : Value), y.cells[k]? = some z → ci[k]? = some u → DR w (fun b => b < w.heap.size) Z z u := fun i y hy => by
                    obtain ⟨-, -, ci, e1, e2, e3⟩ := l2 i y hy
                    refine ⟨ci, e1, fun k hk => ?_, e3⟩
                    have := e2 k hk
                    rw [Addr.add_mid, Addr.add_mid] at this
                    rw [← this]
                    congr 2
                    omega
                  rw [← l1]
                  refine .sl e l b o cap te (fun j k => (w.cell? ⟨b, o + (j * te.size + k), none⟩).getD undef) h0 hte hpos (fun y hy => ?_) hblt (by omega) (by omega) (fun j k hj hk => ?_) (fun j k y z hy hz => ?_)
                  · obtain ⟨i, hi⟩ := List.mem_iff_getElem?.1 hy
                    exact (l2 i y hi).1
                  · obtain ⟨ci, e1, e2, -⟩ := cellAt j _ (List.getElem?_eq_getElem hj)
                    rw [e2 k hk, List.getElem?_eq_getElem (by omega)]
                    rfl
                  · obtain ⟨ci, e1, e2, e3⟩ := cellAt j y hy
                    have hk : k < te.size := by rw [← (l2 j y hy).1.1]; exact (List.getElem?_eq_some_iff.1 hz).1
                    rw [e2 k hk, List.getElem?_eq_getElem (by omega)]
                    exact e3 k z _ hz (List.getElem?_eq_getElem (by omega))
              obtain ⟨a1, a2, a3⟩ := one_cell (d := .sl e l) rfl hd
              refine ⟨_, a1, a2, a3, ⟨t, hT, .inr (.inr (.inr (.inl ⟨e, te, l, he, hte, rfl, by omega, fun y hy => ?_⟩)))⟩, fun t' ht' => hsz t' (hT.trans ht')⟩
              obtain ⟨i, hi⟩ := List.mem_iff_getElem?.1 hy
              exact ⟨(l2 i y hi).1, (l2 i y hi).2.1⟩
      · simp only [Bool.and_eq_true, Bool.not_eq_true'] at h
        obtain ⟨⟨⟨hf, hag⟩, htl⟩, hall⟩ := h
        have hf' : t.fields ≠ [] := fun e => by rw [e] at hf; cases hf
        obtain ⟨fs, hub, hfs, hfz⟩ := tf.fields hf'
        obtain ⟨ys, m, rfl, rfl, hcl, hyl, hfe⟩ := DataW.trod_struct hub hx
        rw [cellsOf_eq tf] at hcl
        rw [← hcl] at htl
        obtain ⟨xs, x1, x2, x3, x4⟩ := tile_parts (w := w) (S := fun b => b < w.heap.size) (m := n) t.fields 0 htl (fun p hp tp htp => by
          obtain ⟨i, hi⟩ := List.mem_iff_getElem?.1 hp
          rw [hfs, List.getElem?_map, Option.map_eq_some_iff] at hi
          obtain ⟨f, hfi, rfl⟩ := hi
          have h1 := hfe i f (by simpa using hfi)
          have hlt : i < ys.length := by
            rw [hyl]
            have := (List.getElem?_eq_some_iff.1 hfi).1
            simpa using this
          rw [List.getElem?_eq_getElem hlt] at h1
          simp only at htp
          rw [cellsOf_eq (hZ f.type tp htp)] at h1
          obtain ⟨zs, z1, z2, z3, z4, z5⟩ := ih f.type (List.all_eq_true.1 hall _ hp) h1
          exact ⟨zs, z5 tp htp, z2, z3, z4⟩)
        refine ⟨xs, by omega, x2, fun j y u hj hu => x3 j y u hj (by simpa using hu), ⟨t, hT, .inr (.inr (.inr (.inr ⟨hf', hag, by omega, fun p hp => ?_⟩)))⟩, fun t' ht' => ?_⟩
        · obtain ⟨tp, q1, q2⟩ := x4 p hp
          exact ⟨tp, q1, by simpa using q2⟩
        · obtain rfl := Option.some.inj ht'
          omega
end
end Go.Eng
end

section
namespace Go.Eng
open Go Go.RowKit

section
variable {P : Program} {Z : TypeId → Option Ty} {H : Type} {enc : TypeId × Value → H} {W : World} {base : Nat}

/-- A struct that came in. -/
theorem decode_struct (hZ : ∀ T t, Z T = some t → TyFacts P Z T t) {n : Nat} {T : TypeId} {fs : Array Field} (hp : plainT Z n T = true) (hu : P.underlying T = some (.struct fs)) {r : Reach} {v : Value} (hok : Value.okWide P W r base T v)
    {d : DataW H} {ps : List MemPlace} {sp : Nat → Bool} {held : Bool} (h : DataW.Trod enc P W 0 sp held T v d ps) :
    ∃ xs : List D, DR W (fun b => b < W.heap.size) Z (.agg xs) v ∧ OKT Z n T xs := by
  unfold Value.okWide at hok
  rw [hu] at hok
  obtain ⟨cs, rfl, hsz, -⟩ := hok
  obtain ⟨fuel, hf⟩ := h
  obtain ⟨xs, x1, x2, x3, x4, -⟩ := decode hZ n T hp hf
  refine ⟨xs, .agg xs cs (by simpa [Value.cells] using x1) x2 (fun j y u hj hu => x3 j y u hj (by simpa [Value.cells] using hu)), x4⟩

/-- A call of the engine's with data alone, from a world: nothing that lay there turns. -/
theorem call_data (hT : TabsOK W (fun b => b < W.heap.size) Z) {f : FuncId} {ds : List D} {args : Array Value} {res : AV} (h : CallOK P Z f (ds.map AV.d) [] res []) (hl : ds.length = args.size)
    (hd : ∀ (j : Nat) (x : D) (v : Value), ds[j]? = some x → args[j]? = some v → DR W (fun b => b < W.heap.size) Z x v) :
    Calls P f args W fun e w' => ∃ v, e = .returned v ∧ Below W.heap.size W w' ∧ (∀ b, res = .d (.v (.bool b)) → v = .bool b) := by
  refine (h.2 W (fun b => b < W.heap.size) args [] ⟨by simp [hl], fun j v x hj hx => ?_, trivial, List.nodup_nil, fun b hb => ⟨hb, by simp [packB]⟩, fun b hb => by simp [packB] at hb, hT⟩).mono ?_
  · rw [List.getElem?_map, Option.map_eq_some_iff] at hj
    obtain ⟨y, hy, rfl⟩ := hj
    exact .d _ _ (hd j y x hy (by simpa using hx))
  · rintro e w' ⟨v, S', s', rfl, o⟩
    refine ⟨v, rfl, ⟨o.keep.os, o.keep.tape, o.keep.output, o.keep.size, fun k hk => o.keep.block k hk (by simp [packB])⟩, fun b hb => ?_⟩
    subst hb
    exact scalar_of_VR (show VR w' S' Z (fun _ => False) (gk []) (.d (.v (.bool b))) v from o.val)
end
end Go.Eng
end

section
namespace Go.Eng
open Go

/-! ### What they compute -/
def strOf : D → Option ByteArray
  | .v (.string s) => some s
  | _ => none
def strsOf : List D → Option (List ByteArray)
  | [] => some []
  | x :: r => (strOf x).bind fun s => (strsOf r).map (s :: ·)
def intOf : D → Option Int
  | .v (.int .i64 s) => some s
  | _ => none
def intsOf : List D → Option (List Int)
  | [] => some []
  | x :: r => (intOf x).bind fun s => (intsOf r).map (s :: ·)
def dS (s : ByteArray) : D := .v (.string s)
def dI (i : Int) : D := .v (.int .i64 i)

def idxI (l : List UInt8) (c : UInt8) : Int := match l.idxOf? c with
  | some i => (i : Nat)
  | none => -1
def one? (b : ByteArray) : Option UInt8 := match b.data.toList with
  | [c] => some c
  | _ => none
/-- Always so; a place where the reckoning stands still. -/
def held {β : Type} (a : ByteArray) (x : Option β) : Option β := if a.size = a.size then x else none
theorem held_eq {β : Type} (a : ByteArray) (x : Option β) : held a x = x := if_pos rfl
def strings_Contains (a b : ByteArray) : Option Bool := held a ((one? b).map fun c => a.data.toList.contains c)
def strings_Index (a b : ByteArray) : Option Int := held a ((one? b).map fun c => idxI a.data.toList c)
def strings_Count (a b : ByteArray) : Option Int := held a ((one? b).map fun c => ((a.data.toList.count c : Nat) : Int))
/-- Not served. -/
def utf8_DecodeRuneInString (a : ByteArray) : Option (Int × Int × Unit) := held a none
def joinB (xs : List ByteArray) (sep : ByteArray) : List UInt8 := Lib.join (xs.map (·.data.toList)) sep.data.toList
def strings_Join (l : List D) (sep : ByteArray) : Option ByteArray :=
  (strsOf l).bind fun xs => if xs.length ≤ maxRow ∧ (joinB xs sep).length ≤ maxRow then some (bs (joinB xs sep)) else none
def i_stringslite_Clone (a : ByteArray) : Option ByteArray := if a.size ≤ maxRow then some a else none
def decD : Nat → Nat → List UInt8
  | 0, _ => []
  | k + 1, u => if u < 10 then [UInt8.ofNat (48 + u)] else decD k (u / 10) ++ [UInt8.ofNat (48 + u % 10)]
def itoaL (n : Int) : List UInt8 := if n < 0 then 45 :: decD 20 n.natAbs else decD 20 n.toNat
def strconv_Itoa (n : Int) : Option ByteArray := if -9223372036854775808 ≤ n ∧ n ≤ 9223372036854775807 then some (bs (itoaL n)) else none
def hasB (ys : List ByteArray) (x : ByteArray) : Bool := ys.any fun y => seq x y
def hasI (ys : List Int) (x : Int) : Bool := ys.any fun y => x == y
def bothS (xs ys : List ByteArray) : List ByteArray × Bool :=
  let zs := if xs.isEmpty then ys else xs
  let o := zs.filter fun x => ys.isEmpty || hasB ys x
  (o, !o.isEmpty || zs.isEmpty)
def bothI (xs ys : List Int) : List Int × Bool :=
  let zs := if xs.isEmpty then ys else xs
  let o := zs.filter fun x => ys.isEmpty || hasI ys x
  (o, !o.isEmpty || zs.isEmpty)
def cond_both_string (a b : List D) : Option (List D × Bool × Unit) :=
  (strsOf a).bind fun xs => (strsOf b).bind fun ys => if xs.length * 16 ≤ maxRow ∧ ys.length * 16 ≤ maxRow then some ((bothS xs ys).1.map dS, (bothS xs ys).2, ()) else none
def cond_both_int (a b : List D) : Option (List D × Bool × Unit) :=
  (intsOf a).bind fun xs => (intsOf b).bind fun ys => if xs.length * 8 ≤ maxRow ∧ ys.length * 8 ≤ maxRow then some ((bothI xs ys).1.map dI, (bothI xs ys).2, ()) else none

/-- Of an entry: the function of the table. -/
def FE.ext (e : FE) : Ev → List AV → List (List AV) → Option (AV × List (List AV)) := fun _ args pack =>
  (e.args.dec args).bind fun a => (csDec e.pack pack).bind fun p => (e.nat a p).map (rtEnc e.res e.out)

theorem FE.ext_ok {E : Env} {e : FE} (h : E.ext e.f = some e.ext) (hr : e.f ≠ rnd) (hd : ∀ a, e.args.dec (e.args.enc a) = some a) (hp : ∀ p, csDec e.pack (csEnc e.pack p) = some p) : e.ok E := by
  intro a p r hn
  refine ⟨1, fun n h1 => ?_⟩
  obtain ⟨k, rfl⟩ : ∃ k, n = k + 1 := ⟨n - 1, by omega⟩
  simp only [evFn, if_neg hr, h, FE.ext, hd, hp, Option.bind_some, hn, Option.map_some]
end Go.Eng
end

section
namespace Go.Eng
open Go Go.RowKit

theorem keep_of_below {w w' : World} (h : Below w.heap.size w w') (W : Nat → Prop) : Keep w W w' := ⟨h.os, h.tape, h.output, h.size, fun b hb _ => h.block b hb⟩

/-- A call that hands back data that lay there, or lies anew. -/
theorem callOK_data {P : Program} {Z : TypeId → Option Ty} {f : FuncId} {args : List AV} {res : AV} (he : Enterable P f) (hob : ∀ v, ob res v = []) (hflat : ∀ l, res = .tup l → ∀ y ∈ l, isTup y = false)
    (hc : ∀ (w : World) (S : Nat → Prop) (cargs : Array Value), InOK Z w S args cargs.toList [] [] → Calls P f cargs w (fun e w' => ∃ v, e = .returned v ∧ Below w.heap.size w w' ∧ IV w' (fun b => S b ∨ (w.heap.size ≤ b ∧ b < w'.heap.size)) Z (fun _ => False) (gk []) res v)) :
    CallOK P Z f args [] res [] := by
  refine ⟨he, fun w S cargs s hin => ?_⟩
  have hs : s = [] := by
    cases s with
    | nil => rfl
    | cons p r => exact hin.pk.elim
  subst hs
  refine (hc w S cargs hin).mono ?_
  rintro e w' ⟨v, rfl, hb, hv⟩
  refine ⟨v, fun b => S b ∨ (w.heap.size ≤ b ∧ b < w'.heap.size), [], rfl, ?_⟩
  exact {
    keep := keep_of_below hb _
    same := rfl
    val := hv
    flat := hflat
    pk := trivial
    nodup := by rw [hob]; simp [packB]
    safe := fun b hb' => by
      rw [hob]
      rcases hb' with h | h
      · exact ⟨Nat.lt_of_lt_of_le (hin.safe b h).1 hb.size, by simp [packB]⟩
      · exact ⟨h.2, by simp [packB]⟩
    lt := fun b hb' => by rw [hob] at hb'; simp [packB] at hb'
    src := fun b hb' => by
      rcases hb' with h | h
      · exact .inl h
      · exact .inr (.inr h.1) }

theorem callOK_scalar {P : Program} {Z : TypeId → Option Ty} {f : FuncId} {args : List AV} {v : Value} (he : Enterable P f) (hv : scalar v = true)
    (hc : ∀ (w : World) (S : Nat → Prop) (cargs : Array Value), InOK Z w S args cargs.toList [] [] → Calls P f cargs w (fun e w' => e = .returned v ∧ Below w.heap.size w w')) : CallOK P Z f args [] (.d (.v v)) [] :=
  callOK_data he (fun v => by cases v <;> rfl) (fun l h => by cases h) fun w S cargs hin => (hc w S cargs hin).mono fun e w' h => ⟨v, h.1, h.2, VR.d _ _ (.v v hv)⟩

/-! ### Arguments -/
theorem scal_of {w : World} {S : Nat → Prop} {Z : TypeId → Option Ty} {L : Key → Prop} {g : Gh} {x u : Value} (h : VR w S Z L g (.d (.v x)) u) : u = x := by
  cases h with
  | d _ _ h => cases h; rfl
theorem args1 {Z : TypeId → Option Ty} {w : World} {S : Nat → Prop} {cargs : Array Value} {a : AV} (h : InOK Z w S [a] cargs.toList [] []) : ∃ u, cargs = #[u] ∧ VR w S Z (Lk 0) (gk []) a u := by
  have hl := h.len
  simp at hl
  obtain ⟨l⟩ := cargs
  match l, hl with
  | [u], _ => exact ⟨u, rfl, h.val 0 _ u rfl rfl⟩
theorem args2 {Z : TypeId → Option Ty} {w : World} {S : Nat → Prop} {cargs : Array Value} {a b : AV} (h : InOK Z w S [a, b] cargs.toList [] []) : ∃ u v, cargs = #[u, v] ∧ VR w S Z (Lk 0) (gk []) a u ∧ VR w S Z (Lk 0) (gk []) b v := by
  have hl := h.len
  simp at hl
  obtain ⟨l⟩ := cargs
  match l, hl with
  | [u, v], _ => exact ⟨u, v, rfl, h.val 0 _ u rfl rfl, h.val 1 _ v rfl rfl⟩

/-- A slice whose elements take one cell each. -/
def SlOf (w : World) (S : Nat → Prop) (l : List Value) (v : Value) : Prop :=
  (l = [] ∧ ∃ A c, v = .slice A 0 c) ∨ (l ≠ [] ∧ ∃ b o c, v = .slice (some ⟨b, o, none⟩) l.length c ∧ S b ∧ l.length ≤ c ∧ l.length ≤ maxLen ∧ ∀ j x, l[j]? = some x → w.cell? ⟨b, o + j, none⟩ = some x)
theorem slOf {w : World} {S : Nat → Prop} {Z : TypeId → Option Ty} {L : Key → Prop} {g : Gh} {e : TypeId} (hz : ∀ t, Z e = some t → t.size = 1) {l : List Value} {u : Value} (h : VR w S Z L g (.d (.sl e (l.map D.v))) u) : SlOf w S l u := by
  cases h with
  | d _ _ h =>
    generalize hx : D.sl e (l.map D.v) = x at h
    cases h with
    | v => cases hx
    | agg => cases hx
    | nil e' A c =>
      injection hx with _ h2
      refine .inl ⟨by simpa using h2, A, c, rfl⟩
    | sl e' l' b o c t k h1 h2 h3 h4 h5 h6 h7 h8 h9 =>
      injection hx with e1 e2
      subst e1; subst e2
      have hs := hz t h2
      refine .inr ⟨fun h => h1 (by simp [h]), b, o, c, by simp, h5, by simpa using h6, by simpa using h7, fun j x hj => ?_⟩
      have hj' : j < l.length := (List.getElem?_eq_some_iff.1 hj).1
      have h10 := h8 j 0 (by simpa using hj') (by omega)
      rw [hs] at h10
      have h11 := h9 j 0 (.v x) (.v x) (by rw [List.getElem?_map, hj]; rfl) rfl
      have : k j 0 = x := by cases h11; rfl
      rw [this] at h10
      simpa using h10

theorem strsOf_some : ∀ {l : List D} {xs : List ByteArray}, strsOf l = some xs → l = (xs.map Value.string).map D.v
  | [], xs, h => by cases h; rfl
  | x :: r, xs, h => by
    simp only [strsOf, Option.bind_eq_some_iff, Option.map_eq_some_iff] at h
    obtain ⟨s, h1, ys, h2, rfl⟩ := h
    have := strsOf_some h2
    unfold strOf at h1
    split at h1
    · cases h1; rw [this]; rfl
    · cases h1
theorem intsOf_some : ∀ {l : List D} {xs : List Int}, intsOf l = some xs → l = (xs.map (Value.int .i64)).map D.v
  | [], xs, h => by cases h; rfl
  | x :: r, xs, h => by
    simp only [intsOf, Option.bind_eq_some_iff, Option.map_eq_some_iff] at h
    obtain ⟨s, h1, ys, h2, rfl⟩ := h
    have := intsOf_some h2
    unfold intOf at h1
    split at h1
    · cases h1; rw [this]; rfl
    · cases h1

/-! ### The library's words -/
theorem idx_eq : ∀ (l : List UInt8) (c : UInt8), Lib.indexByte l c = idxI l c
  | [], c => rfl
  | b :: l, c => by
    have ih := idx_eq l c
    unfold Lib.indexByte idxI
    rw [List.idxOf?_cons]
    by_cases h : b == c
    · simp [h]
    · simp only [h, Bool.false_eq_true, if_false, ih]
      unfold idxI
      cases l.idxOf? c with
      | none => rfl
      | some i =>
        have : (((i : Nat) : Int) == -1) = false := by rw [Bool.eq_false_iff]; simp
        simp [this]
theorem contains_eq (l : List UInt8) (c : UInt8) : decide (0 ≤ Lib.indexByte l c) = l.contains c := by
  rw [idx_eq]
  unfold idxI
  cases h : l.idxOf? c with
  | none =>
    have := List.idxOf?_eq_none_iff.1 h
    simp [this]
  | some i =>
    obtain ⟨h1, h2, h3⟩ := List.idxOf?_eq_some_iff.1 h
    have : c ∈ l := by
      have h4 : l[i] = c := by simpa using h2
      rw [← h4]; exact List.getElem_mem _
    simp [this]
theorem one?_some {b : ByteArray} {c : UInt8} (h : one? b = some c) : b = ⟨#[c]⟩ := by
  unfold one? at h
  split at h
  · rename_i d hd
    cases h
    obtain ⟨⟨l⟩⟩ := b
    simp at hd
    rw [hd]
  · cases h

theorem contains_ok {P : Program} {Z : TypeId → Option Ty} {f : FuncId} (he : Enterable P f)
    (hc : ∀ (s : ByteArray) (c : UInt8) (w : World), Calls P f #[.string s, .string ⟨#[c]⟩] w fun e w' => e = .returned (.bool (decide (0 ≤ Lib.indexByte s.data.toList c))) ∧ w' = w) (s t : ByteArray) (r : Bool) (h : strings_Contains s t = some r) :
    CallOK P Z f [.d (.v (.string s)), .d (.v (.string t))] [] (.d (.v (.bool r))) [] := by
  unfold strings_Contains at h
  rw [held_eq, Option.map_eq_some_iff] at h
  obtain ⟨c, h1, rfl⟩ := h
  obtain rfl := one?_some h1
  refine callOK_scalar he rfl fun w S cargs hin => ?_
  obtain ⟨u, v, rfl, h2, h3⟩ := args2 hin
  obtain rfl := scal_of h2
  obtain rfl := scal_of h3
  refine (hc s c w).mono fun e w' h => ⟨by rw [h.1, contains_eq], by rw [h.2]; exact .refl _ _⟩
theorem index_ok {P : Program} {Z : TypeId → Option Ty} {f : FuncId} (he : Enterable P f)
    (hc : ∀ (s : ByteArray) (c : UInt8) (w : World), Calls P f #[.string s, .string ⟨#[c]⟩] w fun e w' => e = .returned (.int .i64 (Lib.indexByte s.data.toList c)) ∧ w' = w) (s t : ByteArray) (r : Int) (h : strings_Index s t = some r) :
    CallOK P Z f [.d (.v (.string s)), .d (.v (.string t))] [] (.d (.v (.int .i64 r))) [] := by
  unfold strings_Index at h
  rw [held_eq, Option.map_eq_some_iff] at h
  obtain ⟨c, h1, rfl⟩ := h
  obtain rfl := one?_some h1
  refine callOK_scalar he rfl fun w S cargs hin => ?_
  obtain ⟨u, v, rfl, h2, h3⟩ := args2 hin
  obtain rfl := scal_of h2
  obtain rfl := scal_of h3
  refine (hc s c w).mono fun e w' h => ⟨by rw [h.1, idx_eq], by rw [h.2]; exact .refl _ _⟩
theorem count_ok {P : Program} {Z : TypeId → Option Ty} {f : FuncId} (he : Enterable P f)
    (hc : ∀ (s : ByteArray) (c : UInt8) (w : World), Calls P f #[.string s, .string ⟨#[c]⟩] w fun e w' => e = .returned (.int .i64 (Lib.countByte s.data.toList c)) ∧ w' = w) (s t : ByteArray) (r : Int) (h : strings_Count s t = some r) :
    CallOK P Z f [.d (.v (.string s)), .d (.v (.string t))] [] (.d (.v (.int .i64 r))) [] := by
  unfold strings_Count at h
  rw [held_eq, Option.map_eq_some_iff] at h
  obtain ⟨c, h1, rfl⟩ := h
  obtain rfl := one?_some h1
  refine callOK_scalar he rfl fun w S cargs hin => ?_
  obtain ⟨u, v, rfl, h2, h3⟩ := args2 hin
  obtain rfl := scal_of h2
  obtain rfl := scal_of h3
  refine (hc s c w).mono fun e w' h => ⟨by rw [h.1]; rfl, by rw [h.2]; exact .refl _ _⟩
theorem clone_ok {P : Program} {Z : TypeId → Option Ty} {f : FuncId} (he : Enterable P f)
    (hc : ∀ (s : ByteArray) (w : World), s.size ≤ 281474976710656 → Calls P f #[.string s] w fun e w' => e = .returned (.string s) ∧ Below w.heap.size w w') (s r : ByteArray) (h : i_stringslite_Clone s = some r) :
    CallOK P Z f [.d (.v (.string s))] [] (.d (.v (.string r))) [] := by
  unfold i_stringslite_Clone at h
  split at h
  · rename_i hs
    obtain rfl := Option.some.inj h
    refine callOK_scalar he rfl fun w S cargs hin => ?_
    obtain ⟨u, rfl, h2⟩ := args1 hin
    obtain rfl := scal_of h2
    exact hc s w (by unfold maxRow at hs; omega)
  · cases h
theorem join_ok {P : Program} {Z : TypeId → Option Ty} {f : FuncId} {e9 : TypeId} (hz : ∀ t, Z e9 = some t → t.size = 1) (he : Enterable P f)
    (h0 : ∀ (a : Option Addr) (c : Nat) (sep : ByteArray) (w : World), Calls P f #[.slice a 0 c, .string sep] w fun e w' => e = .returned (.string ⟨#[]⟩) ∧ w' = w)
    (hc : ∀ (bk o c : Nat) (xs : List ByteArray) (sep : ByteArray) (w : World), (∀ (j : Nat) x, xs[j]? = some x → w.cell? ⟨bk, o + j, none⟩ = some (.string x)) → bk < w.heap.size → xs.length ≤ 140737488355328 → xs.length ≤ c → (Lib.join (xs.map (·.data.toList)) sep.data.toList).length ≤ 140737488355328 →
      Calls P f #[.slice (some ⟨bk, o, none⟩) xs.length c, .string sep] w fun e w' => e = .returned (.string ⟨(Lib.join (xs.map (·.data.toList)) sep.data.toList).toArray⟩) ∧ Below w.heap.size w w') (l : List D) (sep r : ByteArray) (h : strings_Join l sep = some r) :
    CallOK P Z f [.d (.sl e9 l), .d (.v (.string sep))] [] (.d (.v (.string r))) [] := by
  unfold strings_Join at h
  rw [Option.bind_eq_some_iff] at h
  obtain ⟨xs, h1, h2⟩ := h
  split at h2
  · rename_i hb
    obtain rfl := Option.some.inj h2
    have hl := strsOf_some h1
    subst hl
    refine callOK_scalar he rfl fun w S cargs hin => ?_
    obtain ⟨u, v, rfl, h3, h4⟩ := args2 hin
    obtain rfl := scal_of h4
    rcases slOf hz h3 with ⟨k1, A, c, rfl⟩ | ⟨k1, b, o, c, rfl, k2, k3, k4, k5⟩
    · have : xs = [] := by simpa using k1
      subst this
      refine (h0 A c sep w).mono fun e w' h => ⟨by rw [h.1]; rfl, by rw [h.2]; exact .refl _ _⟩
    · rw [List.length_map]
      rw [List.length_map] at k3
      refine hc b o c xs sep w (fun j x hj => k5 j _ (by rw [List.getElem?_map, hj]; rfl)) (hin.safe b k2).1 ?_ k3 ?_
      · have := hb.1; unfold maxRow at this; exact this
      · have := hb.2; unfold maxRow joinB at this; exact this
  · cases h2

theorem decD_eq : ∀ (k u : Nat), u < 10 ^ k → 0 < k → decD k u = Lib.decDigits u
  | 0, u, _, h => by omega
  | k + 1, u, hu, _ => by
    rw [decD, Lib.decDigits]
    by_cases h : u < 10
    · rw [if_pos h, dif_pos h]
    · rw [if_neg h, dif_neg h, decD_eq k (u / 10) ?_ ?_]
      · rw [Nat.div_lt_iff_lt_mul (by decide)]
        rw [Nat.pow_succ] at hu; exact hu
      · cases k with
        | zero => simp at hu; omega
        | succ k => omega
theorem itoa_eq {n : Int} (h1 : -9223372036854775808 ≤ n) (h2 : n ≤ 9223372036854775807) : Lib.itoa n = itoaL n := by
  unfold Lib.itoa itoaL
  have e : (10 : Nat) ^ 20 = 100000000000000000000 := by decide
  split
  · rw [decD_eq 20 n.natAbs (by rw [e]; omega) (by decide)]
  · rw [decD_eq 20 n.toNat (by rw [e]; omega) (by decide)]
theorem itoa_ok {P : Program} {Z : TypeId → Option Ty} {f : FuncId} {t4 : Ty} {e : TypeId} {lt : List D} {gn : Nat} {name : String} {kd : IntKind} {zs : List Int} (h4 : Z 4 = some t4) (hg : t4.gl gn = some (e, lt)) (hn : P.globalNamed name = some gn) (hl : tabCells lt = (zs.map fun z => Value.int kd z).toArray) (he : Enterable P f)
    (hc : ∀ (n : Int), -9223372036854775808 ≤ n → n ≤ 9223372036854775807 → ∀ (w : World), Lib.TabIs P w name kd zs →
      Calls P f #[.int .i64 n] w fun e w' => e = .returned (.string ⟨(Lib.itoa n).toArray⟩) ∧ Below w.heap.size w w') (n : Int) (r : ByteArray) (h : strconv_Itoa n = some r) :
    CallOK P Z f [.d (.v (.int .i64 n))] [] (.d (.v (.string r))) [] := by
  unfold strconv_Itoa at h
  split at h
  · rename_i hb
    obtain rfl := Option.some.inj h
    refine callOK_scalar he rfl fun w S cargs hin => ?_
    obtain ⟨u, rfl, h3⟩ := args1 hin
    obtain rfl := scal_of h3
    obtain ⟨-, -, ty, fz, hw⟩ := hin.tabs t4 h4 gn e lt hg
    have ht : Lib.TabIs P w name kd zs := by
      unfold Lib.TabIs World.var?
      rw [hn, Option.bind_some, hw, ← hl]
    refine (hc n hb.1 hb.2 w ht).mono fun e w' h => ⟨?_, h.2⟩
    rw [h.1, itoa_eq hb.1 hb.2]
    rfl
  · cases h
end Go.Eng
end

section
namespace Go.Eng
open Go

abbrev Str := List UInt8
def dB (l : Str) : D := .v (.string (bs l))

theorem bs_eta (s : ByteArray) : bs s.data.toList = s := by cases s; simp [bs]
@[simp] theorem bs_data (l : Str) : (bs l).data.toList = l := rfl
@[simp] theorem bs_size (l : Str) : (bs l).size = l.length := by simp [bs, ByteArray.size]
theorem bs_inj {a b : Str} (h : bs a = bs b) : a = b := by rw [← bs_data a, h, bs_data]
@[simp] theorem seq_bs (a b : Str) : seq (bs a) (bs b) = (a == b) := rfl
@[simp] theorem slt_bs (a b : Str) : slt (bs a) (bs b) = Op.bytesLess a b := rfl
@[simp] theorem extract_bs (l : Str) (i j : Nat) : (bs l).extract i j = bs ((l.take j).drop i) := by
  cases h : (bs l).extract i j with
  | mk d =>
    have : ((bs l).extract i j).data.toList = (l.take j).drop i := by rw [ByteArray.data_extract, Array.toList_extract]; simp [List.extract_eq_take_drop, List.drop_take]
    rw [h] at this
    simp only [bs, ByteArray.mk.injEq]
    rw [← this]
@[simp] theorem append_bs (a b : Str) : bs a ++ bs b = bs (a ++ b) := by
  cases h : bs a ++ bs b with
  | mk d =>
    have : (bs a ++ bs b).data.toList = a ++ b := by rw [ByteArray.data_append]; simp
    rw [h] at this
    simp only [bs, ByteArray.mk.injEq]
    rw [← this]
@[simp] theorem chr_bs (l : Str) (i : Nat) : chr (bs l) i = ((l.getD i 0).toNat : Nat) := rfl

@[simp] theorem nat?_nat (n : Nat) : nat? (n : Int) = some n := by simp [nat?]
@[simp] theorem nat?_zero : nat? 0 = some 0 := rfl
theorem nat?_of {z : Int} (h : 0 ≤ z) : nat? z = some z.toNat := if_pos h
theorem w64_id {z : Int} (h : -9223372036854775808 ≤ z) (h' : z ≤ 9223372036854775807) : w64 z = z := IntWalk.i64_in z (by omega)
theorem w64_succ {n : Nat} (h : n < 9223372036854775807) : w64 ((n : Int) + 1) = ((n + 1 : Nat) : Int) := by rw [w64_id (by omega) (by omega)]; omega

@[simp] theorem rdS_map (l : List Str) (i : Nat) : rdS (l.map dB) i = (l[i]?).map bs := by
  simp only [rdS, rd, List.getElem?_map]
  cases l[i]? <;> rfl
@[simp] theorem rdI_map (l : List Int) (i : Nat) : rdI .i64 (l.map dI) i = l[i]? := by
  simp only [rdI, rd, List.getElem?_map]
  cases l[i]? <;> rfl
theorem rdB_map (l : List Bool) (i : Nat) : rdB (l.map fun b => .v (.bool b)) i = l[i]? := by
  simp only [rdB, rd, List.getElem?_map]
  cases l[i]? <;> rfl
@[simp] theorem strsOf_map (l : List Str) : strsOf (l.map dB) = some (l.map bs) := by
  induction l with
  | nil => rfl
  | cons a l ih => simp [strsOf, ih, strOf, dB]
@[simp] theorem intsOf_map (l : List Int) : intsOf (l.map dI) = some l := by
  induction l with
  | nil => rfl
  | cons a l ih => simp [intsOf, ih, intOf, dI]

theorem one?_one (c : UInt8) : one? (bs [c]) = some c := rfl
theorem strings_Contains_bs (l : Str) (c : UInt8) : strings_Contains (bs l) (bs [c]) = some (l.contains c) := by simp [strings_Contains, held_eq, one?_one]
theorem strings_Index_bs (l : Str) (c : UInt8) : strings_Index (bs l) (bs [c]) = some (idxI l c) := by simp [strings_Index, held_eq, one?_one]
theorem strings_Count_bs (l : Str) (c : UInt8) : strings_Count (bs l) (bs [c]) = some ((l.count c : Nat) : Int) := by simp [strings_Count, held_eq, one?_one]
def joinL (l : List Str) (sep : Str) : Str := Lib.join l sep
theorem strings_Join_bs (l : List Str) (sep : Str) (h1 : l.length ≤ maxRow) (h2 : (joinL l sep).length ≤ maxRow) : strings_Join (l.map dB) (bs sep) = some (bs (joinL l sep)) := by
  have e : joinB (l.map bs) (bs sep) = joinL l sep := by simp [joinB, joinL, Function.comp_def]
  simp [strings_Join, e, h1, h2]

/-! ### Decoding -/
theorem decode_ascii {l : Str} {i : Nat} {c : UInt8} (h : l[i]? = some c) (hc : c.toNat < 128) : Utf8.decode (bs l) i = (c.toNat, 1) := by
  obtain ⟨h1, h2⟩ := List.getElem?_eq_some_iff.1 h
  have hg : (bs l).get! (i + 0) = c := by
    show (bs l).data[i + 0]! = c
    simp [bs, h]
  simp only [Utf8.decode, hg, hc, if_true]
theorem decode_high {l : Str} {i : Nat} {c : UInt8} (h : l[i]? = some c) (hc : 128 ≤ c.toNat) : 128 ≤ (Utf8.decode (bs l) i).1 := by
  obtain ⟨h1, h2⟩ := List.getElem?_eq_some_iff.1 h
  have hg : (bs l).get! (i + 0) = c := by
    show (bs l).data[i + 0]! = c
    simp [bs, h]
  have hr : 128 ≤ Utf8.runeError := by decide
  simp only [Utf8.decode, hg]
  rw [if_neg (by omega)]
  repeat' split
  all_goals first
    | exact hr
    | (dsimp only; omega)
    | (rename_i hh; simp only [ge_iff_le, Bool.and_eq_true, decide_eq_true_eq] at hh; dsimp only; omega)
end Go.Eng
end
