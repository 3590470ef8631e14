/- The engine, part 2: EngO3, EngO4, EngO5, EngO6, EngO7, EngO8, EngO9 of this author. A pure reading of the code of the model, and its soundness. Nothing is assumed. -/
import Derived.Test.YtcjgmffbebjddaaGreatDoorEng1
import Derived.Deep.AppendSrc
set_option linter.all false

section
namespace Go.Eng
open Go

section
variable {P : Program} {E : Env} {C : Ctx} {g : Gh} {F : St} {a : Act} {w : World}

theorem Ext.refl {w : World} {S : Nat → Prop} {L : Key → Prop} {g : Gh} : Ext w S L g w S L g := ⟨fun b h => ⟨h, rfl⟩, fun _ _ h => ⟨h, rfl⟩, fun _ _ h => ⟨h, rfl⟩⟩
theorem Ext.trans {w w1 w2 : World} {S S1 S2 : Nat → Prop} {L L1 L2 : Key → Prop} {g g1 g2 : Gh} (h : Ext w S L g w1 S1 L1 g1) (k : Ext w1 S1 L1 g1 w2 S2 L2 g2) : Ext w S L g w2 S2 L2 g2 :=
  ⟨fun b hb => ⟨(k.block b (h.block b hb).1).1, (k.block b (h.block b hb).1).2.trans (h.block b hb).2⟩,
   fun p q hp => ⟨(k.x p q (h.x p q hp).1).1, (k.x p q (h.x p q hp).1).2.trans (h.x p q hp).2⟩,
   fun p q hp => ⟨(k.r p q (h.r p q hp).1).1, (k.r p q (h.r p q hp).1).2.trans (h.r p q hp).2⟩⟩

/-- A step of the state alone: the world stands. -/
abbrev Stp (C : Ctx) (g : Gh) (F F' : St) (a : Act) (w : World) : Prop := Rel C g F' a w ∧ Ext w (Safe C g F w) (live F) g w (Safe C g F' w) (live F') g

theorem fros_val (h : Rel C g F a w) {p q : Nat} {e : TypeId} {l : List D} (hc : F (.r p q) = .fro e l) : DRs C g F w (.sl e l) (g.ρ p q) := h.fros p q e l hc

theorem toD_sound (h : Rel C g F a w) {v : AV} {x : D} {u : Value} {F' : St} (hv : VRs C g F w v u) (hr : (toD v).run F = some (x, F')) : Stp C g F F' a w ∧ DRs C g F' w x u := by
  cases hv with
  | d y _ hd =>
    simp only [toD, Pr.run, Option.some.injEq, Prod.mk.injEq] at hr
    obtain ⟨rfl, rfl⟩ := hr
    exact ⟨⟨h, .refl⟩, hd⟩
  | nils e =>
    simp only [toD, Pr.run, Option.some.injEq, Prod.mk.injEq] at hr
    obtain ⟨rfl, rfl⟩ := hr
    exact ⟨⟨h, .refl⟩, .nil e none 0⟩
  | row p q A n c hl hρ =>
    simp only [toD, Pr.run] at hr
    split at hr
    · rename_i e l hc
      simp only [Pr.run, Option.some.injEq, Prod.mk.injEq] at hr
      obtain ⟨rfl, rfl⟩ := hr
      obtain ⟨h1, h2, h3⟩ := h.freeze hc
      exact ⟨⟨h1, h2⟩, by rw [← hρ]; exact h3⟩
    · rename_i e l hc
      simp only [Pr.run, Option.some.injEq, Prod.mk.injEq] at hr
      obtain ⟨rfl, rfl⟩ := hr
      exact ⟨⟨h, .refl⟩, by rw [← hρ]; exact h.fros p q e l hc⟩
    · cases hr
  | _ => simp [toD, Pr.run] at hr

theorem Stp.trans {F1 F2 : St} (h : Stp C g F F1 a w) (k : Stp C g F1 F2 a w) : Stp C g F F2 a w := ⟨k.1, h.2.trans k.2⟩

theorem toDs_sound (l : List AV) : ∀ {F : St} (h : Rel C g F a w) {us : List Value} {xs : List D} {F' : St}, us.length = l.length →
    (∀ (j : Nat) (v : AV) (u : Value), l[j]? = some v → us[j]? = some u → VRs C g F w v u) → (toDs l).run F = some (xs, F') →
    Stp C g F F' a w ∧ xs.length = l.length ∧ ∀ (j : Nat) (x : D) (u : Value), xs[j]? = some x → us[j]? = some u → DRs C g F' w x u := by
  induction l with
  | nil =>
    intro F h us xs F' hl hv hr
    simp only [toDs, Pr.run, Option.some.injEq, Prod.mk.injEq] at hr
    obtain ⟨rfl, rfl⟩ := hr
    exact ⟨⟨h, .refl⟩, rfl, fun j x u hj => by simp at hj⟩
  | cons v r ih =>
    intro F h us xs F' hl hv hr
    unfold toDs at hr
    obtain ⟨x, F1, h1, hr2⟩ := Pr.bind_some hr
    obtain ⟨xs', F2, h2, hr3⟩ := Pr.bind_some hr2
    simp only [Pr.run, Option.some.injEq, Prod.mk.injEq] at hr3
    obtain ⟨rfl, rfl⟩ := hr3
    cases us with
    | nil => simp at hl
    | cons u us =>
      obtain ⟨s1, d1⟩ := toD_sound h (hv 0 v u rfl rfl) h1
      obtain ⟨s2, l2, d2⟩ := ih s1.1 (us := us) (by simpa using hl) (fun j v' u' hj hu => (hv (j + 1) v' u' (by simpa using hj) (by simpa using hu)).mono s1.2) h2
      refine ⟨s1.trans s2, by simp [l2], fun j x' u' hj hu => ?_⟩
      cases j with
      | zero => simp at hj hu; subst hj; subst hu; exact d1.mono s2.2.block
      | succ j => simp at hj hu; exact d2 j x' u' hj hu

theorem DR.leafs {w : World} {S : Nat → Prop} {Z : TypeId → Option Ty} {x : D} {u : Value} (h : DR w S Z x u) :
    u.cells.size = x.cells.length ∧ (∀ y ∈ x.cells, y.leaf = true) ∧ ∀ (k : Nat) (y : D), x.cells[k]? = some y → ∃ z, u.cells[k]? = some z ∧ z.oneCell' = true ∧ DR w S Z y z := by
  have one : ∀ {x : D} {u : Value}, DR w S Z x u → x.cells = [x] → x.leaf = true → u.cells = #[u] →
      u.cells.size = x.cells.length ∧ (∀ y ∈ x.cells, y.leaf = true) ∧ ∀ (k : Nat) (y : D), x.cells[k]? = some y → ∃ z, u.cells[k]? = some z ∧ z.oneCell' = true ∧ DR w S Z y z := by
    intro x u hd hc hl hu
    rw [hc, hu]
    refine ⟨rfl, fun y hy => by simp at hy; subst hy; exact hl, fun k y hk => ?_⟩
    cases k with
    | zero => simp at hk; subst hk; exact ⟨u, rfl, hd.oneCell hl, hd⟩
    | succ k => simp at hk
  cases h with
  | v _ hx => exact one (.v _ hx) rfl rfl (by cases u <;> first | rfl | simp [scalar] at hx)
  | nil e A c => exact one (.nil e A c) rfl rfl rfl
  | sl e l b o c t u h1 h2 h3 h4 h5 h6 h7 h8 h9 => exact one (.sl e l b o c t u h1 h2 h3 h4 h5 h6 h7 h8 h9) rfl rfl rfl
  | agg l cs h1 h2 h3 =>
    refine ⟨h1.symm, h2, fun k y hk => ?_⟩
    have hlt : k < cs.size := by rw [← h1]; exact (List.getElem?_eq_some_iff.1 hk).1
    have hz : cs[k]? = some cs[k] := Array.getElem?_eq_getElem hlt
    have := h3 k y _ hk hz
    exact ⟨cs[k], hz, this.oneCell (h2 y (List.mem_of_getElem? hk)), this⟩

theorem toDd_sound (h : Rel C g F a w) {v : AV} {x : D} {u : Value} {F' : St} (hv : VRs C g F w v u) (hr : (toDd v).run F = some (x, F')) : Stp C g F F' a w ∧ DRs C g F' w x u := by
  cases hv with
  | agg l cs h1 h2 h3 =>
    simp only [toDd] at hr
    obtain ⟨ds, F1, hr1, hr2⟩ := Pr.bind_some hr
    simp only [Pr.run, Option.some.injEq, Prod.mk.injEq] at hr2
    obtain ⟨rfl, rfl⟩ := hr2
    obtain ⟨s, l1, d⟩ := toDs_sound l h (us := cs.toList) (by simpa using h1.symm) (fun j v u hj hu => h3 j v u hj (by simpa using hu)) hr1
    refine ⟨s, .agg ds cs (by omega) (fun y hy => ?_) (fun j x u hj hu => d j x u hj (by simpa using hu))⟩
    obtain ⟨j, hj⟩ := List.mem_iff_getElem?.1 hy
    have hlt : j < cs.size := by have := (List.getElem?_eq_some_iff.1 hj).1; omega
    have hz : cs.toList[j]? = some cs[j] := by simp [hlt]
    have hd := d j y _ hj hz
    obtain ⟨v, hv⟩ : ∃ v, l[j]? = some v := ⟨l[j]'(by omega), List.getElem?_eq_getElem (by omega)⟩
    have ho := (h3 j v cs[j] hv (by simp [hlt])).oneCell (h2 v (List.mem_of_getElem? hv))
    cases y with
    | agg l' =>
      unfold DRs at hd
      generalize cs[j] = z at hd ho
      cases hd with
      | agg => simp [Value.oneCell'] at ho
    | _ => rfl
  | d y _ hd => exact toD_sound h (.d _ _ hd) hr
  | nils e => exact toD_sound h (.nils e) hr
  | row p q A n c hl hρ => exact toD_sound h (.row p q A n c hl hρ) hr
  | _ => simp [toDd, toD, Pr.run] at hr

theorem splice_get {α : Type} (c l : List α) (o j : Nat) (h : o + l.length ≤ c.length) :
    (c.take o ++ l ++ c.drop (o + l.length))[j]? = if j < o then c[j]? else if j < o + l.length then l[j - o]? else c[j]? := by
  have ht : (c.take o).length = o := by simp; omega
  by_cases h1 : j < o
  · rw [if_pos h1, List.append_assoc, List.getElem?_append_left (by omega), List.getElem?_take, if_pos h1]
  · rw [if_neg h1]
    by_cases h2 : j < o + l.length
    · rw [if_pos h2, List.getElem?_append_left (by simp; omega), List.getElem?_append_right (by omega), ht]
    · rw [if_neg h2, List.getElem?_append_right (by simp; omega), List.getElem?_drop]
      congr 1
      simp
      omega

theorem splice_len {α : Type} (c l : List α) (o : Nat) (h : o + l.length ≤ c.length) : (c.take o ++ l ++ c.drop (o + l.length)).length = c.length := by simp; omega

theorem run_storeAt_any (w : World) (b o : Nat) (T e : TypeId) (cur : Array Value) (x : Value) (hh : w.heap[b]? = some (.cells cur e (0, 0))) (hi : (P.info? T).map (·.size) = some x.cells.size)
    (hl : o + x.cells.size ≤ cur.size) (h1 : ∀ v ∈ x.cells.toList, v.oneCell' = true) :
    (Instr.storeAt T (.pointer (some ⟨b, o, none⟩)) x).run P w = .ok () (w.setRow b (cur.toList.take o ++ x.cells.toList ++ cur.toList.drop (o + x.cells.toList.length)).toArray) := by
  have := run_storeCells_at (P := P) b o e x.cells.toList 0 cur w hh (by simpa using hl) h1
  cases hq : P.info? T with
  | none => simp [hq] at hi
  | some i =>
    have hs : x.cells.size = i.size := by simp [hq] at hi; omega
    simp only [Nat.add_zero] at this
    simp [Instr.storeAt, Instr.sureAddr, storeVar, sizeOf, typeInfo, hq, hs, this]

theorem grownBy_setRow (w : World) (b : Nat) (cs : Array Value) : w.grownBy (w.setRow b cs) (some b) :=
  ⟨rfl, rfl, rfl, by simp, fun k hk hne => setRow_other w b k cs (fun e => hne (by rw [e]))⟩
end
end Go.Eng
namespace Go.Eng
open Go
section
variable {P : Program} {E : Env} {C : Ctx} {g : Gh} {F : St} {a : Act} {w : World}

theorem fillL_some {c l c' : List AV} {o : Nat} (h : fillL c o l = some c') : o + l.length ≤ c.length ∧ c' = c.take o ++ l ++ c.drop (o + l.length) := by
  unfold fillL at h
  split at h
  · exact ⟨by assumption, (Option.some.inj h).symm⟩
  · cases h

theorem setCell_some {x y : D} {o : Nat} {l : List D} (h : setCell x o l = some y) : ∃ c, x = .agg c ∧ o + l.length ≤ c.length ∧ y = .agg (c.take o ++ l ++ c.drop (o + l.length)) := by
  unfold setCell at h
  split at h
  · split at h
    · exact ⟨_, rfl, by assumption, (Option.some.inj h).symm⟩
    · cases h
  · cases h

/-- An own row, with cells spliced in. -/
theorem own_splice (h : Rel C g F a w) {p q : Nat} {e : TypeId} {l l' : List D} {te : Ty} {b n c : Nat} (hc : F (.r p q) = .own e l) (hρ : g.ρ p q = .slice (some ⟨b, 0, none⟩) n c) (he : C.Z e = some te)
    {i off : Nat} {x : Value} {cs : List D} (hlt : i < l.length) (hx : x.cells.size = cs.length) (hfit : off + cs.length ≤ te.size)
    (hcs : ∀ (k : Nat) (y : D), cs[k]? = some y → ∃ z, x.cells[k]? = some z ∧ z.oneCell' = true ∧ DRs C g F w y z)
    (hlen : l'.length = l.length) (hsh : ∀ y ∈ l', D.shaped te y)
    (hget : ∀ (j k : Nat) (x' y : D), l'[j]? = some x' → x'.cells[k]? = some y → (j = i ∧ off ≤ k ∧ k < off + cs.length ∧ cs[k - off]? = some y) ∨
      (¬ (j = i ∧ off ≤ k ∧ k < off + cs.length) ∧ ∃ x0, l[j]? = some x0 ∧ x0.cells[k]? = some y)) :
    ∃ cur, w.heap[b]? = some (.cells cur e (0, 0)) ∧ i * te.size + off + x.cells.size ≤ cur.size ∧
    OwnR (w.setRow b (cur.toList.take (i * te.size + off) ++ x.cells.toList ++ cur.toList.drop (i * te.size + off + x.cells.toList.length)).toArray) (Safe C g F w) C.Z e l' (g.ρ p q) := by
  have ho := h.owns p q e l hc
  rw [hρ] at ho
  rcases ho with ⟨h0, _⟩ | ⟨t, b', cap, cur, h1, h2, h3, h4, h5, h6, h7, h8, h9⟩
  · simp at h0
  · obtain ⟨rfl, rfl, rfl⟩ : b = b' ∧ n = l.length ∧ c = cap := by simpa using h4
    rw [he] at h1
    obtain rfl : te = t := by simpa using h1
    have hbound : i * te.size + off + x.cells.size ≤ cur.size := by
      rw [h8, hx]
      have : (i + 1) * te.size ≤ c * te.size := Nat.mul_le_mul_right _ (by omega)
      rw [Nat.add_mul] at this; omega
    have hsp := fun j => splice_get cur.toList x.cells.toList (i * te.size + off) j (by simpa using hbound)
    have hsafe : ∀ b', Safe C g F w b' → b' ≠ b := fun b' hb' e1 => hb'.2.1 (.r p q) ⟨⟨e, l, hc⟩, by rw [hρ, e1]; rfl⟩
    refine ⟨cur, h5, hbound, ?_⟩
    rw [hρ]
    refine .inr ⟨te, b, c, _, he, h2, hsh, by rw [hlen], setRow_heap w b cur _ e (0, 0) h5, by omega, h7, ?_, fun j k x' y hj hk => ?_⟩
    · simp only [List.size_toArray]; rw [splice_len _ _ _ (by simpa using hbound)]; simpa using h8
    · have hkt : k < te.size := by
        have := (List.getElem?_eq_some_iff.1 hk).1
        rw [(hsh x' (List.mem_of_getElem? hj)).1] at this; exact this
      rcases hget j k x' y hj hk with ⟨rfl, k1, k2, k3⟩ | ⟨hn, x0, k1, k2⟩
      · obtain ⟨z, z1, z2, z3⟩ := hcs _ y k3
        refine ⟨z, ?_, z2, z3.mono (fun b' hb' => ⟨hb', setRow_other w b b' _ (hsafe b' hb')⟩)⟩
        rw [List.getElem?_toArray, hsp, if_neg (by omega), if_pos (by simp [hx]; omega)]
        rw [show j * te.size + k - (j * te.size + off) = k - off by omega]
        simpa using z1
      · obtain ⟨z, z1, z2, z3⟩ := h9 j k x0 y k1 k2
        refine ⟨z, ?_, z2, z3.mono (fun b' hb' => ⟨hb', setRow_other w b b' _ (hsafe b' hb')⟩)⟩
        rw [List.getElem?_toArray, hsp]
        have hz : cur.toList[j * te.size + k]? = some z := by simpa using z1
        by_cases c1 : j * te.size + k < i * te.size + off
        · rw [if_pos c1]; exact hz
        · rw [if_neg c1]
          by_cases c2 : j * te.size + k < i * te.size + off + x.cells.toList.length
          · exfalso
            apply hn
            simp [hx] at c2
            have hji : j = i := by
              rcases Nat.lt_trichotomy j i with hlt' | heq | hgt
              · have : (j + 1) * te.size ≤ i * te.size := Nat.mul_le_mul_right _ (by omega)
                rw [Nat.add_mul] at this; omega
              · exact heq
              · have : (i + 1) * te.size ≤ j * te.size := Nat.mul_le_mul_right _ (by omega)
                rw [Nat.add_mul] at this; omega
            subst hji
            exact ⟨rfl, by omega, by omega⟩
          · rw [if_neg c2]; exact hz

theorem evStore_sound (hZ : ∀ T t, E.ty T = some t → TyFacts P E.ty T t) (hC : C.Z = E.ty) (h : Rel C g F a w) {T : TypeId} {av xv : AV} {pv x : Value} {F' : St} (hv : VRs C g F w av pv) (hx : VRs C g F w xv x)
    (hr : (evStore E T av xv).run F = some ((), F')) : ∃ w', (Instr.storeAt T pv x).run P w = .ok () w' ∧ Rel C g F' a w' := by
  unfold evStore at hr
  obtain ⟨t, F1, h1, hr2⟩ := Pr.bind_some hr
  clear hr
  obtain ⟨hT, rfl⟩ := Pr.opt_some h1
  have tf := hZ T t hT
  obtain ⟨inf, hi, hsz, -⟩ := tf.info
  have hsi : (P.info? T).map (·.size) = some t.size := by simp [hi, hsz]
  split at hr2
  · cases hr2
  · rename_i htup
    have htup' : isTup xv = false := by simpa using htup
    cases hv with
    | ptr p q off hl =>
      simp only [Pr.run] at hr2
      split at hr2
      · rename_i c hc
        split at hr2
        · rename_i hlen
          obtain ⟨c', F2, h2, hr3⟩ := Pr.bind_some hr2
          obtain ⟨h3, rfl⟩ := Pr.opt_some h2
          simp only [Pr.run, Option.some.injEq, Prod.mk.injEq, true_and] at hr3
          subst hr3
          obtain ⟨hle, rfl⟩ := fillL_some h3
          obtain ⟨hpl, hlen⟩ := hlen
          obtain ⟨cs, e, hh, hs, hcs⟩ := (h.vars p q c hc).cells hpl
          obtain ⟨l1, l2⟩ := leaves_rel hx htup'
          have ho : ∀ v ∈ x.cells.toList, v.oneCell' = true := fun v hv => by
            obtain ⟨j, hj⟩ := List.mem_iff_getElem?.1 hv
            have hlt : j < x.cells.size := by have := (List.getElem?_eq_some_iff.1 hj).1; simpa using this
            obtain ⟨y, hy⟩ : ∃ y, (leaves xv)[j]? = some y := ⟨(leaves xv)[j]'(by omega), List.getElem?_eq_getElem (by omega)⟩
            obtain ⟨-, u, u1, u2, -⟩ := l2 j y hy
            have : v = u := by have := hj; simp only [Array.getElem?_toList] at this; rw [u1] at this; simpa using this.symm
            rw [this]; exact u2
          refine ⟨_, run_storeAt_any w _ off T e cs x hh (by rw [hsi, l1, hlen]) (by omega) ho, ?_⟩
          refine (h.setVar hc (c' := c.take off ++ leaves xv ++ c.drop (off + (leaves xv).length)) (grownBy_setRow w _ _) (setRow_heap w _ cs _ e (0, 0) hh) ?_ (fun j v hj => ?_)).1
          · simp only [List.size_toArray]
            rw [splice_len _ _ _ (by simp; omega), splice_len _ _ _ hle]; simpa using hs
          · rw [splice_get _ _ _ _ hle] at hj
            rw [List.getElem?_toArray, splice_get _ _ _ _ (by simp; omega)]
            by_cases c1 : j < off
            · rw [if_pos c1] at hj ⊢
              obtain ⟨a1, u, a2, a3, a4⟩ := hcs j v hj
              exact ⟨a1, u, by simpa using a2, a3, a4⟩
            · rw [if_neg c1] at hj ⊢
              have hl3 : x.cells.toList.length = (leaves xv).length := by simpa using l1
              rw [hl3]
              by_cases c2 : j < off + (leaves xv).length
              · rw [if_pos c2] at hj ⊢
                obtain ⟨a1, u, a2, a3, a4⟩ := l2 _ v hj
                exact ⟨a1, u, by simpa using a2, a3, a4⟩
              · rw [if_neg c2] at hj ⊢
                obtain ⟨a1, u, a2, a3, a4⟩ := hcs j v hj
                exact ⟨a1, u, by simpa using a2, a3, a4⟩
        · cases hr2
      · cases hr2
    | eR p q e i off b0 n c te hl hρ he =>
      simp only at hr2
      obtain ⟨d, F2, h2, hr3⟩ := Pr.bind_some hr2
      obtain ⟨⟨hr4, hx4⟩, hd⟩ := toDd_sound h hx h2
      simp only [Pr.run] at hr3
      split at hr3
      · rename_i e' l hc
        cases hy : l[i]? with
        | none => rw [hy] at hr3; cases hr3
        | some y =>
          rw [hy] at hr3
          simp only [Pr.run] at hr3
          split at hr3
          · cases hr3
          · rename_i hee
            obtain rfl : e' = e := by simpa using hee
            have hlt : i < l.length := (List.getElem?_eq_some_iff.1 hy).1
            obtain ⟨dl1, dl2, dl3⟩ := hd.leafs
            have shl : ∀ z ∈ l, D.shaped te z := by
              rw [hC] at he
              have := hr4.owns p q e' l hc
              rw [hρ, hC] at this
              exact (OwnR.cells he this).1
            have run : ∀ {l' : List D}, d.cells.length = t.size → off + d.cells.length ≤ te.size → l'.length = l.length → (∀ y ∈ l', D.shaped te y) →
                (∀ (j k : Nat) (x' y : D), l'[j]? = some x' → x'.cells[k]? = some y → (j = i ∧ off ≤ k ∧ k < off + d.cells.length ∧ d.cells[k - off]? = some y) ∨
                  (¬ (j = i ∧ off ≤ k ∧ k < off + d.cells.length) ∧ ∃ x0, l[j]? = some x0 ∧ x0.cells[k]? = some y)) →
                ∃ w', (Instr.storeAt T (.pointer (some ⟨b0, i * te.size + off, none⟩)) x).run P w = .ok () w' ∧ Rel C g (F2.upd (.r p q) (.own e' l')) a w' := by
              intro l' q1 q2 q3 q4 q5
              obtain ⟨cur, r1, r2, r3⟩ := own_splice hr4 hc hρ he hlt dl1 q2 dl3 q3 q4 q5
              refine ⟨_, run_storeAt_any w b0 (i * te.size + off) T e' cur x r1 (by rw [hsi, dl1, q1]) r2 (fun v hv => ?_), (hr4.setRow hc (by rw [hρ]; exact grownBy_setRow w b0 _) r3).1⟩
              obtain ⟨j, hj⟩ := List.mem_iff_getElem?.1 hv
              have hlt' : j < x.cells.size := by have := (List.getElem?_eq_some_iff.1 hj).1; simpa using this
              obtain ⟨z, z1, z2, -⟩ := dl3 j (d.cells[j]'(by omega)) (List.getElem?_eq_getElem (by omega))
              have : v = z := by have := hj; simp only [Array.getElem?_toList] at this; rw [z1] at this; simpa using this.symm
              rw [this]; exact z2
            split at hr3
            · rename_i hoff
              obtain ⟨rfl, rfl⟩ := hoff
              split at hr3
              · rename_i hsh
                simp only [Pr.run, Option.some.injEq, Prod.mk.injEq, true_and] at hr3
                subst hr3
                have ht : te = t := by rw [hC, hT] at he; simpa using he.symm
                subst ht
                have hds : D.shaped te d := ⟨hsh.1, dl2, by rw [← hsh.2]; cases d <;> simp [isAggD]⟩
                refine run hsh.1 (by omega) (by simp) (fun z hz => ?_) (fun j k x' y' hj hk => ?_)
                · rcases List.mem_or_eq_of_mem_set hz with h5 | h5
                  · exact shl z h5
                  · rw [h5]; exact hds
                · rw [List.getElem?_set] at hj
                  by_cases e1 : i = j
                  · subst e1
                    rw [if_pos rfl, if_pos hlt] at hj
                    obtain rfl : d = x' := by simpa using hj
                    have := (List.getElem?_eq_some_iff.1 hk).1
                    exact .inl ⟨rfl, by omega, by omega, by simpa using hk⟩
                  · rw [if_neg e1] at hj
                    exact .inr ⟨fun hh => e1 hh.1.symm, x', hj, hk⟩
              · cases hr3
            · split at hr3
              · rename_i hdl
                obtain ⟨y', F3, h5, hr5⟩ := Pr.bind_some hr3
                obtain ⟨h6, rfl⟩ := Pr.opt_some h5
                simp only [Pr.run, Option.some.injEq, Prod.mk.injEq, true_and] at hr5
                subst hr5
                obtain ⟨c0, rfl, hle, rfl⟩ := setCell_some h6
                have hys := shl _ (List.mem_of_getElem? hy)
                have hc0 : c0.length = te.size := hys.1
                refine run hdl (by omega) (by simp) (fun z hz => ?_) (fun j k x' y' hj hk => ?_)
                · rcases List.mem_or_eq_of_mem_set hz with h5 | h5
                  · exact shl z h5
                  · subst h5
                    refine ⟨by show (_ ++ _ ++ _ : List D).length = _; rw [splice_len _ _ _ hle]; exact hc0, fun z hz => ?_, by have := hys.2.2; simpa using this⟩
                    simp only [D.cells, List.mem_append] at hz
                    rcases hz with (hz | hz) | hz
                    · exact hys.2.1 z (List.mem_of_mem_take hz)
                    · exact dl2 z hz
                    · exact hys.2.1 z (List.mem_of_mem_drop hz)
                · rw [List.getElem?_set] at hj
                  by_cases e1 : i = j
                  · subst e1
                    rw [if_pos rfl, if_pos hlt] at hj
                    obtain rfl : D.agg (c0.take off ++ d.cells ++ c0.drop (off + d.cells.length)) = x' := by simpa using hj
                    replace hk : (c0.take off ++ d.cells ++ c0.drop (off + d.cells.length))[k]? = some y' := hk
                    rw [splice_get _ _ _ _ hle] at hk
                    by_cases c1 : k < off
                    · rw [if_pos c1] at hk; exact .inr ⟨by omega, _, hy, hk⟩
                    · rw [if_neg c1] at hk
                      by_cases c2 : k < off + d.cells.length
                      · rw [if_pos c2] at hk; exact .inl ⟨rfl, by omega, c2, hk⟩
                      · rw [if_neg c2] at hk; exact .inr ⟨by omega, _, hy, hk⟩
                  · rw [if_neg e1] at hj
                    exact .inr ⟨fun hh => e1 hh.1.symm, x', hj, hk⟩
              · cases hr3
      · cases hr3
    | _ => cases hr2
end
end Go.Eng
end

section
namespace Go.Eng
open Go

section
variable {P : Program} {E : Env} {C : Ctx} {g : Gh} {F : St} {a : Act} {w : World}

theorem newVar_sound (h : Rel C g F a w) {p q : Nat} {c : List AV} {v : AV} {F' : St} (hr : (newVar p q c).run F = some (v, F')) {cs : Array Value} (e : TypeId) (hs : cs.size = c.length)
    (hc : ∀ (j : Nat) (v : AV), c[j]? = some v → v.leaf = true ∧ ∃ u, cs[j]? = some u ∧ u.oneCell' = true ∧ VRs C g F w v u) :
    ∃ g', Rel C g' F' a (w.alloc (.cells cs e)) ∧ VRs C g' F' (w.alloc (.cells cs e)) v (.pointer (some ⟨w.heap.size, 0, none⟩)) := by
  simp only [newVar, Pr.run] at hr
  split at hr
  · rename_i hd
    simp only [Pr.run, Option.some.injEq, Prod.mk.injEq] at hr
    obtain ⟨rfl, rfl⟩ := hr
    obtain ⟨h1, h2⟩ := h.newVar (e := e) hd hs hc
    refine ⟨_, h1, ?_⟩
    have := VR.ptr (w := w.alloc (.cells cs e)) (S := Safe C (g.setη p q w.heap.size) (F.upd (.x p q) (.obj c)) (w.alloc (.cells cs e))) (Z := C.Z) (L := live (F.upd (.x p q) (.obj c)))
      (g := g.setη p q w.heap.size) p q 0 (by simp [live, St.upd])
    simpa [Gh.setη] using this
  · cases hr

theorem OwnR.slice {w : World} {S : Nat → Prop} {Z : TypeId → Option Ty} {e : TypeId} {l : List D} {v : Value} (h : OwnR w S Z e l v) : ∃ A c, v = .slice A l.length c ∧ l.length ≤ c ∧ l.length ≤ maxLen := by
  rcases h with ⟨rfl, rfl⟩ | ⟨t, b, cap, cur, h1, h2, h3, rfl, h5, h6, h7, h8, h9⟩
  · exact ⟨none, 0, rfl, Nat.le_refl _, Nat.zero_le _⟩
  · exact ⟨_, cap, rfl, h6, Nat.le_trans h6 h7⟩

theorem newRow_sound (h : Rel C g F a w) {p q : Nat} {e : TypeId} {l : List D} {v : AV} {F' : St} (hr : (newRow p q e l).run F = some (v, F')) {v0 : Value} {w' : World} (hg : w.grownBy w' none)
    (hown : OwnR w' (Safe C g F w) C.Z e l v0) (hblk : ∀ b, v0.ownBlock = some b → w.heap.size ≤ b) :
    ∃ g', Rel C g' F' a w' ∧ VRs C g' F' w' v v0 := by
  simp only [Go.Eng.newRow, Pr.run] at hr
  split at hr
  · rename_i hd
    simp only [Pr.run, Option.some.injEq, Prod.mk.injEq] at hr
    obtain ⟨rfl, rfl⟩ := hr
    obtain ⟨h1, h2⟩ := h.newRow hd hg hown hblk
    obtain ⟨A, c, rfl, -, -⟩ := hown.slice
    exact ⟨_, h1, .row p q A _ c (by simp [live, St.upd]) (by simp [Gh.setρ])⟩
  · cases hr

theorem moveRow_sound (h : Rel C g F a w) {p q u n : Nat} {e0 e : TypeId} {l0 l : List D} {v : AV} {F' : St} (ho : F (.r p q) = .own e0 l0)
    (hr : (newRow u n e l).run (F.upd (.r p q) .gone) = some (v, F')) {v0 : Value} {w' : World} (hg : w.grownBy w' (g.ρ p q).ownBlock)
    (hown : OwnR w' (Safe C g F w) C.Z e l v0) (hblk : ∀ b, v0.ownBlock = some b → (g.ρ p q).ownBlock = some b ∨ w.heap.size ≤ b) :
    ∃ g', Rel C g' F' a w' ∧ VRs C g' F' w' v v0 := by
  simp only [Go.Eng.newRow, Pr.run] at hr
  split at hr
  · rename_i hd
    simp only [Pr.run, Option.some.injEq, Prod.mk.injEq] at hr
    obtain ⟨rfl, rfl⟩ := hr
    have hne : Key.r u n ≠ .r p q := fun e1 => by rw [e1, upd_same] at hd; cases hd
    rw [upd_other _ _ hne] at hd
    obtain ⟨h1, h2⟩ := h.moveRow ho hd hg hown hblk
    obtain ⟨A, c, rfl, -, -⟩ := hown.slice
    exact ⟨_, h1, .row u n A _ c (by simp [live, St.upd]) (by simp [Gh.setρ])⟩
  · cases hr

theorem zeroOK_spec : ∀ {zl : List AV} {cs : List Value}, zeroOK zl cs → cs.length = zl.length ∧ ∀ (w : World) (S : Nat → Prop) (Z : TypeId → Option Ty) (L : Key → Prop) (g : Gh) (j : Nat) (v : AV), zl[j]? = some v →
    v.leaf = true ∧ ∃ u, cs[j]? = some u ∧ u.oneCell' = true ∧ VR w S Z L g v u := by
  intro zl
  induction zl with
  | nil => intro cs h; cases cs <;> simp [zeroOK] at h ⊢
  | cons v r ih =>
    intro cs h
    cases cs with
    | nil => cases v <;> first | (simp [zeroOK] at h; done) | (rename_i x; cases x <;> simp [zeroOK] at h)
    | cons y s =>
      cases v with
      | d x =>
        cases x with
        | v x =>
          obtain ⟨h1, h2, h3⟩ := h
          subst h2
          obtain ⟨i1, i2⟩ := ih h3
          refine ⟨by simp [i1], fun w S Z L g j v hj => ?_⟩
          cases j with
          | zero => simp at hj; subst hj; exact ⟨rfl, _, rfl, DR.oneCell (w := w) (S := S) (Z := Z) (.v _ h1) rfl, .d _ _ (.v _ h1)⟩
          | succ j => simp at hj; simpa using i2 w S Z L g j v hj
        | _ => simp [zeroOK] at h
      | nils e =>
        obtain ⟨rfl, h3⟩ := h
        obtain ⟨i1, i2⟩ := ih h3
        refine ⟨by simp [i1], fun w S Z L g j v hj => ?_⟩
        cases j with
        | zero => simp at hj; subst hj; exact ⟨rfl, _, rfl, rfl, .nils e⟩
        | succ j => simp at hj; simpa using i2 w S Z L g j v hj
      | _ => simp [zeroOK] at h

theorem alloc_sound (hZ : ∀ T t, E.ty T = some t → TyFacts P E.ty T t) (h : Rel C g F a w) {T : TypeId} {t : Ty} (hT : E.ty T = some t) {z : List AV} (hz : t.zero = some z) {p q : Nat} {v : AV} {F' : St}
    (hr : (newVar p q z).run F = some (v, F')) : ∃ g' x w', (Instr.alloc T true (.tuple #[])).run P w = .ok x w' ∧ Rel C g' F' a w' ∧ VRs C g' F' w' v x := by
  obtain ⟨i, hi, -, -, h4⟩ := (hZ T t hT).info
  obtain ⟨zv, hzv, hok⟩ := h4 z hz
  obtain ⟨hl, hsp⟩ := zeroOK_spec hok
  obtain ⟨g', h1, h2⟩ := newVar_sound h hr (cs := zv.cells) T (by simpa using hl) (fun j v hj => by
    obtain ⟨a1, u, a2, a3, a4⟩ := hsp w (Safe C g F w) C.Z (live F) g j v hj
    exact ⟨a1, u, by simpa using a2, a3, a4⟩)
  exact ⟨g', _, _, by simp [Instr.alloc, zeroValue, typeInfo, hi, hzv, newVar, Go.newVar, newRow, Go.newRow], h1, h2⟩

theorem box_sound (h : Rel C g F a w) {T : TypeId} {v xv : AV} {x : Value} {p q : Nat} {F' : St} (hx : VRs C g F w xv x) (ht : isTup xv = false)
    (hr : (newVar p q (leaves xv)).run F = some (v, F')) : ∃ g' y w', (Instr.box T x).run P w = .ok y w' ∧ Rel C g' F' a w' ∧ VRs C g' F' w' v y := by
  obtain ⟨l1, l2⟩ := leaves_rel hx ht
  obtain ⟨g', h1, h2⟩ := newVar_sound h hr (cs := x.cells) T l1 l2
  exact ⟨g', _, _, by simp [Instr.box, Go.newVar, Go.newRow], h1, h2⟩

theorem fieldAddr_sound (hZ : ∀ T t, E.ty T = some t → TyFacts P E.ty T t) {T f : Nat} {av v : AV} {x : Value} {F' : St} (hx : VRs C g F w av x) (hr : (evFieldAddr E T av f).run F = some (v, F')) :
    F' = F ∧ ∃ y, (Instr.fieldAt T x f).run P w = .ok y w ∧ VRs C g F w v y := by
  unfold evFieldAddr at hr
  obtain ⟨t, F1, h1, hr2⟩ := Pr.bind_some hr
  obtain ⟨hT, rfl⟩ := Pr.opt_some h1
  obtain ⟨⟨off, ft⟩, F2, h2, hr3⟩ := Pr.bind_some hr2
  obtain ⟨hf, rfl⟩ := Pr.opt_some h2
  obtain ⟨tf, F3, h3, hr4⟩ := Pr.bind_some hr3
  obtain ⟨htf, rfl⟩ := Pr.opt_some h3
  clear hr hr2 hr3
  split at hr4
  · cases hr4
  · rename_i hsz
    obtain ⟨fs, hu, hfs, -⟩ := (hZ T t hT).fields (fun e => by rw [e] at hf; simp at hf)
    obtain ⟨i, hi, hisz, -⟩ := (hZ ft tf htf).info
    rw [hfs] at hf
    simp only [List.getElem?_map, Option.map_eq_some_iff, Prod.mk.injEq] at hf
    obtain ⟨fd, hfd, rfl, rfl⟩ := hf
    have run : ∀ (b o : Nat), (Instr.fieldAt T (.pointer (some ⟨b, o, none⟩)) f).run P w = .ok (.pointer (some ⟨b, o + fd.offset, none⟩)) w := fun b o => by
      have : ¬ i.size = 0 := by rw [hisz]; exact hsz
      have hfd' : fs[f]? = some fd := by simpa using hfd
      simp [Instr.fieldAt, run_underlying hu, hfd', Instr.sureAddr, fieldPlace, sizeOf, typeInfo, hi, this, Addr.add_mid]
    cases hx with
    | ptr p q o hl =>
      simp only [Pr.run, Option.some.injEq, Prod.mk.injEq] at hr4
      obtain ⟨rfl, rfl⟩ := hr4
      exact ⟨rfl, _, run _ _, .ptr p q _ hl⟩
    | eS e l i' o b o' c te k1 k2 k3 =>
      simp only [Pr.run, Option.some.injEq, Prod.mk.injEq] at hr4
      obtain ⟨rfl, rfl⟩ := hr4
      refine ⟨rfl, _, run _ _, ?_⟩
      rw [show o' + (i' * te.size + o) + fd.offset = o' + (i' * te.size + (o + fd.offset)) by omega]
      exact .eS e l i' (o + fd.offset) b o' c te k1 k2 k3
    | eR p q e i' o b0 n c te k1 k2 k3 =>
      simp only [Pr.run, Option.some.injEq, Prod.mk.injEq] at hr4
      obtain ⟨rfl, rfl⟩ := hr4
      refine ⟨rfl, _, run _ _, ?_⟩
      rw [show i' * te.size + o + fd.offset = i' * te.size + (o + fd.offset) by omega]
      exact .eR p q e i' (o + fd.offset) b0 n c te k1 k2 k3
    | _ => cases hr4

theorem asNat_some {v : AV} {n : Nat} {x : Value} (h : asNat v = some n) (hv : VRs C g F w v x) : ∃ k, x = .int k (n : Int) := by
  unfold asNat at h
  split at h
  · rename_i k i
    split at h
    · rename_i hi
      simp at h
      obtain ⟨rfl, -⟩ := hv.scalar_of
      exact ⟨k, by congr 1; omega⟩
    · cases h
  · cases h

theorem part_sound (hZ : ∀ T t, E.ty T = some t → TyFacts P E.ty T t) {S : Nat → Prop} {L : Key → Prop} {l : List AV} {cs : Array Value} {off T : Nat} {t : Ty} {v : AV} {F' : St} (hT : E.ty T = some t)
    (h1 : l.length = cs.size) (h2 : ∀ x ∈ l, AV.leaf x = true) (h3 : ∀ (j : Nat) (v : AV) (u : Value), l[j]? = some v → cs[j]? = some u → VR w S C.Z L g v u)
    (hr : (evPart l off t).run F = some (v, F')) : F' = F ∧ ∃ y, (part T cs off).run P w = .ok y w ∧ VR w S C.Z L g v y := by
  have tf := hZ T t hT
  obtain ⟨d, hu, hd⟩ := tf.agg
  obtain ⟨i, hi, hisz, -⟩ := tf.info
  have hagg : (isAgg T).run P w = .ok t.agg w := by
    unfold isAgg
    rw [Sem.run_bind, run_underlying hu w, ← hd]
    cases d <;> rfl
  unfold evPart at hr
  split at hr
  · rename_i hle
    split at hr
    · rename_i hag
      simp only [Pr.run, Option.some.injEq, Prod.mk.injEq] at hr
      obtain ⟨rfl, rfl⟩ := hr
      refine ⟨rfl, .agg (cs.extract off (off + t.size)), by simp [part, hagg, hag, sizeOf, typeInfo, hi, hisz], mkAgg_rel (by simp; omega) (fun x hx => h2 x (List.mem_of_mem_drop (List.mem_of_mem_take hx))) (fun j v u hj hu => ?_)⟩
      simp only [List.getElem?_take, List.getElem?_drop] at hj
      split at hj
      · refine h3 _ v u hj ?_
        rw [Array.getElem?_extract] at hu
        split at hu
        · exact hu
        · cases hu
      · cases hj
    · rename_i hag
      have hag' : t.agg = false := by simpa using hag
      split at hr
      · rename_i v' hv'
        simp only [Pr.run, Option.some.injEq, Prod.mk.injEq] at hr
        obtain ⟨rfl, rfl⟩ := hr
        have hlt : off < cs.size := by rw [← h1]; exact (List.getElem?_eq_some_iff.1 hv').1
        have hu : cs[off]? = some cs[off] := Array.getElem?_eq_getElem hlt
        exact ⟨rfl, cs[off], by simp [part, hagg, hag', hu], h3 off v' _ hv' hu⟩
      · cases hr
  · cases hr

theorem dagg_rel {S : Nat → Prop} {L : Key → Prop} {c : List D} {x : Value} (h : VR w S C.Z L g (.d (.agg c)) x) : ∃ cs, x = .agg cs ∧ (c.map AV.d).length = cs.size ∧ (∀ v ∈ c.map AV.d, AV.leaf v = true) ∧
    ∀ (j : Nat) (v : AV) (u : Value), (c.map AV.d)[j]? = some v → cs[j]? = some u → VR w S C.Z L g v u := by
  have hd := h.data
  generalize hx : D.agg c = y at hd
  cases hd with
  | agg l cs h1 h2 h3 =>
    obtain rfl := (D.agg.injEq _ _).mp hx
    refine ⟨cs, rfl, by simpa using h1, fun v hv => ?_, fun j v u hj hu => ?_⟩
    · obtain ⟨y, hy, rfl⟩ := List.mem_map.1 hv; exact h2 y hy
    · simp only [List.getElem?_map, Option.map_eq_some_iff] at hj
      obtain ⟨y, hy, rfl⟩ := hj
      exact .d _ _ (h3 j y u hy hu)
  | _ => cases hx

theorem field_sound (hZ : ∀ T t, E.ty T = some t → TyFacts P E.ty T t) {T f : Nat} {av v : AV} {x : Value} {F' : St} (hx : VRs C g F w av x) (hr : (evField E T av f).run F = some (v, F')) :
    F' = F ∧ ∃ y, (Instr.field T x f).run P w = .ok y w ∧ VRs C g F w v y := by
  unfold evField at hr
  obtain ⟨t, F1, h1, hr2⟩ := Pr.bind_some hr
  obtain ⟨hT, rfl⟩ := Pr.opt_some h1
  obtain ⟨⟨off, ft⟩, F2, h2, hr3⟩ := Pr.bind_some hr2
  obtain ⟨hf, rfl⟩ := Pr.opt_some h2
  obtain ⟨tf, F3, h3, hr4⟩ := Pr.bind_some hr3
  obtain ⟨htf, rfl⟩ := Pr.opt_some h3
  clear hr hr2 hr3
  obtain ⟨fs, hu, hfs, -⟩ := (hZ T t hT).fields (fun e => by rw [e] at hf; simp at hf)
  rw [hfs] at hf
  simp only [List.getElem?_map, Option.map_eq_some_iff, Prod.mk.injEq] at hf
  obtain ⟨fd, hfd, rfl, rfl⟩ := hf
  have hfd' : fs[f]? = some fd := by simpa using hfd
  split at hr4
  · rename_i c
    obtain ⟨cs, rfl, p1, p2, p3⟩ := dagg_rel hx
    obtain ⟨rfl, y, q1, q2⟩ := part_sound hZ htf p1 p2 p3 hr4
    exact ⟨rfl, y, by simp [Instr.field, run_underlying hu, hfd', asAgg, q1], q2⟩
  · rename_i l
    cases hx with
    | agg _ cs p1 p2 p3 =>
      obtain ⟨rfl, y, q1, q2⟩ := part_sound hZ htf p1 p2 p3 hr4
      exact ⟨rfl, y, by simp [Instr.field, run_underlying hu, hfd', asAgg, q1], q2⟩
  · cases hr4

theorem index_sound (hZ : ∀ T t, E.ty T = some t → TyFacts P E.ty T t) {T : Nat} {av iv v : AV} {x i : Value} {F' : St} (hx : VRs C g F w av x) (hi : VRs C g F w iv i)
    (hr : (evIndex E T av iv).run F = some (v, F')) : F' = F ∧ ∃ y, (Instr.index T x i).run P w = .ok y w ∧ VRs C g F w v y := by
  unfold evIndex at hr
  obtain ⟨n, hn, hr2⟩ := Pr.lookN_some hr
  obtain ⟨k, rfl⟩ := asNat_some hn hi
  clear hr
  split at hr2
  · rename_i s
    obtain ⟨rfl, -⟩ := hx.scalar_of
    obtain ⟨t, F2, h2, hr3⟩ := Pr.bind_some hr2
    obtain ⟨hT, rfl⟩ := Pr.opt_some h2
    split at hr3
    · rename_i hst
      obtain ⟨hlt, hr3⟩ := Pr.need_some hr3
      · simp only [Pr.run, Option.some.injEq, Prod.mk.injEq] at hr3
        obtain ⟨rfl, rfl⟩ := hr3
        have hsn : s.data.toList.getD n 0 = s[n] := by
          have hlt' : n < s.data.toList.length := by simpa using hlt
          rw [List.getD_eq_getElem?_getD, List.getElem?_eq_getElem hlt']
          simp [ByteArray.getElem_eq_getElem_data]
        rw [hsn]
        refine ⟨rfl, .int .u8 s[n].toNat, ?_, .d _ _ (.v _ rfl)⟩
        have hs : (if (0 : Int) ≤ (n : Int) then s[(n : Int).toNat]? else none) = some s[n] := by
          rw [if_pos (by omega)]
          simp [hlt]
        have hu := (hZ T t hT).str hst
        simp only [Instr.index, asIntOf, Sem.run_bind, Sem.run_pure, Result.andThen_ok, run_underlying hu, hs]
    · cases hr3
  · rename_i c
    obtain ⟨t, F2, h2, hr3⟩ := Pr.bind_some hr2
    obtain ⟨hT, rfl⟩ := Pr.opt_some h2
    split at hr3
    · rename_i len e ha
      obtain ⟨te, F3, h3, hr4⟩ := Pr.bind_some hr3
      obtain ⟨hte, rfl⟩ := Pr.opt_some h3
      obtain ⟨hlt, hr4⟩ := Pr.need_some hr4
      · obtain ⟨cs, rfl, p1, p2, p3⟩ := dagg_rel hx
        obtain ⟨rfl, y, q1, q2⟩ := part_sound hZ hte p1 p2 p3 hr4
        obtain ⟨ie, hie, hisz, -⟩ := (hZ e te hte).info
        refine ⟨rfl, y, ?_, q2⟩
        have hu := ((hZ T t hT).arr len e ha).1
        have : (0 : Int) ≤ (n : Int) ∧ (n : Int) < (len : Int) := by omega
        simp [Instr.index, asIntOf, run_underlying hu, this, hlt, sizeOf, typeInfo, hie, hisz, q1]
    · cases hr3
  · cases hr2
end
end Go.Eng
end

section
namespace Go.Eng
open Go

section
variable {P : Program} {E : Env} {C : Ctx} {g : Gh} {F : St} {a : Act} {w : World}

theorem fold_get (off : Nat) (l : List Value) : ∀ (n : Nat) (cs : Array Value) (j : Nat), ((l.zipIdx n).foldl (fun (cs : Array Value) (p : Value × Nat) => cs.setIfInBounds (off + p.2) p.1) cs)[j]? =
    if off + n ≤ j ∧ j < off + n + l.length ∧ j < cs.size then l[j - (off + n)]? else cs[j]? := by
  induction l with
  | nil => intro n cs j; simp; intro h1 h2; omega
  | cons v r ih =>
    intro n cs j
    rw [List.zipIdx_cons, List.foldl_cons, ih (n + 1)]
    simp only [Array.size_setIfInBounds, Array.getElem?_setIfInBounds, List.length_cons]
    by_cases e1 : off + n = j
    · subst e1
      by_cases e2 : off + n < cs.size
      · rw [if_neg (by omega), if_pos rfl, if_pos e2, if_pos ⟨by omega, by omega, e2⟩]
        simp
      · rw [if_neg (by omega), if_pos rfl, if_neg e2, if_neg (by omega)]
        simp; omega
    · by_cases e2 : off + (n + 1) ≤ j ∧ j < off + (n + 1) + r.length ∧ j < cs.size
      · rw [if_pos e2, if_pos ⟨by omega, by omega, by omega⟩]
        rw [show j - (off + n) = (j - (off + (n + 1))) + 1 by omega, List.getElem?_cons_succ]
      · rw [if_neg e2, if_neg e1, if_neg (by omega)]

theorem fold_size (off : Nat) (l : List Value) : ∀ (n : Nat) (cs : Array Value), ((l.zipIdx n).foldl (fun (cs : Array Value) (p : Value × Nat) => cs.setIfInBounds (off + p.2) p.1) cs).size = cs.size := by
  induction l with
  | nil => intro n cs; rfl
  | cons v r ih => intro n cs; rw [List.zipIdx_cons, List.foldl_cons, ih]; simp

theorem fill_cons (place : Nat → Option (Nat × Nat)) (cells : Array Value) (i off size : Nat) (v : Value) (rest : List (Nat × Value)) (hp : place i = some (off, size)) (hs : v.cells.size = size) (hf : off + size ≤ cells.size) :
    ∃ cells' : Array Value, Instr.fill place cells ((i, v) :: rest) = Instr.fill place cells' rest ∧ cells'.size = cells.size ∧
      ∀ j : Nat, cells'[j]? = if off ≤ j ∧ j < off + size then v.cells[j - off]? else cells[j]? := by
  refine ⟨v.cells.zipIdx.foldl (fun (cs : Array Value) (p : Value × Nat) => cs.setIfInBounds (off + p.2) p.1) cells, ?_, ?_, fun j => ?_⟩
  · conv => lhs; unfold Instr.fill
    simp only [hp]
    rw [if_neg (by simp [hs]; omega)]
  · rw [← Array.foldl_toList, Array.toList_zipIdx, fold_size]
  · rw [← Array.foldl_toList, Array.toList_zipIdx, fold_get]
    simp only [Array.length_toList, Nat.add_zero, Array.getElem?_toList, hs]
    by_cases h1 : off ≤ j ∧ j < off + size
    · rw [if_pos h1, if_pos ⟨h1.1, h1.2, by omega⟩]
    · rw [if_neg h1, if_neg (fun h2 => h1 ⟨h2.1, h2.2.1⟩)]

def CellsRel (C : Ctx) (g : Gh) (F : St) (w : World) (c : List AV) (cs : Array Value) : Prop :=
  cs.size = c.length ∧ ∀ (j : Nat) (v : AV), c[j]? = some v → v.leaf = true ∧ ∃ u, cs[j]? = some u ∧ u.oneCell' = true ∧ VRs C g F w v u

theorem CellsRel.agg {c : List AV} {cs : Array Value} (h : CellsRel C g F w c cs) : VRs C g F w (mkAgg c) (.agg cs) :=
  mkAgg_rel h.1.symm (fun x hx => by obtain ⟨j, hj⟩ := List.mem_iff_getElem?.1 hx; exact (h.2 j x hj).1) (fun j v u hj hu => by
    obtain ⟨-, u1, h1, -, h3⟩ := h.2 j v hj
    have : u = u1 := by rw [hu] at h1; simpa using h1
    rw [this]; exact h3)

theorem evFill_sound (h : Rel C g F a w) (t : Ty) (place : Nat → Option (Nat × Nat))
    (hplace : ∀ i off ft tf, (match t.arr with | some (_, e) => (E.ty e).map fun te => (i * te.size, e) | none => t.fields[i]?) = some (off, ft) → E.ty ft = some tf → place i = some (off, tf.size)) :
    ∀ (parts : List (Nat × Operand)) {c c' : List AV} {cs : Array Value} {F' : St}, CellsRel C g F w c cs → (evFill E t parts c).run F = some (c', F') →
    F' = F ∧ ∃ cs', Instr.fill place cs (parts.map fun p => (p.1, a.eval p.2)) = some cs' ∧ CellsRel C g F w c' cs' := by
  intro parts
  induction parts with
  | nil =>
    intro c c' cs F' hc hr
    simp only [evFill, Pr.run, Option.some.injEq, Prod.mk.injEq] at hr
    obtain ⟨rfl, rfl⟩ := hr
    exact ⟨rfl, cs, rfl, hc⟩
  | cons p r ih =>
    obtain ⟨i, o⟩ := p
    intro c c' cs F' hc hr
    unfold evFill at hr
    obtain ⟨⟨off, ft⟩, F1, h1, hr2⟩ := Pr.bind_some hr
    obtain ⟨hp, rfl⟩ := Pr.opt_some h1
    obtain ⟨tf, F2, h2, hr3⟩ := Pr.bind_some hr2
    obtain ⟨htf, rfl⟩ := Pr.opt_some h2
    obtain ⟨x, F3, h3, hr4⟩ := Pr.bind_some hr3
    obtain ⟨rfl, hx⟩ := operand_sound h h3
    split at hr4
    · rename_i hcond
      obtain ⟨c1, F4, h4, hr5⟩ := Pr.bind_some hr4
      obtain ⟨h5, rfl⟩ := Pr.opt_some h4
      obtain ⟨hle, rfl⟩ := fillL_some h5
      obtain ⟨l1, l2⟩ := leaves_rel hx hcond.1
      have hpl := hplace i off ft tf hp htf
      obtain ⟨cs1, k1, k2, k3⟩ := fill_cons place cs i off tf.size (a.eval o) (r.map fun p => (p.1, a.eval p.2)) hpl (by rw [l1, hcond.2]) (by rw [hc.1]; rw [hcond.2] at hle; exact hle)
      have hrel : CellsRel C g F4 w (c.take off ++ leaves x ++ c.drop (off + (leaves x).length)) cs1 := by
        refine ⟨by rw [splice_len _ _ _ hle, k2]; exact hc.1, fun j v hj => ?_⟩
        rw [splice_get _ _ _ _ hle] at hj
        rw [k3]
        by_cases c1 : j < off
        · rw [if_pos c1] at hj
          rw [if_neg (by omega)]
          exact hc.2 j v hj
        · rw [if_neg c1] at hj
          by_cases c2 : j < off + (leaves x).length
          · rw [if_pos c2] at hj
            rw [if_pos ⟨by omega, by omega⟩]
            exact l2 _ v hj
          · rw [if_neg c2] at hj
            rw [if_neg (by omega)]
            exact hc.2 j v hj
      obtain ⟨e1, cs', e2, e3⟩ := ih hrel hr5
      exact ⟨e1, cs', by rw [List.map_cons, k1]; exact e2, e3⟩
    · cases hr4

theorem mapM_places (hZ : ∀ T t, E.ty T = some t → TyFacts P E.ty T t) : ∀ (fs : List Field), (∀ f ∈ fs, (E.ty f.type).isSome = true) →
    fs.mapM (fun f => (P.info? f.type).map fun i => (f.offset, i.size)) = some (fs.map fun f => (f.offset, ((E.ty f.type).map (·.size)).getD 0)) := by
  intro fs
  induction fs with
  | nil => intro _; rfl
  | cons f r ih =>
    intro hf
    obtain ⟨t, ht⟩ := Option.isSome_iff_exists.1 (hf f (by simp))
    obtain ⟨i, hi, hs, -⟩ := (hZ f.type t ht).info
    rw [List.mapM_cons, ih (fun f' hf' => hf f' (by simp [hf']))]
    simp [hi, ht, hs]

theorem build_sound (hZ : ∀ T t, E.ty T = some t → TyFacts P E.ty T t) (h : Rel C g F a w) {T : TypeId} {parts : Array (Nat × Operand)} {v : AV} {F' : St} (hr : (evBuild E T parts.toList).run F = some (v, F')) :
    F' = F ∧ ∃ y, (Instr.build T (parts.map fun (i, x) => (i, a.eval x))).run P w = .ok y w ∧ VRs C g F w v y := by
  unfold evBuild at hr
  obtain ⟨t, F1, h1, hr2⟩ := Pr.bind_some hr
  obtain ⟨hT, rfl⟩ := Pr.opt_some h1
  obtain ⟨z, F2, h2, hr3⟩ := Pr.bind_some hr2
  obtain ⟨hz, rfl⟩ := Pr.opt_some h2
  clear hr hr2
  by_cases hcond : buildable E t = true
  case neg => rw [if_neg hcond] at hr3; cases hr3
  rw [if_pos hcond] at hr3
  unfold buildable at hcond
  obtain ⟨c, F3, h3, hr4⟩ := Pr.bind_some hr3
  simp only [Pr.run, Option.some.injEq, Prod.mk.injEq] at hr4
  obtain ⟨rfl, rfl⟩ := hr4
  have tf := hZ T t hT
  obtain ⟨i, hi, hisz, -, hiz⟩ := tf.info
  obtain ⟨zv, hzv, hok⟩ := hiz z hz
  obtain ⟨hl, hsp⟩ := zeroOK_spec hok
  have hc0 : CellsRel C g F2 w z zv.cells := ⟨by simpa using hl, fun j v hj => by
    obtain ⟨a1, u, a2, a3, a4⟩ := hsp w (Safe C g F2 w) C.Z (live F2) g j v hj
    exact ⟨a1, u, by simpa using a2, a3, a4⟩⟩
  have hparts : (parts.map fun (p : Nat × Operand) => (p.1, a.eval p.2)).toList = parts.toList.map fun p => (p.1, a.eval p.2) := by simp
  cases ha : t.arr with
  | some ne =>
    obtain ⟨n, e⟩ := ne
    have hu := (tf.arr n e ha).1
    simp only [ha] at hcond
    obtain ⟨te, hte⟩ := Option.isSome_iff_exists.1 hcond
    obtain ⟨ie, hie, hiesz, -⟩ := (hZ e te hte).info
    obtain ⟨rfl, cs', k1, k2⟩ := evFill_sound h t (fun i => some (i * te.size, te.size)) (fun i off ft tf' h1 h2 => by
      simp only [ha, hte, Option.map_some, Option.some.injEq, Prod.mk.injEq] at h1
      obtain ⟨rfl, rfl⟩ := h1
      rw [hte] at h2
      simp at h2; rw [h2]) parts.toList hc0 h3
    refine ⟨rfl, .agg cs', run_build w T _ cs' ?_, k2.agg⟩
    unfold Program.built
    simp only [hi, hu, hzv, hie, hiesz]
    rw [hparts]; exact k1
  | none =>
    simp only [ha] at hcond
    obtain ⟨fs, hu, hfs, hsome⟩ := tf.fields (fun e => by rw [e] at hcond; simp at hcond)
    have hpl := mapM_places (P := P) hZ fs.toList (fun f hf => hsome (f.offset, f.type) (by rw [hfs]; exact List.mem_map.2 ⟨f, hf, rfl⟩))
    obtain ⟨rfl, cs', k1, k2⟩ := evFill_sound h t ((fs.toList.map fun f => (f.offset, ((E.ty f.type).map (·.size)).getD 0)).toArray[·]?) (fun i off ft tf' h1 h2 => by
      simp only [ha, hfs, List.getElem?_map, Option.map_eq_some_iff, Prod.mk.injEq] at h1
      obtain ⟨f, h3, rfl, rfl⟩ := h1
      simp only [List.getElem?_toArray, List.getElem?_map, h3, Option.map_some, h2, Option.getD_some]) parts.toList hc0 h3
    refine ⟨rfl, .agg cs', run_build w T _ cs' ?_, k2.agg⟩
    unfold Program.built
    simp only [hi, hu, hzv, hpl]
    rw [hparts]; exact k1

theorem evParts_sound (E : Env) (e : TypeId) (te : Ty) : ∀ (parts : List (Nat × Operand)) {F : St} (h : Rel C g F a w) {n : Nat} {l : List D} {F' : St}, (evParts E e te n parts).run F = some (l, F') →
    Stp C g F F' a w ∧ l.length = parts.length ∧ ∀ (j : Nat) (x : D) (p : Nat × Operand), l[j]? = some x → parts[j]? = some p → p.1 = n + j ∧ x.cells.length = te.size ∧ isAggD x = te.agg ∧ DRs C g F' w x (a.eval p.2) := by
  intro parts
  induction parts with
  | nil =>
    intro F h n l F' hr
    simp only [evParts, Pr.run, Option.some.injEq, Prod.mk.injEq] at hr
    obtain ⟨rfl, rfl⟩ := hr
    exact ⟨⟨h, .refl⟩, rfl, fun j x p hj => by simp at hj⟩
  | cons p r ih =>
    obtain ⟨i, o⟩ := p
    intro F h n l F' hr
    unfold evParts at hr
    split at hr
    · rename_i hin
      subst hin
      obtain ⟨x, F1, h1, hr2⟩ := Pr.bind_some hr
      obtain ⟨rfl, hx⟩ := operand_sound h h1
      obtain ⟨d, F2, h2, hr3⟩ := Pr.bind_some hr2
      obtain ⟨s1, hd⟩ := toDd_sound h hx h2
      split at hr3
      · rename_i hc
        obtain ⟨l', F3, h3, hr4⟩ := Pr.bind_some hr3
        obtain ⟨s2, l2, p2⟩ := ih s1.1 h3
        simp only [Pr.run, Option.some.injEq, Prod.mk.injEq] at hr4
        obtain ⟨rfl, rfl⟩ := hr4
        refine ⟨s1.trans s2, by simp [l2], fun j x p hj hp => ?_⟩
        cases j with
        | zero =>
          simp at hj hp; subst hj; subst hp
          exact ⟨rfl, hc.1, hc.2, hd.mono s2.2.block⟩
        | succ j =>
          simp at hj hp
          obtain ⟨q1, q2⟩ := p2 j x p hj hp
          exact ⟨by omega, q2⟩
      · cases hr3
    · cases hr

/-- A slice literal's cells. -/
theorem fillDense (size : Nat) : ∀ (vs : List Value) (n : Nat) (cells : Array Value), (∀ v ∈ vs, v.cells.size = size) → (n + vs.length) * size ≤ cells.size →
    ∃ cells', Instr.fill (fun i => some (i * size, size)) cells ((vs.zipIdx n).map fun p => (p.2, p.1)) = some cells' ∧ cells'.size = cells.size ∧
      ∀ j : Nat, cells'[j]? = if n * size ≤ j ∧ j < (n + vs.length) * size then (vs[(j - n * size) / size]?).bind (fun v => v.cells[(j - n * size) % size]?) else cells[j]? := by
  intro vs
  induction vs with
  | nil => intro n cells _ _; exact ⟨cells, rfl, rfl, fun j => by rw [if_neg (by simp only [List.length_nil, Nat.add_zero]; omega)]⟩
  | cons v r ih =>
    intro n cells hv hle
    have hvs := hv v (by simp)
    have hexp : (n + (v :: r).length) * size = n * size + size + r.length * size := by simp [Nat.add_mul]; omega
    rw [hexp] at hle
    rw [List.zipIdx_cons, List.map_cons]
    obtain ⟨c1, k1, k2, k3⟩ := fill_cons (fun i => some (i * size, size)) cells n (n * size) size v ((r.zipIdx (n + 1)).map fun p => (p.2, p.1)) rfl hvs (by omega)
    have hexp2 : (n + 1 + r.length) * size = n * size + size + r.length * size := by simp [Nat.add_mul]
    obtain ⟨c2, m1, m2, m3⟩ := ih (n + 1) c1 (fun x hx => hv x (by simp [hx])) (by rw [hexp2, k2]; omega)
    refine ⟨c2, by rw [k1]; exact m1, by rw [m2, k2], fun j => ?_⟩
    rw [m3, hexp, hexp2]
    have hn1 : (n + 1) * size = n * size + size := by rw [Nat.add_mul, Nat.one_mul]
    rw [hn1]
    by_cases c1' : n * size + size ≤ j ∧ j < n * size + size + r.length * size
    · rw [if_pos c1', if_pos ⟨by omega, c1'.2⟩]
      have hs : 0 < size := by
        rcases Nat.eq_zero_or_pos size with h0 | h0
        · subst h0; simp at c1'
        · exact h0
      have e1 : j - n * size = (j - (n * size + size)) + size := by omega
      rw [e1, Nat.add_div_right _ hs, Nat.add_mod_right, List.getElem?_cons_succ]
    · rw [if_neg c1', k3]
      by_cases c2' : n * size ≤ j ∧ j < n * size + size
      · rw [if_pos c2', if_pos ⟨c2'.1, by omega⟩]
        have e1 : (j - n * size) / size = 0 := Nat.div_eq_of_lt (by omega)
        have e2 : (j - n * size) % size = j - n * size := Nat.mod_eq_of_lt (by omega)
        rw [e1, e2]; simp
      · rw [if_neg c2', if_neg (by omega)]

theorem run_buildSlice_zero (w : World) (T e : TypeId) (ie : TypeInfo) (hu : P.underlying T = some (.slice e)) (hie : P.info? e = some ie) :
    (Instr.buildSlice T 0 #[]).run P w = .ok (.slice (some ⟨w.heap.size, 0, none⟩) 0 0) (w.alloc (.cells #[] e)) := by
  simp [Instr.buildSlice, run_underlying hu, sizeOf, typeInfo, hie, Go.newRow, Instr.fill]
  congr 2
  exact Array.eq_empty_of_size_eq_zero (by simp)

theorem shaped_of {w : World} {S : Nat → Prop} {Z : TypeId → Option Ty} {x : D} {u : Value} {te : Ty} (h : DR w S Z x u) (h1 : x.cells.length = te.size) (h2 : isAggD x = te.agg) : D.shaped te x :=
  ⟨h1, h.leafs.2.1, by rw [← h2]; cases x <;> simp [isAggD]⟩

theorem buildSlice_sound (hZ : ∀ T t, E.ty T = some t → TyFacts P E.ty T t) (hC : C.Z = E.ty) (h : Rel C g F a w) {T e n p q : Nat} {t te : Ty} {parts : Array (Nat × Operand)} {l : List D} {v : AV} {F1 F' : St}
    (hT : E.ty T = some t) (he : t.elem = some e) (hte : E.ty e = some te) (hp : (evParts E e te 0 parts.toList).run F = some (l, F1)) (hc : l.length = n ∧ n * te.size ≤ 16777216 ∧ 0 < te.size) {z : List AV} (hz : te.zero = some z)
    (hr : (newRow p q e l).run F1 = some (v, F')) :
    ∃ g' y w', (Instr.buildSlice T n (parts.map fun (i, x) => (i, a.eval x))).run P w = .ok y w' ∧ Rel C g' F' a w' ∧ VRs C g' F' w' v y := by
  have hu := (hZ T t hT).elem e he
  obtain ⟨ie, hie, hiesz, -, hiz⟩ := (hZ e te hte).info
  obtain ⟨zv, hzv, -⟩ := hiz z hz
  obtain ⟨⟨h1, hx⟩, hl, hd⟩ := evParts_sound E e te parts.toList h hp
  have hparts : (parts.map fun (p : Nat × Operand) => (p.1, a.eval p.2)).toList = ((parts.toList.map fun p => a.eval p.2).zipIdx 0).map fun p => (p.2, p.1) := by
    apply List.ext_getElem?
    intro j
    simp only [Array.toList_map, List.getElem?_map, List.getElem?_zipIdx, Array.getElem?_toList]
    cases hj : parts[j]? with
    | none => simp
    | some pj =>
      have hjl : j < l.length := by rw [hl]; simpa using (Array.getElem?_eq_some_iff.1 hj).1
      have := (hd j (l[j]'hjl) pj (List.getElem?_eq_getElem hjl) (by simpa using hj)).1
      simp [this]
  have hcell : ∀ v' ∈ parts.toList.map (fun p => a.eval p.2), v'.cells.size = te.size := by
    intro v' hv'
    obtain ⟨pj, hpj, rfl⟩ := List.mem_map.1 hv'
    obtain ⟨j, hj⟩ := List.mem_iff_getElem?.1 hpj
    have hjl : j < l.length := by rw [hl]; exact (List.getElem?_eq_some_iff.1 hj).1
    obtain ⟨-, k1, -, k2⟩ := hd j (l[j]'hjl) pj (List.getElem?_eq_getElem hjl) hj
    rw [k2.leafs.1, k1]
  have hsafe : ∀ o b, Safe C g F1 w b → Safe C g F1 w b ∧ (w.alloc o).heap[b]? = w.heap[b]? := fun o b hb => ⟨hb, (World.grownBy_alloc w o none).block b hb.1 (by simp)⟩
  by_cases hn : n = 0
  · subst hn
    have hl0 : l = [] := List.eq_nil_of_length_eq_zero hc.1
    subst hl0
    have hp0 : parts.toList = [] := List.eq_nil_of_length_eq_zero (by simpa using hl.symm)
    have hp1 : parts = #[] := by simpa using hp0
    subst hp1
    obtain ⟨g', k1, k2⟩ := newRow_sound h1 hr (v0 := .slice (some ⟨w.heap.size, 0, none⟩) 0 0) (World.grownBy_alloc w (.cells #[] e) none)
      (.inr ⟨te, w.heap.size, 0, #[], by rw [hC]; exact hte, hc.2.2, fun x hx => by simp at hx, rfl, heap_alloc_new w _, Nat.le_refl _, Nat.zero_le _, by simp, fun j k x y hj => by simp at hj⟩)
      (fun b hb => by simp [Value.ownBlock] at hb; omega)
    exact ⟨g', _, _, by simpa using run_buildSlice_zero w T e ie hu hie, k1, k2⟩
  · have hpos : 0 < n * te.size := Nat.mul_pos (by omega) hc.2.2
    obtain ⟨cells', m1, m2, m3⟩ := fillDense te.size (parts.toList.map fun p => a.eval p.2) 0 ((Array.range (n * te.size)).map (zv.cells[· % zv.cells.size]!)) hcell (by simp only [List.length_map, ← hl, hc.1]; simp)
    have hrun := run_buildSlice (P := P) w T e n (parts.map fun (p : Nat × Operand) => (p.1, a.eval p.2)) cells' ie zv hu hie hzv (by rw [hiesz]; omega) (by rw [hiesz]; omega) (by rw [hiesz, hparts]; exact m1)
    have hlen : (parts.toList.map fun p => a.eval p.2).length = n := by rw [List.length_map, ← hl, hc.1]
    have hsz' : cells'.size = n * te.size := by rw [m2]; simp
    have hown : OwnR (w.alloc (.cells cells' e)) (Safe C g F1 w) C.Z e l (.slice (some ⟨w.heap.size, 0, none⟩) n n) := by
      refine .inr ⟨te, w.heap.size, n, cells', by rw [hC]; exact hte, hc.2.2, fun x hx => ?_, by rw [hc.1], heap_alloc_new w _, by omega, ?_, hsz', fun j k x y hj hk => ?_⟩
      · obtain ⟨j, hj⟩ := List.mem_iff_getElem?.1 hx
        obtain ⟨pj, hpj⟩ : ∃ pj, parts.toList[j]? = some pj := ⟨parts.toList[j]'(by rw [← hl]; exact (List.getElem?_eq_some_iff.1 hj).1), List.getElem?_eq_getElem _⟩
        obtain ⟨-, q1, q2, q3⟩ := hd j x pj hj hpj
        exact shaped_of q3 q1 q2
      · have : n ≤ n * te.size := Nat.le_mul_of_pos_right _ hc.2.2
        simp only [maxLen]; omega
      · have hjn : j < n := by rw [← hc.1]; exact (List.getElem?_eq_some_iff.1 hj).1
        obtain ⟨pj, hpj⟩ : ∃ pj, parts.toList[j]? = some pj := ⟨parts.toList[j]'(by rw [← hl, hc.1]; exact hjn), List.getElem?_eq_getElem _⟩
        obtain ⟨-, q1, q2, q3⟩ := hd j x pj hj hpj
        have hkt : k < te.size := by rw [← q1]; exact (List.getElem?_eq_some_iff.1 hk).1
        obtain ⟨u, u1, u2, u3⟩ := q3.leafs.2.2 k y hk
        refine ⟨u, ?_, u2, u3.mono (hsafe _)⟩
        have hb : j * te.size + k < n * te.size := by
          have : (j + 1) * te.size ≤ n * te.size := Nat.mul_le_mul_right _ (by omega)
          rw [Nat.add_mul] at this; omega
        rw [m3, if_pos ⟨by simp, by rw [Nat.zero_add, hlen]; exact hb⟩]
        have e1 : (j * te.size + k - 0 * te.size) / te.size = j := by
          rw [Nat.zero_mul, Nat.sub_zero, Nat.mul_comm, Nat.mul_add_div hc.2.2, Nat.div_eq_of_lt hkt]; omega
        have e2 : (j * te.size + k - 0 * te.size) % te.size = k := by
          rw [Nat.zero_mul, Nat.sub_zero, Nat.mul_comm, Nat.mul_add_mod, Nat.mod_eq_of_lt hkt]
        rw [e1, e2]
        simp only [List.getElem?_map, hpj, Option.map_some, Option.bind_some]
        exact u1
    obtain ⟨g', k1, k2⟩ := newRow_sound h1 hr (World.grownBy_alloc w (.cells cells' e) none) hown (fun b hb => by simp [Value.ownBlock] at hb; omega)
    exact ⟨g', _, _, hrun, k1, k2⟩
end
end Go.Eng
end

section
namespace Go.Eng
open Go

section
variable {P : Program} {E : Env} {C : Ctx} {g : Gh} {F : St} {a : Act} {w : World}

/-- A slice's elements. -/
def Els (C : Ctx) (g : Gh) (F : St) (w : World) (e : TypeId) (l : List D) (v : Value) : Prop :=
  ∃ A c, v = .slice A l.length c ∧ l.length ≤ c ∧ l.length ≤ maxLen ∧ (l = [] ∨ ∃ b o te, A = some ⟨b, o, none⟩ ∧ C.Z e = some te ∧ 0 < te.size ∧ (∀ x ∈ l, D.shaped te x) ∧
    ∀ (j k : Nat) (x y : D), l[j]? = some x → x.cells[k]? = some y → ∃ u, w.cell? ⟨b, o + (j * te.size + k), none⟩ = some u ∧ u.oneCell' = true ∧ DRs C g F w y u)

theorem DR.els {e : TypeId} {l : List D} {v : Value} (h : DRs C g F w (.sl e l) v) : Els C g F w e l v := by
  unfold DRs at h
  generalize hx : D.sl e l = x at h
  cases h with
  | v => cases hx
  | agg => cases hx
  | nil e' A c => obtain ⟨rfl, rfl⟩ := (D.sl.injEq _ _ _ _).mp hx; exact ⟨A, c, rfl, Nat.zero_le _, Nat.zero_le _, .inl rfl⟩
  | sl e' l' b o c t u h1 h2 h3 h4 h5 h6 h7 h8 h9 =>
    obtain ⟨rfl, rfl⟩ := (D.sl.injEq _ _ _ _).mp hx
    refine ⟨_, c, rfl, h6, h7, .inr ⟨b, o, t, rfl, h2, h3, h4, fun j k x y hj hk => ?_⟩⟩
    have hk' : k < t.size := by rw [← (h4 x (List.mem_of_getElem? hj)).1]; exact (List.getElem?_eq_some_iff.1 hk).1
    have hd := h9 j k x y hj hk
    exact ⟨u j k, h8 j k (List.getElem?_eq_some_iff.1 hj).1 hk', hd.oneCell ((h4 x (List.mem_of_getElem? hj)).2.1 y (List.mem_of_getElem? hk)), hd⟩

theorem OwnR.els {e : TypeId} {l : List D} {v : Value} (h : OwnR w (Safe C g F w) C.Z e l v) : Els C g F w e l v := by
  rcases h with ⟨rfl, rfl⟩ | ⟨t, b, cap, cur, h1, h2, h3, rfl, h5, h6, h7, h8, h9⟩
  · exact ⟨none, 0, rfl, Nat.le_refl _, Nat.zero_le _, .inl rfl⟩
  · refine ⟨_, cap, rfl, h6, Nat.le_trans h6 h7, .inr ⟨b, 0, t, rfl, h1, h2, h3, fun j k x y hj hk => ?_⟩⟩
    obtain ⟨u, a1, a2, a3⟩ := h9 j k x y hj hk
    exact ⟨u, by rw [Nat.zero_add, cell_of_row w b _ cur e (0, 0) h5]; exact a1, a2, a3⟩

theorem elems_sound (h : Rel C g F a w) {v : AV} {x : Value} {e : TypeId} {l : List D} {F' : St} (hx : VRs C g F w v x) (hr : (elems v).run F = some ((e, l), F')) : F' = F ∧ Els C g F w e l x := by
  unfold elems at hr
  split at hr
  · simp only [Pr.run, Option.some.injEq, Prod.mk.injEq] at hr
    obtain ⟨⟨rfl, rfl⟩, rfl⟩ := hr
    exact ⟨rfl, DR.els hx.data⟩
  · simp only [Pr.run, Option.some.injEq, Prod.mk.injEq] at hr
    obtain ⟨⟨rfl, rfl⟩, rfl⟩ := hr
    cases hx
    exact ⟨rfl, none, 0, rfl, Nat.le_refl _, Nat.zero_le _, .inl rfl⟩
  · cases hx with
    | row p q A n c hl hρ =>
      simp only [Pr.run] at hr
      split at hr
      · rename_i e' l' hc
        simp only [Pr.run, Option.some.injEq, Prod.mk.injEq] at hr
        obtain ⟨⟨rfl, rfl⟩, rfl⟩ := hr
        exact ⟨rfl, by rw [← hρ]; exact (h.owns _ _ _ _ hc).els⟩
      · rename_i e' l' hc
        simp only [Pr.run, Option.some.injEq, Prod.mk.injEq] at hr
        obtain ⟨⟨rfl, rfl⟩, rfl⟩ := hr
        exact ⟨rfl, by rw [← hρ]; exact DR.els (h.fros _ _ _ _ hc)⟩
      · cases hr
  · cases hr

theorem zeroD_spec : ∀ {z : List AV} {zd : List D} {cs : List Value}, zeroOK z cs → zeroD z = some zd → cs.length = zd.length ∧ (∀ y ∈ zd, y.leaf = true) ∧
    ∀ (w : World) (S : Nat → Prop) (Z : TypeId → Option Ty) (k : Nat) (y : D), zd[k]? = some y → ∃ u, cs[k]? = some u ∧ u.oneCell' = true ∧ DR w S Z y u := by
  intro z
  induction z with
  | nil => intro zd cs h1 h2; cases cs <;> simp [zeroOK, zeroD] at h1 h2 ⊢; subst h2; simp
  | cons v r ih =>
    intro zd cs h1 h2
    cases cs with
    | nil => cases v <;> first | (simp [zeroOK] at h1; done) | (rename_i x; cases x <;> simp [zeroOK] at h1)
    | cons y s =>
      cases v with
      | d x =>
        cases x with
        | v x =>
          obtain ⟨h3, h4, h5⟩ := h1
          subst h4
          simp only [zeroD, Option.map_eq_some_iff] at h2
          obtain ⟨zd', h6, rfl⟩ := h2
          obtain ⟨i1, i2, i3⟩ := ih h5 h6
          refine ⟨by simp [i1], fun y hy => by rcases List.mem_cons.1 hy with rfl | hy; rfl; exact i2 y hy, fun w S Z k y hk => ?_⟩
          cases k with
          | zero => simp at hk; subst hk; exact ⟨_, rfl, DR.oneCell (w := w) (S := S) (Z := Z) (.v _ h3) rfl, .v _ h3⟩
          | succ k => simp at hk; simpa using i3 w S Z k y hk
        | _ => simp [zeroOK] at h1
      | nils e =>
        obtain ⟨h4, h5⟩ := h1
        subst h4
        simp only [zeroD, Option.map_eq_some_iff] at h2
        obtain ⟨zd', h6, rfl⟩ := h2
        obtain ⟨i1, i2, i3⟩ := ih h5 h6
        refine ⟨by simp [i1], fun y hy => by rcases List.mem_cons.1 hy with rfl | hy; rfl; exact i2 y hy, fun w S Z k y hk => ?_⟩
        cases k with
        | zero => simp at hk; subst hk; exact ⟨_, rfl, rfl, .nil e none 0⟩
        | succ k => simp at hk; simpa using i3 w S Z k y hk
      | _ => simp [zeroOK] at h1

theorem zeroElem_spec {te : Ty} {zd : List D} {x : D} (h : zeroElem te zd = some x) (hl : ∀ y ∈ zd, y.leaf = true) (h1 : te.agg = false → te.size = 1) : x.cells = zd ∧ D.shaped te x := by
  unfold zeroElem at h
  split at h
  · rename_i hlen
    split at h
    · rename_i hag
      obtain rfl := Option.some.inj h
      exact ⟨rfl, hlen, hl, by simp [hag]⟩
    · rename_i hag
      split at h
      · rename_i y
        obtain rfl := Option.some.inj h
        have hy := hl y (by simp)
        have hc : y.cells = [y] := by cases y <;> first | rfl | simp [D.leaf] at hy
        refine ⟨hc, by rw [hc]; exact hlen, by rw [hc]; exact hl, ?_⟩
        constructor
        · rintro ⟨c, rfl⟩; simp [D.leaf] at hy
        · intro h; exact absurd h hag
      · cases h
  · cases h

theorem makeSlice_sound (hZ : ∀ T t, E.ty T = some t → TyFacts P E.ty T t) (hC : C.Z = E.ty) (h : Rel C g F a w) {T e p q : Nat} {t te : Ty} {i : Int} {z : List AV} {zd : List D} {x : D} {v : AV} {F' : St} {k1 k2 : IntKind}
    (hT : E.ty T = some t) (he : t.elem = some e) (hte : E.ty e = some te) (hc : 0 ≤ i ∧ i.toNat * te.bytes ≤ maxRow ∧ 0 < te.size ∧ 0 < te.bytes) (hz : te.zero = some z) (hzd : zeroD z = some zd) (hx : zeroElem te zd = some x)
    (hr : (newRow p q e (List.replicate i.toNat x)).run F = some (v, F')) :
    ∃ g' y w', (Instr.makeSlice T (.int k1 i) (.int k2 i)).run P w = .ok y w' ∧ Rel C g' F' a w' ∧ VRs C g' F' w' v y := by
  have hu := (hZ T t hT).elem e he
  obtain ⟨ie, hie, hiesz, hieb, hiz⟩ := (hZ e te hte).info
  obtain ⟨zv, hzv, hok⟩ := hiz z hz
  obtain ⟨z1, z2, z3⟩ := zeroD_spec hok hzd
  obtain ⟨x1, x2⟩ := zeroElem_spec hx z2 (hZ e te hte).leaf
  obtain ⟨n, rfl⟩ : ∃ n : Nat, i = (n : Int) := ⟨i.toNat, by omega⟩
  simp only [Int.toNat_natCast] at hr hc
  have hnb : n ≤ n * te.bytes := Nat.le_mul_of_pos_right _ hc.2.2.2
  have hmx : n ≤ 140737488355328 := Nat.le_trans hnb hc.2.1
  have hbyt : (ie.bytes : Int) * (n : Int) ≤ 281474976710656 := by
    have : ((n * te.bytes : Nat) : Int) ≤ 140737488355328 := by have := hc.2.1; simp only [maxRow] at this; omega
    rw [hieb, Int.mul_comm, ← Int.natCast_mul]; omega
  have hrun := run_make (P := P) w T e ie zv hu hie hzv k1 k2 n n (by omega) (Int.le_refl _) hbyt (by omega)
  simp only [Int.toNat_natCast] at hrun
  have hzs : zv.cells.size = te.size := by
    have := x2.1; rw [x1] at this; rw [← this, ← z1]; simp
  have hown : OwnR (w.alloc (.cells (madeCells zv.cells (n * ie.size)) e)) (Safe C g F w) C.Z e (List.replicate n x) (.slice (some ⟨w.heap.size, 0, none⟩) n n) := by
    refine .inr ⟨te, w.heap.size, n, _, by rw [hC]; exact hte, hc.2.2.1, fun y hy => by rw [List.eq_of_mem_replicate hy]; exact x2, by simp, heap_alloc_new w _, by simp, by simp only [maxLen]; omega, by rw [size_madeCells, hiesz], fun j k y d hj hk => ?_⟩
    have hjn : j < n := by have := (List.getElem?_eq_some_iff.1 hj).1; simpa using this
    have hy : y = x := by rw [List.getElem?_replicate, if_pos hjn] at hj; simpa using hj.symm
    subst hy
    rw [x1] at hk
    obtain ⟨u, u1, u2, u3⟩ := z3 (w.alloc (.cells (madeCells zv.cells (n * ie.size)) e)) (Safe C g F w) C.Z k d hk
    have hkt : k < te.size := by have := (List.getElem?_eq_some_iff.1 hk).1; rw [← x1, x2.1] at this; exact this
    refine ⟨u, ?_, u2, u3⟩
    have hb : j * te.size + k < n * te.size := by
      have : (j + 1) * te.size ≤ n * te.size := Nat.mul_le_mul_right _ (by omega)
      rw [Nat.add_mul] at this; omega
    have e2 : (j * te.size + k) % te.size = k := by rw [Nat.mul_comm, Nat.mul_add_mod, Nat.mod_eq_of_lt hkt]
    simp only [madeCells, hiesz, Array.getElem?_map, Array.getElem?_range, hb, if_true, Option.map_some, hzs, e2]
    congr 1
    rw [Array.getElem!_eq_getD]
    simp only [Array.getElem?_toList] at u1
    simp [Array.getD_eq_getD_getElem?, u1]
  obtain ⟨g', k1, k2⟩ := newRow_sound h hr (World.grownBy_alloc w _ none) hown (fun b hb => by simp [Value.ownBlock] at hb; omega)
  exact ⟨g', _, _, hrun, k1, k2⟩

theorem indexAddr_sound (hZ : ∀ T t, E.ty T = some t → TyFacts P E.ty T t) (hC : C.Z = E.ty) (h : Rel C g F a w) {T : Nat} {av iv v : AV} {x i : Value} {F' : St} (hx : VRs C g F w av x) (hi : VRs C g F w iv i)
    (hr : (evIndexAddr E T av iv).run F = some (v, F')) : F' = F ∧ ∃ y, (Instr.indexAt T x i).run P w = .ok y w ∧ VRs C g F w v y := by
  unfold evIndexAddr at hr
  obtain ⟨t, F1, h1, hr2⟩ := Pr.bind_some hr
  obtain ⟨hT, rfl⟩ := Pr.opt_some h1
  obtain ⟨n, hn, hr3⟩ := Pr.lookN_some hr2
  obtain ⟨k, rfl⟩ := asNat_some hn hi
  clear hr hr2
  have tf := hZ T t hT
  have slc : ∀ {e : TypeId} {te : Ty} {b o len cap : Nat}, t.elem = some e → E.ty e = some te → n < len →
      (Instr.indexAt T (.slice (some ⟨b, o, none⟩) len cap) (.int k (n : Int))).run P w = .ok (.pointer (some ⟨b, o + n * te.size, none⟩)) w := by
    intro e te b o len cap he hte hlt
    obtain ⟨ie, hie, hiesz, -⟩ := (hZ e te hte).info
    have hu := tf.elem e he
    have : (0 : Int) ≤ (n : Int) ∧ (n : Int) < (len : Int) := by omega
    simp [Instr.indexAt, asIntOf, run_underlying hu, this, sizeOf, typeInfo, hie, hiesz, Addr.add_mid]
    intro h0; omega
  split at hr3
  · rename_i len e ha
    split at hr3
    · rename_i p q off
      obtain ⟨te, F3, h3, hr4⟩ := Pr.bind_some hr3
      obtain ⟨hte, rfl⟩ := Pr.opt_some h3
      split at hr4
      · rename_i hlt0
        replace hr4 := Pr.need_some hr4
        obtain ⟨hlt1, hr4⟩ := hr4
        have hlt := And.intro hlt1 hlt0
        simp only [Pr.run, Option.some.injEq, Prod.mk.injEq] at hr4
        obtain ⟨rfl, rfl⟩ := hr4
        cases hx with
        | ptr _ _ _ hl =>
          obtain ⟨ie, hie, hiesz, -⟩ := (hZ e te hte).info
          have hu := (tf.arr len e ha).1
          have : (0 : Int) ≤ (n : Int) ∧ (n : Int) < (len : Int) := by omega
          refine ⟨rfl, _, ?_, .ptr p q (off + n * te.size) hl⟩
          simp [Instr.indexAt, asIntOf, run_underlying hu, Instr.sureAddr, this, sizeOf, typeInfo, hie, hiesz, Addr.add_mid]
          intro h0; omega
      · cases hr4
    · rename_i e' l i0 off
      obtain ⟨te, F3, h3, hr4⟩ := Pr.bind_some hr3
      obtain ⟨hte, rfl⟩ := Pr.opt_some h3
      split at hr4
      · rename_i hc
        obtain ⟨rfl, rfl, rfl, hlen, hlt0⟩ := hc
        replace hr4 := Pr.need_some hr4
        obtain ⟨hlt1, hr4⟩ := hr4
        simp only [Pr.run, Option.some.injEq, Prod.mk.injEq] at hr4
        obtain ⟨rfl, rfl⟩ := hr4
        cases hx with
        | eS _ _ _ _ b o c t' hd hz hi0 =>
          obtain ⟨ie, hie, hiesz, -⟩ := (hZ _ te hte).info
          have hu := (tf.arr len _ ha).1
          have : (0 : Int) ≤ (n : Int) ∧ (n : Int) < (len : Int) := by omega
          have ht' : t' = te := by rw [hC, hte] at hz; exact (Option.some.inj hz).symm
          subst ht'
          refine ⟨rfl, _, ?_, .eS _ l n 0 b o c t' hd hz hlt1⟩
          simp [Instr.indexAt, asIntOf, run_underlying hu, Instr.sureAddr, this, sizeOf, typeInfo, hie, hiesz, Addr.add_mid]
          intro h0; omega
      · cases hr4
    · cases hr3
  · split at hr3
    · rename_i e l
      obtain ⟨te, F3, h3, hr4⟩ := Pr.bind_some hr3
      obtain ⟨hte, rfl⟩ := Pr.opt_some h3
      split at hr4
      · rename_i hlt0
        replace hr4 := Pr.need_some hr4
        obtain ⟨hlt1, hr4⟩ := hr4
        have hlt := And.intro hlt1 hlt0
        simp only [Pr.run, Option.some.injEq, Prod.mk.injEq] at hr4
        obtain ⟨rfl, rfl⟩ := hr4
        have hd := hx.data
        generalize hxx : D.sl e l = xx at hd
        cases hd with
        | v => cases hxx
        | agg => cases hxx
        | nil e' A c => obtain ⟨rfl, rfl⟩ := (D.sl.injEq _ _ _ _).mp hxx; simp at hlt
        | sl e' l' b o c t' u q1 q2 q3 q4 q5 q6 q7 q8 q9 =>
          obtain ⟨rfl, rfl⟩ := (D.sl.injEq _ _ _ _).mp hxx
          refine ⟨rfl, _, slc hlt.2 hte hlt.1, ?_⟩
          have := VR.eS (w := w) (S := Safe C g F3 w) (Z := C.Z) (L := live F3) (g := g) e l n 0 b o c te (.sl e l b o c t' u q1 q2 q3 q4 q5 q6 q7 q8 q9) (by rw [hC]; exact hte) hlt.1
          simpa using this
      · cases hr4
    · rename_i p q
      cases hx with
      | row _ _ A m c hl hρ =>
        simp only [Pr.run] at hr3
        split at hr3
        · rename_i e l hc
          obtain ⟨te, F3, h3, hr4⟩ := Pr.bind_some hr3
          obtain ⟨hte, rfl⟩ := Pr.opt_some h3
          split at hr4
          · rename_i hlt0
            replace hr4 := Pr.need_some hr4
            obtain ⟨hlt1, hr4⟩ := hr4
            have hlt := And.intro hlt1 hlt0
            simp only [Pr.run, Option.some.injEq, Prod.mk.injEq] at hr4
            obtain ⟨rfl, rfl⟩ := hr4
            have ho := h.owns p q e l hc
            rw [hρ] at ho
            rcases ho with ⟨h0, rfl⟩ | ⟨t', b', cap, cur, q1, q2, q3, q4, q5, q6, q7, q8, q9⟩
            · simp at hlt
            · obtain ⟨rfl, rfl, rfl⟩ : A = some ⟨b', 0, none⟩ ∧ m = l.length ∧ c = cap := by simpa using q4
              refine ⟨rfl, _, slc hlt.2 hte hlt.1, ?_⟩
              have := VR.eR (w := w) (S := Safe C g F3 w) (Z := C.Z) (L := live F3) (g := g) p q e n 0 b' l.length c te hl hρ (by rw [hC]; exact hte)
              simpa using this
          · cases hr4
        · rename_i e l hc
          obtain ⟨te, F3, h3, hr4⟩ := Pr.bind_some hr3
          obtain ⟨hte, rfl⟩ := Pr.opt_some h3
          split at hr4
          · rename_i hlt0
            replace hr4 := Pr.need_some hr4
            obtain ⟨hlt1, hr4⟩ := hr4
            have hlt := And.intro hlt1 hlt0
            simp only [Pr.run, Option.some.injEq, Prod.mk.injEq] at hr4
            obtain ⟨rfl, rfl⟩ := hr4
            have hd := h.fros p q e l hc
            rw [hρ] at hd
            unfold DRs at hd
            generalize hxx : D.sl e l = xx at hd
            cases hd with
            | v => cases hxx
            | nil e' => obtain ⟨rfl, rfl⟩ := (D.sl.injEq _ _ _ _).mp hxx; simp at hlt
            | sl e' l' b o _ t' u q1 q2 q3 q4 q5 q6 q7 q8 q9 =>
              obtain ⟨rfl, rfl⟩ := (D.sl.injEq _ _ _ _).mp hxx
              refine ⟨rfl, _, slc hlt.2 hte hlt.1, ?_⟩
              have := VR.eS (w := w) (S := Safe C g F3 w) (Z := C.Z) (L := live F3) (g := g) e l n 0 b o c te (.sl e l b o c t' u q1 q2 q3 q4 q5 q6 q7 q8 q9) (by rw [hC]; exact hte) hlt.1
              simpa using this
          · cases hr4
        · cases hr3
    · cases hr3
end
end Go.Eng
end

section
namespace Go.Eng
open Go

section
variable {P : Program} {E : Env} {C : Ctx} {g : Gh} {F : St} {a : Act} {w : World}

/-- A bound that may be absent. -/
def BoundIs (C : Ctx) (g : Gh) (F : St) (w : World) : Option AV → Option Value → Prop
  | none, none => True
  | some v, some x => VRs C g F w v x
  | _, _ => False

theorem run_sliceBound (w : World) (k : IntKind) (n y : Nat) (c : BoundsCode) (h : n ≤ y) : (Instr.sliceBound (.int k (n : Int)) y c).run P w = .ok n w := by
  have : (0 : Int) ≤ (n : Int) ∧ (n : Int) ≤ (y : Int) := by omega
  simp [Instr.sliceBound, asIntOf, this]

theorem run_sliceBounds {lo hi : Option AV} {x y : Option Value} (hlo : BoundIs C g F w lo x) (hhi : BoundIs C g F w hi y) {l h len cap : Nat} (isS : Bool) (h1 : lowOf lo = some l) (h2 : highOf len hi = some h)
    (hle : l ≤ h) (hcap : h ≤ cap) : (Instr.sliceBounds isS len cap x y none).run P w = .ok (l, h, cap) w := by
  cases hi with
  | none => cases y with
    | some v => exact hhi.elim
    | none =>
      simp only [highOf, Option.some.injEq] at h2
      subst h2
      cases lo with
      | none => cases x with
        | some v => exact hlo.elim
        | none =>
          simp only [lowOf, Option.some.injEq] at h1
          subst h1
          simp [Instr.sliceBounds]
      | some v => cases x with
        | none => exact hlo.elim
        | some v' =>
          obtain ⟨k, rfl⟩ := asNat_some h1 hlo
          simp [Instr.sliceBounds, run_sliceBound w k l len _ hle]
  | some v => cases y with
    | none => exact hhi.elim
    | some v' =>
      obtain ⟨k, rfl⟩ := asNat_some h2 hhi
      cases lo with
      | none => cases x with
        | some v => exact hlo.elim
        | none =>
          simp only [lowOf, Option.some.injEq] at h1
          subst h1
          simp [Instr.sliceBounds, run_sliceBound w k h cap _ hcap]
      | some v => cases x with
        | none => exact hlo.elim
        | some v' =>
          obtain ⟨k', rfl⟩ := asNat_some h1 hlo
          simp [Instr.sliceBounds, run_sliceBound w k h cap _ hcap, run_sliceBound w k' l h _ hle]

/-- A slice of a slice. -/
theorem run_sliceAt_slice (w : World) (T e : TypeId) (te : TypeInfo) (hu : P.underlying T = some (.slice e)) (hi : P.info? e = some te) (A : Option Addr) (len cap : Nat) (x y : Option Value) (l h : Nat)
    (hb : (Instr.sliceBounds true len cap x y none).run P w = .ok (l, h, cap) w) :
    (Instr.sliceAt T (.slice A len cap) x y none).run P w = .ok (.slice (if cap = l then A else A.map (·.add (l * te.size))) (h - l) (cap - l)) w := by
  simp [Instr.sliceAt, Instr.slice, run_underlying hu, hb, sizeOf, typeInfo, hi]

theorem sliceD_sound {A : Option Addr} {e : TypeId} {te : Ty} {xs : List D} {n cap l h : Nat} {v : AV} {F' : St} (hd : DRs C g F w (.sl e xs) (.slice A n cap)) (hte : C.Z e = some te)
    (hr : (sliceD e xs l h).run F = some (v, F')) : F' = F ∧ l ≤ h ∧ h ≤ xs.length ∧ VRs C g F w v (.slice (if cap = l then A else A.map (·.add (l * te.size))) (h - l) (cap - l)) := by
  unfold sliceD at hr
  replace hr := Pr.need_some hr
  obtain ⟨hle, hr⟩ := hr
  · simp only [Pr.run, Option.some.injEq, Prod.mk.injEq] at hr
    obtain ⟨rfl, rfl⟩ := hr
    refine ⟨rfl, hle.1, hle.2, .d _ _ ?_⟩
    have hlen : ((xs.take h).drop l).length = h - l := by simp; omega
    by_cases h0 : h - l = 0
    · have : (xs.take h).drop l = [] := List.eq_nil_of_length_eq_zero (by omega)
      rw [this, h0]
      exact .nil e _ _
    · unfold DRs at hd
      generalize hxx : D.sl e xs = xx at hd
      generalize hvv : Value.slice A n cap = vv at hd
      cases hd with
      | v => cases hxx
      | agg => cases hxx
      | nil e' A' c' => obtain ⟨rfl, rfl⟩ := (D.sl.injEq _ _ _ _).mp hxx; simp at hle; omega
      | sl e' l' b o c t u q1 q2 q3 q4 q5 q6 q7 q8 q9 =>
        obtain ⟨rfl, rfl⟩ := (D.sl.injEq _ _ _ _).mp hxx
        obtain ⟨rfl, rfl, rfl⟩ : A = some ⟨b, o, none⟩ ∧ n = xs.length ∧ cap = c := by simpa using hvv
        rw [hte] at q2
        obtain rfl : te = t := by simpa using q2
        rw [if_neg (by omega), Option.map_some, Addr.add_mid, ← hlen]
        refine .sl e _ b (o + l * te.size) _ te (fun j k => u (l + j) k) (fun e1 => by rw [e1] at hlen; simp at hlen; omega) hte q3 (fun x hx => q4 x (List.mem_of_mem_take (List.mem_of_mem_drop hx))) q5 (by omega) (by omega) (fun j k hj hk => ?_) (fun j k x y hj hk => ?_)
        · rw [hlen] at hj
          have := q8 (l + j) k (by omega) hk
          rw [show o + l * te.size + (j * te.size + k) = o + ((l + j) * te.size + k) by rw [Nat.add_mul]; omega]
          exact this
        · rw [List.getElem?_drop, List.getElem?_take] at hj
          split at hj
          · exact q9 (l + j) k x y hj hk
          · cases hj

theorem slice_sound (hZ : ∀ T t, E.ty T = some t → TyFacts P E.ty T t) (hC : C.Z = E.ty) (h : Rel C g F a w) {T u : Nat} {av v : AV} {x : Value} {lo hi : Option AV} {lx hx : Option Value} {F' : St} (hv : VRs C g F w av x)
    (hlo : BoundIs C g F w lo lx) (hhi : BoundIs C g F w hi hx) (hr : (evSlice E T u av lo hi).run F = some (v, F')) :
    ∃ g' y w', (Instr.sliceAt T x lx hx none).run P w = .ok y w' ∧ Rel C g' F' a w' ∧ VRs C g' F' w' v y := by
  unfold evSlice at hr
  obtain ⟨t, F1, h1, hr2⟩ := Pr.bind_some hr
  obtain ⟨hT, rfl⟩ := Pr.opt_some h1
  obtain ⟨l, hl, hr3⟩ := Pr.lookN_some hr2
  clear hr hr2
  have tf := hZ T t hT
  split at hr3
  · rename_i s
    obtain ⟨hh, hH, hr4⟩ := Pr.lookN_some hr3
    split at hr4
    · rename_i hc0
      replace hr4 := Pr.need_some hr4
      obtain ⟨hc1, hr4⟩ := hr4
      have hc := And.intro hc0 hc1
      simp only [Pr.run, Option.some.injEq, Prod.mk.injEq] at hr4
      obtain ⟨rfl, rfl⟩ := hr4
      obtain ⟨rfl, -⟩ := hv.scalar_of
      have hu := tf.str hc.1
      have hb := run_sliceBounds (P := P) hlo hhi (len := s.size) (cap := s.size) false hl hH hc.2.1 hc.2.2
      refine ⟨g, .string (s.extract l hh), w, ?_, h, .d _ _ (.v _ rfl)⟩
      simp [Instr.sliceAt, Instr.slice, run_underlying hu, hb]
    · cases hr4
  · obtain ⟨e0, F3, h3, hr4⟩ := Pr.bind_some hr3
    obtain ⟨he0, rfl⟩ := Pr.opt_some h3
    obtain ⟨te, F4, h4, hr5⟩ := Pr.bind_some hr4
    obtain ⟨hte, rfl⟩ := Pr.opt_some h4
    clear hr3 hr4
    have hu := tf.elem e0 he0
    obtain ⟨ie, hie, hiesz, -⟩ := (hZ e0 te hte).info
    have hteC : C.Z e0 = some te := by rw [hC]; exact hte
    -- data that is cut
    have cut : ∀ {F1 F2 : St} {xs : List D} {A : Option Addr} {n cap hh : Nat} {v : AV}, Rel C g F1 a w → BoundIs C g F1 w lo lx → BoundIs C g F1 w hi hx → DRs C g F1 w (.sl e0 xs) (.slice A n cap) → highOf xs.length hi = some hh →
        (sliceD e0 xs l hh).run F1 = some (v, F2) → ∃ g' y w', (Instr.sliceAt T (.slice A n cap) lx hx none).run P w = .ok y w' ∧ Rel C g' F2 a w' ∧ VRs C g' F2 w' v y := by
      intro F1 F2 xs A n cap hh v hR hlo hhi hd hH hs
      obtain ⟨A', c', hA, hle, -⟩ := DR.els hd
      obtain ⟨rfl, rfl, rfl⟩ : A = A' ∧ n = xs.length ∧ cap = c' := by simpa using hA
      obtain ⟨rfl, k1, k2, k3⟩ := sliceD_sound hd hteC hs
      refine ⟨g, _, w, run_sliceAt_slice w T e0 ie hu hie A xs.length cap lx hx l hh (run_sliceBounds hlo hhi true hl hH k1 (by omega)), hR, ?_⟩
      rw [hiesz]; exact k3
    split at hr5
    · rename_i p q _
      cases hv with
      | row _ _ A n c hlv hρ =>
        simp only [Pr.run] at hr5
        split at hr5
        · rename_i e xs hc
          split at hr5
          · cases hr5
          · rename_i hee
            obtain rfl : e = e0 := by simpa using hee
            split at hr5
            · rename_i _ _ hv'
              obtain ⟨hh, hH, hr6⟩ := Pr.lookN_some hr5
              replace hr6 := Pr.need_some hr6
              obtain ⟨hle, hr6⟩ := hr6
              · simp only [Pr.run] at hr6
                have ho := h.owns p q e xs hc
                have hs0 : l = 0 := by simpa [lowOf] using hl.symm
                subst hs0
                rcases ho with ⟨h0, rfl⟩ | ⟨t', b, cap, cur, q1, q2, q3, q4, q5, q6, q7, q8, q9⟩
                · rw [hρ] at h0
                  obtain ⟨rfl, rfl, rfl⟩ : A = none ∧ n = 0 ∧ c = 0 := by simpa using h0
                  have hh0 : hh = 0 := by simpa using hle
                  subst hh0
                  obtain ⟨g', k1, k2⟩ := moveRow_sound h hc hr6 (v0 := .slice none 0 0) (w' := w) ⟨rfl, rfl, rfl, Nat.le_refl _, fun _ _ _ => rfl⟩ (.inl ⟨rfl, by simp⟩) (fun b hb => by simp [Value.ownBlock] at hb)
                  refine ⟨g', _, w, ?_, k1, k2⟩
                  rw [run_sliceAt_slice w T e ie hu hie none 0 0 lx hx 0 0 (run_sliceBounds hlo hhi true hl (by simpa [highOf] using hH) (Nat.le_refl _) (Nat.le_refl _))]
                  rfl
                · rw [hρ] at q4
                  obtain ⟨rfl, rfl, rfl⟩ : A = some ⟨b, 0, none⟩ ∧ n = xs.length ∧ c = cap := by simpa using q4
                  have hown : OwnR w (Safe C g F4 w) C.Z e (xs.take hh) (.slice (some ⟨b, 0, none⟩) hh c) := by
                    refine .inr ⟨t', b, c, cur, q1, q2, fun x hx => q3 x (List.mem_of_mem_take hx), by simp; omega, q5, by simp; omega, q7, q8, fun j k x y hj hk => ?_⟩
                    rw [List.getElem?_take] at hj
                    split at hj
                    · exact q9 j k x y hj hk
                    · cases hj
                  obtain ⟨g', k1, k2⟩ := moveRow_sound h hc hr6 (w' := w) ⟨rfl, rfl, rfl, Nat.le_refl _, fun _ _ _ => rfl⟩ hown (fun b' hb' => .inl (by rw [hρ]; exact hb'))
                  refine ⟨g', _, w, ?_, k1, k2⟩
                  rw [run_sliceAt_slice w T e ie hu hie (some ⟨b, 0, none⟩) xs.length c lx hx 0 hh (run_sliceBounds hlo hhi true hl (by simpa [highOf] using hH) (Nat.zero_le _) (by omega))]
                  have : (if c = 0 then some (⟨b, 0, none⟩ : Addr) else (some (⟨b, 0, none⟩ : Addr)).map (·.add (0 * ie.size))) = some ⟨b, 0, none⟩ := by
                    split
                    · rfl
                    · simp [Addr.add]
                  rw [this]; simp
            · obtain ⟨hh, hH, hr6⟩ := Pr.lookN_some hr5
              simp only [Pr.run] at hr6
              obtain ⟨k1, k2, k3⟩ := h.freeze hc
              rw [hρ] at k3
              have up : ∀ {o : Option AV} {x : Option Value}, BoundIs C g F4 w o x → BoundIs C g (F4.upd (.r p q) (.fro e xs)) w o x := by
                intro o x hb
                cases o <;> cases x <;> first | exact hb | exact VR.mono k2 hb
              exact cut k1 (up hlo) (up hhi) k3 hH hr6
        · rename_i e xs hc
          split at hr5
          · cases hr5
          · rename_i hee
            obtain rfl : e = e0 := by simpa using hee
            obtain ⟨hh, hH, hr6⟩ := Pr.lookN_some hr5
            have hd := h.fros p q e xs hc
            rw [hρ] at hd
            exact cut h hlo hhi hd hH hr6
        · cases hr5
    · rename_i e xs _
      split at hr5
      · cases hr5
      · rename_i hee
        obtain rfl : e = e0 := by simpa using hee
        obtain ⟨hh, hH, hr6⟩ := Pr.lookN_some hr5
        have hd := hv.data
        obtain ⟨A, c, rfl, -, -⟩ := DR.els hd
        exact cut h hlo hhi hd hH hr6
    · rename_i e _
      obtain ⟨hh, hH, hr6⟩ := Pr.lookN_some hr5
      replace hr6 := Pr.need_some hr6
      obtain ⟨h0, hr6⟩ := hr6
      · obtain ⟨rfl, rfl⟩ := h0
        simp only [Pr.run, Option.some.injEq, Prod.mk.injEq] at hr6
        obtain ⟨rfl, rfl⟩ := hr6
        cases hv
        refine ⟨g, _, w, run_sliceAt_slice w T e0 ie hu hie none 0 0 lx hx 0 0 (run_sliceBounds hlo hhi true hl hH (Nat.le_refl _) (Nat.le_refl _)), h, ?_⟩
        exact .nils e
    · cases hr5
end
end Go.Eng
end

section
namespace Go.Eng
open Go

section
variable {P : Program} {E : Env} {C : Ctx} {g : Gh} {F : St} {a : Act} {w : World}

theorem bin_sound {op : BinOp} {x y v : Value} (T : TypeId) (p q : Operand) (h : bin op x y = some v) (w : World) :
    scalar v = true ∧ (do eqGuard op T p q x y; binOp op T x y : Sem Value).run P w = .ok v w := by
  unfold bin at h
  split at h
  · rename_i k a' k' b
    have hg : (eqGuard op T p q (.int k a') (.int k' b)).run P w = .ok () w := by unfold eqGuard; split <;> rfl
    simp only [Sem.run_bind, hg, Result.andThen_ok]
    split at h
    · split at h
      · cases h
      · rename_i hb
        obtain rfl := Option.some.inj h
        exact ⟨rfl, by simp [binOp, Op.shift, hb]⟩
    · split at h
      · cases h
      · rename_i hb
        obtain rfl := Option.some.inj h
        exact ⟨rfl, by simp [binOp, Op.shift, hb]⟩
    · split at h
      · rename_i hk
        subst hk
        split at h <;> first
          | cases h; done
          | (obtain rfl := Option.some.inj h; exact ⟨rfl, by simp [binOp, Op.intArith, Op.intBits, Op.intCmp]⟩)
          | (split at h
             · cases h
             · rename_i hb
               obtain rfl := Option.some.inj h
               exact ⟨rfl, by simp [binOp, Op.intDiv, hb]⟩)
      · cases h
  · rename_i s t
    have hg : (eqGuard op T p q (.string s) (.string t)).run P w = .ok () w := by unfold eqGuard; split <;> rfl
    simp only [Sem.run_bind, hg, Result.andThen_ok]
    split at h <;> first
      | cases h; done
      | (obtain rfl := Option.some.inj h; exact ⟨rfl, by simp [binOp, Op.stringOp, seq, slt, ByteArray.toList_eq]⟩)
      | (split at h
         · rename_i hb
           obtain rfl := Option.some.inj h
           refine ⟨rfl, ?_⟩
           have : ¬ (((s.size + t.size : Nat) : Int) > IntKind.i64.max) := by have : IntKind.i64.max = 9223372036854775807 := rfl; omega
           simp [binOp, Op.stringOp]
           omega
         · cases h)
  · cases h

theorem run_equal_bool (T : TypeId) (p q : Bool) (hu : P.underlying T = some .bool) (w : World) : (Op.equal T (.bool p) (.bool q)).run P w = .ok (p == q) w := by
  unfold Op.equal
  show (Op.equalIn (9999 + 1) T (.bool p) (.bool q)).run P w = _
  unfold Op.equalIn
  simp only [Sem.run_bind, run_underlying hu, Result.andThen_ok]
  rfl

theorem binB_sound {op : BinOp} {p q : Bool} {v : Value} (T : TypeId) (x y : Operand) (hu : P.underlying T = some .bool) (h : binB op p q = some v) (w : World) :
    scalar v = true ∧ (do eqGuard op T x y (.bool p) (.bool q); binOp op T (.bool p) (.bool q) : Sem Value).run P w = .ok v w := by
  have hg : (eqGuard op T x y (.bool p) (.bool q)).run P w = .ok () w := by unfold eqGuard; split <;> rfl
  simp only [Sem.run_bind, hg, Result.andThen_ok]
  unfold binB at h
  split at h
  · obtain rfl := Option.some.inj h
    exact ⟨rfl, by simp [binOp, run_equal_bool T p q hu w]⟩
  · obtain rfl := Option.some.inj h
    exact ⟨rfl, by simp [binOp, run_equal_bool T p q hu w]⟩
  · cases h

theorem binAV_sound (hZ : ∀ T t, E.ty T = some t → TyFacts P E.ty T t) {op : BinOp} {x y v : AV} {xv yv : Value} (T : TypeId) (p q : Operand) (hx : VRs C g F w x xv) (hy : VRs C g F w y yv)
    (h : binAV op (((E.ty T).map (·.bl)).getD false) x y = some v) : ∃ u, (do eqGuard op T p q xv yv; binOp op T xv yv : Sem Value).run P w = .ok u w ∧ VRs C g F w v u := by
  unfold binAV at h
  split at h
  · rename_i a' b'
    obtain ⟨rfl, -⟩ := hx.scalar_of
    obtain ⟨rfl, -⟩ := hy.scalar_of
    split at h
    · rename_i pp qq hbl
      simp only [Option.map_eq_some_iff] at h
      obtain ⟨u, h1, rfl⟩ := h
      have hu : P.underlying T = some .bool := by
        cases ht : E.ty T with
        | none => rw [ht] at hbl; simp at hbl
        | some t => rw [ht] at hbl; exact (hZ T t ht).bl (by simpa using hbl)
      obtain ⟨k1, k2⟩ := binB_sound T p q hu h1 w
      exact ⟨u, k2, .d _ _ (.v u k1)⟩
    · simp only [Option.map_eq_some_iff] at h
      obtain ⟨u, h1, rfl⟩ := h
      obtain ⟨k1, k2⟩ := bin_sound T p q h1 w
      exact ⟨u, k2, .d _ _ (.v u k1)⟩
  · cases h

theorem un_sound {op : UnOp} {x v : Value} (h : un op x = some v) (w : World) : scalar v = true ∧ (Op.unary op x).run P w = .ok v w := by
  unfold un at h
  split at h
  · obtain rfl := Option.some.inj h; exact ⟨rfl, by simp [Op.unary, Op.intArith]⟩
  · obtain rfl := Option.some.inj h; exact ⟨rfl, by simp [Op.unary]⟩
  · cases h

theorem bytesOf_spec : ∀ {l : List D} {b : List UInt8}, bytesOf l = some b → l = b.map fun c => D.v (.int .u8 c.toNat) := by
  intro l
  induction l with
  | nil => intro b h; simp [bytesOf] at h; subst h; rfl
  | cons x r ih =>
    intro b h
    simp only [bytesOf] at h
    cases hb : byteOf x with
    | none => rw [hb] at h; cases h
    | some c =>
      rw [hb] at h
      simp only [Option.bind_some, Option.map_eq_some_iff] at h
      obtain ⟨b', h1, rfl⟩ := h
      rw [ih h1, List.map_cons]
      congr 1
      unfold byteOf at hb
      split at hb
      · rename_i n
        split at hb
        · rename_i hn
          obtain rfl := Option.some.inj hb
          congr 2
          have : n.toNat < 256 := by omega
          simp [UInt8.toNat_ofNat', Nat.mod_eq_of_lt this]
          omega
        · cases hb
      · cases hb

theorem strOfNums_bytes (b : List UInt8) : strOfNums (b.map fun c => (c.toNat : Int)) = ⟨b.toArray⟩ := by
  unfold strOfNums
  congr 2
  rw [List.map_map]
  conv => rhs; rw [← List.map_id b]
  apply List.map_congr_left
  intro c _
  simp

theorem convert_sound (hZ : ∀ T t, E.ty T = some t → TyFacts P E.ty T t) (hC : C.Z = E.ty) (h : Rel C g F a w) {src dst : TypeId} {av v : AV} {x : Value} {F' : St} (hx : VRs C g F w av x)
    (hr : (evConvert E src dst av).run F = some (v, F')) : F' = F ∧ ∃ y, (convert src dst x).run P w = .ok y w ∧ VRs C g F w v y := by
  unfold evConvert at hr
  obtain ⟨ts, F1, h1, hr2⟩ := Pr.bind_some hr
  obtain ⟨hs, rfl⟩ := Pr.opt_some h1
  obtain ⟨td, F2, h2, hr3⟩ := Pr.bind_some hr2
  obtain ⟨hd, rfl⟩ := Pr.opt_some h2
  clear hr hr2
  obtain ⟨ds, hus, -⟩ := (hZ src ts hs).agg
  split at hr3
  · rename_i k n
    obtain ⟨rfl, -⟩ := hx.scalar_of
    split at hr3
    · rename_i k' hk
      simp only [Pr.run, Option.some.injEq, Prod.mk.injEq] at hr3
      obtain ⟨rfl, rfl⟩ := hr3
      have hu := (hZ dst td hd).ik _ hk
      exact ⟨rfl, _, by simp [convert, run_underlying hus, run_underlying hu, Conv.intToInt], .d _ _ (.v _ rfl)⟩
    · cases hr3
  · rename_i s
    obtain ⟨rfl, -⟩ := hx.scalar_of
    split at hr3
    · rename_i hst
      simp only [Pr.run, Option.some.injEq, Prod.mk.injEq] at hr3
      obtain ⟨rfl, rfl⟩ := hr3
      have hu := (hZ dst td hd).str hst
      refine ⟨rfl, .string s, ?_, .d _ _ (.v _ rfl)⟩
      cases ds <;> simp [convert, run_underlying hus, run_underlying hu]
    · cases hr3
  · split at hr3
    · rename_i e hst he
      obtain ⟨te, F3, h3, hr4⟩ := Pr.bind_some hr3
      obtain ⟨hte, rfl⟩ := Pr.opt_some h3
      split at hr4
      · rename_i hik
        obtain ⟨⟨e', l⟩, F4, h4, hr5⟩ := Pr.bind_some hr4
        obtain ⟨rfl, A, c, rfl, hlc, hlm, hel⟩ := elems_sound h hx h4
        obtain ⟨b, hb, hr6⟩ := Pr.lookB_some hr5
        simp only [Pr.run, Option.some.injEq, Prod.mk.injEq] at hr6
        obtain ⟨rfl, rfl⟩ := hr6
        have hu := (hZ dst td hd).str hst
        have hus' := (hZ src ts hs).elem e he
        have hue := (hZ e te hte).ik _ hik
        have hl := bytesOf_spec hb
        have hbl : b.length = l.length := by rw [hl]; simp
        refine ⟨rfl, .string ⟨b.toArray⟩, ?_, .d _ _ (.v _ rfl)⟩
        by_cases h0 : l = []
        · subst h0
          have hb0 : b = [] := List.eq_nil_of_length_eq_zero (by simpa using hbl)
          subst hb0
          cases A with
          | none => exact run_convert_bytes_nil w src e hus' hue _ c dst hu
          | some ad =>
            rw [run_convert_bytes_string w src dst e _ _ c hus' hue hu]
            simp [Conv.bytesToString, loadCells, loadCellsFrom]
            rfl
        · rcases hel with h00 | ⟨bb, o, te', rfl, hz, hpos, hsh, hcell⟩
          · exact absurd h00 h0
          · have ht1 : te'.size = 1 := by
              obtain ⟨x0, hx0⟩ := List.exists_mem_of_ne_nil l h0
              have := (hsh x0 hx0).1
              rw [hl] at hx0
              obtain ⟨c0, -, rfl⟩ := List.mem_map.1 hx0
              simpa [D.cells] using this.symm
            rw [← strOfNums_bytes b]
            refine run_convert_bytes_arg w src e hus' hue bb o _ c (b.map fun c => (c.toNat : Int)) (by simpa using hbl) (fun i hi => ?_) dst hu
            have hib : i < b.length := by omega
            have hx0 : l[i]? = some (D.v (.int .u8 (b[i]'hib).toNat)) := by
              have : (b.map fun c => D.v (.int .u8 c.toNat))[i]? = some (D.v (.int .u8 (b[i]'hib).toNat)) := by simp [hib]
              rw [← hl] at this; exact this
            obtain ⟨u, u1, u2, u3⟩ := hcell i 0 _ _ hx0 rfl
            obtain ⟨rfl, -⟩ := u3.scalar_of
            rw [ht1] at u1
            rw [show o + (i * 1 + 0) = o + i by omega] at u1
            rw [u1]
            simp [List.getD_eq_getElem?_getD, List.getElem?_map, hib]
      · cases hr4
    · cases hr3
end
end Go.Eng
end

section
namespace Go.Eng
open Go

section
variable {P : Program} {E : Env} {C : Ctx} {g : Gh} {F : St} {a : Act} {w : World}

theorem run_append_empty (t ty e : TypeId) (i : TypeInfo) (ht : P.underlying t = some (.slice e)) (hi : P.info? e = some i) (B A : Option Addr) (n cap c : Nat) (hn : n ≤ cap) :
    (Builtin.append_ #[t, t] ty #[.slice B n cap, .slice A 0 c]).run P w = .ok (.slice B n cap) w := by
  have hf : (Builtin.firstCells i.size 0 (.slice A 0 c)).run P w = .ok #[] w := by
    cases A <;> simp [Builtin.firstCells, loadCells, loadCellsFrom]
  have hs : ∀ b : Addr, (storeCells b []).run P w = .ok () w := fun b => by simp [storeCells]
  cases B with
  | none => simp [Builtin.append_, run_underlying ht, sizeOf, typeInfo, hi, Builtin.lenOf, hn, hf]
  | some b => simp [Builtin.append_, run_underlying ht, sizeOf, typeInfo, hi, Builtin.lenOf, hn, hf, hs]

/-- The cells of elements that lie in memory, as a list. -/
def memCells (w : World) (b o n : Nat) : List Value := (List.range n).map fun i => (w.cell? ⟨b, o + i, none⟩).getD undef

theorem idx_lt {j k n s : Nat} (hj : j < n) (hk : k < s) : j * s + k < n * s := by
  have : (j + 1) * s ≤ n * s := Nat.mul_le_mul_right _ (by omega)
  rw [Nat.add_mul] at this; omega

theorem memCells_spec {e : TypeId} {l : List D} {b o : Nat} {te : Ty} (hpos : 0 < te.size) (hsh : ∀ x ∈ l, D.shaped te x)
    (hcell : ∀ (j k : Nat) (x y : D), l[j]? = some x → x.cells[k]? = some y → ∃ u, w.cell? ⟨b, o + (j * te.size + k), none⟩ = some u ∧ u.oneCell' = true ∧ DRs C g F w y u) :
    (memCells w b o (l.length * te.size)).length = l.length * te.size ∧ (∀ (j : Nat) (u : Value), (memCells w b o (l.length * te.size))[j]? = some u → w.cell? ((⟨b, o, none⟩ : Addr).add j) = some u ∧ u.oneCell' = true) ∧
    ∀ (j k : Nat) (x y : D), l[j]? = some x → x.cells[k]? = some y → ∃ u, (memCells w b o (l.length * te.size))[j * te.size + k]? = some u ∧ u.oneCell' = true ∧ DRs C g F w y u := by
  have at_ : ∀ i, i < l.length * te.size → ∃ u, w.cell? ⟨b, o + i, none⟩ = some u ∧ u.oneCell' = true := by
    intro i hi
    have hj : i / te.size < l.length := by rw [Nat.div_lt_iff_lt_mul hpos]; exact hi
    have hk : i % te.size < te.size := Nat.mod_lt _ hpos
    have hx := List.getElem?_eq_getElem hj
    have hs := (hsh _ (List.mem_of_getElem? hx)).1
    have hy := List.getElem?_eq_getElem (l := (l[i / te.size]).cells) (i := i % te.size) (by rw [hs]; exact hk)
    obtain ⟨u, u1, u2, -⟩ := hcell _ _ _ _ hx hy
    have e1 : i / te.size * te.size + i % te.size = i := by rw [Nat.mul_comm]; exact Nat.div_add_mod i te.size
    rw [e1] at u1
    exact ⟨u, u1, u2⟩
  refine ⟨by simp [memCells], fun j u hu => ?_, fun j k x y hj hk => ?_⟩
  · have hlt : j < l.length * te.size := by have := (List.getElem?_eq_some_iff.1 hu).1; simpa [memCells] using this
    obtain ⟨u1, h1, h2⟩ := at_ j hlt
    have : u = u1 := by simpa [memCells, hlt, h1] using hu.symm
    subst this
    rw [Addr.add_mid]
    exact ⟨h1, h2⟩
  · have hjl : j < l.length := (List.getElem?_eq_some_iff.1 hj).1
    have hkt : k < te.size := by rw [← (hsh x (List.mem_of_getElem? hj)).1]; exact (List.getElem?_eq_some_iff.1 hk).1
    have hlt := idx_lt hjl hkt
    obtain ⟨u, u1, u2, u3⟩ := hcell j k x y hj hk
    refine ⟨u, ?_, u2, u3⟩
    have : (memCells w b o (l.length * te.size))[j * te.size + k]? = some ((w.cell? ⟨b, o + (j * te.size + k), none⟩).getD undef) := by simp [memCells, hlt]
    rw [this, u1]; rfl

theorem grownCap_facts (w : World) (need old : Nat) (e : TypeId) (h : need ≤ maxLen) : need ≤ grownCap w need old e ∧ grownCap w need old e ≤ maxLen :=
  ⟨grownCap_ge w need old e, grownCap_le_maxLen w need old e h⟩

theorem grownBy_drew_alloc (w : World) (o : Obj) (row : Option Nat) : w.grownBy (w.drew.alloc o) row :=
  ⟨rfl, rfl, rfl, by simp, fun k hk _ => (World.grownBy_alloc w.drew o none).block k hk (by simp)⟩

theorem ownR_alloc {Z : TypeId → Option Ty} {S : Nat → Prop} (hS : ∀ b, S b → b < w.heap.size) {e : TypeId} {te : Ty} (hte : Z e = some te) (hpos : 0 < te.size) {l : List D} {cap n : Nat} {cells : Array Value} (hn : n = l.length)
    (hsh : ∀ x ∈ l, D.shaped te x) (h1 : l.length ≤ cap) (h2 : cap ≤ maxLen) (h3 : cells.size = cap * te.size)
    (hc : ∀ (j k : Nat) (x y : D), l[j]? = some x → x.cells[k]? = some y → ∃ u, cells[j * te.size + k]? = some u ∧ u.oneCell' = true ∧ DR w S Z y u) :
    OwnR (w.drew.alloc (.cells cells e)) S Z e l (.slice (some ⟨w.heap.size, 0, none⟩) n cap) := by
  refine .inr ⟨te, w.heap.size, cap, cells, hte, hpos, hsh, by rw [hn], heap_alloc_new w.drew _, h1, h2, h3, fun j k x y hj hk => ?_⟩
  obtain ⟨u, u1, u2, u3⟩ := hc j k x y hj hk
  exact ⟨u, u1, u2, u3.mono (fun b hb => ⟨hb, (grownBy_drew_alloc w _ none).block b (hS b hb) (by simp)⟩)⟩

/-- The cells of two lists, one behind the other. -/
theorem two_cells {S : Nat → Prop} {Z : TypeId → Option Ty} {l1 l2 : List D} {te : Ty} {o1 o2 : List Value} {rest : List Value} (h1 : o1.length = l1.length * te.size)
    (hs1 : ∀ x ∈ l1, D.shaped te x) (hs2 : ∀ x ∈ l2, D.shaped te x) (h2 : o2.length = l2.length * te.size)
    (hc1 : ∀ (j k : Nat) (x y : D), l1[j]? = some x → x.cells[k]? = some y → ∃ u, o1[j * te.size + k]? = some u ∧ u.oneCell' = true ∧ DR w S Z y u)
    (hc2 : ∀ (j k : Nat) (x y : D), l2[j]? = some x → x.cells[k]? = some y → ∃ u, o2[j * te.size + k]? = some u ∧ u.oneCell' = true ∧ DR w S Z y u) :
    ∀ (j k : Nat) (x y : D), (l1 ++ l2)[j]? = some x → x.cells[k]? = some y → ∃ u, (o1 ++ o2 ++ rest)[j * te.size + k]? = some u ∧ u.oneCell' = true ∧ DR w S Z y u := by
  intro j k x y hj hk
  by_cases hlt : j < l1.length
  · rw [List.getElem?_append_left hlt] at hj
    have hkt : k < te.size := by rw [← (hs1 x (List.mem_of_getElem? hj)).1]; exact (List.getElem?_eq_some_iff.1 hk).1
    obtain ⟨u, u1, u2⟩ := hc1 j k x y hj hk
    have := idx_lt hlt hkt
    exact ⟨u, by rw [List.append_assoc, List.getElem?_append_left (by omega)]; exact u1, u2⟩
  · rw [List.getElem?_append_right (by omega)] at hj
    have hkt : k < te.size := by rw [← (hs2 x (List.mem_of_getElem? hj)).1]; exact (List.getElem?_eq_some_iff.1 hk).1
    have hlt2 : j - l1.length < l2.length := (List.getElem?_eq_some_iff.1 hj).1
    obtain ⟨u, u1, u2⟩ := hc2 _ k x y hj hk
    have h3 := idx_lt hlt2 hkt
    have e1 : j * te.size + k = l1.length * te.size + ((j - l1.length) * te.size + k) := by
      have : j = l1.length + (j - l1.length) := by omega
      conv => lhs; rw [this, Nat.add_mul]
      omega
    refine ⟨u, ?_, u2⟩
    rw [List.getElem?_append_left (by simp; omega), List.getElem?_append_right (by omega), h1, e1, Nat.add_sub_cancel_left]
    exact u1

theorem append_sound (hZ : ∀ T t, E.ty T = some t → TyFacts P E.ty T t) (hC : C.Z = E.ty) (h : Rel C g F a w) {u : Nat} {x y v : AV} {xv yv : Value} {T T' ty : TypeId} {F' : St} (hx : VRs C g F w x xv) (hy : VRs C g F w y yv)
    (hr : (evAppend E u x y T T').run F = some (v, F')) :
    ∃ g' z w', (Builtin.append_ #[T, T'] ty #[xv, yv]).run P w = .ok z w' ∧ Rel C g' F' a w' ∧ VRs C g' F' w' v z := by
  unfold evAppend at hr
  obtain ⟨⟨e, l2⟩, F1, h1, hr2⟩ := Pr.bind_some hr
  obtain ⟨rfl, A, c, rfl, hlc, hlm, hel⟩ := elems_sound h hy h1
  obtain ⟨te, F2, h2, hr3⟩ := Pr.bind_some hr2
  obtain ⟨hte, rfl⟩ := Pr.opt_some h2
  obtain ⟨tT, F3, h3, hr4⟩ := Pr.bind_some hr3
  obtain ⟨hT, rfl⟩ := Pr.opt_some h3
  obtain ⟨z, F4, h4, hr5⟩ := Pr.bind_some hr4
  obtain ⟨hz, rfl⟩ := Pr.opt_some h4
  clear hr hr2 hr3 hr4
  split at hr5
  · cases hr5
  · rename_i hcond
    have hcond' : T = T' ∧ tT.elem = some e ∧ 0 < te.size ∧ 0 < te.bytes ∧ z.length = te.size := Decidable.not_not.1 hcond
    obtain ⟨rfl, heT, hpos, hbpos, hzl⟩ := hcond'
    have hu := (hZ T tT hT).elem e heT
    obtain ⟨i, hi, hisz, hib, hiz⟩ := (hZ e te hte).info
    obtain ⟨zv, hzv, hok⟩ := hiz z hz
    have hzs : zv.cells.size = te.size := by rw [← hzl, ← (zeroOK_spec hok).1]; simp
    have hteC : C.Z e = some te := by rw [hC]; exact hte
    have hS : ∀ b, Safe C g F4 w b → b < w.heap.size := fun b hb => hb.1
    have els : l2 ≠ [] → ∃ b o, A = some ⟨b, o, none⟩ ∧ (∀ x ∈ l2, D.shaped te x) ∧
        ∀ (j k : Nat) (x y : D), l2[j]? = some x → x.cells[k]? = some y → ∃ u, w.cell? ⟨b, o + (j * te.size + k), none⟩ = some u ∧ u.oneCell' = true ∧ DRs C g F4 w y u := by
      intro hne
      rcases hel with h0 | ⟨b, o, te', rfl, q1, q2, q3, q4⟩
      · exact absurd h0 hne
      · rw [hteC] at q1
        obtain rfl : te = te' := by simpa using q1
        exact ⟨b, o, rfl, q3, q4⟩
    have bound : ∀ n, n * te.bytes ≤ maxRow → n ≤ 140737488355328 := fun n hn => Nat.le_trans (Nat.le_mul_of_pos_right n hbpos) hn
    cases hx with
    | nils e' =>
      simp only at hr5
      replace hr5 := Pr.need_some hr5
      obtain ⟨hb, hr5⟩ := hr5
      · by_cases hne : l2 = []
        · subst hne
          obtain ⟨g', k1, k2⟩ := newRow_sound h hr5 (v0 := .slice none 0 0) (w' := w) ⟨rfl, rfl, rfl, Nat.le_refl _, fun _ _ _ => rfl⟩ (.inl ⟨rfl, rfl⟩) (fun b hb => by simp [Value.ownBlock] at hb)
          exact ⟨g', _, w, run_append_empty (P := P) T ty e i hu hi none A 0 0 c (Nat.le_refl _), k1, k2⟩
        · obtain ⟨b, o, rfl, hs2, hc2⟩ := els hne
          obtain ⟨m1, m2, m3⟩ := memCells_spec (e := e) hpos hs2 hc2
          have hb' := bound _ hb
          have hl2 : 0 < l2.length := List.length_pos_iff.2 hne
          obtain ⟨g1, g2⟩ := grownCap_facts w l2.length 0 e (by simp only [maxLen]; omega)
          have hrun := run_append_nil (P := P) w T ty e i zv hu hi hzv ⟨b, o, none⟩ l2.length c (memCells w b o (l2.length * te.size)) (by rw [m1, hisz]) (fun j v hv => (m2 j v hv).1) hl2 (by omega) (by
            rw [hib]; simp only [maxRow] at hb; omega)
          have hown := ownR_alloc (w := w) (cells := (memCells w b o (l2.length * te.size)).toArray ++ Builtin.zeroCells zv.cells (grownCap w l2.length 0 e - l2.length)) hS hteC hpos (l := l2) (n := l2.length) rfl hs2 g1 g2 (by
            simp only [Array.size_append, List.size_toArray, size_zeroCells, hzs, m1, ← Nat.add_mul]
            congr 1; omega) (fun j k x y hj hk => by
              obtain ⟨u, u1, u2, u3⟩ := m3 j k x y hj hk
              exact ⟨u, by rw [Array.getElem?_append_left (by have := (List.getElem?_eq_some_iff.1 u1).1; simpa using this)]; simpa using u1, u2, u3⟩)
          obtain ⟨g', k1, k2⟩ := newRow_sound h hr5 (grownBy_drew_alloc w _ none) hown (fun b hb => by simp [Value.ownBlock] at hb; omega)
          exact ⟨g', _, _, hrun, k1, k2⟩
    | row p q B n cap hl hρ =>
      simp only [Pr.run] at hr5
      split at hr5
      · rename_i e' l1 hc
        split at hr5
        · rename_i hb0
          subst hb0
          replace hr5 := Pr.need_some hr5
          obtain ⟨hb, hr5⟩ := hr5
          simp only [Pr.run] at hr5
          have hb' := bound _ hb
          have ho := h.owns p q e l1 hc
          obtain ⟨B', cap', hB, hncap, -⟩ := ho.slice
          rw [hρ] at hB
          obtain ⟨rfl, rfl, rfl⟩ : B = B' ∧ n = l1.length ∧ cap = cap' := by simpa using hB
          by_cases hne : l2 = []
          · subst hne
            rw [List.append_nil] at hr5
            obtain ⟨g', k1, k2⟩ := moveRow_sound h hc hr5 (v0 := .slice B l1.length cap) (w' := w) ⟨rfl, rfl, rfl, Nat.le_refl _, fun _ _ _ => rfl⟩ (by rw [← hρ]; exact ho) (fun b hb => .inl (by rw [hρ]; exact hb))
            exact ⟨g', _, w, run_append_empty (P := P) T ty e i hu hi B A _ _ c hncap, k1, k2⟩
          · obtain ⟨b, o, rfl, hs2, hc2⟩ := els hne
            obtain ⟨m1, m2, m3⟩ := memCells_spec (e := e) hpos hs2 hc2
            have hl2 : 0 < l2.length := List.length_pos_iff.2 hne
            obtain ⟨g1, g2⟩ := grownCap_facts w (l1.length + l2.length) cap e (by simp only [maxLen]; omega)
            rw [hρ] at ho
            rcases ho with ⟨h0, rfl⟩ | ⟨te', b0, cap0, cur, q1, q2, q3, q4, q5, q6, q7, q8, q9⟩
            · obtain ⟨rfl, -, rfl⟩ : B = none ∧ ([] : List D).length = 0 ∧ cap = 0 := by simpa using h0
              simp only [List.length_nil, Nat.zero_add, List.nil_append] at *
              have hrun := run_append_nil (P := P) w T ty e i zv hu hi hzv ⟨b, o, none⟩ l2.length c (memCells w b o (l2.length * te.size)) (by rw [m1, hisz]) (fun j v hv => (m2 j v hv).1) hl2 (by omega) (by
                rw [hib]; simp only [maxRow] at hb; omega)
              have hown := ownR_alloc (w := w) (cells := (memCells w b o (l2.length * te.size)).toArray ++ Builtin.zeroCells zv.cells (grownCap w l2.length 0 e - l2.length)) hS hteC hpos (l := l2) (n := l2.length) rfl hs2 g1 g2 (by
                simp only [Array.size_append, List.size_toArray, size_zeroCells, hzs, m1, ← Nat.add_mul]
                congr 1; omega) (fun j k x y hj hk => by
                  obtain ⟨u, u1, u2, u3⟩ := m3 j k x y hj hk
                  exact ⟨u, by rw [Array.getElem?_append_left (by have := (List.getElem?_eq_some_iff.1 u1).1; simpa using this)]; simpa using u1, u2, u3⟩)
              obtain ⟨g', k1, k2⟩ := moveRow_sound h hc hr5 (grownBy_drew_alloc w _ _) hown (fun b hb => .inr (by simp [Value.ownBlock] at hb; omega))
              exact ⟨g', _, _, hrun, k1, k2⟩
            · rw [hteC] at q1
              obtain rfl : te = te' := by simpa using q1
              obtain ⟨rfl, rfl⟩ : B = some ⟨b0, 0, none⟩ ∧ cap = cap0 := by simpa using q4
              have htk : (cur.toList.take (l1.length * te.size)).length = l1.length * te.size := by
                have : l1.length * te.size ≤ cap * te.size := Nat.mul_le_mul_right _ q6
                simp; omega
              have hold : ∀ (j k : Nat) (x y : D), l1[j]? = some x → x.cells[k]? = some y → ∃ u, (cur.toList.take (l1.length * te.size))[j * te.size + k]? = some u ∧ u.oneCell' = true ∧ DRs C g F4 w y u := by
                intro j k x y hj hk
                obtain ⟨u, u1, u2, u3⟩ := q9 j k x y hj hk
                have hkt : k < te.size := by rw [← (q3 x (List.mem_of_getElem? hj)).1]; exact (List.getElem?_eq_some_iff.1 hk).1
                have := idx_lt (List.getElem?_eq_some_iff.1 hj).1 hkt
                exact ⟨u, by rw [List.getElem?_take, if_pos this]; simpa using u1, u2, u3⟩
              by_cases hroom : l1.length + l2.length ≤ cap
              · have hfit : l1.length * te.size + l2.length * te.size ≤ cur.size := by
                  rw [q8, ← Nat.add_mul]; exact Nat.mul_le_mul_right _ hroom
                have hrun := run_append_room (P := P) w T ty e i hu hi b0 l1.length cap cur q5 ⟨b, o, none⟩ l2.length c (memCells w b o (l2.length * te.size)) (by rw [m1, hisz]) (fun j v hv => (m2 j v hv).1)
                  (fun v hv => by obtain ⟨j, hj⟩ := List.mem_iff_getElem?.1 hv; exact (m2 j v hj).2) hroom (by rw [hisz, m1]; exact hfit)
                have hsafe : ∀ b', Safe C g F4 w b' → b' ≠ b0 := fun b' hb' e1 => hb'.2.1 (.r p q) ⟨⟨e, l1, hc⟩, by rw [hρ, e1]; rfl⟩
                have hown : OwnR (w.setRow b0 (cur.toList.take (l1.length * i.size) ++ memCells w b o (l2.length * te.size) ++ cur.toList.drop (l1.length * i.size + (memCells w b o (l2.length * te.size)).length)).toArray) (Safe C g F4 w) C.Z e (l1 ++ l2)
                    (.slice (some ⟨b0, 0, none⟩) (l1.length + l2.length) cap) := by
                  refine .inr ⟨te, b0, cap, _, hteC, hpos, fun x hx => ?_, by simp, setRow_heap w b0 cur _ e (0, 0) q5, by simp; exact hroom, q7, ?_, fun j k x y hj hk => ?_⟩
                  · rcases List.mem_append.1 hx with hx | hx
                    · exact q3 x hx
                    · exact hs2 x hx
                  · simp only [List.size_toArray]
                    rw [splice_len _ _ _ (by rw [hisz, m1]; simpa using hfit)]
                    simpa using q8
                  · rw [hisz]
                    obtain ⟨u, u1, u2, u3⟩ := two_cells (rest := cur.toList.drop (l1.length * te.size + (memCells w b o (l2.length * te.size)).length)) htk q3 hs2 m1 hold m3 j k x y hj hk
                    exact ⟨u, by rw [List.getElem?_toArray]; exact u1, u2, u3.mono (fun b' hb' => ⟨hb', setRow_other w b0 b' _ (hsafe b' hb')⟩)⟩
                obtain ⟨g', k1, k2⟩ := moveRow_sound h hc hr5 (by rw [hρ]; exact grownBy_setRow w b0 _) hown (fun b' hb' => .inl (by rw [hρ]; exact hb'))
                exact ⟨g', _, _, hrun, k1, k2⟩
              · have hrun := run_append_grow (P := P) w T ty e i zv hu hi hzv ⟨b0, 0, none⟩ l1.length cap (cur.toList.take (l1.length * te.size)) (by rw [htk, hisz]) (fun j v hv => by
                    rw [Addr.add_mid, Nat.zero_add, cell_of_row w b0 j cur e (0, 0) q5]
                    rw [List.getElem?_take] at hv
                    split at hv
                    · simpa using hv
                    · cases hv) ⟨b, o, none⟩ l2.length c (memCells w b o (l2.length * te.size)) (by rw [m1, hisz]) (fun j v hv => (m2 j v hv).1) (by omega) (by omega) (growslice_fits (by omega) (by rw [hib]; exact hb))
                have hown := ownR_alloc (w := w) (cells := (cur.toList.take (l1.length * te.size)).toArray ++ (memCells w b o (l2.length * te.size)).toArray ++ Builtin.zeroCells zv.cells (grownCap w (l1.length + l2.length) cap e - (l1.length + l2.length)))
                  hS hteC hpos (l := l1 ++ l2) (n := l1.length + l2.length) (by simp) (fun x hx => by rcases List.mem_append.1 hx with hx | hx; exact q3 x hx; exact hs2 x hx) (by simp; exact g1) g2 (by
                    simp only [Array.size_append, List.size_toArray, size_zeroCells, hzs, m1, htk, ← Nat.add_mul]
                    congr 1; omega) (fun j k x y hj hk => by
                      obtain ⟨u, u1, u2, u3⟩ := two_cells (rest := (Builtin.zeroCells zv.cells (grownCap w (l1.length + l2.length) cap e - (l1.length + l2.length))).toList) htk q3 hs2 m1 hold m3 j k x y hj hk
                      refine ⟨u, ?_, u2, u3⟩
                      rw [← Array.getElem?_toList, Array.toList_append, Array.toList_append]
                      exact u1)
                obtain ⟨g', k1, k2⟩ := moveRow_sound h hc hr5 (grownBy_drew_alloc w _ _) hown (fun b hb => .inr (by simp [Value.ownBlock] at hb; omega))
                exact ⟨g', _, _, hrun, k1, k2⟩
        · cases hr5
      · cases hr5
    | _ => cases hr5
end
end Go.Eng
end
