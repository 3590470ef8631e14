/- The engine, part 4: EngIt, EngEq, EngU2, EngD, EngV, EngV2, EngW, EngMk, EngRg, EngX of this author. A pure reading of the code of the model, and its soundness. Nothing is assumed. -/
import Derived.Test.YtcjgmffbebjddaaGreatDoorEng3
import Derived.Laws.RangeAny
import Derived.Lib.OthersKept
import Derived.Laws.StructEq
import Derived.Orders
import Derived.OrdersIn
import Derived.TacticsIn
import Derived.RangeFuncRecord
import Derived.LoopNIn
set_option linter.all false

section
namespace Go.Eng
open Go

section
variable {P : Program} {E : Env} {C : Ctx} {g : Gh} {F : St} {a : Act} {w : World}

theorem newOb_sound (h : Rel C g F a w) {p q : Nat} {c : List AV} {v : AV} {F' : St} (hr : (newVar p q c).run F = some (v, F')) {ob : Obj} (hc : VarR (w.alloc ob) (Safe C g F w) C.Z (live F) g w.heap.size c) :
    ∃ g', Rel C g' F' a (w.alloc ob) ∧ VRs C g' F' (w.alloc ob) v (.pointer (some ⟨w.heap.size, 0, none⟩)) := by
  simp only [newVar, Pr.run] at hr
  split at hr
  · rename_i hd
    simp only [Pr.run, Option.some.injEq, Prod.mk.injEq] at hr
    obtain ⟨rfl, rfl⟩ := hr
    obtain ⟨h1, h2⟩ := h.newOb hd hc
    refine ⟨_, h1, ?_⟩
    have := VR.ptr (w := w.alloc ob) (S := Safe C (g.setη p q w.heap.size) (F.upd (.x p q) (.obj c)) (w.alloc ob)) (Z := C.Z) (L := live (F.upd (.x p q) (.obj c)))
      (g := g.setη p q w.heap.size) p q 0 (by simp [live, St.upd])
    simpa [Gh.setη] using this
  · cases hr

theorem heap_iterAt (w : World) (k : Nat) (s : ByteArray) (pos : Nat) (h : k < w.heap.size) : (w.iterAt k s pos).heap[k]? = some (.stringIter s pos) := by
  simp [World.iterAt, h]

theorem grownBy_iterAt (w : World) (k : Nat) (s : ByteArray) (pos : Nat) : w.grownBy (w.iterAt k s pos) (some k) where
  size := by simp [World.iterAt]
  block b hb hne := by
    have : b ≠ k := fun e => hne (by rw [e])
    simp [World.iterAt, Array.getElem?_setIfInBounds_ne (Ne.symm this)]
  os := rfl
  tape := rfl
  output := rfl

theorem next_sound (h : Rel C g F a w) {p q : Nat} {s : ByteArray} {pos : Nat} (hc : F (.x p q) = .obj [.ob (.it s pos) []]) (ty : TypeId) :
    (pos < s.size → ∃ w', (Instr.next (.pointer (some ⟨g.η p q, 0, none⟩)) true ty).run P w = .ok (.tuple #[.bool true, .int .i64 pos, .int .i32 (Utf8.decode s pos).1]) w' ∧
      Rel C g (F.upd (.x p q) (.obj [.ob (.it s (pos + (Utf8.decode s pos).2)) []])) a w') ∧
    (¬ pos < s.size → (Instr.next (.pointer (some ⟨g.η p q, 0, none⟩)) true ty).run P w = .ok (.tuple #[.bool false]) w) := by
  have hk : w.heap[g.η p q]? = some (.stringIter s pos) := by
    rcases h.vars p q _ hc with ⟨cs, e, h1, h2, h3⟩ | ⟨o, cap, h1, h2⟩
    · have := (h3 0 _ rfl).1
      simp [AV.leaf] at this
    · obtain ⟨rfl, rfl⟩ : Ob.it s pos = o ∧ [] = cap := by simpa using h1
      exact h2.2
  have hlt : g.η p q < w.heap.size := (Array.getElem?_eq_some_iff.1 hk).1
  refine ⟨fun hp => ⟨_, Lib.run_next_any_at w _ s pos ty hk hp, ?_⟩, fun hp => Lib.run_next_end_at w _ s pos ty hk hp⟩
  exact (h.setOb hc (grownBy_iterAt w _ s _) (.inr ⟨.it s (pos + (Utf8.decode s pos).2), [], rfl, rfl, heap_iterAt w _ s _ hlt⟩)).1
end
end Go.Eng
end

section
namespace Go.Eng
open Go

section
variable {P : Program} {E : Env} {C : Ctx} {g : Gh} {F : St} {a : Act} {w : World}

theorem run_part_leaf {T : TypeId} {d : TypeDesc} (hu : P.underlying T = some d) (hd : d.isRow = false) {cs : Array Value} {off : Nat} {v : Value} (hv : cs[off]? = some v) (w : World) : (part T cs off).run P w = .ok v w := by
  simp [part, isAgg, run_underlying hu, hv]
  cases d <;> simp_all [TypeDesc.isRow]

theorem eqV_sound (hZ : ∀ T t, E.ty T = some t → TyFacts P E.ty T t) {T : TypeId} {t : Ty} (hT : E.ty T = some t) {x y : Value} {b : Bool} (h : eqV t x y = some b) (d : Nat) (w : World) :
    (∃ ds, P.underlying T = some ds ∧ ds.isRow = false) ∧ (Op.equalIn (d + 1) T x y).run P w = .ok b w := by
  unfold eqV at h
  split at h
  · split at h
    · rename_i hk
      obtain ⟨hk1, rfl⟩ := hk
      obtain ⟨k, hk⟩ := Option.isSome_iff_exists.1 hk1
      have hu := (hZ T t hT).ik k hk
      obtain rfl := Option.some.inj h
      exact ⟨⟨_, hu, rfl⟩, run_equalIn_int w d T _ k _ _ hu⟩
    · cases h
  · split at h
    · rename_i hs
      have hu := (hZ T t hT).str hs
      obtain rfl := Option.some.inj h
      refine ⟨⟨_, hu, rfl⟩, ?_⟩
      unfold seq
      rw [← ByteArray.toList_eq, ← ByteArray.toList_eq]
      exact run_equalIn_string w d T _ _ hu
    · cases h
  · split at h
    · rename_i hs
      have hu := (hZ T t hT).bl hs
      obtain rfl := Option.some.inj h
      exact ⟨⟨_, hu, rfl⟩, run_equalIn_bool' w d T _ _ hu⟩
    · cases h
  · cases h

theorem eqC_sound (hZ : ∀ T t, E.ty T = some t → TyFacts P E.ty T t) (d : Nat) (w : World) {cs ds : Array Value} : ∀ {fs : List Field} {o : Nat} {xs ys : List D} {b : Bool}, (∀ f ∈ fs, f.name ≠ "_") →
    (∀ (j : Nat) (u : Value), xs[j]? = some (.v u) → cs[o + j]? = some u) → (∀ (j : Nat) (u : Value), ys[j]? = some (.v u) → ds[o + j]? = some u) →
    eqC E o (fs.map fun f => (f.offset, f.type)) xs ys = some b → (Op.eqFields (d + 1) cs ds fs).run P w = .ok b w := by
  intro fs
  induction fs with
  | nil =>
    intro o xs ys b hn hx hy h
    cases xs <;> cases ys <;> simp [eqC] at h
    subst h
    rfl
  | cons f fs ih =>
    intro o xs ys b hn hx hy h
    rw [List.map_cons] at h
    cases xs with
    | nil => cases ys <;> simp [eqC] at h
    | cons x r =>
      cases ys with
      | nil => cases x <;> simp [eqC] at h
      | cons y s =>
        cases x with
        | v x =>
          cases y with
          | v y =>
            simp only [eqC] at h
            split at h
            · rename_i ho
              cases hT : E.ty f.type with
              | none => rw [hT] at h; cases h
              | some t =>
                rw [hT] at h
                simp only at h
                cases hv : eqV t x y with
                | none => rw [hv] at h; cases h
                | some b1 =>
                  rw [hv] at h
                  simp only at h
                  cases hc : eqC E (o + 1) (fs.map fun f => (f.offset, f.type)) r s with
                  | none => rw [hc] at h; cases h
                  | some b2 =>
                    rw [hc] at h
                    obtain rfl := Option.some.inj h
                    obtain ⟨⟨de, hu, hrow⟩, hrun⟩ := eqV_sound (P := P) hZ hT hv d w
                    have i2 := ih (o := o + 1) (xs := r) (ys := s) (b := b2) (fun f hf => hn f (List.mem_cons_of_mem _ hf))
                      (fun j u hj => by have := hx (j + 1) u (by simpa using hj); rwa [show o + (j + 1) = o + 1 + j by omega] at this)
                      (fun j u hj => by have := hy (j + 1) u (by simpa using hj); rwa [show o + (j + 1) = o + 1 + j by omega] at this) hc
                    have hx0 : cs[f.offset]? = some x := by rw [ho]; exact hx 0 x rfl
                    have hy0 : ds[f.offset]? = some y := by rw [ho]; exact hy 0 y rfl
                    simp only [Op.eqFields]
                    rw [if_pos (hn f (List.mem_cons_self ..))]
                    simp only [Sem.run_bind, run_part_leaf hu hrow hx0, run_part_leaf hu hrow hy0, hrun, Result.andThen_ok]
                    cases b1 with
                    | true => simpa using i2
                    | false => simp
            · cases h
          | _ => simp [eqC] at h
        | _ => simp [eqC] at h

theorem DR_agg_v {w : World} {S : Nat → Prop} {Z : TypeId → Option Ty} {L : Key → Prop} {g : Gh} {xs : List D} {x : Value} (h : VR w S Z L g (.d (.agg xs)) x) :
    ∃ cs, x = .agg cs ∧ ∀ (j : Nat) (u : Value), xs[j]? = some (.v u) → cs[j]? = some u := by
  cases h with
  | d _ _ h =>
    cases h with
    | agg _ cs h1 h2 h3 =>
      refine ⟨cs, rfl, fun j u hj => ?_⟩
      have hlt : j < cs.size := by rw [← h1]; exact (List.getElem?_eq_some_iff.1 hj).1
      have := h3 j _ cs[j] hj (Array.getElem?_eq_getElem hlt)
      rw [Array.getElem?_eq_getElem hlt]
      cases this
      rfl

theorem evBinA_sound (hZ : ∀ T t, E.ty T = some t → TyFacts P E.ty T t) {op : BinOp} {x y v : AV} {xv yv : Value} (T : TypeId) (p q : Operand) (hx : VRs C g F w x xv) (hy : VRs C g F w y yv)
    (hb : ∀ {v F'}, (evBin op (((E.ty T).map (·.bl)).getD false) x y).run F = some (v, F') → F' = F ∧ ∃ u, (do eqGuard op T p q xv yv; binOp op T xv yv : Sem Value).run P w = .ok u w ∧ VRs C g F w v u) {F' : St}
    (h : (evBinA E op T x y).run F = some (v, F')) : F' = F ∧ ∃ u, (do eqGuard op T p q xv yv; binOp op T xv yv : Sem Value).run P w = .ok u w ∧ VRs C g F w v u := by
  unfold evBinA at h
  split at h
  · rename_i xs ys
    obtain ⟨h1, rfl⟩ := Pr.opt_some h
    refine ⟨rfl, ?_⟩
    unfold evEqAgg at h1
    cases hT : E.ty T with
    | none => rw [hT] at h1; cases h1
    | some t =>
      rw [hT] at h1
      simp only at h1
      split at h1
      · rename_i hc
        obtain ⟨f1, f2, fs, f3, f4, f5⟩ := (hZ T t hT).cmp hc
        cases he : eqC E 0 t.fields xs ys with
        | none => rw [he] at h1; cases h1
        | some b =>
          rw [he] at h1
          simp only at h1
          obtain ⟨cs, rfl, hcs⟩ := DR_agg_v hx
          obtain ⟨ds, rfl, hds⟩ := DR_agg_v hy
          rw [f4] at he
          have hrun := eqC_sound (P := P) hZ 9998 w (cs := cs) (ds := ds) (o := 0) f5 (by simpa using hcs) (by simpa using hds) he
          have hfo : P.fieldsOf T = fs := by simp [Program.fieldsOf, f3]
          have heq : (Op.equalIn 10000 T (.agg cs) (.agg ds)).run P w = .ok b w := by
            rw [run_equalIn_struct w 9999 T cs ds (by rw [hfo]; exact f3) f1, hfo]
            exact hrun
          rw [Sem.run_bind, run_eqGuard_agg w op T p q cs ds f2]
          simp only [Result.andThen_ok]
          split at h1
          · obtain rfl := Option.some.inj h1
            exact ⟨.bool b, by rw [run_eql_struct, heq]; rfl, .d _ _ (.v _ rfl)⟩
          · obtain rfl := Option.some.inj h1
            exact ⟨.bool !b, by rw [run_neq_struct, heq]; rfl, .d _ _ (.v _ rfl)⟩
          · cases h1
      · cases h1
  · exact hb h
end
end Go.Eng
end

section
namespace Go.Eng
open Go

section
variable {P : Program} {E : Env} {C : Ctx} {g : Gh} {F : St} {a : Act} {w : World}

theorem evBin_some {op : BinOp} {bl : Bool} {x y v : AV} {F F' : St} (h : (evBin op bl x y).run F = some (v, F')) : binAV op bl x y = some v ∧ F' = F := by
  unfold evBin at h
  split at h
  · replace h := Pr.need_some h
    obtain ⟨h1, h⟩ := h
    simp only [Pr.run, Option.some.injEq, Prod.mk.injEq] at h
    obtain ⟨rfl, rfl⟩ := h
    cases bl <;> simp [binAV, bin, h1]
  · split at h
    · rename_i hk
      subst hk
      replace h := Pr.need_some h
      obtain ⟨h1, h⟩ := h
      simp only [Pr.run, Option.some.injEq, Prod.mk.injEq] at h
      obtain ⟨rfl, rfl⟩ := h
      cases bl <;> simp [binAV, bin, h1]
    · cases h
  · split at h
    · rename_i hk
      subst hk
      replace h := Pr.need_some h
      obtain ⟨h1, h⟩ := h
      simp only [Pr.run, Option.some.injEq, Prod.mk.injEq] at h
      obtain ⟨rfl, rfl⟩ := h
      cases bl <;> simp [binAV, bin, h1]
    · cases h
  · replace h := Pr.need_some h
    obtain ⟨h1, h⟩ := h
    simp only [Pr.run, Option.some.injEq, Prod.mk.injEq] at h
    obtain ⟨rfl, rfl⟩ := h
    have : ¬ (_ : Int) < 0 := Int.not_lt.2 h1
    cases bl <;> simp [binAV, bin, this]
  · replace h := Pr.need_some h
    obtain ⟨h1, h⟩ := h
    simp only [Pr.run, Option.some.injEq, Prod.mk.injEq] at h
    obtain ⟨rfl, rfl⟩ := h
    have : ¬ (_ : Int) < 0 := Int.not_lt.2 h1
    cases bl <;> simp [binAV, bin, this]
  · exact Pr.opt_some h

theorem operandG_sound (hC : C.Z = E.ty) (h : Rel C g F a w) {e : Option TypeId} {o : Operand} {v : AV} {F' : St} (hr : (operandG E e o).run F = some (v, F')) : F' = F ∧ VRs C g F w v (a.eval o) := by
  unfold operandG at hr
  split at hr
  · rename_i n
    obtain ⟨p, F1, h1, hr2⟩ := Pr.bind_some hr
    obtain ⟨hp, rfl⟩ := Pr.opt_some h1
    rw [Option.bind_eq_some_iff] at hp
    obtain ⟨t, ht, hg⟩ := hp
    split at hr2
    · rename_i hl
      simp only [Pr.run, Option.some.injEq, Prod.mk.injEq] at hr2
      obtain ⟨rfl, rfl⟩ := hr2
      have hd := h.tabs t (by rw [hC]; exact ht) n p.1 p.2 hg |>.1
      refine ⟨rfl, ?_⟩
      have hz : ∃ te, C.Z p.1 = some te := by
        generalize hxx : D.sl p.1 p.2 = xx at hd
        generalize hvv : Value.slice (some ⟨n, 0, none⟩) p.2.length p.2.length = vv at hd
        cases hd with
        | v => cases hxx
        | agg => cases hxx
        | nil => injection hxx with _ q; rw [q] at hl; simp at hl
        | sl e l b o c t u q1 q2 => injection hxx with q _; subst q; exact ⟨t, q2⟩
      obtain ⟨te, hte⟩ := hz
      have := VR.eS (w := w) (S := Safe C g F1 w) (Z := C.Z) (L := live F1) (g := g) p.1 p.2 0 0 n 0 _ te hd hte hl
      simpa [Act.eval] using this
    · cases hr2
  · exact operand_sound h hr

theorem evOp_sound (hZ : ∀ T t, E.ty T = some t → TyFacts P E.ty T t) (hC : C.Z = E.ty) {ev : Ev} (hEv : SoundEv P C.Z ev) (h : Rel C g F a w) {u : Nat} {o : Oper} {v : AV} {F' : St} (hr : (evOp E u ev o).run F = some (v, F'))
    {next : Act → World → Prop} {Q : Exit → Act → World → Prop} (hn : ∀ g' x w', Rel C g' F' a w' → VRs C g' F' w' v x → next (a.put o.dst x) w') : o.wp P a w next Q := by
  -- a value in the same world
  have val : ∀ {x : Value}, (execOp a.eval o).run P w = .ok (.value x) w → F' = F → VRs C g F w v x → o.wp P a w next Q := fun h1 h2 h3 => by
    subst h2
    exact wp_value h1 (hn g _ w h h3)
  unfold evOp at hr
  cases hop : o.op <;> rw [hop] at hr
  case move x =>
    obtain ⟨rfl, hx⟩ := operand_sound h hr
    exact val (by simp [execOp, hop]) rfl hx
  case assign x =>
    obtain ⟨rfl, hx⟩ := operand_sound h hr
    exact val (by simp [execOp, hop]) rfl hx
  case pick c x y =>
    cases c with
    | tmp c =>
      rcases Pr.askS_some hr with ⟨t, hs, hr2⟩ | ⟨hs, hr2⟩
      · have hc := (h.slots c _ hs).2
        have hct : a.eval (.tmp c) = .bool t := hc.scalar_of.1
        simp only at hr2
        split at hr2
        · rename_i ht
          obtain ⟨rfl, hx⟩ := operand_sound h hr2
          exact val (by simp [execOp, hop, hct, asBool, ht]) rfl hx
        · rename_i ht
          obtain ⟨rfl, hx⟩ := operand_sound h hr2
          exact val (by simp [execOp, hop, hct, asBool, ht]) rfl hx
      · cases hr2
    | _ =>
      obtain ⟨cv, F1, h1, hr2⟩ := Pr.bind_some hr
      obtain ⟨rfl, hc⟩ := operand_sound h h1
      split at hr2
      · rename_i t
        have hct := hc.scalar_of.1
        simp only [Pr.run] at hr2
        split at hr2
        · rename_i ht
          obtain ⟨rfl, hx⟩ := operand_sound h hr2
          exact val (by simp [execOp, hop, hct, asBool, ht]) rfl hx
        · rename_i ht
          obtain ⟨rfl, hx⟩ := operand_sound h hr2
          exact val (by simp [execOp, hop, hct, asBool, ht]) rfl hx
      · cases hr2
  case alloc T =>
    obtain ⟨t, F1, h1, hr2⟩ := Pr.bind_some hr
    obtain ⟨hT, rfl⟩ := Pr.opt_some h1
    obtain ⟨z, F2, h2, hr3⟩ := Pr.bind_some hr2
    obtain ⟨hz, rfl⟩ := Pr.opt_some h2
    obtain ⟨g', x, w', k1, k2, k3⟩ := alloc_sound (P := P) hZ h hT hz hr3
    exact wp_value (by simp [execOp, hop, k1]) (hn g' x w' k2 k3)
  case box T x =>
    obtain ⟨xv, F1, h1, hr2⟩ := Pr.bind_some hr
    obtain ⟨rfl, hx⟩ := operand_sound h h1
    by_cases ht : isTup xv = true
    · cases xv <;> simp [isTup] at ht
      cases hr2
    · have hr3 : (newVar u 0 (leaves xv)).run F1 = some (v, F') := by
        cases xv <;> first | exact hr2 | exact absurd rfl ht
      obtain ⟨g', y, w', k1, k2, k3⟩ := box_sound (P := P) (T := T) h hx (by simpa using ht) hr3
      exact wp_value (by simp [execOp, hop, k1]) (hn g' y w' k2 k3)
  case build T parts =>
    obtain ⟨rfl, y, k1, k2⟩ := build_sound (P := P) hZ h hr
    exact val (by simp only [execOp, hop]; simp [k1]) rfl k2
  case buildSlice T n parts =>
    obtain ⟨t, F1, h1, hr2⟩ := Pr.bind_some hr
    obtain ⟨hT, rfl⟩ := Pr.opt_some h1
    obtain ⟨e, F2, h2, hr3⟩ := Pr.bind_some hr2
    obtain ⟨he, rfl⟩ := Pr.opt_some h2
    obtain ⟨te, F3, h3, hr4⟩ := Pr.bind_some hr3
    obtain ⟨hte, rfl⟩ := Pr.opt_some h3
    obtain ⟨l, F4, h4, hr5⟩ := Pr.bind_some hr4
    split at hr5
    · rename_i hc
      obtain ⟨z, hz⟩ := Option.isSome_iff_exists.1 hc.2.2.2
      obtain ⟨g', y, w', k1, k2, k3⟩ := buildSlice_sound (P := P) hZ hC h hT he hte h4 ⟨hc.1, hc.2.1, hc.2.2.1⟩ hz hr5
      exact wp_value (by simp only [execOp, hop]; simp [k1]) (hn g' y w' k2 k3)
    · cases hr5
  case load T x =>
    obtain ⟨xv, F1, h1, hr2⟩ := Pr.bind_some hr
    obtain ⟨rfl, hx⟩ := operand_sound h h1
    obtain ⟨rfl, y, k1, k2⟩ := evLoad_sound (P := P) hZ hC h hx hr2
    exact val (by simp [execOp, hop, k1]) rfl k2
  case store T x y =>
    obtain ⟨xv, F1, h1, hr2⟩ := Pr.bind_some hr
    obtain ⟨rfl, hx⟩ := operand_sound h h1
    obtain ⟨yv, F2, h2, hr3⟩ := Pr.bind_some hr2
    obtain ⟨rfl, hy⟩ := operand_sound h h2
    obtain ⟨_, F3, h3, hr4⟩ := Pr.bind_some hr3
    simp only [Pr.run, Option.some.injEq, Prod.mk.injEq] at hr4
    obtain ⟨rfl, rfl⟩ := hr4
    obtain ⟨w', k1, k2⟩ := evStore_sound (P := P) hZ hC h hx hy h3
    exact wp_skip' (by simp [execOp, hop, k1]) (hn g undef w' k2 (.tup [] #[] rfl (fun j a u hj => by simp at hj)))
  case nilCheck x =>
    obtain ⟨xv, F1, h1, hr2⟩ := Pr.bind_some hr
    obtain ⟨rfl, hx⟩ := operand_sound h h1
    split at hr2
    · rename_i p q off
      simp only [Pr.run, Option.some.injEq, Prod.mk.injEq] at hr2
      obtain ⟨rfl, rfl⟩ := hr2
      generalize hxe : a.eval x = xx at hx
      cases hx with
      | ptr _ _ _ hl => exact val (by simp [execOp, hop, hxe]) rfl (.ptr p q off hl)
    · cases hr2
  case binOp op T x y _ =>
    obtain ⟨xv, F1, h1, hr2⟩ := Pr.bind_some hr
    obtain ⟨rfl, hx⟩ := operand_sound h h1
    obtain ⟨yv, F2, h2, hr3⟩ := Pr.bind_some hr2
    obtain ⟨rfl, hy⟩ := operand_sound h h2
    obtain ⟨rfl, z, q1, q2⟩ := evBinA_sound (P := P) hZ T x y hx hy (fun hh => by
      obtain ⟨k1, rfl⟩ := evBin_some hh
      exact ⟨rfl, binAV_sound (P := P) hZ T x y hx hy k1⟩) hr3
    refine val (x := z) ?_ rfl q2
    simp only [execOp, hop]
    rw [Sem.run_bind, q1]
    rfl
  case unOp op T x =>
    obtain ⟨xv, F1, h1, hr2⟩ := Pr.bind_some hr
    obtain ⟨rfl, hx⟩ := operand_sound h h1
    split at hr2
    · rename_i y
      obtain ⟨z, F2, h2, hr3⟩ := Pr.bind_some hr2
      obtain ⟨k1, rfl⟩ := Pr.opt_some h2
      simp only [Pr.run, Option.some.injEq, Prod.mk.injEq] at hr3
      obtain ⟨rfl, rfl⟩ := hr3
      obtain ⟨q1, q2⟩ := un_sound (P := P) k1 w
      have hxe := hx.scalar_of.1
      exact val (x := z) (by simp [execOp, hop, hxe, q2]) rfl (.d _ _ (.v _ q1))
    · cases hr2
  case convert src dst x =>
    obtain ⟨xv, F1, h1, hr2⟩ := Pr.bind_some hr
    obtain ⟨rfl, hx⟩ := operand_sound h h1
    obtain ⟨rfl, y, k1, k2⟩ := convert_sound (P := P) hZ hC h hx hr2
    exact val (by simp [execOp, hop, k1]) rfl k2
  case makeFunc fn first cap =>
    obtain ⟨l, F1, h1, hr2⟩ := Pr.bind_some hr
    obtain ⟨rfl, l1, q1⟩ := operands_sound h _ h1
    obtain ⟨m, F2, h2, hr3⟩ := Pr.bind_some hr2
    obtain ⟨rfl, l2, q2⟩ := operands_sound h _ h2
    simp only [Pr.run, Option.some.injEq, Prod.mk.injEq] at hr3
    obtain ⟨rfl, rfl⟩ := hr3
    refine val (x := .func fn (first.map a.eval) (cap.map a.eval)) (by simp [execOp, hop, Instr.makeFunc]) rfl (.fn fn l m _ _ (by simpa using l1) (by simpa using l2) (fun j v x hj hx => ?_) (fun j v x hj hx => ?_))
    · simp only [Array.getElem?_map, Option.map_eq_some_iff] at hx
      obtain ⟨y, hy, rfl⟩ := hx
      exact q1 j v (y, 0) hj (by simp [hy])
    · simp only [Array.getElem?_map, Option.map_eq_some_iff] at hx
      obtain ⟨y, hy, rfl⟩ := hx
      exact q2 j v (y, 0) hj (by simp [hy])
  case makeSlice T x y =>
    obtain ⟨t, F1, h1, hr2⟩ := Pr.bind_some hr
    obtain ⟨hT, rfl⟩ := Pr.opt_some h1
    obtain ⟨e, F2, h2, hr3⟩ := Pr.bind_some hr2
    obtain ⟨he, rfl⟩ := Pr.opt_some h2
    obtain ⟨te, F3, h3, hr4⟩ := Pr.bind_some hr3
    obtain ⟨hte, rfl⟩ := Pr.opt_some h3
    obtain ⟨n, F4, h4, hr5⟩ := Pr.bind_some hr4
    obtain ⟨rfl, hx⟩ := operand_sound h h4
    obtain ⟨m, F5, h5, hr6⟩ := Pr.bind_some hr5
    obtain ⟨rfl, hy⟩ := operand_sound h h5
    split at hr6
    · rename_i i j
      split at hr6
      · rename_i hc0
        replace hr6 := Pr.need_some hr6
        obtain ⟨hc1, hr6⟩ := hr6
        have hc : i = j ∧ 0 ≤ i ∧ i.toNat * te.bytes ≤ maxRow ∧ 0 < te.size ∧ 0 < te.bytes := ⟨hc1.1, hc1.2.1, hc1.2.2, hc0.1, hc0.2⟩
        obtain ⟨z, F6, h6, hr7⟩ := Pr.bind_some hr6
        obtain ⟨hz, rfl⟩ := Pr.opt_some h6
        obtain ⟨zd, F7, h7, hr8⟩ := Pr.bind_some hr7
        obtain ⟨hzd, rfl⟩ := Pr.opt_some h7
        obtain ⟨xd, F8, h8, hr9⟩ := Pr.bind_some hr8
        obtain ⟨hxd, rfl⟩ := Pr.opt_some h8
        obtain ⟨rfl, c2, c3, c4, c5⟩ := hc
        have e1 := hx.scalar_of.1
        have e2 := hy.scalar_of.1
        obtain ⟨g', r, w', k1, k2, k3⟩ := makeSlice_sound (P := P) (k1 := .i64) (k2 := .i64) hZ hC h hT he hte ⟨c2, c3, c4, c5⟩ hz hzd hxd hr9
        exact wp_value (by simp [execOp, hop, e1, e2, k1]) (hn g' r w' k2 k3)
      · cases hr6
    · cases hr6
  case slice T x lo hi mx =>
    cases mx with
    | some m => cases hr
    | none =>
      obtain ⟨xv, F1, h1, hr2⟩ := Pr.bind_some hr
      obtain ⟨rfl, hx⟩ := operand_sound h h1
      have fin : ∀ {lo' hi' : Option AV}, BoundIs C g F1 w lo' (lo.map a.eval) → BoundIs C g F1 w hi' (hi.map a.eval) → (evSlice E T u xv lo' hi').run F1 = some (v, F') → o.wp P a w next Q := by
        intro lo' hi' b1 b2 b3
        obtain ⟨g', y, w', k1, k2, k3⟩ := slice_sound (P := P) hZ hC h hx b1 b2 b3
        exact wp_value (by simp [execOp, hop, k1]) (hn g' y w' k2 k3)
      cases lo with
      | none => cases hi with
        | none => exact fin (lo' := none) (hi' := none) trivial trivial hr2
        | some b =>
          obtain ⟨bv, F2, h2, hr3⟩ := Pr.bind_some hr2
          obtain ⟨rfl, hb⟩ := operand_sound h h2
          exact fin (lo' := none) (hi' := some bv) trivial hb hr3
      | some l => cases hi with
        | none =>
          obtain ⟨bv, F2, h2, hr3⟩ := Pr.bind_some hr2
          obtain ⟨rfl, hb⟩ := operand_sound h h2
          exact fin (lo' := some bv) (hi' := none) hb trivial hr3
        | some b =>
          obtain ⟨lv, F2, h2, hr3⟩ := Pr.bind_some hr2
          obtain ⟨rfl, hl⟩ := operand_sound h h2
          obtain ⟨bv, F3, h3, hr4⟩ := Pr.bind_some hr3
          obtain ⟨rfl, hb⟩ := operand_sound h h3
          exact fin (lo' := some lv) (hi' := some bv) hl hb hr4
  case fieldAddr T x f =>
    obtain ⟨xv, F1, h1, hr2⟩ := Pr.bind_some hr
    obtain ⟨rfl, hx⟩ := operand_sound h h1
    obtain ⟨rfl, y, k1, k2⟩ := fieldAddr_sound (P := P) hZ hx hr2
    exact val (by simp [execOp, hop, k1]) rfl k2
  case field T x f =>
    obtain ⟨xv, F1, h1, hr2⟩ := Pr.bind_some hr
    obtain ⟨rfl, hx⟩ := operand_sound h h1
    obtain ⟨rfl, y, k1, k2⟩ := field_sound (P := P) hZ hx hr2
    exact val (by simp [execOp, hop, k1]) rfl k2
  case indexAddr T x i =>
    obtain ⟨xv, F1, h1, hr2⟩ := Pr.bind_some hr
    obtain ⟨rfl, hx⟩ := operandG_sound hC h h1
    obtain ⟨iv, F2, h2, hr3⟩ := Pr.bind_some hr2
    obtain ⟨rfl, hi⟩ := operand_sound h h2
    obtain ⟨rfl, y, k1, k2⟩ := indexAddr_sound (P := P) hZ hC h hx hi hr3
    exact val (by simp [execOp, hop, k1]) rfl k2
  case index T x i =>
    obtain ⟨xv, F1, h1, hr2⟩ := Pr.bind_some hr
    obtain ⟨rfl, hx⟩ := operand_sound h h1
    obtain ⟨iv, F2, h2, hr3⟩ := Pr.bind_some hr2
    obtain ⟨rfl, hi⟩ := operand_sound h h2
    obtain ⟨rfl, y, k1, k2⟩ := index_sound (P := P) hZ hx hi hr3
    exact val (by simp [execOp, hop, k1]) rfl k2
  case extract x i =>
    obtain ⟨xv, F1, h1, hr2⟩ := Pr.bind_some hr
    obtain ⟨rfl, hx⟩ := operand_sound h h1
    split at hr2
    · rename_i l
      obtain ⟨k1, rfl⟩ := Pr.opt_some hr2
      generalize hxe : a.eval x = xx at hx
      cases hx with
      | tup _ cs q1 q2 =>
        have hlt : i < cs.size := by rw [← q1]; exact (List.getElem?_eq_some_iff.1 k1).1
        have hu : cs[i]? = some cs[i] := Array.getElem?_eq_getElem hlt
        exact val (x := cs[i]) (by simp [execOp, hop, hxe, Instr.extract, hu]) rfl (q2 i v _ k1 hu)
    · cases hr2
  case call c => exact call_sound hZ hC hEv h hop hr hn
  case range T x =>
    obtain ⟨xv, F1, h1, hr2⟩ := Pr.bind_some hr
    obtain ⟨rfl, hx⟩ := operand_sound h h1
    split at hr2
    · rename_i s
      split at hr2
      · rename_i hstr
        have hu : P.underlying T = some .string := by
          cases hT : E.ty T with
          | none => rw [hT] at hstr; cases hstr
          | some t => rw [hT] at hstr; exact (hZ T t hT).str hstr
        have hxe := hx.scalar_of.1
        obtain ⟨g', k2, k3⟩ := newOb_sound h hr2 (ob := .stringIter s 0) (.inr ⟨.it s 0, [], rfl, rfl, heap_alloc_new w _⟩)
        exact wp_value (by simp only [execOp, hop, hxe]; rw [Sem.run_bind, run_range_string w T s hu]; rfl) (hn g' _ _ k2 k3)
      · cases hr2
    · cases hr2
  case next x st =>
    cases st with
    | false => cases hr
    | true =>
      obtain ⟨xv, F1, h1, hr2⟩ := Pr.bind_some hr
      obtain ⟨rfl, hx⟩ := operand_sound h h1
      split at hr2
      · rename_i p q
        simp only [Pr.run] at hr2
        split at hr2
        · rename_i s pos hc
          generalize hxe : a.eval x = xx at hx
          cases hx with
          | ptr _ _ _ hl =>
            obtain ⟨n1, n2⟩ := next_sound (P := P) h hc o.type
            simp only [Pr.run] at hr2
            by_cases hp : pos < s.size
            · simp only [hp, decide_true, if_true, Pr.run, Option.some.injEq, Prod.mk.injEq] at hr2
              obtain ⟨rfl, rfl⟩ := hr2
              obtain ⟨w', k1, k2⟩ := n1 hp
              refine wp_value (by simp only [execOp, hop, hxe]; rw [Sem.run_bind, k1]; rfl) (hn g _ w' k2 (.tup _ _ rfl (fun j v u hj hu => ?_)))
              match j with
              | 0 => simp at hj hu; subst hj; subst hu; exact .d _ _ (.v _ rfl)
              | 1 => simp at hj hu; subst hj; subst hu; exact .d _ _ (.v _ rfl)
              | 2 => simp at hj hu; subst hj; subst hu; exact .d _ _ (.v _ rfl)
              | n + 3 => simp at hj
            · simp only [hp, decide_false, Bool.false_eq_true, if_false, Pr.run, Option.some.injEq, Prod.mk.injEq] at hr2
              obtain ⟨rfl, rfl⟩ := hr2
              refine wp_value (by simp only [execOp, hop, hxe]; rw [Sem.run_bind, n2 hp]; rfl) (hn g _ w h (.tup _ _ rfl (fun j v u hj hu => ?_)))
              match j with
              | 0 => simp at hj hu; subst hj; subst hu; exact .d _ _ (.v _ rfl)
              | n + 1 => simp at hj
        · cases hr2
      · cases hr2
  all_goals cases hr
end
end Go.Eng
end

section
namespace Go.Eng
open Go

/-- The live slots' values. -/
def liveVals (F : St) : List Nat → List (Nat × AV)
  | [] => []
  | k :: r => match F (.s k) with
    | .val v => (k, v) :: liveVals F r
    | _ => liveVals F r

def varsOf (F : St) : List (Nat × Nat) → List ((Nat × Nat) × List AV)
  | [] => []
  | p :: r => match F (.x p.1 p.2) with
    | .obj c => (p, c) :: varsOf F r
    | _ => varsOf F r

def reachSt (F : St) : Nat → List (Nat × Nat) → List (Nat × Nat)
  | 0, vs => vs
  | n + 1, vs => reachSt F n (addNew vs (refsL ((varsOf F vs).flatMap (·.2))))

def inVs (vs : List (Nat × Nat)) (p : Nat × Nat) : Option (Nat × Nat) := if p ∈ vs then some p else none

/-- The slots' values go out: rows with them. -/
def headOut : List (Nat × AV) → Pr (List (Nat × AV))
  | [] => .ret []
  | (k, .nils e) :: r => (headOut r).bind fun l => .ret ((k, .own e []) :: l)
  | (k, .row a b) :: r => .get (.r a b) fun
    | .own e l => .set (.r a b) .gone ((headOut r).bind fun l' => .ret ((k, .own e l) :: l'))
    | .fro e l => (headOut r).bind fun l' => .ret ((k, .d (.sl e l)) :: l')
    | _ => headOut r
  | (k, v) :: r => (headOut r).bind fun l => .ret ((k, v) :: l)

def headRen (vs : List (Nat × Nat)) : List (Nat × AV) → List (Nat × AV)
  | [] => []
  | (k, .eS e l i off) :: r => (k, .eS e l i off) :: headRen vs r
  | (k, v) :: r => match v.ren (inVs vs) with
    | some v' => (k, v') :: headRen vs r
    | none => headRen vs r

def base (vs : List (Nat × Nat)) : St := fun
  | .x a b => if (a, b) ∈ vs then .gone else .dead
  | _ => .dead

def setHeads : List (Nat × AV) → Pr Unit
  | [] => .ret ()
  | (k, v) :: r => (attach1 (2000000 + k) 0 v).bind fun x => .set (.s k) (.val x) (setHeads r)

def fresh (vs : List (Nat × Nat)) (cs : List (List AV)) (sl : List (Nat × AV)) : Option St :=
  (((takeBack 1000000 1 vs cs).bind fun _ => setHeads sl).run (base vs)).map (·.2)

def varIdx (n : Nat) : List (Nat × Nat) := (List.range n).map fun i => (i, 1)

/-- What is known at a loop's head. -/
structure HD where
  vs : List (Nat × Nat)
  cs : List (List AV)
  sl : List (Nat × AV)

/-- A state's head data. -/
def normH (live : List Nat) (F : St) : Option HD :=
  let sv := liveVals F live
  let vs := (varsOf F (reachSt F 3 (addNew (varIdx 8) (refsL (sv.map (·.2)))))).map (·.1)
  if nodupB vs && (varIdx 8).all (fun p => match F (.x p.1 p.2) with | .dead => true | _ => vs.contains p) then
    (((headOut sv).bind fun l => (lend vs).bind fun cs => .ret (l, cs)).run F).bind fun p =>
    (p.1.2.mapM (renL (inVs vs))).map fun cs' => ⟨vs, cs', headRen vs p.1.1⟩
  else none
def freshH (H : HD) : Option St := fresh H.vs H.cs H.sl

def norm (live : List Nat) (F : St) : Option St := (normH live F).bind freshH

/-- Every edge leads back. -/
def backs (ops : Array Oper) : Bool := (List.range ops.size).all fun i => match ops[i]? with
  | some o => o.after.all fun e => !Region.binds .any e || decide (e.on < i)
  | none => true

def evRegion (E : Env) (N : Nat) (ev : Ev) (id : Nat) (ops : Array Oper) (draw : Bool) (F : St) : Option St :=
  if draw && !(backs ops && ordered (Region.before ops) (logs E N id ev ops (List.range ops.size) F)) then none
  else evOps E N id ev ops (List.range ops.size) F

def Env.ybAt (E : Env) (f : FuncId) (i : Nat) : Option Yb := (E.ty 4).bind fun t => t.yb f i

/-- The live slots' values. -/
def liveP : List Nat → Pr (List (Nat × AV))
  | [] => .ret []
  | k :: r => .get (.s k) fun
    | .val v => (liveP r).bind fun l => .ret ((k, v) :: l)
    | _ => liveP r

/-- A range over a function: the record is laid; what is called; how the rounds have left it. -/
def rangePre (E : Env) (f i : Nat) (g0 : Operand) : Pr (FuncId × List AV) :=
  (operand none g0).bind fun
  | .fn (.func h) first cap =>
    if h = rnd then .fail else
    (liveP (E.live f i)).bind fun sv =>
    (borrows (sv.map (·.2))).bind fun bs => (freezeArgs (sv.map (·.2))).bind fun _ =>
    (newVar (i * 1000 + 998) 0 [.ob (.lp f i 0 (sv.map (·.1))) bs]).bind fun _ => .ret (h, first ++ [.yf (i * 1000 + 998) 0] ++ cap)
  | _ => .fail

def rangePost' (i : Nat) : Pr Nat := .get (.x (i * 1000 + 998) 0) fun
  | .obj [.ob (.lp f' i' st ks) cap'] => .set (.x (i * 1000 + 998) 0) .gone (.ret st)
  | _ => .fail

def rangeP (E : Env) (ev : Ev) (f i : Nat) (g0 : Operand) : Pr Nat :=
  (rangePre E f i g0).bind fun q => (evEnter (i * 1000 + 998) ev q.1 q.2).bind fun _ => rangePost' i

def evCode (E : Env) (f N : Nat) (ev : Ev) (k : Nat) : Code → St → Option (Ex × St)
  | .skip, F => some (.normal, F)
  | .region id ops draw, F => (evRegion E N ev id ops draw F).map fun F' => (.normal, F')
  | .seq a b, F => (evCode E f N ev k a F).bind fun
    | (.normal, F') => evCode E f N ev k b F'
    | r => some r
  | .cond c a b, F => ((operand none c).run F).bind fun p =>
    match p.1 with
    | .d (.v (.bool t)) => if t then evCode E f N ev k a F else evCode E f N ev k b F
    | _ => none
  | .block id c, F => (evCode E f N ev k c F).bind fun
    | (.exit j, F') => if j = id then some (.normal, F') else some (.exit j, F')
    | r => some r
  | .loop c, F => (iter (norm (E.live f (firstRegion c))) (evCode E f N ev k c) k F).bind fun r => (norm (E.out f (firstRegion c)) r.2).map fun F' => (r.1, F')
  | .rangeFunc g0 ps assign body, F => ((rangeP E ev f (rfId assign body) g0).run F).bind fun p => (exOf (exitsOf body) p.1).map fun ex => (ex, p.2)
  | .exit id, F => some (.exit id, F)
  | .ret, F => some (.ret, F)
  | _, _ => none


def argSlots : Nat → List AV → List (Nat × AV)
  | _, [] => []
  | i, a :: r => (i, a) :: argSlots (i + 1) r

def start (args : List AV) (pack : List (List AV)) : Option St := fresh (varIdx pack.length) pack (argSlots 0 args)

/-- What goes out. -/
def out1 (keep : Bool) : AV → Pr AV
  | .nils e => .ret (if keep then .own e [] else .d (.sl e []))
  | .row a b => .get (.r a b) fun
    | .own e l => if keep then .set (.r a b) .gone (.ret (.own e l)) else .set (.r a b) (.fro e l) (.ret (.d (.sl e l)))
    | .fro e l => .ret (.d (.sl e l))
    | _ => .fail
  | .d x => .ret (.d x)
  | _ => .fail

def out1L (keep : Bool) : List AV → Pr (List AV)
  | [] => .ret []
  | a :: r => (out1 keep a).bind fun x => (out1L keep r).bind fun l => .ret (x :: l)

/-- A closure's variables go out. -/
def outB : List AV → Pr (List AV)
  | [] => .ret []
  | .ptr a b 0 :: r => .get (.x a b) fun
    | .obj c => if plainC c = true then (toDs c).bind fun ds => .get (.x a b) fun
      | .obj _ => .set (.x a b) .gone ((outB r).bind fun l => .ret (.bx ds :: l))
      | _ => .fail
      else .fail
    | _ => .fail
  | .d x :: r => (outB r).bind fun l => .ret (.d x :: l)
  | _ => .fail

def outVal (keep : Bool) : AV → Pr AV
  | .fn f [] c => (outB c).bind fun c' => .ret (.fn f [] c')
  | .agg l => (out1L keep l).bind fun l' => .ret (mkAgg l')
  | a => out1 keep a

def outVals (keep : Bool) : List AV → Pr (List AV)
  | [] => .ret []
  | a :: r => (outVal keep a).bind fun x => (outVals keep r).bind fun l => .ret (x :: l)

def readResults (E : Env) : List ResultVar → Pr (List AV)
  | [] => .ret []
  | .tmp t :: r => (getS t).bind fun v => (readResults E r).bind fun l => .ret (v :: l)
  | .cell a T :: r => (getS a).bind fun p => (evLoad E T p).bind fun v => (readResults E r).bind fun l => .ret (v :: l)

def single : List AV → AV
  | [x] => x
  | l => .tup l

def okIdx (n : Nat) (p : Nat × Nat) : Option (Nat × Nat) := if p.2 = 1 ∧ p.1 < n then some p else none

def finish (E : Env) (keep : Bool) (rs : List ResultVar) (n : Nat) : Pr (AV × List (List AV)) :=
  (readResults E rs).bind fun l => (outVals keep l).bind fun l' => (lend (varIdx n)).bind fun p =>
  (Pr.opt ((single l').ren fun _ => none)).bind fun res => (Pr.opt (p.mapM (renL (okIdx n)))).bind fun p' => .ret (res, p')

def evBody (E : Env) (f : FuncId) (fn : Fun) (ev : Ev) (k : Nat) (args : List AV) (pack : List (List AV)) : Option (AV × List (List AV)) :=
  if args.length = fn.nparams ∧ fn.nparams ≤ fn.ntmps ∧ pack.length ≤ 8 then
    ((start args pack).bind fun F => evCode E f fn.ntmps ev k fn.body F).bind fun
    | (.exit _, _) => none
    | (_, F) => ((finish E (E.keep f) fn.results pack.length).run F).map (·.1)
  else none

/-- The record's state. -/
def setLp (m s t : Nat) : Pr Unit := .get (.x m 1) fun
  | .obj [.ob (.lp f i st ks) cap] => if st = s then .set (.x m 1) (.obj [.ob (.lp f i t ks) cap]) (.ret ()) else .fail
  | _ => .fail

def endRd (E : Env) (N m n : Nat) (ex : Ex) : Pr (AV × List (List AV)) :=
  (setLp m 1 (exCode ex)).bind fun _ => (putT N (some 0) (.d (.v (.bool (exCode ex == 0))))).bind fun _ => finish E false [.tmp 0] n

def nodupN : List Nat → Bool
  | [] => true
  | p :: r => !(r.contains p) && nodupN r

/-- A round of a range over a function: its record is the last argument. -/
def evRound (E : Env) (ev : Ev) (k : Nat) (args : List AV) (pack : List (List AV)) : Option (AV × List (List AV)) :=
  match args.getLast? with
  | some (.yf m 1) => match pack[m]? with
    | some [.ob (.lp f i 0 ks) cap] => match E.ybAt f i with
      | some y =>
        if args.length = y.ps.size + 1 ∧ ks.length = cap.length ∧ pack.length ≤ 8 ∧ (nodupN (ks ++ y.ps.toList) && (y.ps.toList.all (· < y.N) && (noRange y.assign && noRange y.body))) = true then
          (fresh (varIdx pack.length) pack (ks.zip cap ++ y.ps.toList.zip args)).bind fun F =>
          (evCode E f y.N ev k y.assign F).bind fun
          | (.normal, F1) => ((setLp m 0 1).run F1).bind fun p => (evCode E f y.N ev k y.body p.2).bind fun q => ((endRd E y.N m pack.length q.1).run q.2).map (·.1)
          | _ => none
        else none
      | none => none
    | _ => none
  | _ => none

def evFn (E : Env) : Nat → Ev
  | 0, _, _, _ => none
  | k + 1, f, args, pack =>
    if f = rnd then evRound E (evFn E k) k args pack else
    match E.ext f with
    | some g => g (evFn E k) args pack
    | none =>
      match E.fn f with
      | some fn => evBody E f fn (evFn E k) k args pack
      | none => none

end Go.Eng
end

section
namespace Go.Eng
open Go

section
variable {P : Program} {E : Env} {C : Ctx} {g : Gh} {F : St} {a : Act} {w : World} {ops : Array Oper}

theorem scalar_of_VR {S : Nat → Prop} {Z : TypeId → Option Ty} {L : Key → Prop} {u x : Value} (h : VR w S Z L g (.d (.v u)) x) : x = u := by
  cases h with
  | d _ _ h => cases h; rfl

theorem VR_undef {S : Nat → Prop} {Z : TypeId → Option Ty} {L : Key → Prop} : VR w S Z L g (.tup []) undef := .tup [] #[] rfl (fun j a u hj => by simp at hj)

theorem tup_nil_undef {S : Nat → Prop} {Z : TypeId → Option Ty} {L : Key → Prop} {x : Value} (h : VR w S Z L g (.tup []) x) : ∃ cs, x = .tuple cs := by
  cases h with
  | tup _ cs _ _ => exact ⟨cs, rfl⟩

theorem isWanted_sound (h : Rel C g F a w) {o : Oper} {b : Bool} {F' : St} (hr : (isWanted ops o).run F = some (b, F')) :
    F' = F ∧ Region.wanted o (yielded ops a.tmps) = b := by
  unfold isWanted at hr
  unfold Region.wanted
  cases hg : o.guard with
  | none =>
    simp only [hg, Pr.run, Option.some.injEq, Prod.mk.injEq] at hr
    obtain ⟨rfl, rfl⟩ := hr
    exact ⟨rfl, rfl⟩
  | some p =>
    obtain ⟨j, want⟩ := p
    simp only [hg] at hr
    obtain ⟨d, F1, h1, hr2⟩ := Pr.bind_some hr
    obtain ⟨hd, rfl⟩ := Pr.opt_some h1
    have key : ∀ {v : AV}, F1 (.s d) = .val v → a.tmps[d]? = some (a.tmps.getD d undef) ∧ VRs C g F1 w v (a.tmps.getD d undef) := fun {v} hv => by
      obtain ⟨hlt, hvr⟩ := h.slots d v hv
      exact ⟨by simp [Array.getD_eq_getD_getElem?, hlt], hvr⟩
    simp only
    unfold yielded
    rw [hd, Option.bind_some]
    rcases Pr.askS_some hr2 with ⟨t, hs, hr3⟩ | ⟨hs, hr3⟩
    · obtain ⟨hget, hvr⟩ := key hs
      rw [hget]
      generalize a.tmps.getD d undef = x at hvr
      simp only [Pr.run, Option.some.injEq, Prod.mk.injEq] at hr3
      obtain ⟨rfl, rfl⟩ := hr3
      rw [scalar_of_VR hvr]
      refine ⟨rfl, ?_⟩
      cases t <;> cases want <;> rfl
    · obtain ⟨hget, hvr⟩ := key hs
      rw [hget]
      generalize a.tmps.getD d undef = x at hvr
      simp only [Pr.run, Option.some.injEq, Prod.mk.injEq] at hr3
      obtain ⟨rfl, rfl⟩ := hr3
      obtain ⟨cs, rfl⟩ := tup_nil_undef hvr
      exact ⟨rfl, rfl⟩

theorem putT_sound (h : Rel C g F a w) {d : Option Nat} {v : AV} {x : Value} {F' : St} {r : Unit} (hv : VRs C g F w v x) (hr : (putT C.N d v).run F = some (r, F')) : Rel C g F' (a.put d x) w := by
  unfold putT at hr
  cases d with
  | none =>
    simp only [Pr.run, Option.some.injEq, Prod.mk.injEq] at hr
    obtain ⟨-, rfl⟩ := hr
    exact h
  | some d =>
    simp only at hr
    split at hr
    · rename_i hd
      simp only [Pr.run, Option.some.injEq, Prod.mk.injEq] at hr
      obtain ⟨-, rfl⟩ := hr
      exact h.put hd hv
    · cases hr

/-- Every function, whatever the depth; within a round of a range over a function, or not. -/
def FR (ro : Option Nat) : Fence := { Fence.wide with round := ro }

theorem steps_FR {ro : Option Nat} {m m' : Machine} : StepsIn (Machine.fenced P (FR ro)) P m m' ↔ Steps P m m' := stepsIn_wide (P := P)
theorem calls_FR {ro : Option Nat} {n : Nat} {f : FuncId} {args : Array Value} {w : World} {R : Ending → World → Prop} : CallsIn (FR ro) n P f args w R ↔ Calls P f args w R := callsIn_wide (P := P)

theorem wp_FR {ro : Option Nat} {n : Nat} {o : Oper} (hd : ∀ c, o.op ≠ .defer c) {next : Act → World → Prop} {Q : Exit → Act → World → Prop} (h : o.wp P a w next Q) : o.wpIn (FR ro) n P a w next Q := by
  refine ⟨fun _ _ => trivial, ?_⟩
  rw [Oper.semAt_eq _ _ _ hd]
  unfold Oper.wp at h
  generalize (execOp a.eval o).run P w = r at *
  cases r with
  | ok x w' =>
    cases x <;> simp only [Oper.upon, Oper.uponIn] at h ⊢ <;> first
      | exact h
      | exact ⟨fun hh => by simp [FR, Fence.wide] at hh, calls_FR.2 h⟩
      | exact ⟨fun hh => by simp [FR, Fence.wide] at hh, fun c cs _ => let ⟨v, w'', r, s⟩ := h c cs; ⟨v, w'', r, steps_FR.2 s⟩⟩
  | halt x w' => cases x <;> simp only [Oper.upon, Oper.uponIn] at h ⊢ <;> exact h

theorem noDefer {u : Nat} {ev : Ev} {o : Oper} {v : AV} {F' : St} (hr : (evOp E u ev o).run F = some (v, F')) : ∀ c, o.op ≠ .defer c := by
  intro c hc
  unfold evOp at hr
  rw [hc] at hr
  cases hr

theorem evYield_sound {ev : Ev} (hEv : SoundEv P C.Z ev) (h : Rel C g F a w) {u p q : Nat} {l : List AV} {vals : List Value} {v : AV} {F' : St} (hl : live F (.x p q)) (hlen : vals.length = l.length)
    (hv : ∀ (j : Nat) (v : AV) (x : Value), l[j]? = some v → vals[j]? = some x → VRs C g F w v x) (hr : (evYield u ev p q l).run F = some (v, F')) :
    RoundOf P (vals.toArray.push (.func (.yield (g.η p q)) #[] #[])) w (fun e w' => ∃ x g', e = .returned x ∧ Rel C g' F' a w' ∧ VRs C g' F' w' v x) := by
  unfold evYield at hr
  obtain ⟨v1, F1, h1, hr2⟩ := Pr.bind_some hr
  have := evEnter_round hEv h (vals := vals ++ [.func (.yield (g.η p q)) #[] #[]]) (by simp [hlen]) (fun j v x hj hx => by
    by_cases c1 : j < l.length
    · rw [List.getElem?_append_left c1] at hj
      rw [List.getElem?_append_left (by omega)] at hx
      exact hv j v x hj hx
    · have hj' := hj
      rw [List.getElem?_append_right (by omega)] at hj
      have e0 : j = l.length := by have := (List.getElem?_eq_some_iff.1 hj').1; simp at this; omega
      rw [List.getElem?_append_right (by omega)] at hx
      subst e0
      simp [hlen] at hj hx
      subst hj; subst hx
      exact .yf p q hl) h1
  rw [show (vals ++ [Value.func (.yield (g.η p q)) #[] #[]]).toArray = vals.toArray.push (.func (.yield (g.η p q)) #[] #[]) by simp] at this
  refine this.mono ?_
  rintro e w' ⟨x, g', rfl, r1, r2, -⟩
  unfold yieldPost at hr2
  split at hr2
  · rename_i t
    simp only [Pr.run] at hr2
    cases t with
    | false =>
      simp only [Bool.false_eq_true, if_false, Pr.run, Option.some.injEq, Prod.mk.injEq] at hr2
      obtain ⟨rfl, rfl⟩ := hr2
      exact ⟨x, g', rfl, r1, r2⟩
    | true =>
      simp only [if_true, Pr.run] at hr2
      split at hr2
      · rename_i f i st ks cap hc
        obtain ⟨hst, hr3⟩ := Pr.need_some hr2
        simp only [Pr.run, Option.some.injEq, Prod.mk.injEq] at hr3
        obtain ⟨rfl, rfl⟩ := hr3
        subst hst
        have e1 : F1.upd (.x p q) (.obj [.ob (.lp f i 0 ks) cap]) = F1 := by
          funext k
          unfold St.upd
          split
          · rename_i hk; rw [hk, hc]
          · rfl
        rw [e1]
        exact ⟨x, g', rfl, r1, r2⟩
      · cases hr2
  · cases hr2

theorem opY_sound {ro : Option Nat} {n : Nat} (hZ : ∀ T t, E.ty T = some t → TyFacts P E.ty T t) (hC : C.Z = E.ty) {ev : Ev} (hEv : SoundEv P C.Z ev) (h : Rel C g F a w) {u : Nat} {o : Oper} {v : AV} {F' : St}
    (hr : (evOpY E u ev o).run F = some (v, F')) {next : Act → World → Prop} {Q : Exit → Act → World → Prop} (hn : ∀ g' x w', Rel C g' F' a w' → VRs C g' F' w' v x → next (a.put o.dst x) w') : o.wpIn (FR ro) n P a w next Q := by
  have std : (evOp E u ev o).run F = some (v, F') → o.wpIn (FR ro) n P a w next Q := fun hr => wp_FR (noDefer hr) (evOp_sound hZ hC hEv h hr hn)
  unfold evOpY at hr
  split at hr
  · rename_i c hop
    unfold evCallY at hr
    split at hr
    · rename_i f hf
      obtain ⟨fv, F1, h1, hr2⟩ := Pr.bind_some hr
      obtain ⟨rfl, hfv⟩ := operand_sound h h1
      split at hr2
      · rename_i gg first cap
        exact std (by
          simp only [evOp, hop, evCall, hf]
          rw [Pr.run_bind, h1, Option.bind_some]
          exact hr2)
      · rename_i p q
        obtain ⟨l, F2, h2, hr3⟩ := Pr.bind_some hr2
        split at hr3
        · rename_i hlen
          obtain ⟨rfl, k1, k2⟩ := operands_sound h _ h2
          have hargs : ∀ (j : Nat) (v : AV) (x : Value), l[j]? = some v → (c.args.map a.eval).toList[j]? = some x → VRs C g F2 w v x := fun j v x hj hx => by
            obtain ⟨o', ho'⟩ : ∃ o', (c.args.toList.zip c.argTypes.toList)[j]? = some o' := ⟨_, List.getElem?_eq_getElem (by rw [← k1]; exact (List.getElem?_eq_some_iff.1 hj).1)⟩
            have hz := zip_get ho'
            have : x = a.eval o'.1 := by
              simp only [Array.toList_map, List.getElem?_map, Array.getElem?_toList, hz, Option.map_some, Option.some.injEq] at hx
              exact hx.symm
            rw [this]; exact k2 j v o' hj ho'
          generalize hfe : a.eval f = fval at hfv
          cases hfv with
          | yf _ _ hl =>
            obtain ⟨l0, r, ys, q1, q2, q3, q4⟩ := evYield_sound hEv h hl (vals := (c.args.map a.eval).toList) (by simp [hlen]) hargs hr3
            rw [Array.push_eq_push] at q1
            obtain ⟨e1, e2⟩ := q1
            simp only [Value.func.injEq, Fn.yield.injEq, and_true] at e1
            subst e1
            simp only [Array.toArray_toList] at e2
            subst e2
            have hd : ∀ c', o.op ≠ .defer c' := fun c' hc => by rw [hop] at hc; cases hc
            refine ⟨fun _ _ => trivial, ?_⟩
            rw [Oper.semAt_eq _ _ _ hd]
            have hrun : (execOp a.eval o).run P w = .ok (.round (g.η p q) r.fn ((r.params.zip (c.args.map a.eval)).foldl (fun tmps (t, a) => tmps.setIfInBounds t a) r.tmps) r.assign r.body) w := by
              have := run_yield (P := P) q2 q3
              simp only [execOp, hop, resolve, hf, hfe, Deferred.ofValue, Sem.run_bind, Sem.run_pure, Result.andThen_ok, invoke]
              simpa using this
            rw [hrun, Oper.uponIn_round]
            refine ⟨fun hh => by simp [FR, Fence.wide] at hh, ⟨trivial, fun c cs hroom => ?_⟩⟩
            obtain ⟨e, w', ⟨x, g', rfl, r1, r2⟩, hs⟩ := q4.2 c cs (by simp [Fence.room, Fence.wide])
            exact ⟨.returned x, w', hn g' x w' r1 r2, steps_FR.2 (stepsIn_wide.1 hs)⟩
        · cases hr3
      · cases hr2
    · exact std (by simp only [evOp, hop]; exact hr)
  · exact std hr

theorem step_sound {ro : Option Nat} {n : Nat} (hZ : ∀ T t, E.ty T = some t → TyFacts P E.ty T t) (hC : C.Z = E.ty) {ev : Ev} (hEv : SoundEv P C.Z ev) (h : Rel C g F a w) {u i : Nat} {o : Oper} (hi : ops[i]? = some o) {r : Unit} {F' : St}
    (hr : (evOper E C.N u ev ops o).run F = some (r, F')) {K : Act → World → Prop} {Q : Exit → Act → World → Prop} (hn : ∀ g' a' w', Rel C g' F' a' w' → K a' w') : wpOpIn (FR ro) n P ops Q i K a w := by
  unfold wpOpIn
  simp only [hi]
  unfold evOper at hr
  obtain ⟨b, F1, h1, hr2⟩ := Pr.bind_some hr
  obtain ⟨rfl, hb⟩ := isWanted_sound h h1
  rw [hb]
  cases b with
  | true =>
    simp only at hr2
    obtain ⟨v, F2, h2, hr3⟩ := Pr.bind_some hr2
    simp only [if_true]
    exact opY_sound hZ hC hEv h h2 (fun g' x w' hR hv => hn g' _ w' (putT_sound hR hv hr3))
  | false =>
    simp only at hr2
    simp only [Bool.false_eq_true, if_false]
    exact ⟨fun _ _ => trivial, hn g _ w (putT_sound h VR_undef hr2)⟩

theorem evOps_sound {ro : Option Nat} {n : Nat} (hZ : ∀ T t, E.ty T = some t → TyFacts P E.ty T t) (hC : C.Z = E.ty) {ev : Ev} (hEv : SoundEv P C.Z ev) {r : Nat} {Q : Exit → Act → World → Prop} :
    ∀ (l : List Nat) {g : Gh} {F : St} {a : Act} {w : World}, Rel C g F a w → ∀ {F' : St}, evOps E C.N r ev ops l F = some F' → (∀ g' a' w', Rel C g' F' a' w' → Q .normal a' w') → wpOpsIn (FR ro) n P ops Q l a w
  | [], g, F, a, w, h, F', hr, hn => by
    simp only [evOps, Option.some.injEq] at hr
    subst hr
    exact hn g a w h
  | i :: l, g, F, a, w, h, F', hr, hn => by
    rw [wpOpsIn_cons]
    simp only [evOps] at hr
    split at hr
    · cases hr
    · rename_i o ho
      cases h1 : (evOper E C.N (r * 1000 + i) ev ops o).run F with
      | none => rw [h1] at hr; cases hr
      | some p =>
        rw [h1] at hr
        exact step_sound hZ hC hEv h ho h1 fun g' a' w' hR => evOps_sound hZ hC hEv l hR hr hn

end
end Go.Eng
end

section
namespace Go.Eng
open Go

section
variable {α : Type}

theorem Pr.frame (p : Pr α) : ∀ {F F' : St} {v : α}, p.run F = some (v, F') → (∀ k, k ∉ (p.log F).2 → F' k = F k) ∧
    ∀ G : St, (∀ k ∈ (p.log F).1, G k = F k) → ∃ G', p.run G = some (v, G') ∧ (∀ k ∈ (p.log F).2, G' k = F' k) ∧ (∀ k, k ∉ (p.log F).2 → G' k = G k) := by
  induction p with
  | ret x =>
    intro F F' v h
    simp only [Pr.run, Option.some.injEq, Prod.mk.injEq] at h
    obtain ⟨rfl, rfl⟩ := h
    exact ⟨fun _ _ => rfl, fun G _ => ⟨G, rfl, fun k hk => by simp [Pr.log] at hk, fun _ _ => rfl⟩⟩
  | fail => intro F F' v h; cases h
  | get k f ih =>
    intro F F' v h
    simp only [Pr.run] at h
    obtain ⟨h1, h2⟩ := ih (F k) h
    refine ⟨fun j hj => h1 j hj, fun G hG => ?_⟩
    have hk : G k = F k := hG k (List.mem_cons_self ..)
    obtain ⟨G', a, b, c⟩ := h2 G fun j hj => hG j (List.mem_cons_of_mem _ hj)
    exact ⟨G', by simp only [Pr.run, hk]; exact a, b, c⟩
  | set k c p ih =>
    intro F F' v h
    simp only [Pr.run] at h
    obtain ⟨h1, h2⟩ := ih h
    have h1' : ∀ j, j ∉ k :: (p.log (F.upd k c)).2 → F' j = F j := fun j hj => by
      simp only [List.mem_cons, not_or] at hj
      rw [h1 j hj.2]
      simp [St.upd, hj.1]
    refine ⟨h1', fun G hG => ?_⟩
    obtain ⟨G', a, b, d⟩ := h2 (G.upd k c) fun j hj => by
      by_cases hjk : j = k
      · subst hjk; simp [St.upd]
      · simp only [St.upd, hjk, if_false]; exact hG j hj
    refine ⟨G', by simp only [Pr.run]; exact a, fun j hj => ?_, fun j hj => ?_⟩
    · simp only [Pr.log, List.mem_cons] at hj
      by_cases hm : j ∈ (p.log (F.upd k c)).2
      · exact b j hm
      · rcases hj with rfl | hj
        · rw [d _ hm, h1 _ hm]; simp [St.upd]
        · exact absurd hj hm
    · simp only [Pr.log, List.mem_cons, not_or] at hj
      rw [d j hj.2]
      simp [St.upd, hj.1]
  | ask b f ih => intro F F' v h; exact ih b h
  | askS k f ih =>
    intro F F' v h
    rcases Pr.askS_some h with ⟨t, hs, h1⟩ | ⟨hs, h1⟩
    · obtain ⟨h2, h3⟩ := ih _ h1
      have hl : (Pr.askS k f).log F = (k :: ((f (some t)).log F).1, ((f (some t)).log F).2) := by simp only [Pr.log, hs]
      rw [hl]
      refine ⟨h2, fun G hG => ?_⟩
      obtain ⟨G', a, b, c⟩ := h3 G fun j hj => hG j (List.mem_cons_of_mem _ hj)
      have hk : G k = F k := hG k (List.mem_cons_self ..)
      exact ⟨G', by simp only [Pr.run, hk, hs]; exact a, b, c⟩
    · obtain ⟨h2, h3⟩ := ih _ h1
      have hl : (Pr.askS k f).log F = (k :: ((f none).log F).1, ((f none).log F).2) := by simp only [Pr.log, hs]
      rw [hl]
      refine ⟨h2, fun G hG => ?_⟩
      obtain ⟨G', a, b, c⟩ := h3 G fun j hj => hG j (List.mem_cons_of_mem _ hj)
      have hk : G k = F k := hG k (List.mem_cons_self ..)
      exact ⟨G', by simp only [Pr.run, hk, hs]; exact a, b, c⟩
  | chk c d p ih =>
    intro F F' v h
    cases d with
    | isTrue hc =>
      obtain ⟨h1, h2⟩ := ih (show p.run F = some (v, F') from h)
      exact ⟨h1, h2⟩
    | isFalse hc => cases h
  | lookD o f ih =>
    intro F F' v h
    cases o with
    | none => cases h
    | some x => exact ih x h
  | lookN o f ih =>
    intro F F' v h
    cases o with
    | none => cases h
    | some x => exact ih x h
  | lookB o f ih =>
    intro F F' v h
    cases o with
    | none => cases h
    | some x => exact ih x h
  | lookR o f ih =>
    intro F F' v h
    cases o with
    | none => cases h
    | some x => exact ih x h
end

/-! ### The clash of two logs -/
theorem meets_false {a b : List Key} (h : meets a b = false) {k : Key} (h1 : k ∈ a) (h2 : k ∈ b) : False := by
  unfold meets at h
  have : (a.any fun k => b.contains k) = true := List.any_eq_true.2 ⟨k, h1, by simpa using h2⟩
  rw [this] at h
  cases h

/-! ### The numbers of 'before' -/
theorem before_fold (f : Array Nat → Oper → Nat) : ∀ (l : List Oper) (A : Array Nat), (l.foldl (fun acc o => acc.push (f acc o)) A).size = A.size + l.length ∧
    (∀ i, i < A.size → (l.foldl (fun acc o => acc.push (f acc o)) A).getD i 0 = A.getD i 0) ∧
    ∀ (i : Nat) (o : Oper), l[i]? = some o → ∃ B : Array Nat, B.size = A.size + i ∧ (∀ k, k < B.size → (l.foldl (fun acc o => acc.push (f acc o)) A).getD k 0 = B.getD k 0) ∧
      (l.foldl (fun acc o => acc.push (f acc o)) A).getD (A.size + i) 0 = f B o
  | [], A => ⟨rfl, fun _ _ => rfl, fun i o h => by simp at h⟩
  | x :: l, A => by
    obtain ⟨h1, h2, h3⟩ := before_fold f l (A.push (f A x))
    have h2' : ∀ i, i < A.size → (l.foldl (fun acc o => acc.push (f acc o)) (A.push (f A x))).getD i 0 = A.getD i 0 := fun i hi => by
      rw [h2 i (by simp; omega)]
      simp [Array.getD, hi, Array.getElem_push, show i < A.size + 1 from by omega]
    refine ⟨by simp only [List.foldl_cons, h1, Array.size_push, List.length_cons]; omega, h2', fun i o ho => ?_⟩
    cases i with
    | zero =>
      simp only [List.getElem?_cons_zero, Option.some.injEq] at ho
      subst ho
      refine ⟨A, rfl, fun k hk => h2' k hk, ?_⟩
      simp only [List.foldl_cons, Nat.add_zero]
      rw [h2 A.size (by simp)]
      simp [Array.getD]
    | succ i =>
      simp only [List.getElem?_cons_succ] at ho
      obtain ⟨B, b1, b2, b3⟩ := h3 i o ho
      refine ⟨B, by rw [b1, Array.size_push]; omega, b2, ?_⟩
      simp only [List.foldl_cons]
      rw [← b3, Array.size_push]
      congr 1
      omega

theorem bits_fold (B : Array Nat) (k : Nat) : ∀ (l : List Edge) (s : Nat), (l.foldl (fun s e => if Region.binds .any e then s ||| 2 ^ e.on ||| B.getD e.on 0 else s) s).testBit k = true →
    s.testBit k = true ∨ ∃ e ∈ l, Region.binds .any e = true ∧ (k = e.on ∨ (B.getD e.on 0).testBit k = true)
  | [], s, h => .inl h
  | e :: l, s, h => by
    simp only [List.foldl_cons] at h
    rcases bits_fold B k l _ h with h1 | ⟨x, hx, h2⟩
    · split at h1
      · rename_i hb
        simp only [Nat.testBit_or, Bool.or_eq_true] at h1
        rcases h1 with (h1 | h1) | h1
        · exact .inl h1
        · rw [Nat.testBit_two_pow] at h1
          exact .inr ⟨e, List.mem_cons_self .., hb, .inl (by simpa using (of_decide_eq_true h1).symm)⟩
        · exact .inr ⟨e, List.mem_cons_self .., hb, .inr h1⟩
      · exact .inl h1
    · exact .inr ⟨x, List.mem_cons_of_mem _ hx, h2⟩

theorem before_bit {ops : Array Oper} {i k : Nat} {o : Oper} (hi : ops[i]? = some o) (h : ((Region.before ops).getD i 0).testBit k = true) :
    ∃ e ∈ o.after, Region.binds .any e = true ∧ (k = e.on ∨ ((Region.before ops).getD e.on 0).testBit k = true) := by
  have hb : Region.before ops = ops.toList.foldl (fun acc o => acc.push (o.after.foldl (fun s e => if Region.binds .any e then s ||| 2 ^ e.on ||| acc.getD e.on 0 else s) 0)) #[] := by
    unfold Region.before
    rw [← Array.foldl_toList]
  obtain ⟨h1, h2, h3⟩ := before_fold (fun acc o => o.after.foldl (fun s e => if Region.binds .any e then s ||| 2 ^ e.on ||| acc.getD e.on 0 else s) 0) ops.toList #[]
  rw [← hb] at h1 h2 h3
  obtain ⟨B, b1, b2, b3⟩ := h3 i o (by simpa using hi)
  simp only [Array.size_empty, Nat.zero_add] at b1 b3
  rw [b3, ← Array.foldl_toList] at h
  rcases bits_fold B k o.after.toList 0 h with h4 | ⟨e, he, h5, h6⟩
  · simp at h4
  · refine ⟨e, by simpa using he, h5, h6.imp id fun h7 => ?_⟩
    by_cases hlt : e.on < B.size
    · rw [b2 _ hlt]; exact h7
    · rw [Array.getD, dif_neg hlt] at h7; simp at h7

/-! ### A part of the operations -/
def mix (tr : Nat → St) (lg : Nat → List Key × List Key) (L : Nat → Bool) : Nat → St
  | 0 => tr 0
  | i + 1 => fun k => if L i = true ∧ k ∈ (lg i).2 then tr (i + 1) k else mix tr lg L i k

theorem mix_none {tr : Nat → St} {lg : Nat → List Key × List Key} {L : Nat → Bool} : ∀ n, (∀ i, i < n → L i = false) → mix tr lg L n = tr 0
  | 0, _ => rfl
  | n + 1, h => by
    funext k
    simp only [mix, h n (by omega), Bool.false_eq_true, false_and, if_false]
    rw [mix_none n fun i hi => h i (by omega)]

theorem mix_prefix {tr : Nat → St} {lg : Nat → List Key × List Key} {L : Nat → Bool} {k : Key} : ∀ n, (∀ i, i < n → k ∉ (lg i).2 → tr (i + 1) k = tr i k) → (∀ i, i < n → L i = false → k ∉ (lg i).2) → mix tr lg L n k = tr n k
  | 0, _, _ => rfl
  | n + 1, h1, h2 => by
    simp only [mix]
    by_cases hk : k ∈ (lg n).2
    · have : L n = true := by cases hL : L n with
        | true => rfl
        | false => exact absurd hk (h2 n (by omega) hL)
      rw [if_pos ⟨this, hk⟩]
    · rw [if_neg (fun h => hk h.2), mix_prefix n (fun i hi => h1 i (by omega)) (fun i hi => h2 i (by omega)), h1 n (by omega) hk]

theorem mix_suffix {tr : Nat → St} {lg : Nat → List Key × List Key} {L : Nat → Bool} {k : Key} (m : Nat) : ∀ d, (∀ i, m ≤ i → i < m + d → L i = true → k ∉ (lg i).2) → mix tr lg L (m + d) k = mix tr lg L m k
  | 0, _ => rfl
  | d + 1, h => by
    rw [← Nat.add_assoc]
    simp only [mix]
    rw [if_neg (fun hc => h (m + d) (by omega) (by omega) hc.1 hc.2), mix_suffix m d fun i h1 h2 => h i h1 (by omega)]

theorem mix_off {tr : Nat → St} {lg : Nat → List Key × List Key} {L L' : Nat → Bool} {k : Key} {i : Nat} (hL : ∀ j, j ≠ i → L' j = L j) (hk : k ∉ (lg i).2) : ∀ n, mix tr lg L' n k = mix tr lg L n k
  | 0 => rfl
  | n + 1 => by
    simp only [mix]
    rw [mix_off hL hk n]
    by_cases hn : n = i
    · subst hn
      rw [if_neg (fun h => hk h.2), if_neg (fun h => hk h.2)]
    · rw [hL n hn]

/-- The run in the order of the text, operation by operation. -/
structure Trace (E : Env) (N r : Nat) (ev : Ev) (ops : Array Oper) (tr : Nat → St) (lg : Nat → List Key × List Key) (s n : Nat) : Prop where
  step : ∀ i, s ≤ i → i < s + n → ∃ o, ops[i]? = some o ∧ (evOper E N (r * 1000 + i) ev ops o).run (tr i) = some ((), tr (i + 1)) ∧ lg i = (evOper E N (r * 1000 + i) ev ops o).log (tr i)

theorem trace_of {E : Env} {N r : Nat} {ev : Ev} {ops : Array Oper} : ∀ (n s : Nat) {F F' : St}, evOps E N r ev ops (List.range' s n) F = some F' →
    ∃ tr lg, Trace E N r ev ops tr lg s n ∧ tr s = F ∧ tr (s + n) = F' ∧ (logs E N r ev ops (List.range' s n) F).length = n ∧ ∀ i, i < n → (logs E N r ev ops (List.range' s n) F).getD i ([], []) = lg (s + i)
  | 0, s, F, F', h => by
    simp only [List.range'_zero, evOps, Option.some.injEq] at h
    subst h
    exact ⟨fun _ => F, fun _ => ([], []), ⟨fun i _ _ => by omega⟩, rfl, rfl, rfl, fun i hi => by omega⟩
  | n + 1, s, F, F', h => by
    simp only [List.range'_succ, evOps] at h
    split at h
    · cases h
    · rename_i o ho
      cases h1 : (evOper E N (r * 1000 + s) ev ops o).run F with
      | none => rw [h1] at h; cases h
      | some p =>
        obtain ⟨⟨⟩, F1⟩ := p
        rw [h1] at h
        simp only [Option.bind_some] at h
        obtain ⟨tr, lg, ht, t0, t1, t2, t3⟩ := trace_of n (s + 1) h
        refine ⟨fun i => if i = s then F else tr i, fun i => if i = s then (evOper E N (r * 1000 + s) ev ops o).log F else lg i, ⟨fun i hi hi2 => ?_⟩, by simp, ?_, ?_, fun i hi => ?_⟩
        · by_cases his : i = s
          · subst his
            refine ⟨o, ho, ?_, by simp⟩
            simp only [if_true, Nat.add_eq_left, Nat.one_ne_zero, if_false, t0]
            exact h1
          · obtain ⟨o', a, b, c⟩ := ht.step i (by omega) (by omega)
            refine ⟨o', a, ?_, ?_⟩
            · simp only [his, if_false, show i + 1 ≠ s from by omega]
              exact b
            · simp only [his, if_false]
              exact c
        · simp only [show s + (n + 1) ≠ s from by omega, if_false]
          rw [← t1]
          congr 1
          omega
        · simp only [List.range'_succ, logs, ho, h1, List.length_cons, t2]
        · simp only [List.range'_succ, logs, ho, h1]
          cases i with
          | zero => simp
          | succ i =>
            simp only [List.getD_cons_succ]
            rw [t3 i (by omega), if_neg (by omega)]
            congr 1
            omega

section
variable {P : Program} {E : Env} {C : Ctx} {ops : Array Oper}

theorem any_sound {ro : Option Nat} {n : Nat} (hZ : ∀ T t, E.ty T = some t → TyFacts P E.ty T t) (hC : C.Z = E.ty) {ev : Ev} (hEv : SoundEv P C.Z ev) {r : Nat} {Q : Exit → Act → World → Prop} {tr : Nat → St} {lg : Nat → List Key × List Key}
    (ht : Trace E C.N r ev ops tr lg 0 ops.size) (hb : backs ops = true)
    (hord : ∀ j i, j < ops.size → i < j → clash (lg i) (lg j) = false ∨ ((Region.before ops).getD j 0).testBit i = true)
    (hn : ∀ g' a' w', Rel C g' (tr ops.size) a' w' → Q .normal a' w') :
    ∀ (fuel : Nat) (listed : Array Bool) (U : List Nat) {g : Gh} {a : Act} {w : World}, listed.size = ops.size → U.length ≤ fuel → (∀ i, i < ops.size → listed.getD i true = false → i ∈ U) →
      (∀ j, j < ops.size → listed.getD j false = true → ∀ i, ((Region.before ops).getD j 0).testBit i = true → listed.getD i false = true) →
      Rel C g (mix tr lg (fun i => listed.getD i false) ops.size) a w → wpAnyIn (FR ro) n P .any ops Q fuel listed a w := by
  have hfr : ∀ i, i < ops.size → ∀ k, k ∉ (lg i).2 → tr (i + 1) k = tr i k := fun i hi k hk => by
    obtain ⟨o, -, a, b⟩ := ht.step i (by omega) (by omega)
    rw [b] at hk
    exact ((evOper E C.N (r * 1000 + i) ev ops o).frame a).1 k hk
  have both : ∀ {listed : Array Bool} {i : Nat}, listed.size = ops.size → i < ops.size → listed.getD i true = listed.getD i false := fun {listed i} h1 h2 => by
    simp [Array.getD, h1, h2]
  -- nothing left: the state of the text
  have all : ∀ {listed : Array Bool} {g : Gh} {a : Act} {w : World}, listed.size = ops.size → (∀ i, i < ops.size → listed.getD i true = true) → Rel C g (mix tr lg (fun i => listed.getD i false) ops.size) a w → Q .normal a w := fun {listed g a w} h1 h2 h3 => by
    have : mix tr lg (fun i => listed.getD i false) ops.size = tr ops.size := by
      funext k
      refine mix_prefix _ (fun i hi hk => hfr i hi k hk) (fun i hi hL => ?_)
      have h4 := h2 i hi
      rw [both h1 hi] at h4
      have hL := hL
      rw [hL] at h4
      cases h4
    rw [this] at h3
    exact hn _ _ _ h3
  -- nothing ready: nothing left
  have stuck : ∀ {listed : Array Bool}, listed.size = ops.size → Region.ready .any ops listed = [] → ∀ i, i < ops.size → listed.getD i true = true := fun {listed} h1 h2 => by
    intro i
    induction i using Nat.strongRecOn with
    | _ i ih =>
      intro hi
      cases hl : listed.getD i true with
      | true => rfl
      | false =>
        have : i ∈ Region.ready .any ops listed := mem_ready.2 ⟨hl, ops[i], Array.getElem?_eq_getElem hi, fun e he hbe => by
          have h3 : e.on < i := by
            unfold backs at hb
            have := List.all_eq_true.1 hb i (List.mem_range.2 hi)
            simp only [Array.getElem?_eq_getElem hi] at this
            have h5 := Array.all_eq_true_iff_forall_mem.1 this e he
            rw [hbe] at h5
            exact of_decide_eq_true (by simpa using h5)
          rw [← both h1 (by omega)]
          exact ih e.on h3 (by omega)⟩
        rw [h2] at this
        cases this
  intro fuel
  induction fuel with
  | zero =>
    intro listed U g a w h1 h2 h3 h4 h5
    have hU : U = [] := List.eq_nil_of_length_eq_zero (by omega)
    subst hU
    have h6 : ∀ i, i < ops.size → listed.getD i true = true := fun i hi => by
      cases hl : listed.getD i true with
      | true => rfl
      | false => exact absurd (h3 i hi hl) (by simp)
    refine ⟨?_, all h1 h6 h5⟩
    cases hrd : Region.ready .any ops listed with
    | nil => rfl
    | cons x xs =>
      have : x ∈ Region.ready .any ops listed := by rw [hrd]; exact List.mem_cons_self ..
      obtain ⟨k1, o, k2, -⟩ := mem_ready.1 this
      rw [h6 x (Array.getElem?_eq_some_iff.1 k2).1] at k1
      cases k1
  | succ fuel ih =>
    intro listed U g a w h1 h2 h3 h4 h5
    refine ⟨fun hrd => all h1 (stuck h1 hrd) h5, fun i hi => ?_⟩
    obtain ⟨k1, o, k2, k3⟩ := mem_ready.1 hi
    have hlt : i < ops.size := (Array.getElem?_eq_some_iff.1 k2).1
    obtain ⟨o', m1, m2, m3⟩ := ht.step i (by omega) (by omega)
    rw [k2] at m1
    obtain rfl := Option.some.inj m1
    have hun : listed.getD i false = false := by rw [← both h1 hlt]; exact k1
    -- what it builds on is listed
    have pre : ∀ j, ((Region.before ops).getD i 0).testBit j = true → listed.getD j false = true := fun j hj => by
      obtain ⟨e, he, hbd, hej⟩ := before_bit k2 hj
      have hl := k3 e he hbd
      rcases hej with rfl | hej
      · exact hl
      · have helt : e.on < ops.size := by
          rw [← h1]
          rcases Nat.lt_or_ge e.on listed.size with h | h
          · exact h
          · simp [Array.getElem?_eq_none h] at hl
        exact h4 e.on helt hl j hej
    have c1 : ∀ j, j < i → listed.getD j false = false → clash (lg j) (lg i) = false := fun j hj hL =>
      (hord i j hlt hj).resolve_right fun h => by rw [pre j h] at hL; cases hL
    have c2 : ∀ j, i < j → j < ops.size → listed.getD j false = true → clash (lg i) (lg j) = false := fun j hj hjl hL =>
      (hord j i hjl hj).resolve_right fun h => by rw [h4 j hjl hL i h] at hun; cases hun
    -- it reads what it read
    have rd : ∀ k ∈ (lg i).1, mix tr lg (fun i => listed.getD i false) ops.size k = tr i k := fun k hk => by
      have e1 : mix tr lg (fun i => listed.getD i false) (i + (ops.size - i)) k = mix tr lg (fun i => listed.getD i false) i k := mix_suffix i _ fun j hj hj2 hL hkw => by
        have hL := hL
        rcases Nat.lt_or_ge i j with hij | hij
        · have := c2 j hij (by omega) hL
          simp only [clash, Bool.or_eq_false_iff] at this
          exact meets_false this.2 hk hkw
        · have : j = i := by omega
          subst this
          rw [hun] at hL; cases hL
      rw [show i + (ops.size - i) = ops.size from by omega] at e1
      rw [e1]
      refine mix_prefix _ (fun j hj hkw => hfr j (by omega) k hkw) (fun j hj hL hkw => ?_)
      have := c1 j hj hL
      simp only [clash, Bool.or_eq_false_iff] at this
      exact meets_false this.1 hkw (List.mem_append_left _ hk)
    obtain ⟨-, hf⟩ := (evOper E C.N (r * 1000 + i) ev ops o).frame m2
    rw [← m3] at hf
    obtain ⟨G', g1, g2, g3⟩ := hf _ rd
    have hL' : ∀ j, j ≠ i → (listed.setIfInBounds i true).getD j false = listed.getD j false := fun j hj => getD_set_ne false (Ne.symm hj)
    have hLi : (listed.setIfInBounds i true).getD i false = true := by
      simp [Array.getD, h1, hlt]
    have hG : G' = mix tr lg (fun j => (listed.setIfInBounds i true).getD j false) ops.size := by
      funext k
      by_cases hk : k ∈ (lg i).2
      · rw [g2 k hk]
        have e1 : mix tr lg (fun j => (listed.setIfInBounds i true).getD j false) ((i + 1) + (ops.size - (i + 1))) k = mix tr lg (fun j => (listed.setIfInBounds i true).getD j false) (i + 1) k := mix_suffix (i + 1) _ fun j hj hj2 hL hkw => by
          have hL := hL
          rw [hL' j (by omega)] at hL
          have := c2 j (by omega) (by omega) hL
          simp only [clash, Bool.or_eq_false_iff] at this
          exact meets_false this.1 hk (List.mem_append_right _ hkw)
        rw [show (i + 1) + (ops.size - (i + 1)) = ops.size from by omega] at e1
        rw [e1]
        simp only [mix]
        rw [if_pos ⟨hLi, hk⟩]
      · rw [g3 k hk]
        exact (mix_off (L := fun j => listed.getD j false) hL' hk _).symm
    rw [hG] at g1
    refine step_sound hZ hC hEv h5 k2 g1 fun g' a' w' hR => ih _ (U.erase i) (by simpa using h1) ?_ (fun j hj hjl => ?_) (fun j hj hjl k hk => ?_) hR
    · have : i ∈ U := h3 i hlt k1
      rw [List.length_erase_of_mem this]
      omega
    · by_cases hji : j = i
      · subst hji
        rw [both (by simpa using h1) hj, hLi] at hjl
        cases hjl
      · rw [getD_set_ne true (Ne.symm hji)] at hjl
        exact (List.mem_erase_of_ne hji).2 (h3 j hj hjl)
    · by_cases hji : j = i
      · subst hji
        exact getD_set_true (pre k hk)
      · rw [hL' j hji] at hjl
        exact getD_set_true (h4 j hj hjl k hk)

theorem Rel.drawn {g : Gh} {F : St} {a : Act} {w : World} (h : Rel C g F a w) (n : Nat) : Rel C g F a { w with drawn := n } := by
  have hx : Ext w (Safe C g F w) (live F) g { w with drawn := n } (Safe C g F { w with drawn := n }) (live F) g :=
    ⟨fun b hs => ⟨hs, rfl⟩, fun p q hp => ⟨hp, rfl⟩, fun p q hp => ⟨hp, rfl⟩⟩
  refine h.change hx (fun k u hu => .inl ⟨hu, rfl⟩) (fun p q c hc => .inl ⟨hc, rfl⟩) (fun p q e l hc => .inl ⟨hc, fun _ _ => rfl⟩) (fun p q e l hc => .inl hc) h.inj h.wr (Nat.le_refl _) ?_ rfl h.size
  have := h.keep
  exact ⟨this.os, this.tape, this.output, this.size, this.block⟩

theorem region_sound {ro : Option Nat} {n : Nat} (hm : P.follows .mixedOrders = true) (hZ : ∀ T t, E.ty T = some t → TyFacts P E.ty T t) (hC : C.Z = E.ty) {ev : Ev} (hEv : SoundEv P C.Z ev) {id : Nat} {draw : Bool} {Q : Exit → Act → World → Prop}
    {g : Gh} {F F' : St} {a : Act} {w : World} (h : Rel C g F a w) (hr : evRegion E C.N ev id ops draw F = some F') (hn : ∀ g' a' w', Rel C g' F' a' w' → Q .normal a' w') : (Code.region id ops draw).wpIn (FR ro) n P Q a w := by
  unfold evRegion at hr
  split at hr
  · cases hr
  · rename_i hd
    cases draw with
    | false => exact wpIn_region (evOps_sound hZ hC hEv _ h hr hn)
    | true =>
      simp only [Bool.true_and, Bool.not_eq_true', Bool.not_eq_false, Bool.and_eq_true] at hd
      obtain ⟨hb, hord⟩ := hd
      rw [List.range_eq_range'] at hr hord
      obtain ⟨tr, lg, ht, t0, t1, t2, t3⟩ := trace_of _ 0 hr
      simp only [Nat.zero_add] at t1 t3
      refine wpIn_region_any hm (any_sound hZ hC hEv ht hb (fun j i hj hij => ?_) (by rw [t1]; exact hn) _ _ (List.range ops.size) (by simp) (by simp) (fun i hi _ => List.mem_range.2 hi) (fun j hj hjl => ?_) (g := g) ?_)
      · unfold ordered at hord
        rw [t2] at hord
        have := List.all_eq_true.1 (List.all_eq_true.1 hord j (List.mem_range.2 hj)) i (List.mem_range.2 hij)
        rw [t3 i (by omega), t3 j hj] at this
        simp only [Bool.or_eq_true, Bool.not_eq_true'] at this
        exact this
      · simp [Array.getD, hj] at hjl
      · have : mix tr lg (fun i => (Array.replicate ops.size false).getD i false) ops.size = F := by
          rw [mix_none _ fun i hi => by simp [Array.getD, hi], t0]
        rw [this]
        exact h.drawn _
end
end Go.Eng
end

section
namespace Go.Eng
open Go

section
variable {P : Program} {E : Env} {C : Ctx} {g : Gh} {F : St} {a : Act} {w : World}

/-- Less is set aside. -/
theorem Rel.weakenR (h : Rel C g F a w) {R' : Nat → Prop} (hR : ∀ b, R' b → C.R b) : Rel (C.withR R') g F a w := by
  have hx : Ext w (Safe C g F w) (live F) g w (Safe (C.withR R') g F w) (live F) g :=
    ⟨fun b hb => ⟨⟨hb.1, hb.2.1, hb.2.2.1, fun hr => hb.2.2.2 (hR b hr)⟩, rfl⟩, fun _ _ hp => ⟨hp, rfl⟩, fun _ _ hp => ⟨hp, rfl⟩⟩
  exact h.changeR hx (fun k v hv => ⟨hv, rfl⟩) (fun p q c hc => .inl ⟨hc, rfl⟩) (fun p q e l hc => .inl ⟨hc, fun _ _ => rfl⟩) (fun p q e l hc => hc) h.inj
    (fun k b hk => ⟨(h.wr k b hk).1, fun hr => (h.wr k b hk).2 (hR b hr)⟩) (fun b hb => h.rlt b (hR b hb)) h.keep rfl h.size

/-- Nothing is known. -/
theorem Rel.reset (h : Rel C g F a w) (vs : List (Nat × Nat)) (hv : ∀ (i : Nat) b, C.pin[i]? = some b → (i, 1) ∈ vs) : Rel C g (base vs) a w where
  slots k v hv := by simp [base] at hv
  vars p q c hc := by simp only [base] at hc; split at hc <;> cases hc
  owns p q e l hc := by simp [base] at hc
  fros p q e l hc := by simp [base] at hc
  tabs := h.tabs.mono fun b hb => ⟨⟨hb.1, fun k hk => by
    cases k with
    | s k => exact hk.elim
    | x p q => obtain ⟨⟨c, hc⟩, _⟩ := hk; simp only [base] at hc; split at hc <;> cases hc
    | r p q => obtain ⟨⟨e, l, hc⟩, _⟩ := hk; simp [base] at hc, hb.2.2⟩, rfl⟩
  inj k k' b hk := by
    cases k with
    | s k => exact hk.elim
    | x p q => obtain ⟨⟨c, hc⟩, _⟩ := hk; simp only [base] at hc; split at hc <;> cases hc
    | r p q => obtain ⟨⟨e, l, hc⟩, _⟩ := hk; simp [base] at hc
  wr k b hk := by
    cases k with
    | s k => exact hk.elim
    | x p q => obtain ⟨⟨c, hc⟩, _⟩ := hk; simp only [base] at hc; split at hc <;> cases hc
    | r p q => obtain ⟨⟨e, l, hc⟩, _⟩ := hk; simp [base] at hc
  rlt := h.rlt
  keep := h.keep
  defers d hd := by
    obtain ⟨b, h1, h2, h3⟩ := h.defers d hd
    refine ⟨b, h1, ⟨h2.1, fun k hk => ?_, h2.2.2⟩, h3⟩
    cases k with
    | s k => exact hk.elim
    | x p q => obtain ⟨⟨c, hc⟩, _⟩ := hk; simp only [base] at hc; split at hc <;> cases hc
    | r p q => obtain ⟨⟨e, l, hc⟩, _⟩ := hk; simp [base] at hc
  dnodup := h.dnodup
  size := h.size
  pins i b hb := by
    obtain ⟨h1, h2, h3⟩ := h.pins i b hb
    exact ⟨h1, by simp [base, hv i b hb], h3⟩

theorem mutb_base {vs : List (Nat × Nat)} {k : Key} {b : Nat} : ¬ mutb g (base vs) k b := by
  intro hk
  cases k with
  | s k => exact hk.elim
  | x p q => obtain ⟨⟨c, hc⟩, _⟩ := hk; simp only [base] at hc; split at hc <;> cases hc
  | r p q => obtain ⟨⟨e, l, hc⟩, _⟩ := hk; simp [base] at hc

/-- A slot is told of. -/
theorem Rel.tell (h : Rel C g F a w) {k : Nat} (hk : k < C.N) {v : AV} (hv : VRs C g F w v (a.tmps.getD k undef)) : Rel C g (F.upd (.s k) (.val v)) a w := by
  have := h.put hk hv
  have e : a.put (some k) (a.tmps.getD k undef) = a := by
    obtain ⟨tmps, defers⟩ := a
    simp only [Act.put]
    congr 1
    apply Array.ext_getElem?
    intro i
    by_cases hi : k = i
    · subst hi
      by_cases hlt : k < tmps.size
      · simp [hlt]
      · simp [hlt]
    · simp [Array.getElem?_setIfInBounds_ne hi]
  rwa [e] at this

theorem ext_tell {k : Nat} {v : AV} : Ext w (Safe C g F w) (live F) g w (Safe C g (F.upd (.s k) (.val v)) w) (live (F.upd (.s k) (.val v))) g :=
  ⟨fun b hb => ⟨⟨hb.1, fun k' hk' => hb.2.1 k' (mutb_slot.1 hk'), hb.2.2⟩, rfl⟩, fun p q hp => ⟨by rw [live, upd_other _ _ (by simp)]; exact hp, rfl⟩, fun p q hp => ⟨by rw [live, upd_other _ _ (by simp)]; exact hp, rfl⟩⟩

theorem attachS_sound (h : Rel C g F a w) {u n : Nat} {v v' : AV} {x : Value} {F' : St} (hv : IV1 w (Safe C g F w) C.Z (live F) g v x) (hR : ∀ b ∈ ob1 v x, C.R b ∧ (C.W b ∨ C.w0.heap.size ≤ b))
    (hr : (attach1 u n v).run F = some (v', F')) :
    ∃ g', Rel (C.withR (unR C.R (ob1 v x))) g' F' a w ∧ Ext w (Safe C g F w) (live F) g w (Safe (C.withR (unR C.R (ob1 v x))) g' F' w) (live F') g' ∧
      VRs (C.withR (unR C.R (ob1 v x))) g' F' w v' x := by
  cases v with
  | own e l =>
    obtain ⟨g', h1, h2, -, h3, -⟩ := attach1_sound h hv rfl hR hr
    exact ⟨g', h1, h2, h3⟩
  | _ =>
    simp only [attach1, Pr.run, Option.some.injEq, Prod.mk.injEq] at hr
    obtain ⟨rfl, rfl⟩ := hr
    simp only [ob1, unR_nil, withR_self]
    exact ⟨g, h, .refl, hv⟩

/-- The blocks of the slots' values. -/
def obS (a : Act) : List (Nat × AV) → List Nat
  | [] => []
  | (k, v) :: r => ob1 v (a.tmps.getD k undef) ++ obS a r

theorem setHeads_sound : ∀ (sl : List (Nat × AV)) {C : Ctx} {g : Gh} {F : St} (h : Rel C g F a w) {F' : St} (S : Nat → Prop), (∀ b, S b → Safe C g F w b) →
    (∀ k v, (k, v) ∈ sl → k < C.N ∧ IV1 w S C.Z (live F) g v (a.tmps.getD k undef)) → (∀ b ∈ obS a sl, C.R b ∧ (C.W b ∨ C.w0.heap.size ≤ b)) → (obS a sl).Nodup →
    (setHeads sl).run F = some ((), F') → ∃ g', Rel (C.withR (unR C.R (obS a sl))) g' F' a w := by
  intro sl
  induction sl with
  | nil =>
    intro C g F h F' S hS hv hR hnd hr
    simp only [setHeads, Pr.run, Option.some.injEq, Prod.mk.injEq, true_and] at hr
    subst hr
    simp only [obS, unR_nil, withR_self]
    exact ⟨g, h⟩
  | cons kv r ih =>
    obtain ⟨k, v⟩ := kv
    intro C g F h F' S hS hv hR hnd hr
    simp only [setHeads] at hr
    obtain ⟨x, F1, h1, hr2⟩ := Pr.bind_some hr
    simp only [Pr.run] at hr2
    simp only [obS] at hR hnd ⊢
    have hnd2 := List.nodup_append.1 hnd
    obtain ⟨hk, hv0⟩ := hv k v (by simp)
    have lift : IV1 w (Safe C g F w) C.Z (live F) g v (a.tmps.getD k undef) := hv0.mono ⟨fun b hb => ⟨hS b hb, rfl⟩, fun _ _ hp => ⟨hp, rfl⟩, fun _ _ hp => ⟨hp, rfl⟩⟩ (fun _ _ => rfl)
    obtain ⟨g1, r1, e1, q1⟩ := attachS_sound h lift (fun b hb => hR b (List.mem_append_left _ hb)) h1
    have r2 := r1.tell hk q1
    have e2 := e1.trans (ext_tell (k := k) (v := x) (C := C.withR (unR C.R (ob1 v (a.tmps.getD k undef)))) (g := g1) (F := F1) (w := w))
    obtain ⟨g3, r3⟩ := ih r2 S (fun b hb => (e2.block b (hS b hb)).1) (fun k' v' hm => by
        obtain ⟨m1, m2⟩ := hv k' v' (List.mem_cons_of_mem _ hm)
        exact ⟨m1, m2.mono ⟨fun b hb => ⟨hb, rfl⟩, e2.x, e2.r⟩ (fun _ _ => rfl)⟩)
      (fun b hb => ⟨⟨(hR b (List.mem_append_right _ hb)).1, fun hb' => hnd2.2.2 b hb' b hb rfl⟩, (hR b (List.mem_append_right _ hb)).2⟩) hnd2.2.1 hr2
    have hRR : unR (C.withR (unR C.R (ob1 v (a.tmps.getD k undef)))).R (obS a r) = unR C.R (ob1 v (a.tmps.getD k undef) ++ obS a r) := unR_append _ _ _
    rw [hRR] at r3
    exact ⟨g3, r3⟩

theorem fresh_sound {vs : List (Nat × Nat)} {cs : List (List AV)} {sl : List (Nat × AV)} {s : List (Nat × Array Value)} (h : Rel C g (base vs) a w) (S : Nat → Prop) (hS : ∀ b, S b → Safe C g (base vs) w b)
    (hη : ∀ (i : Nat) (p : Nat × Nat) (y : Nat × Array Value), vs[i]? = some p → s[i]? = some y → g.η p.1 p.2 = y.1) (hvs : vs.Nodup) (hP : PackR w S C.Z (live (base vs)) g cs s)
    (hsl : ∀ k v, (k, v) ∈ sl → k < C.N ∧ IV1 w S C.Z (live (base vs)) g v (a.tmps.getD k undef)) (hR : ∀ b ∈ packB cs s ++ obS a sl, C.R b ∧ (C.W b ∨ C.w0.heap.size ≤ b)) (hnd : (packB cs s ++ obS a sl).Nodup)
    {F' : St} (hr : fresh vs cs sl = some F') : ∃ g', Rel (C.withR (unR C.R (packB cs s ++ obS a sl))) g' F' a w := by
  unfold fresh at hr
  simp only [Option.map_eq_some_iff] at hr
  obtain ⟨⟨⟨⟩, F2⟩, hr, rfl⟩ := hr
  obtain ⟨⟨⟩, F1, h1, h2⟩ := Pr.bind_some hr
  have hnd2 := List.nodup_append.1 hnd
  obtain ⟨g1, r1, e1⟩ := takeBack_sound 1000000 vs h (n := 1) (cs := cs) (s := s) S hS hη (fun p hp => by simp [base, hp]) hvs hP (fun b hb => hR b (List.mem_append_left _ hb)) hnd2.1 h1
  obtain ⟨g2, r2⟩ := setHeads_sound sl r1 S (fun b hb => (e1.block b (hS b hb)).1) (fun k v hm => by
      obtain ⟨m1, m2⟩ := hsl k v hm
      exact ⟨m1, m2.mono ⟨fun b hb => ⟨hb, rfl⟩, e1.x, e1.r⟩ (fun _ _ => rfl)⟩)
    (fun b hb => ⟨⟨(hR b (List.mem_append_right _ hb)).1, fun hb' => hnd2.2.2 b hb' b hb rfl⟩, (hR b (List.mem_append_right _ hb)).2⟩) hnd2.2.1 h2
  have hRR : unR (C.withR (unR C.R (packB cs s))).R (obS a sl) = unR C.R (packB cs s ++ obS a sl) := unR_append _ _ _
  rw [hRR] at r2
  exact ⟨g2, r2⟩

theorem liveVals_mem : ∀ {l : List Nat} {k : Nat} {v : AV}, (k, v) ∈ liveVals F l → F (.s k) = .val v := by
  intro l
  induction l with
  | nil => intro k v h; simp [liveVals] at h
  | cons k' r ih =>
    intro k v h
    simp only [liveVals] at h
    split at h
    · rename_i v' hv'
      rcases List.mem_cons.1 h with h | h
      · obtain ⟨rfl, rfl⟩ : k = k' ∧ v = v' := by simpa using h
        exact hv'
      · exact ih h
    · exact ih h

theorem headOut_sound : ∀ (sv : List (Nat × AV)) {C : Ctx} {g : Gh} {F : St} (h : Rel C g F a w) {l : List (Nat × AV)} {F' : St}, (∀ k v, (k, v) ∈ sv → k < C.N ∧ VRs C g F w v (a.tmps.getD k undef)) →
    (headOut sv).run F = some (l, F') → Rel (C.withR (addR C.R (obS a l))) g F' a w ∧ Ext w (Safe C g F w) (live F) g w (Safe (C.withR (addR C.R (obS a l))) g F' w) (live F') g ∧
      (∀ k v, (k, v) ∈ l → k < C.N ∧ IV1 w (Safe (C.withR (addR C.R (obS a l))) g F' w) C.Z (live F') g v (a.tmps.getD k undef)) ∧ (obS a l).Nodup ∧
      (∀ b ∈ obS a l, ¬ C.R b ∧ (C.W b ∨ C.w0.heap.size ≤ b) ∧ ∃ k, mutb g F k b) := by
  intro sv
  induction sv with
  | nil =>
    intro C g F h l F' hv hr
    simp only [headOut, Pr.run, Option.some.injEq, Prod.mk.injEq] at hr
    obtain ⟨rfl, rfl⟩ := hr
    simp only [obS, addR_nil, withR_self]
    exact ⟨h, .refl, fun k v hm => by simp at hm, List.nodup_nil, fun b hb => by simp at hb⟩
  | cons kv r ih =>
    obtain ⟨k, v⟩ := kv
    intro C g F h l F' hv hr
    obtain ⟨hk, hv0⟩ := hv k v (by simp)
    have hv1 : ∀ k v, (k, v) ∈ r → k < C.N ∧ VRs C g F w v (a.tmps.getD k undef) := fun k' v' hm => hv k' v' (List.mem_cons_of_mem _ hm)
    -- a value that brings no block
    have plain : ∀ {x : AV} {l' : List (Nat × AV)}, (headOut r).run F = some (l', F') → l = (k, x) :: l' → ob1 x (a.tmps.getD k undef) = [] →
        (∀ {C' : Ctx}, C'.Z = C.Z → Ext w (Safe C g F w) (live F) g w (Safe C' g F' w) (live F') g → IV1 w (Safe C' g F' w) C.Z (live F') g x (a.tmps.getD k undef)) →
        Rel (C.withR (addR C.R (obS a l))) g F' a w ∧ Ext w (Safe C g F w) (live F) g w (Safe (C.withR (addR C.R (obS a l))) g F' w) (live F') g ∧
        (∀ k v, (k, v) ∈ l → k < C.N ∧ IV1 w (Safe (C.withR (addR C.R (obS a l))) g F' w) C.Z (live F') g v (a.tmps.getD k undef)) ∧ (obS a l).Nodup ∧
        (∀ b ∈ obS a l, ¬ C.R b ∧ (C.W b ∨ C.w0.heap.size ≤ b) ∧ ∃ k, mutb g F k b) := fun {x l'} h1 h2 h3 h4 => by
      subst h2
      obtain ⟨i1, i2, i3, i4, i5⟩ := ih h hv1 h1
      simp only [obS, h3, List.nil_append]
      refine ⟨i1, i2, fun k' v' hm => ?_, i4, i5⟩
      rcases List.mem_cons.1 hm with hm | hm
      · obtain ⟨rfl, rfl⟩ : k' = k ∧ v' = x := by simpa using hm
        exact ⟨hk, h4 (C' := C.withR (addR C.R (obS a l'))) rfl i2⟩
      · exact i3 k' v' hm
    by_cases hn : ∃ e, v = .nils e
    · obtain ⟨e, rfl⟩ := hn
      simp only [headOut] at hr
      obtain ⟨l', F1, h1, hr2⟩ := Pr.bind_some hr
      simp only [Pr.run, Option.some.injEq, Prod.mk.injEq] at hr2
      obtain ⟨rfl, rfl⟩ := hr2
      generalize a.tmps.getD k undef = xx at *
      cases hv0 with
      | nils =>
        exact plain h1 rfl rfl (fun _ _ => .inl ⟨rfl, rfl⟩)
    · by_cases hrow : ∃ p q, v = .row p q
      · obtain ⟨p, q, rfl⟩ := hrow
        simp only [headOut, Pr.run] at hr
        split at hr
        · rename_i e l0 hc
          simp only [Pr.run] at hr
          obtain ⟨l', F1, h1, hr2⟩ := Pr.bind_some hr
          simp only [Pr.run, Option.some.injEq, Prod.mk.injEq] at hr2
          obtain ⟨rfl, rfl⟩ := hr2
          have hρ : g.ρ p q = a.tmps.getD k undef := by
            generalize a.tmps.getD k undef = xx at *
            cases hv0 with
            | row _ _ A n c hl hρ => exact hρ
          obtain ⟨r1, e1⟩ := h.dropRow hc
          have ho := h.owns p q e l0 hc
          rw [hρ] at r1 e1 ho
          obtain ⟨i1, i2, i3, i4, i5⟩ := ih r1 (fun k' v' hm => by
            obtain ⟨m1, m2⟩ := hv1 k' v' hm
            exact ⟨m1, m2.mono e1⟩) h1
          have hRR : ((C.withR (addR C.R (a.tmps.getD k undef).ownBlock.toList)).withR (addR (C.withR (addR C.R (a.tmps.getD k undef).ownBlock.toList)).R (obS a l'))) = C.withR (addR C.R ((a.tmps.getD k undef).ownBlock.toList ++ obS a l')) := by
            rw [show (C.withR (addR C.R (a.tmps.getD k undef).ownBlock.toList)).R = addR C.R (a.tmps.getD k undef).ownBlock.toList from rfl, addR_append]; rfl
          rw [hRR] at i1 i2 i3
          simp only [obS, ob1]
          refine ⟨i1, e1.trans i2, fun k' v' hm => ?_, ?_, fun b hb => ?_⟩
          · rcases List.mem_cons.1 hm with hm | hm
            · obtain ⟨rfl, rfl⟩ : k' = k ∧ v' = .own e l0 := by simpa using hm
              exact ⟨hk, ho.mono (fun _ _ => rfl) (e1.trans i2).block⟩
            · exact i3 k' v' hm
          · rw [List.nodup_append]
            refine ⟨by cases (a.tmps.getD k undef).ownBlock <;> simp, i4, fun b hb b' hb' e => (i5 b' hb').1 (.inr (e ▸ hb))⟩
          · have hmu : ∀ b ∈ (a.tmps.getD k undef).ownBlock.toList, mutb g F (.r p q) b := fun b hb => ⟨⟨e, l0, hc⟩, by rw [hρ]; simpa using hb⟩
            rcases List.mem_append.1 hb with hb | hb
            · exact ⟨(h.wr _ _ (hmu b hb)).2, (h.wr _ _ (hmu b hb)).1, _, hmu b hb⟩
            · obtain ⟨k1, k2, k3, k4⟩ := i5 b hb
              refine ⟨fun hR => k1 (.inl hR), k2, k3, ?_⟩
              cases k3 with
              | s k => exact k4.elim
              | x p' q' => simpa [mutb, St.upd] using k4
              | r p' q' =>
                obtain ⟨⟨e', l'', hc'⟩, hb'⟩ := k4
                by_cases e2 : p' = p ∧ q' = q
                · obtain ⟨rfl, rfl⟩ := e2; rw [upd_same] at hc'; cases hc'
                · rw [upd_other _ _ (by simpa using e2)] at hc'
                  exact ⟨⟨e', l'', hc'⟩, hb'⟩
        · rename_i e l0 hc
          obtain ⟨l', F1, h1, hr2⟩ := Pr.bind_some hr
          simp only [Pr.run, Option.some.injEq, Prod.mk.injEq] at hr2
          obtain ⟨rfl, rfl⟩ := hr2
          have hd := h.fros p q e l0 hc
          have hρ : g.ρ p q = a.tmps.getD k undef := by
            generalize a.tmps.getD k undef = xx at *
            cases hv0 with
            | row _ _ A n c hl hρ => exact hρ
          rw [hρ] at hd
          exact plain h1 rfl rfl (fun hZ hx => .d _ _ (DR.mono hx.block hd))
        · obtain ⟨i1, i2, i3, i4, i5⟩ := ih h hv1 hr
          exact ⟨i1, i2, i3, i4, i5⟩
      · have hh : headOut ((k, v) :: r) = (headOut r).bind fun l => .ret ((k, v) :: l) := by
          cases v <;> first | rfl | exact absurd ⟨_, rfl⟩ hn | exact absurd ⟨_, _, rfl⟩ hrow
        rw [hh] at hr
        obtain ⟨l', F1, h1, hr2⟩ := Pr.bind_some hr
        simp only [Pr.run, Option.some.injEq, Prod.mk.injEq] at hr2
        obtain ⟨rfl, rfl⟩ := hr2
        have hno : ∀ e l, v ≠ .own e l := fun e l he => by subst he; cases hv0
        refine plain h1 rfl (by cases v <;> first | rfl | exact absurd rfl (hno _ _)) (fun hZ hx => ?_)
        have := hv0.mono hx
        cases v <;> first | exact this | exact absurd rfl (hno _ _)

theorem headRen_sound {vs : List (Nat × Nat)} {S : Nat → Prop} {Z : TypeId → Option Ty} {L L' : Key → Prop} {N : Nat} (hm : ∀ p ∈ vs, L' (.x p.1 p.2)) : ∀ {l : List (Nat × AV)},
    (∀ k v, (k, v) ∈ l → k < N ∧ IV1 w S Z L g v (a.tmps.getD k undef)) → (∀ k v, (k, v) ∈ headRen vs l → k < N ∧ IV1 w S Z L' g v (a.tmps.getD k undef)) ∧ (obS a (headRen vs l)).Sublist (obS a l) := by
  have hm' : ∀ p q r, inVs vs (p, q) = some r → L (.x p q) → L' (.x r.1 r.2) ∧ g.η r.1 r.2 = g.η p q := fun p q r hr _ => by
    simp only [inVs] at hr
    split at hr
    · obtain rfl := Option.some.inj hr
      exact ⟨hm _ ‹_›, rfl⟩
    · cases hr
  intro l
  induction l with
  | nil => intro h; exact ⟨fun k v hk => by simp [headRen] at hk, by simp [headRen, obS]⟩
  | cons kv r ih =>
    obtain ⟨k, v⟩ := kv
    intro h
    obtain ⟨i1, i2⟩ := ih fun k' v' hk => h k' v' (List.mem_cons_of_mem _ hk)
    obtain ⟨hk, hv⟩ := h k v (by simp)
    by_cases he : ∃ e l i off, v = .eS e l i off
    · obtain ⟨e, l, i, off, rfl⟩ := he
      simp only [headRen]
      refine ⟨fun k' v' hm => ?_, ?_⟩
      · rcases List.mem_cons.1 hm with hm | hm
        · obtain ⟨rfl, rfl⟩ : k' = k ∧ v' = .eS e l i off := by simpa using hm
          refine ⟨hk, ?_⟩
          simp only [IV1] at hv ⊢
          generalize a.tmps.getD k' undef = xx at hv
          cases hv with
          | eS _ _ _ _ b o c t h1 h2 h3 => exact .eS _ _ _ _ b o c t h1 h2 h3
        · exact i1 k' v' hm
      · simp only [obS, ob1, List.nil_append]; exact i2
    · have hh : headRen vs ((k, v) :: r) = match v.ren (inVs vs) with | some v' => (k, v') :: headRen vs r | none => headRen vs r := by
        cases v <;> first | rfl | exact absurd ⟨_, _, _, _, rfl⟩ he
      rw [hh]
      cases hr : v.ren (inVs vs) with
      | none => exact ⟨i1, by simp only [obS]; exact i2.trans (List.sublist_append_right _ _)⟩
      | some v' =>
        obtain ⟨j1, j2⟩ := hv.ren hm' hr
        refine ⟨fun k' v'' hm => ?_, ?_⟩
        · rcases List.mem_cons.1 hm with hm | hm
          · obtain ⟨rfl, rfl⟩ : k' = k ∧ v'' = v' := by simpa using hm
            exact ⟨hk, j1⟩
          · exact i1 k' v'' hm
        · simp only [obS, j2]
          exact (List.Sublist.refl _).append i2

theorem norm_sound (h : Rel C g F a w) {lv : List Nat} {F' : St} (hr : norm lv F = some F') : ∃ g', Rel C g' F' a w := by
  unfold norm at hr
  rw [Option.bind_eq_some_iff] at hr
  obtain ⟨H, hr, hf⟩ := hr
  unfold normH at hr
  simp only at hr
  generalize hvs : ((varsOf F (reachSt F 3 (addNew (varIdx 8) (refsL ((liveVals F lv).map (·.2)))))).map (·.1)) = vs at hr
  split at hr
  · rename_i hnd
    simp only [Bool.and_eq_true] at hnd
    obtain ⟨hnd, hall⟩ := hnd
    have hnd := nodupB_sound hnd
    have hpin : ∀ (i : Nat) b, C.pin[i]? = some b → (i, 1) ∈ vs := fun i b hb => by
      obtain ⟨p1, p2, p3⟩ := h.pins i b hb
      have h0 := List.all_eq_true.1 hall (i, 1) (by simp [varIdx, p1])
      simp only at h0
      simpa using h0
    rw [Option.bind_eq_some_iff] at hr
    obtain ⟨⟨⟨l, cs⟩, F2⟩, h1, hr2⟩ := hr
    rw [Option.map_eq_some_iff] at hr2
    obtain ⟨cs', h2, rfl⟩ := hr2
    have h3 : fresh vs cs' (headRen vs l) = some F' := hf
    simp only at h2
    obtain ⟨l0, F1, h4, h5⟩ := Pr.bind_some h1
    obtain ⟨cs0, F3, h6, h7⟩ := Pr.bind_some h5
    simp only [Pr.run, Option.some.injEq, Prod.mk.injEq] at h7
    obtain ⟨⟨rfl, rfl⟩, rfl⟩ := h7
    obtain ⟨r1, e1, q1, n1, b1⟩ := headOut_sound (liveVals F lv) h (fun k v hm => by
      obtain ⟨m1, m2⟩ := h.slots k v (liveVals_mem hm)
      exact ⟨by rw [← h.size]; exact m1, m2⟩) h4
    obtain ⟨s, r2, e2, p2, ls, lc, hη, n2, b2, g2, -, -⟩ := lend_sound vs r1 h6
    have r3 := r2.reset vs hpin
    have hL : ∀ p ∈ vs, live (base vs) (.x p.1 p.2) := fun p hp => by simp [live, base, hp]
    have hm' : ∀ (L : Key → Prop), ∀ p q r, inVs vs (p, q) = some r → L (.x p q) → live (base vs) (.x r.1 r.2) ∧ g.η r.1 r.2 = g.η p q := fun L p q r hr _ => by
      simp only [inVs] at hr
      split at hr
      · obtain rfl := Option.some.inj hr
        exact ⟨hL _ ‹_›, rfl⟩
      · cases hr
    obtain ⟨pr1, pr2, pr3⟩ := p2.ren (hm' _) h2
    obtain ⟨hs1, hs2⟩ := headRen_sound (a := a) (w := w) (g := g) (vs := vs) (L' := live (base vs)) hL (fun k v hm => by
      obtain ⟨m1, m2⟩ := q1 k v hm
      exact ⟨m1, m2.mono e2 (fun _ _ => rfl)⟩)
    have hsub : ∀ b ∈ obS a (headRen vs l0), b ∈ obS a l0 := fun b hb => hs2.subset hb
    obtain ⟨g', r4⟩ := fresh_sound r3 _ (fun b hb => ⟨hb.1, fun k => mutb_base, hb.2.2⟩) (s := s) hη hnd pr1 hs1 (fun b hb => by
        rcases List.mem_append.1 hb with hb | hb
        · rw [pr2] at hb
          exact ⟨.inr hb, (b2 b hb).2.1⟩
        · exact ⟨.inl (.inr (hsub b hb)), (b1 b (hsub b hb)).2.1⟩)
      (by
        rw [pr2, List.nodup_append]
        exact ⟨n2, hs2.nodup n1, fun b hb b' hb' e => (b2 b hb).1 (.inr (hsub b (e ▸ hb')))⟩) h3
    have r5 := r4.weakenR (R' := C.R) (fun b hb => by
      refine ⟨.inl (.inl hb), fun hb' => ?_⟩
      rcases List.mem_append.1 hb' with hb' | hb'
      · rw [pr2] at hb'
        exact (b2 b hb').1 (.inl hb)
      · exact (b1 b (hsub b hb')).1 hb)
    exact ⟨g', r5⟩
  · cases hr
end
end Go.Eng
end

section
namespace Go.Eng
open Go

section
variable {P : Program} {E : Env} {C : Ctx} {g : Gh} {F : St} {a : Act} {w : World}

/-- A block that holds no cells. -/
def NoCells (w : World) (b : Nat) : Prop := ∀ cs e r, w.heap[b]? ≠ some (.cells cs e r)

theorem DR.avoid {w : World} {S : Nat → Prop} {Z : TypeId → Option Ty} {b0 : Nat} (hb0 : NoCells w b0) {x : D} {v : Value} (h : DR w S Z x v) : DR w (fun b => S b ∧ b ≠ b0) Z x v := by
  induction h with
  | v x hx => exact .v x hx
  | nil e A c => exact .nil e A c
  | sl e l b o c t u h1 h2 h3 h4 h5 h6 h7 h8 _ ih =>
    refine .sl e l b o c t u h1 h2 h3 h4 ⟨h5, fun e => ?_⟩ h6 h7 h8 ih
    subst e
    have h9 := h8 0 0 (by cases l; exact absurd rfl h1; simp) h3
    unfold World.cell? at h9
    split at h9
    · rename_i cs e r hc
      exact hb0 _ _ _ hc
    · cases h9
  | agg l cs h1 h2 _ ih => exact .agg l cs h1 h2 ih

theorem VR.avoid {w : World} {S : Nat → Prop} {Z : TypeId → Option Ty} {L : Key → Prop} {b0 : Nat} (hb0 : NoCells w b0) {x : AV} {v : Value} (h : VR w S Z L g x v) : VR w (fun b => S b ∧ b ≠ b0) Z L g x v := by
  induction h with
  | d x v h => exact .d x v (h.avoid hb0)
  | nils e => exact .nils e
  | row a b A n c h h2 => exact .row a b A n c h h2
  | ptr a b off h => exact .ptr a b off h
  | yf a b h => exact .yf a b h
  | eS e l i off b o c t h1 h2 h3 => exact .eS e l i off b o c t (h1.avoid hb0) h2 h3
  | eR a b e i off b0 n c t h1 h2 h3 => exact .eR a b e i off b0 n c t h1 h2 h3
  | fn f x c xs cs h1 h2 _ _ ih1 ih2 => exact .fn f x c xs cs h1 h2 ih1 ih2
  | agg l cs h1 h2 _ ih => exact .agg l cs h1 h2 ih
  | tup l cs h1 _ ih => exact .tup l cs h1 ih

theorem OwnR.avoid {w : World} {S : Nat → Prop} {Z : TypeId → Option Ty} {b0 : Nat} (hb0 : NoCells w b0) {e : TypeId} {l : List D} {v : Value} (h : OwnR w S Z e l v) : OwnR w (fun b => S b ∧ b ≠ b0) Z e l v := by
  rcases h with h | ⟨t, g, cap, cur, h1, h2, h3, rfl, h5, h6, h7, h8, h9⟩
  · exact .inl h
  · refine .inr ⟨t, g, cap, cur, h1, h2, h3, rfl, h5, h6, h7, h8, fun j k x y hx hy => ?_⟩
    obtain ⟨u, a, b, c⟩ := h9 j k x y hx hy
    exact ⟨u, a, b, c.avoid hb0⟩

theorem VarR.avoid {w : World} {S : Nat → Prop} {Z : TypeId → Option Ty} {L : Key → Prop} {b0 : Nat} (hb0 : NoCells w b0) {b : Nat} {c : List AV} (h : VarR w S Z L g b c) : VarR w (fun b => S b ∧ b ≠ b0) Z L g b c := by
  rcases h with ⟨cs, e, h1, h2, h3⟩ | ⟨o, cap, h1, h2⟩
  · refine .inl ⟨cs, e, h1, h2, fun j v hv => ?_⟩
    obtain ⟨h4, u, h5, h6, h7⟩ := h3 j v hv
    exact ⟨h4, u, h5, h6, h7.avoid hb0⟩
  · refine .inr ⟨o, cap, h1, ?_⟩
    cases o with
    | it s pos => exact h2
    | lp f i st ks =>
      obtain ⟨t, yb, r, h1, h2, h3, h4, h5, h6, h7, h8, h9, h10, h11⟩ := h2
      exact ⟨t, yb, r, h1, h2, h3, h4, h5, h6, h7, h8, h9, h10, fun j k v hk hv => ⟨(h11 j k v hk hv).1, (h11 j k v hk hv).2.avoid hb0⟩⟩

/-- A safe block without cells is set aside. -/
theorem Rel.aside (h : Rel C g F a w) {b0 : Nat} (hs : Safe C g F w b0) (hn : NoCells w b0) {ds : List Deferred} (hd : ∀ d ∈ ds, d ∈ a.defers) (hnd : ds.Nodup) (hne : ∀ d ∈ ds, d.target ≠ .collected b0) :
    Rel (C.withR (addR C.R [b0])) g F { a with defers := ds } w := by
  have hS : ∀ b, (Safe C g F w b ∧ b ≠ b0) → Safe (C.withR (addR C.R [b0])) g F w b := fun b hb =>
    ⟨hb.1.1, hb.1.2.1, hb.1.2.2.1, fun hr => by rcases hr with h1 | h1; exact hb.1.2.2.2 h1; exact hb.2 (by simpa using h1)⟩
  have hx : Ext w (fun b => Safe C g F w b ∧ b ≠ b0) (live F) g w (Safe (C.withR (addR C.R [b0])) g F w) (live F) g := ⟨fun b hb => ⟨hS b hb, rfl⟩, fun _ _ hp => ⟨hp, rfl⟩, fun _ _ hp => ⟨hp, rfl⟩⟩
  exact {
    slots := fun k v hv => ⟨(h.slots k v hv).1, ((h.slots k v hv).2.avoid hn).mono hx⟩
    vars := fun p q c hc => ((h.vars p q c hc).avoid hn).mono hx rfl
    owns := fun p q e l hc => ((h.owns p q e l hc).avoid hn).mono (fun _ _ => rfl) hx.block
    fros := fun p q e l hc => ((h.fros p q e l hc).avoid hn).mono hx.block
    tabs := fun t ht n e l hg => by
      obtain ⟨h1, h2, ty, fz, h3⟩ := h.tabs t ht n e l hg
      refine ⟨(h1.avoid hn).mono hx.block, (hx.block n ⟨h2, fun he => ?_⟩).1, ty, fz, h3⟩
      subst he
      exact hn _ _ _ h3
    inj := h.inj
    wr := fun k b hk => ⟨(h.wr k b hk).1, fun hr => by
      rcases hr with h1 | h1
      · exact (h.wr k b hk).2 h1
      · exact hs.2.1 k (by rw [show b = b0 by simpa using h1] at hk; exact hk)⟩
    rlt := fun b hb => by
      rcases hb with h1 | h1
      · exact h.rlt b h1
      · rw [show b = b0 by simpa using h1]; exact hs.1
    keep := h.keep
    defers := fun d hd' => by
      obtain ⟨b, h1, h2, h3⟩ := h.defers d (hd d hd')
      exact ⟨b, h1, hS b ⟨h2, fun e => hne d hd' (by rw [h1, e])⟩, h3⟩
    dnodup := hnd
    size := h.size
    pins := h.pins }

/-- A mark is come to. -/
theorem Rel.mark (h : Rel C g F a w) {d : Deferred} {ds : List Deferred} (hd : a.defers = d :: ds) :
    ∃ b w', d.target = .collected b ∧ (Instr.takeDeferred b).run P w = .ok [] w' ∧ ∃ R', Rel (C.withR R') g F { a with defers := ds } w' := by
  obtain ⟨b, h1, h2, h3, h4⟩ := h.defers d (by rw [hd]; simp)
  have hnd := h.dnodup
  rw [hd, List.nodup_cons] at hnd
  refine ⟨b, _, by rw [h1], run_takeDeferred h3, addR C.R [b], ?_⟩
  have r1 := h.aside h2 (fun cs e r hc => by rw [h3] at hc; cases hc) (ds := ds) (fun d' hd' => by rw [hd]; exact List.mem_cons_of_mem _ hd') hnd.2 (fun d' hd' ht => by
    obtain ⟨b', k1, -⟩ := h.defers d' (by rw [hd]; exact List.mem_cons_of_mem _ hd')
    rw [k1] at ht
    simp only [Target.collected.injEq] at ht
    subst ht
    rw [← h1] at k1
    exact hnd.1 (k1 ▸ hd'))
  have hk : Keep w (fun b' => b' ∈ [b]) (w.putObj b (.deferred none)) := ⟨rfl, rfl, rfl, by simp, fun b' hb' hne => World.putObj_heap_other (by simpa using hne)⟩
  have r2 := (Rel.behind (R1 := addR C.R [b]) (R2 := addR C.R [b]) r1 hk (fun b' hb' => ⟨.inr hb', .inr (by rw [show b' = b by simpa using hb']; exact h4)⟩) (fun b' hb' => .inl hb') (fun b' hb' => by
    have := r1.rlt b' hb'
    simpa using this)).1
  exact r2

/-- A function leaves past its marks. -/
theorem leavesM {fn : Func} {R : Ending → World → Prop} {ro : Option Nat} {n : Nat} : ∀ (ds : List Deferred) {C : Ctx} {a : Act} {w : World}, a.defers = ds → Rel C g F a w →
    (∀ R' w', Rel (C.withR R') g F { a with defers := [] } w' → ∃ v, (results fn a.tmps).run P w' = .ok v w' ∧ R (.returned v) w') → LeavesInM (FR ro) n P fn a.tmps R ds .returning w := by
  intro ds
  induction ds with
  | nil =>
    intro C a w hd h hn
    have : Rel (C.withR C.R) g F { a with defers := [] } w := by
      rw [withR_self]
      have : ({ a with defers := [] } : Act) = a := by cases a; simp only at hd; subst hd; rfl
      rw [this]; exact h
    exact hn _ w this
  | cons d ds ih =>
    intro C a w hd h hn
    obtain ⟨b, w', h1, h2, R', h3⟩ := h.mark (P := P) hd
    refine ⟨by simp, .inl ⟨b, w', h1, h2, ?_⟩⟩
    exact ih (C := C.withR R') (a := { a with defers := ds }) rfl h3 (fun R'' w'' h4 => hn R'' w'' h4)
end
end Go.Eng
end

section
namespace Go.Eng
open Go

def Ex.toExit : Ex → Exit
  | .normal => .normal
  | .exit i => .exit i
  | .ret => .ret

section
variable {P : Program} {E : Env} {C : Ctx} {g : Gh} {F : St} {a : Act} {w : World}

theorem liveP_some : ∀ {ks : List Nat} {sv : List (Nat × AV)} {F F' : St}, (liveP ks).run F = some (sv, F') → F' = F ∧ ∀ (j k : Nat) (v : AV), sv[j]? = some (k, v) → F (.s k) = .val v := by
  intro ks
  induction ks with
  | nil => intro sv F F' h; simp only [liveP, Pr.run, Option.some.injEq, Prod.mk.injEq] at h; obtain ⟨rfl, rfl⟩ := h; exact ⟨rfl, fun j k v hj => by simp at hj⟩
  | cons k r ih =>
    intro sv F F' h
    simp only [liveP, Pr.run] at h
    split at h
    · rename_i v hv
      obtain ⟨l, F1, h1, h2⟩ := Pr.bind_some h
      simp only [Pr.run, Option.some.injEq, Prod.mk.injEq] at h2
      obtain ⟨rfl, rfl⟩ := h2
      obtain ⟨rfl, h3⟩ := ih h1
      refine ⟨rfl, fun j k' v' hj => ?_⟩
      cases j with
      | zero => simp at hj; obtain ⟨rfl, rfl⟩ := hj; exact hv
      | succ j => exact h3 j k' v' (by simpa using hj)
    · exact ih h

/-- A mark is pushed. -/
theorem Rel.addMark (h : Rel C g F a w) {b : Nat} (hs : Safe C g F w b) (hb : w.heap[b]? = some (.deferred (some []))) (hw : C.w0.heap.size ≤ b) (hne : ∀ d ∈ a.defers, d.target ≠ .collected b) :
    Rel C g F { a with defers := [{ target := .collected b, args := #[] }] ++ a.defers } w where
  slots := h.slots
  vars := h.vars
  owns := h.owns
  fros := h.fros
  tabs := h.tabs
  inj := h.inj
  wr := h.wr
  rlt := h.rlt
  keep := h.keep
  defers d hd := by
    rcases List.mem_cons.1 hd with rfl | hd
    · exact ⟨b, rfl, hs, hb, hw⟩
    · exact h.defers d hd
  dnodup := List.nodup_cons.2 ⟨fun hd => hne _ hd rfl, h.dnodup⟩
  size := h.size
  pins := h.pins

theorem exIn_cases {ids : List Nat} {st : Nat} {ex : Ex} (h : exIn ids st = some ex) : ∃ n, st = n + 3 ∧ ex = .exit n := by
  induction ids with
  | nil => cases h
  | cons i r ih =>
    simp only [exIn] at h
    split at h
    · exact ⟨i, by assumption, (Option.some.inj h).symm⟩
    · exact ih h

theorem exOf_cases {ids : List Nat} {st : Nat} {ex : Ex} (h : exOf ids st = some ex) : (st = 0 ∧ ex = .normal) ∨ (st = 2 ∧ ex = .ret) ∨ ∃ n, st = n + 3 ∧ ex = .exit n := by
  unfold exOf at h
  split at h
  · exact .inl ⟨by assumption, (Option.some.inj h).symm⟩
  · split at h
    · exact .inr (.inl ⟨by assumption, (Option.some.inj h).symm⟩)
    · exact .inr (.inr (exIn_cases h))

/-- The record is laid. -/
theorem range_lay (hC : C.Z = E.ty) {f i : Nat} {y : Yb} (hy : E.ybAt f i = some y) (hN : y.N = C.N) (h : Rel C g F a w) {p q : Nat} {ks : List Nat} {bs : List AV} {F' : St} {v : AV}
    (hb : ks.length = bs.length ∧ ∀ (j k : Nat) (v : AV), ks[j]? = some k → bs[j]? = some v → k < C.N ∧ VRs C g F w v (a.tmps.getD k undef)) (hr : (newVar p q [.ob (.lp f i 0 ks) bs]).run F = some (v, F')) (fn : FuncId) :
    ∃ g' w', (Instr.enterLoop fn a.tmps y.ps y.assign y.body none).run P w = .ok (w.heap.size + 1, [{ target := .collected w.heap.size, args := #[] }]) w' ∧
      Rel C g' F' { a with defers := [{ target := .collected w.heap.size, args := #[] }] ++ a.defers } w' ∧ Ext w (Safe C g F w) (live F) g w' (Safe C g' F' w') (live F') g' ∧ g'.η p q = w.heap.size + 1 ∧ live F' (.x p q) := by
  have hdead : F (.x p q) = .dead := by
    simp only [newVar, Pr.run] at hr
    split at hr
    · assumption
    · cases hr
  have hF5 : F' = F.upd (.x p q) (.obj [.ob (.lp f i 0 ks) bs]) := by
    simp only [newVar, Pr.run, hdead, Option.some.injEq, Prod.mk.injEq] at hr
    exact hr.2.symm
  subst hF5
  obtain ⟨t, ht, hty⟩ : ∃ t, C.Z 4 = some t ∧ t.yb f i = some y := by
    unfold Env.ybAt at hy
    rw [Option.bind_eq_some_iff] at hy
    rw [hC]; exact hy
  have henter := run_enterLoop_outer (P := P) (w := w) fn a.tmps y.ps y.assign y.body
  have hg1 := World.grownBy_alloc w (.deferred (some [])) none
  have hdb1 : (w.alloc (.deferred (some []))).heap[w.heap.size]? = some (.deferred (some [])) := World.alloc_heap_new w _
  have hlw : (w.alloc (.deferred (some []))).heap.size = w.heap.size + 1 := World.size_alloc _ _
  generalize w.alloc (.deferred (some [])) = w1 at henter hg1 hdb1 hlw
  have r1 : Rel C g F a w1 := h.grown hg1
  have e1 : Ext w (Safe C g F w) (live F) g w1 (Safe C g F w1) (live F) g :=
    ⟨fun b hb => ⟨⟨Nat.lt_of_lt_of_le hb.1 hg1.size, hb.2⟩, hg1.block b hb.1 (by simp)⟩, fun _ _ hp => ⟨hp, rfl⟩, fun _ _ hp => ⟨hp, rfl⟩⟩
  generalize hrec : ({ state := .ready, pending := none, fn := fn, tmps := a.tmps, params := y.ps, assign := y.assign, body := y.body, defers := w.heap.size } : Loop) = rec0 at henter
  have hgo := World.grownBy_alloc w1 (.loop rec0) none
  have hnew : (w1.alloc (.loop rec0)).heap[w1.heap.size]? = some (.loop rec0) := World.alloc_heap_new w1 _
  obtain ⟨r2, e2⟩ := r1.newOb hdead (c := [.ob (.lp f i 0 ks) bs]) (ob := .loop rec0) (.inr ⟨_, _, rfl, t, y, rec0, ht, hty, hnew, trivial, by rw [← hrec], by rw [← hrec], by rw [← hrec], by rw [← hrec, hN]; exact h.size,
    by rw [← hrec]; exact ⟨rfl, rfl⟩, hb.1, fun j k v hk hv => by
      obtain ⟨k1, k2⟩ := hb.2 j k v hk hv
      refine ⟨by rw [hN]; exact k1, ?_⟩
      rw [← hrec]
      exact (k2.mono e1).mono ⟨fun b hb => ⟨hb, by rw [hrec]; exact hgo.block b hb.1 (by simp)⟩, fun _ _ hp => ⟨hp, rfl⟩, fun _ _ hp => ⟨hp, rfl⟩⟩⟩)
  have hsafe : Safe C g F w1 w.heap.size := ⟨by omega, fun k hk => by have := mutb_lt h hk; omega, .inr (.inr h.keep.size), fun hR => by have := h.rlt _ hR; omega⟩
  have r3 := r2.addMark (b := w.heap.size) (e2.block _ hsafe).1 ((e2.block _ hsafe).2.trans hdb1) h.keep.size (fun d hd ht => by
    obtain ⟨b, k1, k2, -⟩ := h.defers d hd
    rw [k1] at ht
    simp only [Target.collected.injEq] at ht
    have := k2.1; omega)
  exact ⟨_, _, henter, r3, e1.trans e2, by simp [Gh.setη, hlw], by simp [live, St.upd]⟩

/-- The record's end. -/
theorem range_end {g' : Gh} (h : Rel C g F a w) {p q : Nat} {f' i' st : Nat} {ks : List Nat} {cap : List AV} (hc : F (.x p q) = .obj [.ob (.lp f' i' st ks) cap]) {l : Nat} (hl : g.η p q = l) {ex : Ex} {ids : List Nat} (hex : exOf ids st = some ex) :
    ∃ jump w', (Instr.endLoop l).run P w = .ok jump w' ∧ Rel C g (F.upd (.x p q) .gone) a w' ∧ ((jump = none ∧ ex = .normal) ∨ (jump = some .ret ∧ ex = .ret) ∨ ∃ m, jump = some (.exit m) ∧ ex = .exit m) := by
  rcases h.vars _ _ _ hc with ⟨cs', e', c1, c2, c3⟩ | ⟨o, cap2, c1, c2⟩
  · have := (c3 0 _ rfl).1; simp [AV.leaf] at this
  · obtain ⟨rfl, rfl⟩ : Ob.lp f' i' st ks = o ∧ cap = cap2 := by simpa using c1
    obtain ⟨t2, y2, r, d1, d2, d3, d4, d5, d6, d7, d8, d9, d10, d11⟩ := c2
    rw [hl] at d3
    have hnb : r.state ≠ .busy := by
      rcases exOf_cases hex with ⟨rfl, -⟩ | ⟨rfl, -⟩ | ⟨m, rfl, -⟩ <;> (rw [d9.1]; simp)
    have hend := run_endLoop (P := P) d3 hnb
    obtain ⟨r5, -⟩ := h.dropVar hc
    have hwl := (h.wr (.x p q) l ⟨⟨_, hc⟩, hl⟩).1
    rw [hl] at r5
    have hk : Keep w (fun b => b ∈ [l]) (w.putObj l (.loop { r with state := .exhausted })) := ⟨rfl, rfl, rfl, by simp, fun b hb hne => World.putObj_heap_other (by simpa using hne)⟩
    have r6 := (Rel.behind (R1 := addR C.R [l]) (R2 := addR C.R [l]) r5 hk (fun b hb => ⟨.inr hb, by rw [show b = l by simpa using hb]; exact hwl⟩) (fun b hb => .inl hb) (fun b hb => by
      have := r5.rlt b hb
      simpa using this)).1
    have r7 := r6.weakenR (R' := C.R) (fun b hb => .inl hb)
    refine ⟨r.pending, _, hend, r7, ?_⟩
    rcases exOf_cases hex with ⟨rfl, rfl⟩ | ⟨rfl, rfl⟩ | ⟨m, rfl, rfl⟩
    · exact .inl ⟨d9.2, rfl⟩
    · exact .inr (.inl ⟨d9.2, rfl⟩)
    · exact .inr (.inr ⟨m, d9.2, rfl⟩)

theorem three_get {first cap : List AV} {y : AV} {xs cs : List Value} {u : Value} (h1 : first.length = xs.length) {R : AV → Value → Prop} (q3 : ∀ (j : Nat) (v : AV) (x : Value), first[j]? = some v → xs[j]? = some x → R v x)
    (q4 : ∀ (j : Nat) (v : AV) (x : Value), cap[j]? = some v → cs[j]? = some x → R v x) (hy : R y u) :
    ∀ (j : Nat) (v : AV) (x : Value), (first ++ [y] ++ cap)[j]? = some v → (xs ++ [u] ++ cs)[j]? = some x → R v x := by
  intro j v x hj hx
  by_cases c1 : j < first.length
  · rw [List.append_assoc, List.getElem?_append_left c1] at hj
    rw [List.append_assoc, List.getElem?_append_left (by omega)] at hx
    exact q3 j v x hj hx
  · rw [List.append_assoc, List.getElem?_append_right (by omega)] at hj
    rw [List.append_assoc, List.getElem?_append_right (by omega)] at hx
    rw [← h1] at hx
    by_cases c2 : j - first.length < 1
    · rw [List.getElem?_append_left (by simpa using c2)] at hj
      rw [List.getElem?_append_left (by simpa using c2)] at hx
      have e0 : j - first.length = 0 := by omega
      rw [e0] at hj hx
      simp at hj hx
      subst hj; subst hx
      exact hy
    · rw [List.getElem?_append_right (by simp; omega)] at hj
      rw [List.getElem?_append_right (by simp; omega)] at hx
      exact q4 _ v x hj hx

theorem range_sound {n : Nat} (hC : C.Z = E.ty) {ev : Ev} (hEv : SoundEv P C.Z ev) {f i : Nat} {y : Yb} (hy : E.ybAt f i = some y) (hN : y.N = C.N) (h : Rel C g F a w) {g0 : Operand} {st : Nat} {F' : St}
    (hr : (rangeP E ev f i g0).run F = some (st, F')) {ex : Ex} {ids : List Nat} (hex : exOf ids st = some ex) {Q : Exit → Act → World → Prop} (hn : ∀ g' a' w', Rel C g' F' a' w' → Q ex.toExit a' w') :
    (Code.rangeFunc g0 y.ps y.assign y.body).wpIn (FR none) n P Q a w := by
  unfold rangeP at hr
  obtain ⟨⟨hfx, args0⟩, F5x, hr1, hrr⟩ := Pr.bind_some hr
  obtain ⟨_, F6, h6, hr7⟩ := Pr.bind_some hrr
  unfold rangePre at hr1
  obtain ⟨fv, F1, h1, hr2⟩ := Pr.bind_some hr1
  obtain ⟨rfl, hfv⟩ := operand_sound h h1
  clear hr h1 hr1 hrr
  split at hr2
  · rename_i hf first cap
    split at hr2
    · cases hr2
    rename_i hne
    obtain ⟨sv, F2, h2, hr3⟩ := Pr.bind_some hr2
    obtain ⟨rfl, hsv⟩ := liveP_some h2
    obtain ⟨bs, F3, h3, hr4⟩ := Pr.bind_some hr3
    obtain ⟨_, F4, h4, hr5⟩ := Pr.bind_some hr4
    obtain ⟨_, F5, h5, hr6⟩ := Pr.bind_some hr5
    simp only [Pr.run, Option.some.injEq, Prod.mk.injEq] at hr6
    obtain ⟨⟨rfl, rfl⟩, rfl⟩ := hr6
    clear hr2 hr3 hr4 hr5
    obtain ⟨Ffr, f1, fz, fn1, fn2⟩ := freezeArgs_spec (sv.map (·.2)) F2
    have hs := freezeArgs_rel h f1
    have hvl : ∀ (j : Nat) (v : AV) (x : Value), (sv.map (·.2))[j]? = some v → ((sv.map (·.1)).map fun k => a.tmps.getD k undef)[j]? = some x → VRs C g F2 w v x := fun j v x hj hx => by
      simp only [List.getElem?_map, Option.map_eq_some_iff] at hj hx
      obtain ⟨q, hq, rfl⟩ := hj
      obtain ⟨k, ⟨q', hq', rfl⟩, rfl⟩ := hx
      rw [hq] at hq'
      obtain rfl : q = q' := Option.some.inj hq'
      exact (h.slots q.1 q.2 (hsv j q.1 q.2 hq)).2
    obtain ⟨rfl, lb, hb⟩ := borrows_sound h fz hs (xs := (sv.map (·.1)).map fun k => a.tmps.getD k undef) (by simp) hvl fn1 fn2 h3
    rw [f1] at h4
    obtain rfl : Ffr = F4 := by simpa using h4
    refine wpIn_rangeFunc fun fn hfn => ?_
    obtain ⟨g2, w2, henter, r3, e2, hη, hlv⟩ := range_lay (P := P) hC hy hN hs.1 (ks := sv.map (·.1)) (bs := bs) ⟨by simp [lb], fun j k v hk hv => by
      have hk' := hk
      simp only [List.getElem?_map, Option.map_eq_some_iff] at hk'
      obtain ⟨q, hq, rfl⟩ := hk'
      exact ⟨by rw [← h.size]; exact (h.slots q.1 q.2 (hsv j q.1 q.2 hq)).1, hb j v (a.tmps.getD q.1 undef) hv (by rw [List.getElem?_map, hk]; rfl)⟩⟩ h5 fn
    have ext3 := hs.2.trans e2
    generalize hfe : a.eval g0 = fval at hfv
    cases hfv with
    | fn _ _ _ xs cs q1 q2 q3 q4 =>
      have hall := three_get (R := fun v x => VRs C g2 F5 w2 v x) (y := .yf (i * 1000 + 998) 0) (u := .func (.yield (w.heap.size + 1)) #[] #[]) (xs := xs.toList) (cs := cs.toList) (by simpa using q1)
        (fun j v x hj hx => (q3 j v x hj (by simpa using hx)).mono ext3) (fun j v x hj hx => (q4 j v x hj (by simpa using hx)).mono ext3) (by rw [← hη]; exact .yf _ _ hlv)
      obtain ⟨⟨fn1', p1, p2, p3⟩, hcall⟩ := evEnter_sound hEv r3 hne (by simp [q1, q2]) hall h6
      have hres : (resolve a.eval (rangeCall g0 (w.heap.size + 1)) 0).run P w2 = .ok { target := .fn (.func hf) cs, args := xs ++ #[.func (.yield (w.heap.size + 1)) #[] #[]] } w2 := by
        have hcst : a.eval (.const (.func (.yield (w.heap.size + 1)) #[] #[])) = .func (.yield (w.heap.size + 1)) #[] #[] := rfl
        simp [resolve, rangeCall, hfe, hcst, Deferred.ofValue, Sem.run_bind, Sem.run_pure, Result.andThen_ok]
      have hinv : (invoke (.fn (.func hf) cs) (xs ++ #[.func (.yield (w.heap.size + 1)) #[] #[]])).run P w2 = .ok (.enter hf (xs.toList ++ [Value.func (.yield (w.heap.size + 1)) #[] #[]] ++ cs.toList).toArray) w2 := by
        have p2' : fn1'.body.isNone = false := by cases hb : fn1'.body <;> simp_all
        simp only [invoke, callFunc, program, Sem.run_bind, Sem.run_pure, Result.andThen_ok, Sem.run, p1]
        simp [p3, p2']
      refine ⟨_, _, w2, _, w2, hf, _, w2, henter, hres, fun _ _ => trivial, hinv, fun hh => by simp [FR, Fence.wide] at hh, calls_FR.2 (hcall.mono ?_)⟩
      rintro e w' ⟨x, g', rfl, r4, -, hηs⟩
      simp only [rangePost', Pr.run] at hr7
      split at hr7
      · rename_i f' i' st' ks' cap' hc
        simp only [Pr.run, Option.some.injEq, Prod.mk.injEq] at hr7
        obtain ⟨rfl, rfl⟩ := hr7
        obtain ⟨hl2, hη2⟩ := hηs _ _ hlv
        obtain ⟨jump, w4, k1, k2, k3⟩ := range_end (P := P) (g' := g') r4 hc (hη2.trans hη) hex
        refine ⟨jump, w4, k1, ?_⟩
        have hq := hn _ _ _ k2
        rcases k3 with ⟨rfl, rfl⟩ | ⟨rfl, rfl⟩ | ⟨m, rfl, rfl⟩
        · exact hq
        · exact wpIn_ret hq
        · exact wpIn_exit hq
      · cases hr7
  · cases hr2
end
end Go.Eng
end

section
namespace Go.Eng
open Go


/-- The ranges over functions are those of the table. -/
def YbOK (E : Env) (f : FuncId) (N : Nat) : Code → Prop
  | .rangeFunc _ ps as bd => E.ybAt f (rfId as bd) = some ⟨N, ps, as, bd⟩
  | .seq a b => YbOK E f N a ∧ YbOK E f N b
  | .cond _ a b => YbOK E f N a ∧ YbOK E f N b
  | .block _ a => YbOK E f N a
  | .loop a => YbOK E f N a
  | _ => True

theorem YbOK.of_noRange {E : Env} {f : FuncId} {N : Nat} : ∀ {c : Code}, noRange c = true → YbOK E f N c
  | .rangeFunc _ _ _ _, h => by simp [noRange] at h
  | .seq a b, h => by
    simp only [noRange, Bool.and_eq_true] at h
    exact ⟨YbOK.of_noRange h.1, YbOK.of_noRange h.2⟩
  | .cond _ a b, h => by
    simp only [noRange, Bool.and_eq_true] at h
    exact ⟨YbOK.of_noRange h.1, YbOK.of_noRange h.2⟩
  | .block _ a, h => YbOK.of_noRange (c := a) h
  | .loop a, h => YbOK.of_noRange (c := a) h
  | .skip, _ => trivial
  | .region _ _ _, _ => trivial
  | .exit _, _ => trivial
  | .ret, _ => trivial
  | .goto _, _ => trivial
  | .label _, _ => trivial
  | .scope _, _ => trivial
  | .refuse _, _ => trivial

section
variable {P : Program} {E : Env} {C : Ctx}

theorem code_sound {ro : Option Nat} {m : Nat} (hm : P.follows .mixedOrders = true) (hZ : ∀ T t, E.ty T = some t → TyFacts P E.ty T t) (hC : C.Z = E.ty) {ev : Ev} (hEv : SoundEv P C.Z ev) {f : FuncId} {k : Nat} :
    ∀ (c : Code), (ro = none ∨ noRange c = true) → YbOK E f C.N c → ∀ {g : Gh} {F : St} {a : Act} {w : World}, Rel C g F a w → ∀ {ex : Ex} {F' : St}, evCode E f C.N ev k c F = some (ex, F') →
    ∀ {Q : Exit → Act → World → Prop}, (∀ g' a' w', Rel C g' F' a' w' → Q ex.toExit a' w') → c.wpIn (FR ro) m P Q a w := by
  intro c
  induction c with
  | skip =>
    intro hRo hY g F a w h ex F' hr Q hn
    simp only [evCode, Option.some.injEq, Prod.mk.injEq] at hr
    obtain ⟨rfl, rfl⟩ := hr
    exact wpIn_skip (hn g a w h)
  | region id ops draw =>
    intro hRo hY g F a w h ex F' hr Q hn
    simp only [evCode, Option.map_eq_some_iff, Prod.mk.injEq] at hr
    obtain ⟨F1, h1, rfl, rfl⟩ := hr
    exact region_sound hm hZ hC hEv h h1 hn
  | seq x y ihx ihy =>
    intro hRo hY g F a w h ex F' hr Q hn
    have H1 : ro = none ∨ noRange x = true := hRo.imp id fun h => by simp only [noRange, Bool.and_eq_true] at h; exact h.1
    have H2 : ro = none ∨ noRange y = true := hRo.imp id fun h => by simp only [noRange, Bool.and_eq_true] at h; exact h.2
    simp only [evCode, Option.bind_eq_some_iff] at hr
    obtain ⟨⟨e1, F1⟩, h1, h2⟩ := hr
    refine wpIn_seq (ihx H1 hY.1 h h1 fun g1 a1 w1 r1 => ?_)
    cases e1 with
    | normal => exact ihy H2 hY.2 r1 h2 hn
    | exit i =>
      simp only [Option.some.injEq, Prod.mk.injEq] at h2
      obtain ⟨rfl, rfl⟩ := h2
      exact hn g1 a1 w1 r1
    | ret =>
      simp only [Option.some.injEq, Prod.mk.injEq] at h2
      obtain ⟨rfl, rfl⟩ := h2
      exact hn g1 a1 w1 r1
  | cond c x y ihx ihy =>
    intro hRo hY g F a w h ex F' hr Q hn
    have H1 : ro = none ∨ noRange x = true := hRo.imp id fun h => by simp only [noRange, Bool.and_eq_true] at h; exact h.1
    have H2 : ro = none ∨ noRange y = true := hRo.imp id fun h => by simp only [noRange, Bool.and_eq_true] at h; exact h.2
    simp only [evCode, Option.bind_eq_some_iff] at hr
    obtain ⟨⟨v, F1⟩, h1, h2⟩ := hr
    obtain ⟨rfl, hv⟩ := operand_sound h h1
    simp only at h2
    split at h2
    · rename_i t
      have he := scalar_of_VR hv
      refine wpIn_cond he ?_
      cases t with
      | true => exact ihx H1 hY.1 h h2 hn
      | false => exact ihy H2 hY.2 h h2 hn
    · cases h2
  | block id c ih =>
    intro hRo hY g F a w h ex F' hr Q hn
    simp only [evCode, Option.bind_eq_some_iff] at hr
    obtain ⟨⟨e1, F1⟩, h1, h2⟩ := hr
    refine wpIn_block (ih (hRo.imp (fun h => h) fun h => h) hY h h1 fun g1 a1 w1 r1 => ?_)
    cases e1 with
    | normal =>
      simp only [Option.some.injEq, Prod.mk.injEq] at h2
      obtain ⟨rfl, rfl⟩ := h2
      exact hn g1 a1 w1 r1
    | exit i =>
      simp only at h2
      simp only [Ex.toExit, Exit.inBlock]
      split at h2
      · rename_i hi
        simp only [Option.some.injEq, Prod.mk.injEq] at h2
        obtain ⟨rfl, rfl⟩ := h2
        simp only [hi, if_true]
        exact hn g1 a1 w1 r1
      · rename_i hi
        simp only [Option.some.injEq, Prod.mk.injEq] at h2
        obtain ⟨rfl, rfl⟩ := h2
        simp only [hi, if_false]
        exact hn g1 a1 w1 r1
    | ret =>
      simp only [Option.some.injEq, Prod.mk.injEq] at h2
      obtain ⟨rfl, rfl⟩ := h2
      exact hn g1 a1 w1 r1
  | loop c ih =>
    intro hRo hY g F a w h ex F' hr Q hn
    simp only [evCode, Option.bind_eq_some_iff, Option.map_eq_some_iff, Prod.mk.injEq] at hr
    obtain ⟨⟨ex0, F9⟩, hr, F8, hr8, rfl, rfl⟩ := hr
    refine wpIn_loop_rounds k ?_
    have key : ∀ (n : Nat) {g : Gh} {F : St} {a : Act} {w : World}, Rel C g F a w → ∀ {ex : Ex} {F' : St}, iter (norm (E.live f (firstRegion c))) (evCode E f C.N ev k c) n F = some (ex, F') →
        (∀ g' a' w', Rel C g' F' a' w' → Q ex.toExit a' w') → Code.roundsIn (FR ro) m P c Q n a w := by
      intro n
      induction n with
      | zero => intro g F a w h ex F' hr hn; simp [iter] at hr
      | succ n ihn =>
        intro g F a w h ex F' hr hn
        simp only [iter, Option.bind_eq_some_iff] at hr
        obtain ⟨F0, h0, ⟨e1, F1⟩, h1, h2⟩ := hr
        obtain ⟨g0, r0⟩ := norm_sound h h0
        rw [roundsIn_succ]
        refine ih (hRo.imp (fun h => h) fun h => h) hY r0 h1 fun g1 a1 w1 r1 => ?_
        cases e1 with
        | normal => exact ihn r1 h2 hn
        | exit i =>
          simp only [Option.some.injEq, Prod.mk.injEq] at h2
          obtain ⟨rfl, rfl⟩ := h2
          exact hn g1 a1 w1 r1
        | ret =>
          simp only [Option.some.injEq, Prod.mk.injEq] at h2
          obtain ⟨rfl, rfl⟩ := h2
          exact hn g1 a1 w1 r1
    exact key k h hr fun g' a' w' r' => by
      obtain ⟨g9, r9⟩ := norm_sound r' hr8
      exact hn g9 a' w' r9
  | rangeFunc g0 ps as bd =>
    intro hRo hY g F a w h ex F' hr Q hn
    obtain rfl : ro = none := hRo.resolve_right (by simp [noRange])
    simp only [evCode, Option.bind_eq_some_iff, Option.map_eq_some_iff, Prod.mk.injEq] at hr
    obtain ⟨⟨st, F1⟩, h1, ex1, h2, rfl, rfl⟩ := hr
    exact range_sound (y := ⟨C.N, ps, as, bd⟩) hC hEv hY rfl h h1 h2 hn
  | exit id =>
    intro hRo hY g F a w h ex F' hr Q hn
    simp only [evCode, Option.some.injEq, Prod.mk.injEq] at hr
    obtain ⟨rfl, rfl⟩ := hr
    exact wpIn_exit (hn g a w h)
  | ret =>
    intro hRo hY g F a w h ex F' hr Q hn
    simp only [evCode, Option.some.injEq, Prod.mk.injEq] at hr
    obtain ⟨rfl, rfl⟩ := hr
    exact wpIn_ret (hn g a w h)
  | _ => intro hRo hY g F a w h ex F' hr; simp [evCode] at hr
end
end Go.Eng
end
