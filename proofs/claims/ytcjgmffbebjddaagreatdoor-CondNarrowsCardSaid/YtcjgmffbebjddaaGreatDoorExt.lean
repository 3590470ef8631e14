/- The functions that are told from outside: what they are told is so. -/
import Derived.Test.YtcjgmffbebjddaaGreatDoorBoth
import Derived.KernelRfl
import Derived.Test.YtcjgmffbebjddaaGreatDoorEng
set_option linter.all false
namespace Go.Proofs.YtcjgmffbebjddaaGreatDoor
open Go Go.Eng Go.RowKit

theorem ext_some {e : FE} {ev : Ev} {args : List AV} {pack : List (List AV)} {res : AV} {out : List (List AV)} (h : e.ext ev args pack = some (res, out)) : ∃ a p r, args = e.args.enc a ∧ pack = csEnc e.pack p ∧ e.nat a p = some r ∧ rtEnc e.res e.out r = (res, out) := by
  unfold FE.ext at h
  simp only [Option.bind_eq_some_iff, Option.map_eq_some_iff] at h
  obtain ⟨a, h1, p, h2, r, h3, h4⟩ := h
  exact ⟨a, p, r, Shs.dec_enc h1, csDec_enc h2, h3, h4⟩

theorem enter_of {f : FuncId} {fn : Func} (h : Tryz.prog.funcs[f]? = some fn) (h2 : fn.body.isSome = true) (h3 : fn.name ≠ "runtime.NumGoroutine") : Enterable Tryz.prog f := ⟨fn, h, h2, h3⟩

theorem z9 (t : Ty) (h : tyT 9 = some t) : t.size = 1 := by
  have : tyT 9 = some { size := 1, bytes := 16, agg := false, zero := some [.d (.v (.string ⟨#[]⟩))], str := true } := by kernel_rfl
  rw [this] at h
  exact (Option.some.inj h) ▸ rfl
theorem z3 (t : Ty) (h : tyT 3 = some t) : t.size = 1 := by
  have : tyT 3 = some { size := 1, bytes := 8, agg := false, zero := some [.d (.v (.int .i64 0))], ik := some .i64 } := by kernel_rfl
  rw [this] at h
  exact (Option.some.inj h) ▸ rfl

theorem seq_iff (a b : ByteArray) : seq a b = true ↔ a = b := by
  constructor
  · intro h
    unfold seq at h
    rw [beq_iff_eq] at h
    rw [← bs_eta a, ← bs_eta b, h]
  · intro h; subst h; unfold seq; exact beq_self_eq_true _
theorem notS_eq (ys : List ByteArray) (x : ByteArray) : (!notS ys x) = (ys.isEmpty || hasB ys x) := by
  unfold notS
  rw [Bool.not_not]
  congr 1
  rw [Bool.eq_iff_iff, Lib.containsS_iff]
  unfold hasB
  rw [List.any_eq_true]
  constructor
  · intro h; exact ⟨x, h, (seq_iff x x).2 rfl⟩
  · rintro ⟨y, hy, h⟩; rw [(seq_iff x y).1 h]; exact hy
theorem notI_eq (ys : List Int) (x : Int) : (!notI ys x) = (ys.isEmpty || hasI ys x) := by
  unfold notI
  rw [Bool.not_not]
  congr 1
  unfold hasI
  induction ys with
  | nil => rfl
  | cons a r ih => rw [List.contains_cons, List.any_cons, ih]

/-- New data. -/
theorem dr_new {w w' : World} {S : Nat → Prop} {e : TypeId} {t : Ty} (ht : tyT e = some t) (hs : t.size = 1) (hag : t.agg = false) {l : List Value} (hsc : ∀ x ∈ l, scalar x = true) (hm : l.length ≤ maxLen) {v : Value} (h : NewSl w w' l v) :
    DR w' (fun b => S b ∨ (w.heap.size ≤ b ∧ b < w'.heap.size)) tyT (.sl e (l.map D.v)) v := by
  rcases h with ⟨rfl, A, c, rfl⟩ | ⟨h1, g, cap, rfl, h2, h3, h4, h5⟩
  · exact .nil e A c
  · have := DR.sl (w := w') (S := fun b => S b ∨ (w.heap.size ≤ b ∧ b < w'.heap.size)) (Z := tyT) e (l.map D.v) g 0 cap t (fun j k => l.getD j undef) (by simpa using h1) ht (by omega) ?_ (.inr ⟨h2, h3⟩) (by simpa using h4) (by simpa using hm) ?_ ?_
    · rw [List.length_map] at this; exact this
    · intro x hx
      obtain ⟨y, hy, rfl⟩ := List.mem_map.1 hx
      exact ⟨hs.symm, fun z hz => by simp [D.cells] at hz; subst hz; rfl, ⟨fun ⟨c, hc⟩ => (by cases hc), fun h => by rw [hag] at h; cases h⟩⟩
    · intro j k hj hk
      rw [List.length_map] at hj
      have hk0 : k = 0 := by omega
      subst hk0
      rw [hs, Nat.mul_one, Nat.zero_add, Nat.add_zero]
      rw [h5 j l[j] (List.getElem?_eq_getElem hj)]
      simp [List.getD_eq_getElem?_getD, hj]
    · intro j k x y hx hy
      rw [List.getElem?_map, Option.map_eq_some_iff] at hx
      obtain ⟨u, hu, rfl⟩ := hx
      simp only [D.cells] at hy
      cases k with
      | zero =>
        simp at hy; subst hy
        have : l.getD j undef = u := by rw [List.getD_eq_getElem?_getD, hu]; rfl
        rw [this]
        exact .v u (hsc u (List.mem_of_getElem? hu))
      | succ k => simp at hy

theorem both_ok35 (a b : List D) (r : List D × Bool × Unit) (h : cond_both_string a b = some r) : CallOK Tryz.prog tyT 35 [.d (.sl 9 a), .d (.sl 9 b)] [] (.tup [.d (.sl 9 r.1), .d (.v (.bool r.2.1))]) [] := by
  unfold cond_both_string at h
  simp only [Option.bind_eq_some_iff] at h
  obtain ⟨xs, hx, ys, hy, h⟩ := h
  split at h
  · rename_i hb
    obtain rfl := Option.some.inj h
    have ea := strsOf_some hx
    have eb := strsOf_some hy
    subst ea; subst eb
    unfold maxRow at hb
    refine callOK_data (enter_of Tryz.func35 (by kernel_rfl) (by decide)) (fun v => by cases v <;> simp [ob, obT, ob2, ob1]; rename_i vs; cases vs.toList <;> simp [obT, ob2, ob1]; rename_i l; cases l <;> simp [obT, ob2, ob1]) (fun l hl y hyy => ?_) fun w S cargs hin => ?_
    · cases hl
      simp at hyy
      rcases hyy with rfl | rfl <;> rfl
    · obtain ⟨u, v, rfl, h2, h3⟩ := args2 hin
      refine (both35 (slOf z9 h2) (slOf z9 h3) (fun b hb => (hin.safe b hb).1) hb.1 hb.2).mono ?_
      rintro e w' ⟨vs, rfl, hbw, hN⟩
      refine ⟨_, rfl, hbw, #[vs, _], rfl, rfl, fun j x u hj hu => ?_⟩
      have e0 : ((if xs.isEmpty then ys else xs).filter fun x => !notS ys x) = (bothS xs ys).1 := by
        unfold bothS
        simp only [notS_eq]
      rw [e0] at hN
      match j with
      | 0 =>
        obtain rfl := Option.some.inj hj
        obtain rfl : vs = u := by simpa using hu
        have hlen : (bothS xs ys).1.length ≤ 8796093022208 := by
          unfold bothS
          refine Nat.le_trans (List.length_filter_le _ _) ?_
          split <;> omega
        have ht : tyT 9 = some { size := 1, bytes := 16, agg := false, zero := some [.d (.v (.string ⟨#[]⟩))], str := true } := by kernel_rfl
        have hml : maxLen = maxLen := rfl
        have := dr_new (S := S) ht rfl rfl (l := (bothS xs ys).1.map Value.string) (fun x hx => by obtain ⟨y, hy, rfl⟩ := List.mem_map.1 hx; rfl) (by rw [List.length_map]; unfold maxLen; omega) hN
        rw [List.map_map] at this
        exact VR.d _ _ this
      | 1 =>
        obtain rfl := Option.some.inj hj
        have hu2 : some (Value.bool (!((if xs.isEmpty then ys else xs).filter fun x => !notS ys x).isEmpty || (if xs.isEmpty then ys else xs).isEmpty)) = some u := hu
        rw [e0] at hu2
        cases hu2
        exact VR.d _ _ (.v _ rfl)
  · cases h
theorem both_ok36 (a b : List D) (r : List D × Bool × Unit) (h : cond_both_int a b = some r) : CallOK Tryz.prog tyT 36 [.d (.sl 3 a), .d (.sl 3 b)] [] (.tup [.d (.sl 3 r.1), .d (.v (.bool r.2.1))]) [] := by
  unfold cond_both_int at h
  simp only [Option.bind_eq_some_iff] at h
  obtain ⟨xs, hx, ys, hy, h⟩ := h
  split at h
  · rename_i hb
    obtain rfl := Option.some.inj h
    have ea := intsOf_some hx
    have eb := intsOf_some hy
    subst ea; subst eb
    unfold maxRow at hb
    refine callOK_data (enter_of Tryz.func36 (by kernel_rfl) (by decide)) (fun v => by cases v <;> simp [ob, obT, ob2, ob1]; rename_i vs; cases vs.toList <;> simp [obT, ob2, ob1]; rename_i l; cases l <;> simp [obT, ob2, ob1]) (fun l hl y hyy => ?_) fun w S cargs hin => ?_
    · cases hl
      simp at hyy
      rcases hyy with rfl | rfl <;> rfl
    · obtain ⟨u, v, rfl, h2, h3⟩ := args2 hin
      refine (both36 (slOf z3 h2) (slOf z3 h3) (fun b hb => (hin.safe b hb).1) hb.1 hb.2).mono ?_
      rintro e w' ⟨vs, rfl, hbw, hN⟩
      refine ⟨_, rfl, hbw, #[vs, _], rfl, rfl, fun j x u hj hu => ?_⟩
      have e0 : ((if xs.isEmpty then ys else xs).filter fun x => !notI ys x) = (bothI xs ys).1 := by
        unfold bothI
        simp only [notI_eq]
      rw [e0] at hN
      match j with
      | 0 =>
        obtain rfl := Option.some.inj hj
        obtain rfl : vs = u := by simpa using hu
        have hlen : (bothI xs ys).1.length ≤ 17592186044416 := by
          unfold bothI
          refine Nat.le_trans (List.length_filter_le _ _) ?_
          split <;> omega
        have ht : tyT 3 = some { size := 1, bytes := 8, agg := false, zero := some [.d (.v (.int .i64 0))], ik := some .i64 } := by kernel_rfl
        have := dr_new (S := S) ht rfl rfl (l := (bothI xs ys).1.map (Value.int .i64)) (fun x hx => by obtain ⟨y, hy, rfl⟩ := List.mem_map.1 hx; rfl) (by rw [List.length_map]; unfold maxLen; omega) hN
        rw [List.map_map] at this
        exact VR.d _ _ this
      | 1 =>
        obtain rfl := Option.some.inj hj
        have hu2 : some (Value.bool (!((if xs.isEmpty then ys else xs).filter fun x => !notI ys x).isEmpty || (if xs.isEmpty then ys else xs).isEmpty)) = some u := hu
        rw [e0] at hu2
        cases hu2
        exact VR.d _ _ (.v _ rfl)
  · cases h

theorem gl_of {t : Ty} (h : tyT 4 = some t) : t.gl = glT := by
  have : (tyT 4).map (·.gl) = some glT := by kernel_rfl
  rw [h] at this
  exact Option.some.inj this
theorem t4_some : ∃ t, tyT 4 = some t := Option.isSome_iff_exists.1 (by kernel_rfl)
theorem pow_cells : tabCells (((glT 3).map (·.2)).getD []) = (Lib.pow10Tab.map fun z => Value.int .u64 z).toArray := by kernel_rfl
theorem itoa_ok70 (n : Int) (r : ByteArray) (h : strconv_Itoa n = some r) : CallOK Tryz.prog tyT 70 [.d (.v (.int .i64 n))] [] (.d (.v (.string r))) [] := by
  obtain ⟨t, ht⟩ := t4_some
  have hg : ∃ e lt, t.gl 3 = some (e, lt) := by
    rw [gl_of ht]
    exact ⟨_, _, rfl⟩
  obtain ⟨e, lt, hg⟩ := hg
  have hl : tabCells lt = (Lib.pow10Tab.map fun z => Value.int .u64 z).toArray := by
    have h2 := pow_cells
    rw [← gl_of ht, hg] at h2
    exact h2
  exact itoa_ok (name := "internal/strconv.uint64pow10") ht hg (by kernel_rfl) hl (enter_of Tryz.func70 (by kernel_rfl) (by decide)) (fun n h0 h1 w htab => (Tryz.strconv_Itoa n h0 h1 w htab).mono fun e w' ⟨he, k, os, hw⟩ => ⟨he, by
    subst hw
    exact ⟨rfl, rfl, rfl, by show w.heap.size ≤ (w.heap ++ os).size; rw [Array.size_append]; omega, fun k hk => Sort.heap_grow_old (w.drewN _) os hk⟩⟩) n r h

theorem dec_none (s : ByteArray) (r : Int × Int × Unit) : utf8_DecodeRuneInString s ≠ some r := by
  unfold utf8_DecodeRuneInString
  rw [held_eq]
  simp
theorem ext_ok : ExtOK Tryz.prog E0 := by
  intro f g hg ev hev args pack res out h
  have hg : extT f = some g := hg
  show CallOK Tryz.prog tyT f args pack res out
  unfold extT at hg
  split at hg
  all_goals (try (cases hg; done))
  all_goals (obtain rfl := Option.some.inj hg; obtain ⟨a, p, r, rfl, rfl, h3, h4⟩ := ext_some h; cases h4)
  · exact both_ok35 a.1 a.2.1 r h3
  · exact both_ok36 a.1 a.2.1 r h3
  · exact join_ok z9 (enter_of Tryz.func69 (by kernel_rfl) (by decide)) Tryz.strings_Join_none Tryz.strings_Join a.1 a.2.1 r h3
  · exact itoa_ok70 a.1 r h3
  · exact contains_ok (enter_of Tryz.func107 (by kernel_rfl) (by decide)) Tryz.strings_Contains_one a.1 a.2.1 r h3
  · exact clone_ok (enter_of Tryz.func111 (by kernel_rfl) (by decide)) (fun s w h => Tryz.stringslite_Clone s w h) a.1 r h3
  · exact index_ok (enter_of Tryz.func142 (by kernel_rfl) (by decide)) Tryz.strings_Index_one a.1 a.2.1 r h3
  · exact count_ok (enter_of Tryz.func144 (by kernel_rfl) (by decide)) Tryz.strings_Count_one a.1 a.2.1 r h3
  · exact absurd h3 (dec_none _ _)
end Go.Proofs.YtcjgmffbebjddaaGreatDoor
