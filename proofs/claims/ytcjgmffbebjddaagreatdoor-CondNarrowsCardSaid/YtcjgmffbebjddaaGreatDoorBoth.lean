/- cond.both, walked. -/
import Derived.Test.YtcjgmffbebjddaaGreatDoorShelf
import Derived.Test.YtcjgmffbebjddaaGreatDoorEnv
import Derived.Test.YtcjgmffbebjddaaGreatDoorEng
import Derived.WalkKit
import Derived.Lib.SliceRun
import Derived.Lib.Hide
set_option linter.all false
namespace Go.Proofs.YtcjgmffbebjddaaGreatDoor
open Go Go.Eng Go.RowKit Go.Lib Go.Sort Go.Shelf

/-! ### allows -/
theorem allows82_nil (A : Option Addr) (c : Nat) (x : ByteArray) (W : World) :
    Calls Tryz.prog 82 #[.slice A 0 c, .string x] W fun e w' => e = .returned (.bool true) ∧ ∃ q, w' = W.drewN q := by
  go_enter Tryz.func82, Tryz.ntmps82
  go_wp2
  all_goals (go_ret; exact ⟨rfl, 0, rfl⟩)
theorem allows82 (b o n c : Nat) (zs : List ByteArray) (x : ByteArray) (W : World) (h0 : 0 < n) (hz : n ≤ zs.length) (hbig : n ≤ 9223372036854775807) (hc : ∀ j, j < zs.length → W.cell? ⟨b, o + j, none⟩ = some (.string (zs.getD j ByteArray.empty))) :
    Calls Tryz.prog 82 #[.slice (some ⟨b, o, none⟩) n c, .string x] W fun e w' => e = .returned (.bool (Lib.containsS (zs.take n) x)) ∧ ∃ q, w' = W.drewN q := by
  have hcon := Tryz.slices_Contains_string b o n c zs x W hz hbig hc
  clear hc
  have hne : ((n : Int) == 0) = false := beq_eq_false_iff_ne.2 (by omega)
  generalize Lib.containsS (zs.take n) x = r at hcon ⊢
  go_enter Tryz.func82, Tryz.ntmps82
  go_wp2_with (go_at_call 123; refine hcon.mono ?_; rintro e w' ⟨rfl, rfl⟩)
  all_goals (go_ret; exact ⟨rfl, 0, rfl⟩)
theorem allows83_nil (A : Option Addr) (c : Nat) (x : Int) (W : World) :
    Calls Tryz.prog 83 #[.slice A 0 c, .int .i64 x] W fun e w' => e = .returned (.bool true) ∧ ∃ q, w' = W.drewN q := by
  go_enter Tryz.func83, Tryz.ntmps83
  go_wp2
  all_goals (go_ret; exact ⟨rfl, 0, rfl⟩)
theorem allows83 (b o n c : Nat) (zs : List Int) (x : Int) (W : World) (h0 : 0 < n) (hz : n ≤ zs.length) (hbig : n ≤ 9223372036854775807) (hc : ∀ j, j < zs.length → W.cell? ⟨b, o + j, none⟩ = some (.int .i64 (zs.getD j 0))) :
    Calls Tryz.prog 83 #[.slice (some ⟨b, o, none⟩) n c, .int .i64 x] W fun e w' => e = .returned (.bool ((zs.take n).contains x)) ∧ ∃ q, w' = W.drewN q := by
  have hcon := Tryz.slices_Contains_int b o n c zs x W hz hbig hc
  clear hc
  have hne : ((n : Int) == 0) = false := beq_eq_false_iff_ne.2 (by omega)
  generalize (zs.take n).contains x = r at hcon ⊢
  go_enter Tryz.func83, Tryz.ntmps83
  go_wp2_with (go_at_call 124; refine hcon.mono ?_; rintro e w' ⟨rfl, rfl⟩)
  all_goals (go_ret; exact ⟨rfl, 0, rfl⟩)

/-! ### the closures -/
theorem clos89_nil (A : Option Addr) (c B : Nat) (x : ByteArray) (W : World) (hB : W.cell? ⟨B, 0, none⟩ = some (.slice A 0 c)) :
    Calls Tryz.prog 89 #[.string x, .pointer (some ⟨B, 0, none⟩)] W fun e w' => e = .returned (.bool false) ∧ ∃ q, w' = W.drewN q := by
  go_enter Tryz.func89, Tryz.ntmps89
  go_wp2_with (go_at_call 82; refine (allows82_nil _ _ _ _).mono ?_; rintro e w' ⟨rfl, q, rfl⟩)
  all_goals (go_ret; exact ⟨rfl, _, rfl⟩)
theorem clos89 (b o n c B : Nat) (zs : List ByteArray) (x : ByteArray) (W : World) (h0 : 0 < n) (hz : n ≤ zs.length) (hbig : n ≤ 9223372036854775807) (hc : ∀ j, j < zs.length → W.cell? ⟨b, o + j, none⟩ = some (.string (zs.getD j ByteArray.empty)))
    (hB : W.cell? ⟨B, 0, none⟩ = some (.slice (some ⟨b, o, none⟩) n c)) :
    Calls Tryz.prog 89 #[.string x, .pointer (some ⟨B, 0, none⟩)] W fun e w' => e = .returned (.bool !(Lib.containsS (zs.take n) x)) ∧ ∃ q, w' = W.drewN q := by
  have hcon := allows82 b o n c zs x W h0 hz hbig hc
  clear hc
  generalize Lib.containsS (zs.take n) x = r at hcon ⊢
  go_enter Tryz.func89, Tryz.ntmps89
  go_wp2_with (go_at_call 82; refine hcon.mono ?_; rintro e w' ⟨rfl, q, rfl⟩)
  all_goals (go_ret; exact ⟨rfl, _, rfl⟩)
theorem clos92_nil (A : Option Addr) (c B : Nat) (x : Int) (W : World) (hB : W.cell? ⟨B, 0, none⟩ = some (.slice A 0 c)) :
    Calls Tryz.prog 92 #[.int .i64 x, .pointer (some ⟨B, 0, none⟩)] W fun e w' => e = .returned (.bool false) ∧ ∃ q, w' = W.drewN q := by
  go_enter Tryz.func92, Tryz.ntmps92
  go_wp2_with (go_at_call 83; refine (allows83_nil _ _ _ _).mono ?_; rintro e w' ⟨rfl, q, rfl⟩)
  all_goals (go_ret; exact ⟨rfl, _, rfl⟩)
theorem clos92 (b o n c B : Nat) (zs : List Int) (x : Int) (W : World) (h0 : 0 < n) (hz : n ≤ zs.length) (hbig : n ≤ 9223372036854775807) (hc : ∀ j, j < zs.length → W.cell? ⟨b, o + j, none⟩ = some (.int .i64 (zs.getD j 0)))
    (hB : W.cell? ⟨B, 0, none⟩ = some (.slice (some ⟨b, o, none⟩) n c)) :
    Calls Tryz.prog 92 #[.int .i64 x, .pointer (some ⟨B, 0, none⟩)] W fun e w' => e = .returned (.bool !((zs.take n).contains x)) ∧ ∃ q, w' = W.drewN q := by
  have hcon := allows83 b o n c zs x W h0 hz hbig hc
  clear hc
  generalize (zs.take n).contains x = r at hcon ⊢
  go_enter Tryz.func92, Tryz.ntmps92
  go_wp2_with (go_at_call 83; refine hcon.mono ?_; rintro e w' ⟨rfl, q, rfl⟩)
  all_goals (go_ret; exact ⟨rfl, _, rfl⟩)

/-! ### What lies anew -/
/-- A row in a block of its own. -/
def CloneS (W w' : World) (ty : TypeId) (l : List Value) (v' : Value) : Prop :=
  (l = [] ∧ ∃ A c, v' = .slice A 0 c) ∨ (l ≠ [] ∧ ∃ g cap cur, v' = .slice (some ⟨g, 0, none⟩) l.length cap ∧ W.heap.size ≤ g ∧ w'.heap[g]? = some (.cells cur ty (0, 0)) ∧ l.length ≤ cap ∧ ∀ (j : Nat) x, l[j]? = some x → cur[j]? = some x)
/-- A slice in new memory. -/
def NewSl (w w' : World) (l : List Value) (v : Value) : Prop :=
  (l = [] ∧ ∃ A c, v = .slice A 0 c) ∨ (l ≠ [] ∧ ∃ g cap, v = .slice (some ⟨g, 0, none⟩) l.length cap ∧ w.heap.size ≤ g ∧ g < w'.heap.size ∧ l.length ≤ cap ∧ ∀ (j : Nat) x, l[j]? = some x → w'.cell? ⟨g, j, none⟩ = some x)
theorem cloneS_of {W w' : World} {ty : TypeId} {l : List Value} {n : Nat} {v' : Value} (hn : n = l.length) (h : w'.ownsRow W.heap.size ty 1 v' n l) : CloneS W w' ty l v' := by
  subst hn
  obtain ⟨h1, h2⟩ := h
  rcases h2 with ⟨rfl, h0⟩ | ⟨g, cap, cur, rfl, h3, h4, h5, h6, h7, h8⟩
  · exact .inl ⟨List.eq_nil_of_length_eq_zero h0, _, _, rfl⟩
  · by_cases hl : l = []
    · subst hl; exact .inl ⟨rfl, _, _, rfl⟩
    · refine .inr ⟨hl, g, cap, cur, rfl, h3, h4, h5, fun j x hj => ?_⟩
      have hj' := (List.getElem?_eq_some_iff.1 hj).1
      rw [← h8, List.getElem?_take] at hj
      rw [if_pos (by omega)] at hj
      simpa using hj
def DPost (w : World) (out : List Value) (e : Ending) (w' : World) : Prop := ∃ A n cap, e = .returned (.slice A n cap) ∧ n = out.length ∧ Below w.heap.size w w' ∧ NewSl w w' out (.slice A n cap)
def BPost (w : World) (out : List Value) (r : Bool) (e : Ending) (w' : World) : Prop := ∃ vs, e = .returned (.tuple #[vs, .bool r]) ∧ Below w.heap.size w w' ∧ NewSl w w' out vs
/-- What a world keeps. -/
def Keeps (w W : World) : Prop := ∀ (b o : Nat), b < w.heap.size → W.cell? ⟨b, o, none⟩ = w.cell? ⟨b, o, none⟩
theorem keeps_below {w W : World} (h : Below w.heap.size w W) : Keeps w W := fun b o hb => h.cell (p := ⟨b, o, none⟩) hb

/-! ### strings -/
theorem del87_none (A : Option Addr) (c : Nat) (fv : Value) (w : World) :
    Calls Tryz.prog 87 #[.slice A 0 c, fv] w fun e w' => e = .returned (.slice A 0 c) ∧ w' = w := by
  have hIF := AnyE.slices_IndexFunc_empty (P := Tryz.prog) (ρ := Tryz.laysDel87_ren) { Tryz.laysDel87 with } A c fv w
  change Calls Tryz.prog 127 _ _ _ at hIF
  go_enter Tryz.func87, Tryz.ntmps87
  go_wp2_with (go_at_call 127; refine hIF.mono ?_; rintro e w' ⟨rfl, rfl⟩)
  all_goals (go_ret; exact ⟨rfl, rfl⟩)

/-- Is not allowed. -/
def notS (ys : List ByteArray) (x : ByteArray) : Bool := !(ys.isEmpty || Lib.containsS ys x)
theorem clos89_any {w : World} {S : Nat → Prop} {ys : List ByteArray} {vb : Value} (hs : SlOf w S (ys.map Value.string) vb) (hS : ∀ b, S b → b < w.heap.size) {W : World} {B : Nat} (hW : Keeps w W) (hB : W.cell? ⟨B, 0, none⟩ = some vb) (x : ByteArray) :
    FnGives Tryz.prog 89 #[.pointer (some ⟨B, 0, none⟩)] #[.string x] (.bool (notS ys x)) W := by
  show Calls Tryz.prog 89 #[.string x, .pointer (some ⟨B, 0, none⟩)] W _
  rcases hs with ⟨h1, A, c, rfl⟩ | ⟨h1, b, o, c, rfl, h2, h3, h4, h5⟩
  · have : ys = [] := by simpa using h1
    subst this
    exact clos89_nil A c B x W hB
  · have hne : ys ≠ [] := by simpa using h1
    have hpos : 0 < ys.length := List.length_pos_iff.2 hne
    have he : notS ys x = !(Lib.containsS (ys.take ys.length) x) := by
      unfold notS
      rw [List.take_length]
      cases ys with
      | nil => exact absurd rfl hne
      | cons => rfl
    rw [he]
    rw [List.length_map] at hB h4
    refine clos89 b o ys.length c B ys x W hpos (Nat.le_refl _) (by unfold maxLen at h4; omega) (fun j hj => ?_) hB
    rw [hW b (o + j) (hS b h2)]
    refine h5 j _ ?_
    rw [List.getElem?_map, List.getElem?_eq_getElem hj]
    simp [List.getD_eq_getElem?_getD, hj]

theorem clone88 {W : World} {S : Nat → Prop} {zs : List ByteArray} {vz : Value} (hs : SlOf W S (zs.map Value.string) vz) (hl : zs.length * 16 ≤ 140737488355328) :
    Calls Tryz.prog 88 #[vz] W fun e w' => ∃ v', e = .returned v' ∧ Below W.heap.size W w' ∧ CloneS W w' 9 (zs.map Value.string) v' := by
  rcases hs with ⟨h1, A, c, rfl⟩ | ⟨h1, b, o, c, rfl, h2, h3, h4, h5⟩
  · rw [h1]
    cases A with
    | none => exact (Tryz.slices_Clone_string_nil _ _ _).mono fun e w' h => ⟨_, h.1, by rw [h.2]; exact .refl _ _, .inl ⟨rfl, _, _, rfl⟩⟩
    | some a => exact (Tryz.slices_Clone_string_zero _ _ _).mono fun e w' ⟨v', k1, k2, k3, k4⟩ => ⟨v', k1, k4, cloneS_of rfl k2⟩
  · rw [List.length_map]
    refine (Tryz.slices_Clone_string b o zs.length c zs W (Nat.le_refl _) hl (fun j hj => ?_)).mono fun e w' ⟨v', k1, k2, k3, k4⟩ => ⟨v', k1, k4, cloneS_of (n := zs.length) (by simp) (by rw [List.take_length] at k2; exact k2)⟩
    refine h5 j _ ?_
    rw [List.getElem?_map, List.getElem?_eq_getElem hj]
    simp [List.getD_eq_getElem?_getD, hj]

theorem del87 {w W1 w2 : World} {S : Nat → Prop} {ys zs : List ByteArray} {vb v' : Value} (hs : SlOf w S (ys.map Value.string) vb) (hS : ∀ b, S b → b < w.heap.size)
    (hW1 : W1 = w.alloc (.cells #[vb] 22)) (hb2 : Below W1.heap.size W1 w2) (hC : CloneS W1 w2 9 (zs.map Value.string) v') (hz : zs.length ≤ 9223372036854775807) :
    Calls Tryz.prog 87 #[v', .func (.func 89) #[] #[.pointer (some ⟨w.heap.size, 0, none⟩)]] w2 (DPost w ((zs.filter fun x => !notS ys x).map Value.string)) := by
  have hbw : Below w.heap.size w W1 := by rw [hW1]; exact (Below.refl _ _).alloc (Nat.le_refl _) _
  have hsz1 : W1.heap.size = w.heap.size + 1 := by rw [hW1]; simp
  have hB1 : W1.cell? ⟨w.heap.size, 0, none⟩ = some vb := by rw [hW1]; simp
  have hbw2 : Below w.heap.size w w2 := hbw.trans (hb2.mono hbw.size)
  have hB2 : w2.cell? ⟨w.heap.size, 0, none⟩ = some vb := (hb2.cell (p := ⟨w.heap.size, 0, none⟩) (by show w.heap.size < W1.heap.size; omega)).trans hB1
  have hk2 : Keeps w w2 := keeps_below hbw2
  rcases hC with ⟨h1, A, c, rfl⟩ | ⟨h1, g, cap, cur, rfl, h2, h3, h4, h5⟩
  · have : zs = [] := by simpa using h1
    subst this
    refine (del87_none A c _ w2).mono ?_
    rintro e w3 ⟨rfl, rfl⟩
    exact ⟨A, 0, c, rfl, rfl, hbw2, .inl ⟨rfl, A, c, rfl⟩⟩
  · rw [List.length_map] at h4 ⊢
    have hne : zs ≠ [] := by simpa using h1
    have hg2 : g < w2.heap.size := (Array.getElem?_eq_some_iff.1 h3).1
    have hcell : ∀ j (hj : j < zs.length), w2.cell? ⟨g, 0 + j, none⟩ = some (.string zs[j]) := fun j hj => by
      have := h5 j (.string zs[j]) (by rw [List.getElem?_map, List.getElem?_eq_getElem hj]; rfl)
      simp only [World.cell?, h3, Nat.zero_add]
      exact this
    have hH : Holds Value.string w2 g 0 zs.toArray := fun j hj => by
      have hj' : j < zs.length := by simpa using hj
      refine ⟨?_, ?_⟩
      · rw [hcell j hj']; simp [hj']
      · simp only [World.frozen?, h3]; simp
    have hp : PredAt Tryz.prog 89 #[.pointer (some ⟨w.heap.size, 0, none⟩)] Value.string (notS ys) w2 := fun W x hb =>
      clos89_any hs hS (fun b o hbo => ((keeps_below hb) b o (by have := hbw2.size; omega)).trans (hk2 b o hbo)) (((keeps_below hb) w.heap.size 0 (by have := hb2.size; omega)).trans hB2) x
    have hpo : PredOver Tryz.prog 89 #[.pointer (some ⟨w.heap.size, 0, none⟩)] Value.string (notS ys) g 0 zs.toArray.size w2 := fun n os dk x _ => by
      have key : ∀ (b o : Nat), b < W1.heap.size → (sortWorld Value.string w2 g 0 n dk os).cell? ⟨b, o, none⟩ = w2.cell? ⟨b, o, none⟩ := fun b o hb => by
        have hb3 : b < w2.heap.size := Nat.lt_of_lt_of_le hb hb2.size
        unfold sortWorld
        rw [cell?_grow _ _ _ (by show b < (putRow _ _ _ _ _).heap.size; rw [size_putRow]; exact hb3), cell?_putRow_other _ _ g 0 _ _ (Or.inl (by show b ≠ g; omega))]
        rfl
      exact clos89_any hs hS (fun b o hbo => (key b o (by omega)).trans (hk2 b o hbo)) ((key w.heap.size 0 (by omega)).trans hB2) x
    have eg : ∀ args w, (callFunc 89 args).run Tryz.prog w = .ok (.enter 89 args) w := enters_of Tryz.func89 (by kernel_rfl) rfl
    have hz0 : ∀ w, (zeroValue 9).run Tryz.prog w = .ok (.string ByteArray.empty) w := fun w => Tryz.laysNm216.v9 w
    have hcon := AnyE.slices_DeleteFunc Tryz.laysDel87 Value.string (fun _ => rfl) (notS ys) 89 #[.pointer (some ⟨w.heap.size, 0, none⟩)] eg ByteArray.empty hz0 g 0 cap zs.toArray w2 hp hpo hH (by simpa using hz) (by simpa using h4)
    change Calls Tryz.prog 87 _ _ _ at hcon
    have e0 : zs.toArray.toList = zs := rfl
    rw [List.size_toArray, e0] at hcon
    refine hcon.mono ?_
    rintro e w3 ⟨rfl, q, rfl⟩
    generalize hout : (zs.filter fun x => !notS ys x) = out
    have hol : out.length ≤ zs.length := by rw [← hout]; exact List.length_filter_le _ _
    have hd : ((out ++ List.replicate (zs.length - out.length) ByteArray.empty).toArray).size = zs.toArray.size := by simp; omega
    have hH3 := holds_putRow Value.string (Sort.ahead w2 q) g 0 zs.toArray _ (holds_ahead _ w2 q g 0 _ hH) hd
    have hb3 : Below w.heap.size w (putRow Value.string (Sort.ahead w2 q) g 0 (out ++ List.replicate (zs.length - out.length) ByteArray.empty).toArray) := by
      refine ⟨hbw2.os, hbw2.tape, hbw2.output, by rw [size_putRow]; exact hbw2.size, fun k hk => ?_⟩
      have : (putRow Value.string (Sort.ahead w2 q) g 0 (out ++ List.replicate (zs.length - out.length) ByteArray.empty).toArray).heap[k]? = w2.heap[k]? := by
        simp only [putRow, mapBlock, Array.getElem?_modify]
        rw [if_neg (by omega)]
        rfl
      rw [this]; exact hbw2.block k hk
    refine ⟨_, _, _, rfl, by simp, hb3, ?_⟩
    by_cases ho : out = []
    · subst ho; exact .inl ⟨rfl, _, _, rfl⟩
    · refine .inr ⟨by simpa using ho, g, cap, by simp, by omega, by rw [size_putRow]; exact hg2, by rw [List.length_map]; omega, fun j x hj => ?_⟩
      rw [List.getElem?_map, Option.map_eq_some_iff] at hj
      obtain ⟨s, hs1, rfl⟩ := hj
      have hj' := (List.getElem?_eq_some_iff.1 hs1).1
      have := (hH3 j (by simp; omega)).1
      rw [Nat.zero_add] at this
      rw [this]
      congr 2
      rw [getElem!_pos _ j (by simp; omega)]
      simp [List.getElem_append, hj']
      exact (List.getElem?_eq_some_iff.1 hs1).2

theorem both35 {w : World} {S : Nat → Prop} {xs ys : List ByteArray} {va vb : Value} (ha : SlOf w S (xs.map Value.string) va) (hb : SlOf w S (ys.map Value.string) vb) (hS : ∀ b, S b → b < w.heap.size) (hx : xs.length * 16 ≤ 140737488355328) (hy : ys.length * 16 ≤ 140737488355328) :
    Calls Tryz.prog 35 #[va, vb] w (BPost w (((if xs.isEmpty then ys else xs).filter fun x => !notS ys x).map Value.string)
      (!((if xs.isEmpty then ys else xs).filter fun x => !notS ys x).isEmpty || (if xs.isEmpty then ys else xs).isEmpty)) := by
  have hkeep : Keeps w (w.alloc (.cells #[vb] 22)) := keeps_below ((Below.refl _ _).alloc (Nat.le_refl _) _)
  have lift : ∀ {l : List Value} {v : Value}, SlOf w S l v → SlOf (w.alloc (.cells #[vb] 22)) S l v := fun {l v} h => by
    rcases h with h | ⟨h1, b, o, c, h2, h3, h4, h5, h6⟩
    · exact .inl h
    · exact .inr ⟨h1, b, o, c, h2, h3, h4, h5, fun j x hj => (hkeep b (o + j) (hS b h3)).trans (h6 j x hj)⟩
  rcases Bool.eq_false_or_eq_true xs.isEmpty with he | he
  · have hxs : xs = [] := by simpa using he
    simp only [he, if_true]
    obtain ⟨A, c, rfl⟩ : ∃ A c, va = .slice A 0 c := by
      rcases ha with ⟨-, A, c, h⟩ | ⟨h, -⟩
      · exact ⟨A, c, h⟩
      · rw [hxs] at h; exact absurd rfl h
    obtain ⟨Ab, nb, cb, hvb, hnb⟩ : ∃ A n c, vb = .slice A n c ∧ n = ys.length := by
      rcases hb with ⟨h, A, c, rfl⟩ | ⟨h, b, o, c, rfl, -⟩
      · exact ⟨A, 0, c, rfl, by simpa using (congrArg List.length h).symm⟩
      · exact ⟨_, _, c, rfl, by simp⟩
    subst hvb
    have hcl := clone88 (lift hb) hy
    have hdel := fun (w2 : World) (v' : Value) (hb2 : Below (w.alloc (.cells #[.slice Ab nb cb] 22)).heap.size (w.alloc (.cells #[.slice Ab nb cb] 22)) w2) (hC : CloneS (w.alloc (.cells #[.slice Ab nb cb] 22)) w2 9 (ys.map Value.string) v') => del87 (w := w) hb hS rfl hb2 hC (by omega)
    have Hn : Hid (nb = ys.length) := hid hnb
    clear hnb lift hkeep ha hb hS
    generalize ((ys.filter fun x => !notS ys x)) = out at hdel ⊢
    go_enter Tryz.func35, Tryz.ntmps35
    go_wp2_with (first
      | (go_at_call 88; refine hcl.mono ?_; rintro e w2 ⟨v', rfl, hb2, hC⟩)
      | (go_at_call 87; refine (hdel _ _ hb2 hC).mono ?_; rintro e w3 ⟨A3, n3, c3, rfl, hD⟩))
    · rename_i ho
      go_ret2
      subst ho
      obtain ⟨h1, h2, h3⟩ := hD
      rw [List.map_nil, List.length_nil] at h1
      subst h1
      refine ⟨.slice A3 0 c3, ?_, h2, h3⟩
      show Ending.returned (.tuple #[.slice A3 0 c3, .bool ((nb : Int) == 0)]) = _
      rw [Hn.out]
      have : (((ys.length : Nat) : Int) == 0) = ys.isEmpty := by cases ys <;> simp; omega
      rw [this]; rfl
    · rename_i ho
      go_ret2
      obtain ⟨h1, h2, h3⟩ := hD
      rw [List.length_map] at h1
      subst h1
      refine ⟨.slice A3 out.length c3, ?_, h2, h3⟩
      show Ending.returned (.tuple #[.slice A3 out.length c3, .bool true]) = _
      cases out with
      | nil => exact absurd rfl ho
      | cons a r => rfl
    · rename_i ho
      exfalso
      cases out with
      | nil => exact ho rfl
      | cons a r => simp at h
  · have hne : xs ≠ [] := fun h => by rw [h] at he; cases he
    simp only [he, Bool.false_eq_true, if_false]
    obtain ⟨Aa, na, ca, hva, hna⟩ : ∃ A n c, va = .slice A n c ∧ n = xs.length := by
      rcases ha with ⟨h, A, c, rfl⟩ | ⟨h, b, o, c, rfl, -⟩
      · exact ⟨A, 0, c, rfl, by simpa using (congrArg List.length h).symm⟩
      · exact ⟨_, _, c, rfl, by simp⟩
    subst hva
    have hpos : 0 < na := by rw [hna]; exact List.length_pos_iff.2 hne
    have hz : ((na : Int) == 0) = false := beq_eq_false_iff_ne.2 (by omega)
    have hcl := clone88 (lift ha) hx
    have hdel := fun (w2 : World) (v' : Value) (hb2 : Below (w.alloc (.cells #[vb] 22)).heap.size (w.alloc (.cells #[vb] 22)) w2) (hC : CloneS (w.alloc (.cells #[vb] 22)) w2 9 (xs.map Value.string) v') => del87 (w := w) hb hS rfl hb2 hC (by omega)
    have Hn : Hid (na = xs.length) := hid hna
    have hvb : ∃ A n c, vb = .slice A n c := by
      rcases hb with ⟨h, A, c, rfl⟩ | ⟨h, b, o, c, rfl, -⟩
      · exact ⟨A, 0, c, rfl⟩
      · exact ⟨_, _, c, rfl⟩
    obtain ⟨Ab, nb, cb, rfl⟩ := hvb
    clear hna lift hkeep ha hb hS hne
    generalize ((xs.filter fun x => !notS ys x)) = out at hdel ⊢
    go_enter Tryz.func35, Tryz.ntmps35
    go_wp2_with (first
      | (go_at_call 88; refine hcl.mono ?_; rintro e w2 ⟨v', rfl, hb2, hC⟩)
      | (go_at_call 87; refine (hdel _ _ hb2 hC).mono ?_; rintro e w3 ⟨A3, n3, c3, rfl, hD⟩))
    · rename_i ho
      go_ret2
      subst ho
      obtain ⟨h1, h2, h3⟩ := hD
      rw [List.map_nil, List.length_nil] at h1
      subst h1
      exact ⟨.slice A3 0 c3, rfl, h2, h3⟩
    · rename_i ho
      go_ret2
      obtain ⟨h1, h2, h3⟩ := hD
      rw [List.length_map] at h1
      subst h1
      refine ⟨.slice A3 out.length c3, ?_, h2, h3⟩
      show Ending.returned (.tuple #[.slice A3 out.length c3, .bool true]) = _
      cases out with
      | nil => exact absurd rfl ho
      | cons a r => rfl
    · rename_i ho
      exfalso
      cases out with
      | nil => exact ho rfl
      | cons a r => simp at h

/-! ### numbers -/
theorem del90_none (A : Option Addr) (c : Nat) (fv : Value) (w : World) :
    Calls Tryz.prog 90 #[.slice A 0 c, fv] w fun e w' => e = .returned (.slice A 0 c) ∧ w' = w := by
  have hIF := AnyE.slices_IndexFunc_empty (P := Tryz.prog) (ρ := Tryz.laysDel90_ren) { Tryz.laysDel90 with } A c fv w
  change Calls Tryz.prog 128 _ _ _ at hIF
  go_enter Tryz.func90, Tryz.ntmps90
  go_wp2_with (go_at_call 128; refine hIF.mono ?_; rintro e w' ⟨rfl, rfl⟩)
  all_goals (go_ret; exact ⟨rfl, rfl⟩)

/-- Is not allowed. -/
def notI (ys : List Int) (x : Int) : Bool := !(ys.isEmpty || ys.contains x)
theorem clos92_any {w : World} {S : Nat → Prop} {ys : List Int} {vb : Value} (hs : SlOf w S (ys.map (Value.int .i64)) vb) (hS : ∀ b, S b → b < w.heap.size) {W : World} {B : Nat} (hW : Keeps w W) (hB : W.cell? ⟨B, 0, none⟩ = some vb) (x : Int) :
    FnGives Tryz.prog 92 #[.pointer (some ⟨B, 0, none⟩)] #[.int .i64 x] (.bool (notI ys x)) W := by
  show Calls Tryz.prog 92 #[.int .i64 x, .pointer (some ⟨B, 0, none⟩)] W _
  rcases hs with ⟨h1, A, c, rfl⟩ | ⟨h1, b, o, c, rfl, h2, h3, h4, h5⟩
  · have : ys = [] := by simpa using h1
    subst this
    exact clos92_nil A c B x W hB
  · have hne : ys ≠ [] := by simpa using h1
    have hpos : 0 < ys.length := List.length_pos_iff.2 hne
    have he : notI ys x = !((ys.take ys.length).contains x) := by
      unfold notI
      rw [List.take_length]
      cases ys with
      | nil => exact absurd rfl hne
      | cons => rfl
    rw [he]
    rw [List.length_map] at hB h4
    refine clos92 b o ys.length c B ys x W hpos (Nat.le_refl _) (by unfold maxLen at h4; omega) (fun j hj => ?_) hB
    rw [hW b (o + j) (hS b h2)]
    refine h5 j _ ?_
    rw [List.getElem?_map, List.getElem?_eq_getElem hj]
    simp [List.getD_eq_getElem?_getD, hj]

theorem clone91 {W : World} {S : Nat → Prop} {zs : List Int} {vz : Value} (hs : SlOf W S (zs.map (Value.int .i64)) vz) (hl : zs.length * 8 ≤ 140737488355328) :
    Calls Tryz.prog 91 #[vz] W fun e w' => ∃ v', e = .returned v' ∧ Below W.heap.size W w' ∧ CloneS W w' 3 (zs.map (Value.int .i64)) v' := by
  rcases hs with ⟨h1, A, c, rfl⟩ | ⟨h1, b, o, c, rfl, h2, h3, h4, h5⟩
  · rw [h1]
    cases A with
    | none => exact (Tryz.slices_Clone_int_nil _ _ _).mono fun e w' h => ⟨_, h.1, by rw [h.2]; exact .refl _ _, .inl ⟨rfl, _, _, rfl⟩⟩
    | some a => exact (Tryz.slices_Clone_int_zero _ _ _).mono fun e w' ⟨v', k1, k2, k3, k4⟩ => ⟨v', k1, k4, cloneS_of rfl k2⟩
  · rw [List.length_map]
    refine (Tryz.slices_Clone_int b o zs.length c zs W (Nat.le_refl _) hl (fun j hj => ?_)).mono fun e w' ⟨v', k1, k2, k3, k4⟩ => ⟨v', k1, k4, cloneS_of (n := zs.length) (by simp) (by rw [List.take_length] at k2; exact k2)⟩
    refine h5 j _ ?_
    rw [List.getElem?_map, List.getElem?_eq_getElem hj]
    simp [List.getD_eq_getElem?_getD, hj]

theorem del90 {w W1 w2 : World} {S : Nat → Prop} {ys zs : List Int} {vb v' : Value} (hs : SlOf w S (ys.map (Value.int .i64)) vb) (hS : ∀ b, S b → b < w.heap.size)
    (hW1 : W1 = w.alloc (.cells #[vb] 23)) (hb2 : Below W1.heap.size W1 w2) (hC : CloneS W1 w2 3 (zs.map (Value.int .i64)) v') (hz : zs.length ≤ 9223372036854775807) :
    Calls Tryz.prog 90 #[v', .func (.func 92) #[] #[.pointer (some ⟨w.heap.size, 0, none⟩)]] w2 (DPost w ((zs.filter fun x => !notI ys x).map (Value.int .i64))) := by
  have hbw : Below w.heap.size w W1 := by rw [hW1]; exact (Below.refl _ _).alloc (Nat.le_refl _) _
  have hsz1 : W1.heap.size = w.heap.size + 1 := by rw [hW1]; simp
  have hB1 : W1.cell? ⟨w.heap.size, 0, none⟩ = some vb := by rw [hW1]; simp
  have hbw2 : Below w.heap.size w w2 := hbw.trans (hb2.mono hbw.size)
  have hB2 : w2.cell? ⟨w.heap.size, 0, none⟩ = some vb := (hb2.cell (p := ⟨w.heap.size, 0, none⟩) (by show w.heap.size < W1.heap.size; omega)).trans hB1
  have hk2 : Keeps w w2 := keeps_below hbw2
  rcases hC with ⟨h1, A, c, rfl⟩ | ⟨h1, g, cap, cur, rfl, h2, h3, h4, h5⟩
  · have : zs = [] := by simpa using h1
    subst this
    refine (del90_none A c _ w2).mono ?_
    rintro e w3 ⟨rfl, rfl⟩
    exact ⟨A, 0, c, rfl, rfl, hbw2, .inl ⟨rfl, A, c, rfl⟩⟩
  · rw [List.length_map] at h4 ⊢
    have hne : zs ≠ [] := by simpa using h1
    have hg2 : g < w2.heap.size := (Array.getElem?_eq_some_iff.1 h3).1
    have hcell : ∀ j (hj : j < zs.length), w2.cell? ⟨g, 0 + j, none⟩ = some (.int .i64 zs[j]) := fun j hj => by
      have := h5 j (.int .i64 zs[j]) (by rw [List.getElem?_map, List.getElem?_eq_getElem hj]; rfl)
      simp only [World.cell?, h3, Nat.zero_add]
      exact this
    have hH : Holds (Value.int .i64) w2 g 0 zs.toArray := fun j hj => by
      have hj' : j < zs.length := by simpa using hj
      refine ⟨?_, ?_⟩
      · rw [hcell j hj']; simp [hj']
      · simp only [World.frozen?, h3]; simp
    have hp : PredAt Tryz.prog 92 #[.pointer (some ⟨w.heap.size, 0, none⟩)] (Value.int .i64) (notI ys) w2 := fun W x hb =>
      clos92_any hs hS (fun b o hbo => ((keeps_below hb) b o (by have := hbw2.size; omega)).trans (hk2 b o hbo)) (((keeps_below hb) w.heap.size 0 (by have := hb2.size; omega)).trans hB2) x
    have hpo : PredOver Tryz.prog 92 #[.pointer (some ⟨w.heap.size, 0, none⟩)] (Value.int .i64) (notI ys) g 0 zs.toArray.size w2 := fun n os dk x _ => by
      have key : ∀ (b o : Nat), b < W1.heap.size → (sortWorld (Value.int .i64) w2 g 0 n dk os).cell? ⟨b, o, none⟩ = w2.cell? ⟨b, o, none⟩ := fun b o hb => by
        have hb3 : b < w2.heap.size := Nat.lt_of_lt_of_le hb hb2.size
        unfold sortWorld
        rw [cell?_grow _ _ _ (by show b < (putRow _ _ _ _ _).heap.size; rw [size_putRow]; exact hb3), cell?_putRow_other _ _ g 0 _ _ (Or.inl (by show b ≠ g; omega))]
        rfl
      exact clos92_any hs hS (fun b o hbo => (key b o (by omega)).trans (hk2 b o hbo)) ((key w.heap.size 0 (by omega)).trans hB2) x
    have eg : ∀ args w, (callFunc 92 args).run Tryz.prog w = .ok (.enter 92 args) w := enters_of Tryz.func92 (by kernel_rfl) rfl
    have hz0 : ∀ w, (zeroValue 3).run Tryz.prog w = .ok (.int .i64 0) w := fun w => Tryz.laysNm215.v3 w
    have hcon := AnyE.slices_DeleteFunc Tryz.laysDel90 (Value.int .i64) (fun _ => rfl) (notI ys) 92 #[.pointer (some ⟨w.heap.size, 0, none⟩)] eg (0 : Int) hz0 g 0 cap zs.toArray w2 hp hpo hH (by simpa using hz) (by simpa using h4)
    change Calls Tryz.prog 90 _ _ _ at hcon
    have e0 : zs.toArray.toList = zs := rfl
    rw [List.size_toArray, e0] at hcon
    refine hcon.mono ?_
    rintro e w3 ⟨rfl, q, rfl⟩
    generalize hout : (zs.filter fun x => !notI ys x) = out
    have hol : out.length ≤ zs.length := by rw [← hout]; exact List.length_filter_le _ _
    have hd : ((out ++ List.replicate (zs.length - out.length) (0 : Int)).toArray).size = zs.toArray.size := by simp; omega
    have hH3 := holds_putRow (Value.int .i64) (Sort.ahead w2 q) g 0 zs.toArray _ (holds_ahead _ w2 q g 0 _ hH) hd
    have hb3 : Below w.heap.size w (putRow (Value.int .i64) (Sort.ahead w2 q) g 0 (out ++ List.replicate (zs.length - out.length) (0 : Int)).toArray) := by
      refine ⟨hbw2.os, hbw2.tape, hbw2.output, by rw [size_putRow]; exact hbw2.size, fun k hk => ?_⟩
      have : (putRow (Value.int .i64) (Sort.ahead w2 q) g 0 (out ++ List.replicate (zs.length - out.length) (0 : Int)).toArray).heap[k]? = w2.heap[k]? := by
        simp only [putRow, mapBlock, Array.getElem?_modify]
        rw [if_neg (by omega)]
        rfl
      rw [this]; exact hbw2.block k hk
    refine ⟨_, _, _, rfl, by simp, hb3, ?_⟩
    by_cases ho : out = []
    · subst ho; exact .inl ⟨rfl, _, _, rfl⟩
    · refine .inr ⟨by simpa using ho, g, cap, by simp, by omega, by rw [size_putRow]; exact hg2, by rw [List.length_map]; omega, fun j x hj => ?_⟩
      rw [List.getElem?_map, Option.map_eq_some_iff] at hj
      obtain ⟨s, hs1, rfl⟩ := hj
      have hj' := (List.getElem?_eq_some_iff.1 hs1).1
      have := (hH3 j (by simp; omega)).1
      rw [Nat.zero_add] at this
      rw [this]
      congr 2
      rw [getElem!_pos _ j (by simp; omega)]
      simp [List.getElem_append, hj']
      exact (List.getElem?_eq_some_iff.1 hs1).2

theorem both36 {w : World} {S : Nat → Prop} {xs ys : List Int} {va vb : Value} (ha : SlOf w S (xs.map (Value.int .i64)) va) (hb : SlOf w S (ys.map (Value.int .i64)) vb) (hS : ∀ b, S b → b < w.heap.size) (hx : xs.length * 8 ≤ 140737488355328) (hy : ys.length * 8 ≤ 140737488355328) :
    Calls Tryz.prog 36 #[va, vb] w (BPost w (((if xs.isEmpty then ys else xs).filter fun x => !notI ys x).map (Value.int .i64))
      (!((if xs.isEmpty then ys else xs).filter fun x => !notI ys x).isEmpty || (if xs.isEmpty then ys else xs).isEmpty)) := by
  have hkeep : Keeps w (w.alloc (.cells #[vb] 23)) := keeps_below ((Below.refl _ _).alloc (Nat.le_refl _) _)
  have lift : ∀ {l : List Value} {v : Value}, SlOf w S l v → SlOf (w.alloc (.cells #[vb] 23)) S l v := fun {l v} h => by
    rcases h with h | ⟨h1, b, o, c, h2, h3, h4, h5, h6⟩
    · exact .inl h
    · exact .inr ⟨h1, b, o, c, h2, h3, h4, h5, fun j x hj => (hkeep b (o + j) (hS b h3)).trans (h6 j x hj)⟩
  rcases Bool.eq_false_or_eq_true xs.isEmpty with he | he
  · have hxs : xs = [] := by simpa using he
    simp only [he, if_true]
    obtain ⟨A, c, rfl⟩ : ∃ A c, va = .slice A 0 c := by
      rcases ha with ⟨-, A, c, h⟩ | ⟨h, -⟩
      · exact ⟨A, c, h⟩
      · rw [hxs] at h; exact absurd rfl h
    obtain ⟨Ab, nb, cb, hvb, hnb⟩ : ∃ A n c, vb = .slice A n c ∧ n = ys.length := by
      rcases hb with ⟨h, A, c, rfl⟩ | ⟨h, b, o, c, rfl, -⟩
      · exact ⟨A, 0, c, rfl, by simpa using (congrArg List.length h).symm⟩
      · exact ⟨_, _, c, rfl, by simp⟩
    subst hvb
    have hcl := clone91 (lift hb) hy
    have hdel := fun (w2 : World) (v' : Value) (hb2 : Below (w.alloc (.cells #[.slice Ab nb cb] 23)).heap.size (w.alloc (.cells #[.slice Ab nb cb] 23)) w2) (hC : CloneS (w.alloc (.cells #[.slice Ab nb cb] 23)) w2 3 (ys.map (Value.int .i64)) v') => del90 (w := w) hb hS rfl hb2 hC (by omega)
    have Hn : Hid (nb = ys.length) := hid hnb
    clear hnb lift hkeep ha hb hS
    generalize ((ys.filter fun x => !notI ys x)) = out at hdel ⊢
    go_enter Tryz.func36, Tryz.ntmps36
    go_wp2_with (first
      | (go_at_call 91; refine hcl.mono ?_; rintro e w2 ⟨v', rfl, hb2, hC⟩)
      | (go_at_call 90; refine (hdel _ _ hb2 hC).mono ?_; rintro e w3 ⟨A3, n3, c3, rfl, hD⟩))
    · rename_i ho
      go_ret2
      subst ho
      obtain ⟨h1, h2, h3⟩ := hD
      rw [List.map_nil, List.length_nil] at h1
      subst h1
      refine ⟨.slice A3 0 c3, ?_, h2, h3⟩
      show Ending.returned (.tuple #[.slice A3 0 c3, .bool ((nb : Int) == 0)]) = _
      rw [Hn.out]
      have : (((ys.length : Nat) : Int) == 0) = ys.isEmpty := by cases ys <;> simp; omega
      rw [this]; rfl
    · rename_i ho
      go_ret2
      obtain ⟨h1, h2, h3⟩ := hD
      rw [List.length_map] at h1
      subst h1
      refine ⟨.slice A3 out.length c3, ?_, h2, h3⟩
      show Ending.returned (.tuple #[.slice A3 out.length c3, .bool true]) = _
      cases out with
      | nil => exact absurd rfl ho
      | cons a r => rfl
    · rename_i ho
      exfalso
      cases out with
      | nil => exact ho rfl
      | cons a r => simp at h
  · have hne : xs ≠ [] := fun h => by rw [h] at he; cases he
    simp only [he, Bool.false_eq_true, if_false]
    obtain ⟨Aa, na, ca, hva, hna⟩ : ∃ A n c, va = .slice A n c ∧ n = xs.length := by
      rcases ha with ⟨h, A, c, rfl⟩ | ⟨h, b, o, c, rfl, -⟩
      · exact ⟨A, 0, c, rfl, by simpa using (congrArg List.length h).symm⟩
      · exact ⟨_, _, c, rfl, by simp⟩
    subst hva
    have hpos : 0 < na := by rw [hna]; exact List.length_pos_iff.2 hne
    have hz : ((na : Int) == 0) = false := beq_eq_false_iff_ne.2 (by omega)
    have hcl := clone91 (lift ha) hx
    have hdel := fun (w2 : World) (v' : Value) (hb2 : Below (w.alloc (.cells #[vb] 23)).heap.size (w.alloc (.cells #[vb] 23)) w2) (hC : CloneS (w.alloc (.cells #[vb] 23)) w2 3 (xs.map (Value.int .i64)) v') => del90 (w := w) hb hS rfl hb2 hC (by omega)
    have Hn : Hid (na = xs.length) := hid hna
    have hvb : ∃ A n c, vb = .slice A n c := by
      rcases hb with ⟨h, A, c, rfl⟩ | ⟨h, b, o, c, rfl, -⟩
      · exact ⟨A, 0, c, rfl⟩
      · exact ⟨_, _, c, rfl⟩
    obtain ⟨Ab, nb, cb, rfl⟩ := hvb
    clear hna lift hkeep ha hb hS hne
    generalize ((xs.filter fun x => !notI ys x)) = out at hdel ⊢
    go_enter Tryz.func36, Tryz.ntmps36
    go_wp2_with (first
      | (go_at_call 91; refine hcl.mono ?_; rintro e w2 ⟨v', rfl, hb2, hC⟩)
      | (go_at_call 90; refine (hdel _ _ hb2 hC).mono ?_; rintro e w3 ⟨A3, n3, c3, rfl, hD⟩))
    · rename_i ho
      go_ret2
      subst ho
      obtain ⟨h1, h2, h3⟩ := hD
      rw [List.map_nil, List.length_nil] at h1
      subst h1
      exact ⟨.slice A3 0 c3, rfl, h2, h3⟩
    · rename_i ho
      go_ret2
      obtain ⟨h1, h2, h3⟩ := hD
      rw [List.length_map] at h1
      subst h1
      refine ⟨.slice A3 out.length c3, ?_, h2, h3⟩
      show Ending.returned (.tuple #[.slice A3 out.length c3, .bool true]) = _
      cases out with
      | nil => exact absurd rfl ho
      | cons a r => rfl
    · rename_i ho
      exfalso
      cases out with
      | nil => exact ho rfl
      | cons a r => simp at h
end Go.Proofs.YtcjgmffbebjddaaGreatDoor
