/- What a row's condition gives: the table that is only read; a condition that came in, read as plain words. Nothing is assumed but what the row says. -/
import Derived.Test.YtcjgmffbebjddaaGreatDoorFacts
import Derived.Test.YtcjgmffbebjddaaGreatDoorExt
import Derived.Test.YtcjgmffbebjddaaGreatDoorPlI
import Derived.Test.YtcjgmffbebjddaaGreatDoorRows
import Derived.Test.YtcjgmffbebjddaaGreatDoorEng
import Derived.Lib.LaidTab
import Derived.MakeChecks
set_option linter.all false
namespace Go.Proofs.YtcjgmffbebjddaaGreatDoor
open Go Go.Eng

theorem pow_laid {W : World} {a b : String × DataW Unit} {r : List (String × DataW Unit)} (h : laidMet Tryz.prog (a :: b :: ("internal/strconv.uint64pow10", Rows.laid_internal_strconv_uint64pow10) :: r) W) : Lib.TabIs Tryz.prog W "internal/strconv.uint64pow10" .u64 Lib.pow10Tab := by
  obtain ⟨ps, ⟨g1, t1, cs1, f1, p1, q1, hg1, ht1, hv1, hd1, ⟨g2, t2, cs2, f2, p2, q2, hg2, ht2, hv2, hd2, ⟨g, t, cs, fuel, p, q, hg, ht, hv, hd, _, _⟩, _⟩, _⟩, _, _⟩ := h
  obtain rfl := Option.some.inj ((show Tryz.prog.globalNamed "internal/strconv.uint64pow10" = some 3 by kernel_rfl).symm.trans hg)
  obtain ⟨tt, htt⟩ : ∃ tt, (Tryz.prog.globals[3]?).map (·.type) = some tt := ⟨t, ht⟩
  unfold Lib.TabIs
  rw [hv, ← Lib.cells_of_tab (n := 20) (e := 207) (k := .u64) (zs := Lib.pow10Tab) ?_ ?_ ?_ ?_ hd]
  · obtain rfl := Option.some.inj ((show (Tryz.prog.globals[3]?).map (·.type) = some 227 by kernel_rfl).symm.trans ht)
    kernel_rfl
  · kernel_rfl
  · kernel_rfl
  · obtain rfl := Option.some.inj ((show (Tryz.prog.globals[3]?).map (·.type) = some 227 by kernel_rfl).symm.trans ht)
    kernel_rfl

theorem tabs_of {W : World} (h : Lib.TabIs Tryz.prog W "internal/strconv.uint64pow10" .u64 Lib.pow10Tab) : TabsOK W (fun b => b < W.heap.size) tyT := by
  intro t ht n e l hg
  rw [gl_of ht] at hg
  have hcell : ∀ i, i < 20 → W.cell? ⟨3, i, none⟩ = some (.int .u64 (Lib.pow10Tab.getD i 0)) := fun i hi => h.cell (by kernel_rfl) i hi
  have hv : ∃ ty fz, W.heap[3]? = some (.cells (Lib.pow10Tab.map fun z => Value.int .u64 z).toArray ty fz) := by
    unfold Lib.TabIs World.var? at h
    rw [show Tryz.prog.globalNamed "internal/strconv.uint64pow10" = some 3 by kernel_rfl, Option.bind_some] at h
    split at h
    · rename_i cs ty fz hh
      exact ⟨ty, fz, by rw [hh, Option.some.inj h]⟩
    · cases h
  obtain ⟨ty, fz, hh⟩ := hv
  have h3 : 3 < W.heap.size := by
    rcases Nat.lt_or_ge 3 W.heap.size with h | h
    · exact h
    · rw [Array.getElem?_eq_none h] at hh; cases hh
  unfold glT at hg
  split at hg
  · have hl : l = Lib.pow10Tab.map fun z => D.v (.int .u64 z) := (Prod.mk.inj (Option.some.inj hg)).2.symm.trans (by rfl)
    have he : e = 207 := (Prod.mk.inj (Option.some.inj hg)).1.symm
    subst hl he
    obtain ⟨t7, h7, h7s, h7a⟩ : ∃ t, tyT 207 = some t ∧ t.size = 1 ∧ t.agg = false := ⟨_, rfl, rfl, rfl⟩
    refine ⟨?_, h3, ty, fz, ?_⟩
    · refine DR.sl 207 _ 3 0 _ t7 (fun j _ => .int .u64 (Lib.pow10Tab.getD j 0)) (by simp [Lib.pow10Tab]) h7 (by omega) ?_ h3 (Nat.le_refl _) (by simp [Lib.pow10Tab, maxLen]) ?_ ?_
      · intro x hx
        obtain ⟨z, _, rfl⟩ := List.mem_map.1 hx
        exact ⟨by rw [h7s]; rfl, fun y hy => by simp [D.cells] at hy; subst hy; rfl, Iff.intro (fun ⟨c, hc⟩ => by cases hc) (fun h => by rw [h7a] at h; cases h)⟩
      · intro j k hj hk
        rw [h7s] at hk ⊢
        have : k = 0 := by omega
        subst this
        simpa using hcell j (by simpa [Lib.pow10Tab] using hj)
      · intro j k x y hx hy
        rw [List.getElem?_map, Option.map_eq_some_iff] at hx
        obtain ⟨z, hz, rfl⟩ := hx
        cases k with
        | zero =>
          obtain rfl := Option.some.inj (show some (D.v (.int .u64 z)) = some y from hy)
          have : Lib.pow10Tab.getD j 0 = z := by rw [List.getD, hz]; rfl
          rw [this]
          exact .v _ rfl
        | succ k => simp [D.cells] at hy
    · rw [hh]
      have : tabCells (Lib.pow10Tab.map fun z => D.v (.int .u64 z)) = (Lib.pow10Tab.map fun z => Value.int .u64 z).toArray := by kernel_rfl
      rw [this]
  · cases hg

/-! ### A condition that came in -/
theorem okt_int {Z : TypeId → Option Ty} {n : Nat} {T : TypeId} {t : Ty} {k : IntKind} {xs : List D} (h : OKT Z (n + 1) T xs) (hz : Z T = some t) (h1 : t.bl = false) (h2 : t.str = false) (h3 : t.ik = some k) (h4 : t.elem = none) (h5 : t.agg = false) : ∃ i, xs = [.v (.int k i)] := by
  obtain ⟨t', hz', h⟩ := h
  obtain rfl := Option.some.inj (hz.symm.trans hz')
  rcases h with ⟨h, _⟩ | ⟨h, _⟩ | ⟨k', i, hk, hx, _⟩ | ⟨e, te, l, h, _⟩ | ⟨_, h, _⟩
  · rw [h1] at h; cases h
  · rw [h2] at h; cases h
  · rw [h3] at hk; cases hk; exact ⟨i, hx⟩
  · rw [h4] at h; cases h
  · rw [h5] at h; cases h
theorem okt_str {Z : TypeId → Option Ty} {n : Nat} {T : TypeId} {t : Ty} {xs : List D} (h : OKT Z (n + 1) T xs) (hz : Z T = some t) (h1 : t.bl = false) (h3 : t.ik = none) (h4 : t.elem = none) (h5 : t.agg = false) : ∃ s : ByteArray, xs = [.v (.string s)] := by
  obtain ⟨t', hz', h⟩ := h
  obtain rfl := Option.some.inj (hz.symm.trans hz')
  rcases h with ⟨h, _⟩ | ⟨_, s, hx, _⟩ | ⟨k', i, hk, hx, _⟩ | ⟨e, te, l, h, _⟩ | ⟨_, h, _⟩
  · rw [h1] at h; cases h
  · exact ⟨s, hx⟩
  · rw [h3] at hk; cases hk
  · rw [h4] at h; cases h
  · rw [h5] at h; cases h
theorem okt_sl {Z : TypeId → Option Ty} {n : Nat} {T e : TypeId} {t : Ty} {xs : List D} (h : OKT Z (n + 1) T xs) (hz : Z T = some t) (h1 : t.bl = false) (h2 : t.str = false) (h3 : t.ik = none) (h4 : t.elem = some e) (h5 : t.agg = false) : ∃ te l, Z e = some te ∧ xs = [.sl e l] ∧ ∀ x ∈ l, D.shaped te x ∧ OKT Z n e x.cells := by
  obtain ⟨t', hz', h⟩ := h
  obtain rfl := Option.some.inj (hz.symm.trans hz')
  rcases h with ⟨h, _⟩ | ⟨h, _⟩ | ⟨k', i, hk, hx, _⟩ | ⟨e', te, l, h, h6, hx, _, hl⟩ | ⟨_, h, _⟩
  · rw [h1] at h; cases h
  · rw [h2] at h; cases h
  · rw [h3] at hk; cases hk
  · rw [h4] at h; cases h
    exact ⟨te, l, h6, hx, hl⟩
  · rw [h5] at h; cases h
theorem okt_struct {Z : TypeId → Option Ty} {n : Nat} {T : TypeId} {t : Ty} {xs : List D} (h : OKT Z (n + 1) T xs) (hz : Z T = some t) (h1 : t.bl = false) (h2 : t.str = false) (h3 : t.ik = none) (h4 : t.elem = none) : xs.length = t.size ∧ ∀ p ∈ t.fields, ∃ tp, Z p.2 = some tp ∧ OKT Z n p.2 ((xs.drop p.1).take tp.size) := by
  obtain ⟨t', hz', h⟩ := h
  obtain rfl := Option.some.inj (hz.symm.trans hz')
  rcases h with ⟨h, _⟩ | ⟨h, _⟩ | ⟨k', i, hk, hx, _⟩ | ⟨e, te, l, h, _⟩ | ⟨_, _, h6, h7⟩
  · rw [h1] at h; cases h
  · rw [h2] at h; cases h
  · rw [h3] at hk; cases hk
  · rw [h4] at h; cases h
  · exact ⟨h6, h7⟩
theorem leaf_cells {te : Ty} (hs : te.size = 1) (ha : te.agg = false) {x : D} {v : Value} (h : D.shaped te x) (hc : x.cells = [.v v]) : x = .v v := by
  cases x with
  | v u => simpa [D.cells] using hc
  | sl e l => simp [D.cells] at hc
  | agg l => have := h.2.2.1 ⟨l, rfl⟩; rw [ha] at this; cases this
theorem choose_map {α : Type} {f : α → D} : ∀ {l : List D}, (∀ x ∈ l, ∃ a, x = f a) → ∃ ys : List α, l = ys.map f
  | [], _ => ⟨[], rfl⟩
  | x :: l, h => by
    obtain ⟨a, ha⟩ := h x (List.mem_cons_self ..)
    obtain ⟨ys, hs⟩ := choose_map fun y hy => h y (List.mem_cons_of_mem _ hy)
    exact ⟨a :: ys, by rw [ha, hs]; rfl⟩

def Cnd.ds (c : Cnd) : List D := [dI c.fr, dI c.to, dB c.p, .sl 9 (c.cl.map dB), .sl 9 (c.co.map dB), .sl 3 (c.si.map dI), dI c.us]

theorem okt_strs {n : Nat} {xs : List D} (h : OKT tyT (n + 2) 22 xs) : ∃ l : List Str, xs = [.sl 9 (l.map dB)] := by
  obtain ⟨te, l, hte, rfl, hl⟩ := okt_sl h rfl rfl rfl rfl rfl rfl
  obtain ⟨ss, rfl⟩ : ∃ ss : List Str, l = ss.map dB := choose_map fun x hx => by
    obtain ⟨h1, h2⟩ := hl x hx
    obtain ⟨s, hs⟩ := okt_str h2 hte (by cases hte; rfl) (by cases hte; rfl) (by cases hte; rfl) (by cases hte; rfl)
    exact ⟨s.data.toList, (leaf_cells (by cases hte; rfl) (by cases hte; rfl) h1 hs).trans (by unfold dB; rw [bs_eta])⟩
  exact ⟨ss, rfl⟩
theorem okt_ints {n : Nat} {xs : List D} (h : OKT tyT (n + 2) 23 xs) : ∃ l : List Int, xs = [.sl 3 (l.map dI)] := by
  obtain ⟨te, l, hte, rfl, hl⟩ := okt_sl h rfl rfl rfl rfl rfl rfl
  obtain ⟨ss, rfl⟩ : ∃ ss : List Int, l = ss.map dI := choose_map fun x hx => by
    obtain ⟨h1, h2⟩ := hl x hx
    obtain ⟨s, hs⟩ := okt_int (k := .i64) h2 hte (by cases hte; rfl) (by cases hte; rfl) (by cases hte; rfl) (by cases hte; rfl) (by cases hte; rfl)
    exact ⟨s, leaf_cells (by cases hte; rfl) (by cases hte; rfl) h1 hs⟩
  exact ⟨ss, rfl⟩
theorem okt_cond {n : Nat} {xs : List D} (h : OKT tyT (n + 3) 25 xs) : ∃ c : Cnd, xs = c.ds := by
  obtain ⟨h1, h2⟩ := okt_struct h rfl rfl rfl rfl rfl
  match xs, h1 with
  | [x0, x1, x2, x3, x4, x5, x6], _ =>
    obtain ⟨t0, e0, g0⟩ := h2 (0, 3) (by simp)
    obtain ⟨t1, e1, g1⟩ := h2 (1, 3) (by simp)
    obtain ⟨t2, e2, g2⟩ := h2 (2, 9) (by simp)
    obtain ⟨t3, e3, g3⟩ := h2 (3, 22) (by simp)
    obtain ⟨t4, e4, g4⟩ := h2 (4, 22) (by simp)
    obtain ⟨t5, e5, g5⟩ := h2 (5, 23) (by simp)
    obtain ⟨t6, e6, g6⟩ := h2 (6, 3) (by simp)
    cases e0; cases e1; cases e2; cases e3; cases e4; cases e5; cases e6
    obtain ⟨a, ha⟩ := okt_int (k := .i64) g0 rfl rfl rfl rfl rfl rfl
    obtain ⟨b, hb⟩ := okt_int (k := .i64) g1 rfl rfl rfl rfl rfl rfl
    obtain ⟨c, hc⟩ := okt_str g2 rfl rfl rfl rfl rfl
    obtain ⟨d, hd⟩ := okt_strs g3
    obtain ⟨e, he⟩ := okt_strs g4
    obtain ⟨f, hf⟩ := okt_ints g5
    obtain ⟨g, hg⟩ := okt_int (k := .i64) g6 rfl rfl rfl rfl rfl rfl
    simp at ha hb hc hd he hf hg
    subst ha hb hc hd he hf hg
    exact ⟨⟨a, b, c.data.toList, d, e, f, g⟩, by simp [Cnd.ds, dI, dB, bs_eta]⟩
end Go.Proofs.YtcjgmffbebjddaaGreatDoor
