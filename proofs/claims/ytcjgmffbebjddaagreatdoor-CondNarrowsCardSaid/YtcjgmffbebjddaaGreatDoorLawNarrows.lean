/- CondNarrows: the row, and the tied card: for every three conditions the law answers true, and each argument reads behind the call as it read before; the tables of the library that the row lists read as listed. -/
import Derived.Test.YtcjgmffbebjddaaGreatDoorRowA
import Derived.Test.YtcjgmffbebjddaaGreatDoorPlR
import Derived.Test.YtcjgmffbebjddaaGreatDoorSan
import Derived.Test.YtcjgmffbebjddaaGreatDoorTie
import Derived.Test.YtcjgmffbebjddaaGreatDoorCards
import Derived.ProofKit
import Derived.OpenShut
import Derived.LaidMore
import Derived.Lay
import Derived.SevenTiedAt
import Derived.JoinedOf
import Derived.ChangeSame
import Derived.Carry
import Derived.SizedLaws
import Derived.ChangeOld
set_option linter.all false
namespace Go.Proofs.YtcjgmffbebjddaaGreatDoor
open Go Go.Eng Go.ChangeShapes Go.WideShapes Go.ChangeAt Go.RowKit

theorem own : ownKnob Tryz.prog.godebug = none := by kernel_rfl
theorem laidOut : laidOutB Tryz.prog = true := by kernel_rfl

theorem narrows_ok (a b c : Cnd) : CallOK Tryz.prog tyT 4 ([D.agg a.ds, D.agg b.ds, D.agg c.ds].map AV.d) [] (.d (.v (.bool true))) [] := by
  obtain ⟨k, h⟩ := e_law21_CondNarrows_ok 1000002 ((a.fr, a.to, bs a.p, a.cl.map dB, a.co.map dB, a.si.map dI, a.us, ()), (b.fr, b.to, bs b.p, b.cl.map dB, b.co.map dB, b.si.map dI, b.us, ()), (c.fr, c.to, bs c.p, c.cl.map dB, c.co.map dB, c.si.map dI, c.us, ()), ()) () true (narrows_law (by decide) sanity_ok a b c)
  exact (evFn_sound mixed ty_facts fn_facts yb_facts ext_ok k 4 _ _ _ _ (h k (Nat.le_refl _))).1 (by decide)

noncomputable def zeroCond : Value := .agg #[.int .i64 0, .int .i64 0, .string ByteArray.empty, .slice none 0 0, .slice none 0 0, .slice none 0 0, .int .i64 0]

set_option maxRecDepth 100000 in
theorem narrows_lifted (os : Os) (started : os.Started) (H : Type) (enc : TypeId × Value → H) :
    ReturnsInHanded {} Tryz.checked os 4 .any (fun w args => (Rows.condNarrowsSpec.pre enc Tryz.prog Tryz.f4 Rows.condNarrowsRow.domain false w args ∧ laidMetH Tryz.prog Rows.condNarrowsRow.laid w) ∧ sizedMet enc Tryz.prog Tryz.f4 (OpenSpec.ofChange Rows.condNarrowsSpec) false w args)
      (Rows.condNarrowsSpec.post enc Tryz.prog Tryz.f4 false true false false) := by
  refine returnsInHanded_of_change_and (C := Tryz.checked) (X := fun w _ => laidMetH Tryz.prog Rows.condNarrowsRow.laid w) (fun _ _ _ hh h => h.of_heap hh) own started (by kernel_rfl) Tryz.func4
    (ChangeSpec.witness_shaped (enc := enc) (C := Tryz.checked) (os := os) (X := fun w _ => laidMetH Tryz.prog Rows.condNarrowsRow.laid w) false (World.laidAll Tryz.prog os Rows.condNarrowsRow.laid) #[zeroCond, zeroCond, zeroCond] 8 (World.laidAll_os _ _ _)
      (World.shaped_of_ZipB (by kernel_rfl) (by kernel_rfl)) (by kernel_rfl) (by kernel_rfl) (by kernel_rfl)
      (by rw [MakeChecks.laidMetH_plain _ _ _ (by kernel_rfl)]; exact laidMet_laidAll _ (by kernel_rfl) (by kernel_rfl))) ?_
  intro W base args ds gs before hval0 hW hc _ hL _
  have hval : ∀ (j : Nat) t v, Tryz.f4.params[j]? = some t → args[j]? = some v → Value.okWide Tryz.prog W .any base t v := hval0
  have hW' := hW
  obtain ⟨p, q, hA0, hV, rfl, _, _⟩ := hW
  have hA : DataW.TrodAll enc Tryz.prog W 0 (fun _ => true) true Tryz.f4.params.toList args.toList ds p := hA0
  rw [Tryz.params4] at hA hval
  obtain ⟨v0, vs0, d0, ds0, p0, q0, hargs, rfl, rfl, h0, r0⟩ := trodAll_cons hA
  obtain ⟨v1, vs1, d1, ds1, p1, q1, rfl, rfl, rfl, h1, r1⟩ := trodAll_cons r0
  obtain ⟨v2, vs2, d2, ds2, p2, q2, rfl, rfl, rfl, h2, r2⟩ := trodAll_cons r1
  obtain ⟨rfl, rfl, rfl⟩ := trodAll_nil r2
  obtain rfl : args = #[v0, v1, v2] := by cases args; simp_all
  obtain ⟨rfl, rfl⟩ := trodVars_none hV
  rw [MakeChecks.laidMetH_plain _ _ _ (by kernel_rfl)] at hL
  have hT := tabs_of (pow_laid hL)
  have lt0 : ∀ x ∈ p0, x.block < W.heap.size := by obtain ⟨m, hm⟩ := h0; exact DataW.trod_lt m _ _ _ hm
  have lt1 : ∀ x ∈ p1, x.block < W.heap.size := by obtain ⟨m, hm⟩ := h1; exact DataW.trod_lt m _ _ _ hm
  have lt2 : ∀ x ∈ p2, x.block < W.heap.size := by obtain ⟨m, hm⟩ := h2; exact DataW.trod_lt m _ _ _ hm
  obtain ⟨x0, g0, k0⟩ := decode_struct ty_facts (n := 5) (by kernel_rfl) Tryz.underlying25 (hval 0 25 v0 rfl rfl) h0
  obtain ⟨x1, g1, k1⟩ := decode_struct ty_facts (n := 5) (by kernel_rfl) Tryz.underlying25 (hval 1 25 v1 rfl rfl) h1
  obtain ⟨x2, g2, k2⟩ := decode_struct ty_facts (n := 5) (by kernel_rfl) Tryz.underlying25 (hval 2 25 v2 rfl rfl) h2
  obtain ⟨a, rfl⟩ := okt_cond k0
  obtain ⟨b, rfl⟩ := okt_cond k1
  obtain ⟨c, rfl⟩ := okt_cond k2
  refine (call_data hT (narrows_ok a b c) rfl ?_).mono ?_
  · intro j x v hx hv
    match j with
    | 0 => cases hx; cases hv; exact g0
    | 1 => cases hx; cases hv; exact g1
    | 2 => cases hx; cases hv; exact g2
    | j + 3 => simp at hx
  · rintro e W' ⟨v, rfl, bel, hb⟩
    obtain rfl := hb true rfl
    exact ⟨_, rfl, _, _, _, [], _, [], hW', trodAll_mk1 (shut_bool Tryz.underlying4 _), trodAll_cons_mk (Below.trod laidOut (by kernel_rfl) (of_decide_eq_true (by kernel_rfl)) h0 bel lt0) (trodAll_cons_mk (Below.trod laidOut (by kernel_rfl) (of_decide_eq_true (by kernel_rfl)) h1 bel lt1) (trodAll_cons_mk (Below.trod laidOut (by kernel_rfl) (of_decide_eq_true (by kernel_rfl)) h2 bel lt2) trodAll_mk0)), rfl, bel.frame _, fun h => by cases h⟩

theorem condNarrows_row : Rows.CondNarrowsSaid :=
  OpenClaim.holds_of_wide 4 Tryz.f4 rfl rfl rfl rfl rfl rfl rfl ⟨rfl, rfl, rfl, rfl, rfl⟩ rfl rfl rfl rfl rfl (by kernel_rfl) Tryz.func4 (by kernel_rfl)
    (of_decide_eq_true (by kernel_rfl)) (by unfold Func.isWrapper; first | (rw [if_pos (by decide +kernel)]; kernel_rfl) | (rw [if_neg (by decide +kernel)]; exact ⟨rfl, rfl⟩))
    (fun os started H enc _ => narrows_lifted os started H enc)

theorem condNarrows_holds : Rows.CondNarrowsCardSaid :=
  Claim7.holds_tied_plain_at .later [] [.data, .data, .data, .data, .pinned] true (true, "cff6053da5c08deca3c7529705c8eb85062f755b8cf9efabb131dfe30fbb79a1") true
    condNarrows_row (fun _ h => by cases h) (by kernel_rfl) (fun _ h => by cases h) condNarrows_row_tie rfl ⟨rfl, rfl⟩ (by kernel_rfl) rfl
    (fun f fn hf hfn => by
      obtain rfl : f = 4 := Option.some.inj ((show Tryz.prog.funcNamed "weirgate/weirgatelaw21.CondNarrows" = some 4 by kernel_rfl).symm.trans hf) |>.symm
      obtain rfl : fn = Tryz.f4 := (Option.some.inj (Tryz.func4.symm.trans hfn)).symm
      exact ⟨by kernel_rfl, fun j t ht => by
        rw [Tryz.params4] at ht
        have hm : t ∈ [25, 25, 25] := by simpa using Array.mem_of_getElem? ht
        have hall : ([25, 25, 25].all fun u => !Tryz.prog.wantsStandIn u) = true := by kernel_rfl
        exact (show Tryz.prog.wantsStandIn t = false by simpa using List.all_eq_true.1 hall t hm)⟩)
    (by kernel_rfl)
#print axioms condNarrows_holds
end Go.Proofs.YtcjgmffbebjddaaGreatDoor
