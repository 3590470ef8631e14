/- CondMeetsAsSpecified: the row, and the tied card: for every two conditions the law answers true, and each argument reads behind the call as it read before; the tables of the library that the row lists read as listed. -/
import Derived.Test.YtcjgmffbebjddaaGreatDoorRowA
import Derived.Test.YtcjgmffbebjddaaGreatDoorPlO
import Derived.Test.YtcjgmffbebjddaaGreatDoorSan
import Derived.Test.YtcjgmffbebjddaaGreatDoorTie
import Derived.Test.YtcjgmffbebjddaaGreatDoorCards
import Derived.ProofKit
import Derived.OpenShut
import Derived.LaidMore
import Derived.Lay
import Derived.SevenTiedAt
import Derived.JoinedOf
import Derived.ChangeSame
import Derived.Carry
import Derived.SizedLaws
import Derived.ChangeOld
set_option linter.all false
namespace Go.Proofs.YtcjgmffbebjddaaGreatDoor
open Go Go.Eng Go.ChangeShapes Go.WideShapes Go.ChangeAt Go.RowKit

theorem own : ownKnob Tryz.prog.godebug = none := by kernel_rfl
theorem laidOut : laidOutB Tryz.prog = true := by kernel_rfl

theorem meets_ok (a b : Cnd) : CallOK Tryz.prog tyT 3 ([D.agg a.ds, D.agg b.ds].map AV.d) [] (.d (.v (.bool true))) [] := by
  obtain ⟨k, h⟩ := e_law21_CondMeetsAsSpecified_ok 1000002 ((a.fr, a.to, bs a.p, a.cl.map dB, a.co.map dB, a.si.map dI, a.us, ()), (b.fr, b.to, bs b.p, b.cl.map dB, b.co.map dB, b.si.map dI, b.us, ()), ()) () true (meets_law (by decide) sanity_ok a b)
  exact (evFn_sound mixed ty_facts fn_facts yb_facts ext_ok k 3 _ _ _ _ (h k (Nat.le_refl _))).1 (by decide)

noncomputable def zeroCond : Value := .agg #[.int .i64 0, .int .i64 0, .string ByteArray.empty, .slice none 0 0, .slice none 0 0, .slice none 0 0, .int .i64 0]

set_option maxRecDepth 100000 in
theorem meets_lifted (os : Os) (started : os.Started) (H : Type) (enc : TypeId × Value → H) :
    ReturnsInHanded {} Tryz.checked os 3 .any (fun w args => (Rows.condMeetsAsSpecifiedSpec.pre enc Tryz.prog Tryz.f3 Rows.condMeetsAsSpecifiedRow.domain false w args ∧ laidMetH Tryz.prog Rows.condMeetsAsSpecifiedRow.laid w) ∧ sizedMet enc Tryz.prog Tryz.f3 (OpenSpec.ofChange Rows.condMeetsAsSpecifiedSpec) false w args)
      (Rows.condMeetsAsSpecifiedSpec.post enc Tryz.prog Tryz.f3 false true false false) := by
  refine returnsInHanded_of_change_and (C := Tryz.checked) (X := fun w _ => laidMetH Tryz.prog Rows.condMeetsAsSpecifiedRow.laid w) (fun _ _ _ hh h => h.of_heap hh) own started (by kernel_rfl) Tryz.func3
    (ChangeSpec.witness_shaped (enc := enc) (C := Tryz.checked) (os := os) (X := fun w _ => laidMetH Tryz.prog Rows.condMeetsAsSpecifiedRow.laid w) false (World.laidAll Tryz.prog os Rows.condMeetsAsSpecifiedRow.laid) #[zeroCond, zeroCond] 8 (World.laidAll_os _ _ _)
      (World.shaped_of_ZipB (by kernel_rfl) (by kernel_rfl)) (by kernel_rfl) (by kernel_rfl) (by kernel_rfl)
      (by rw [MakeChecks.laidMetH_plain _ _ _ (by kernel_rfl)]; exact laidMet_laidAll _ (by kernel_rfl) (by kernel_rfl))) ?_
  intro W base args ds gs before hval0 hW hc _ hL _
  have hval : ∀ (j : Nat) t v, Tryz.f3.params[j]? = some t → args[j]? = some v → Value.okWide Tryz.prog W .any base t v := hval0
  have hW' := hW
  obtain ⟨p, q, hA0, hV, rfl, _, _⟩ := hW
  have hA : DataW.TrodAll enc Tryz.prog W 0 (fun _ => true) true Tryz.f3.params.toList args.toList ds p := hA0
  rw [Tryz.params3] at hA hval
  obtain ⟨v0, vs0, d0, ds0, p0, q0, hargs, rfl, rfl, h0, r0⟩ := trodAll_cons hA
  obtain ⟨v1, vs1, d1, ds1, p1, q1, rfl, rfl, rfl, h1, r1⟩ := trodAll_cons r0
  obtain ⟨rfl, rfl, rfl⟩ := trodAll_nil r1
  obtain rfl : args = #[v0, v1] := by cases args; simp_all
  obtain ⟨rfl, rfl⟩ := trodVars_none hV
  rw [MakeChecks.laidMetH_plain _ _ _ (by kernel_rfl)] at hL
  have hT := tabs_of (pow_laid hL)
  have lt0 : ∀ x ∈ p0, x.block < W.heap.size := by obtain ⟨m, hm⟩ := h0; exact DataW.trod_lt m _ _ _ hm
  have lt1 : ∀ x ∈ p1, x.block < W.heap.size := by obtain ⟨m, hm⟩ := h1; exact DataW.trod_lt m _ _ _ hm
  obtain ⟨x0, g0, k0⟩ := decode_struct ty_facts (n := 5) (by kernel_rfl) Tryz.underlying25 (hval 0 25 v0 rfl rfl) h0
  obtain ⟨x1, g1, k1⟩ := decode_struct ty_facts (n := 5) (by kernel_rfl) Tryz.underlying25 (hval 1 25 v1 rfl rfl) h1
  obtain ⟨a, rfl⟩ := okt_cond k0
  obtain ⟨b, rfl⟩ := okt_cond k1
  refine (call_data hT (meets_ok a b) rfl ?_).mono ?_
  · intro j x v hx hv
    match j with
    | 0 => cases hx; cases hv; exact g0
    | 1 => cases hx; cases hv; exact g1
    | j + 2 => simp at hx
  · rintro e W' ⟨v, rfl, bel, hb⟩
    obtain rfl := hb true rfl
    exact ⟨_, rfl, _, _, _, [], _, [], hW', trodAll_mk1 (shut_bool Tryz.underlying4 _), trodAll_cons_mk (Below.trod laidOut (by kernel_rfl) (of_decide_eq_true (by kernel_rfl)) h0 bel lt0) (trodAll_cons_mk (Below.trod laidOut (by kernel_rfl) (of_decide_eq_true (by kernel_rfl)) h1 bel lt1) trodAll_mk0), rfl, bel.frame _, fun h => by cases h⟩

theorem condMeetsAsSpecified_row : Rows.CondMeetsAsSpecifiedSaid :=
  OpenClaim.holds_of_wide 3 Tryz.f3 rfl rfl rfl rfl rfl rfl rfl ⟨rfl, rfl, rfl, rfl, rfl⟩ rfl rfl rfl rfl rfl (by kernel_rfl) Tryz.func3 (by kernel_rfl)
    (of_decide_eq_true (by kernel_rfl)) (by unfold Func.isWrapper; first | (rw [if_pos (by decide +kernel)]; kernel_rfl) | (rw [if_neg (by decide +kernel)]; exact ⟨rfl, rfl⟩))
    (fun os started H enc _ => meets_lifted os started H enc)

theorem condMeetsAsSpecified_holds : Rows.CondMeetsAsSpecifiedCardSaid :=
  Claim7.holds_tied_plain_at .later [] [.data, .data, .data, .data, .pinned] true (true, "cff6053da5c08deca3c7529705c8eb85062f755b8cf9efabb131dfe30fbb79a1") true
    condMeetsAsSpecified_row (fun _ h => by cases h) (by kernel_rfl) (fun _ h => by cases h) condMeetsAsSpecified_row_tie rfl ⟨rfl, rfl⟩ (by kernel_rfl) rfl
    (fun f fn hf hfn => by
      obtain rfl : f = 3 := Option.some.inj ((show Tryz.prog.funcNamed "weirgate/weirgatelaw21.CondMeetsAsSpecified" = some 3 by kernel_rfl).symm.trans hf) |>.symm
      obtain rfl : fn = Tryz.f3 := (Option.some.inj (Tryz.func3.symm.trans hfn)).symm
      exact ⟨by kernel_rfl, fun j t ht => by
        rw [Tryz.params3] at ht
        have hm : t ∈ [25, 25] := by simpa using Array.mem_of_getElem? ht
        have hall : ([25, 25].all fun u => !Tryz.prog.wantsStandIn u) = true := by kernel_rfl
        exact (show Tryz.prog.wantsStandIn t = false by simpa using List.all_eq_true.1 hall t hm)⟩)
    (by kernel_rfl)
#print axioms condMeetsAsSpecified_holds
end Go.Proofs.YtcjgmffbebjddaaGreatDoor
