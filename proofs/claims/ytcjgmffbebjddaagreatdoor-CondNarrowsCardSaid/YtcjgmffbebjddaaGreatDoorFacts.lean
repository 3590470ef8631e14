import Derived.Test.YtcjgmffbebjddaaGreatDoorEnv
import Derived.Test.YtcjgmffbebjddaaGreatDoorChecked
import Derived.KernelRfl
import Derived.Test.YtcjgmffbebjddaaGreatDoorEng
set_option linter.all false
namespace Go.Proofs.YtcjgmffbebjddaaGreatDoor
open Go Go.Eng
theorem ty_all : tyL.all (fun p => tyOK Tryz.prog tyT p.1 p.2) = true := by kernel_rfl
theorem ty_facts (T : TypeId) (t : Ty) (h : tyT T = some t) : TyFacts Tryz.prog tyT T t := tyOK_sound (List.all_eq_true.1 ty_all (T, t) (lookupN_mem h))
theorem mixed : Tryz.prog.follows .mixedOrders = true := by kernel_rfl
def AllF : List (FuncId × Func) → Prop
  | [] => True
  | p :: r => Tryz.prog.funcs[p.1]? = some p.2 ∧ AllF r
theorem allF_mem : ∀ {l : List (FuncId × Func)}, AllF l → ∀ p ∈ l, Tryz.prog.funcs[p.1]? = some p.2 := by
  intro l
  induction l with
  | nil => intro _ p hp; cases hp
  | cons q r ih =>
    intro h p hp
    rcases List.mem_cons.1 hp with rfl | hp
    · exact h.1
    · exact ih h.2 p hp
set_option maxRecDepth 100000 in
theorem fn_rows : AllF fnL := by
  refine And.intro Tryz.func3 ?_
  refine And.intro Tryz.func4 ?_
  refine And.intro Tryz.func5 ?_
  refine And.intro Tryz.func6 ?_
  refine And.intro Tryz.func7 ?_
  refine And.intro Tryz.func8 ?_
  refine And.intro Tryz.func9 ?_
  refine And.intro Tryz.func10 ?_
  refine And.intro Tryz.func11 ?_
  refine And.intro Tryz.func12 ?_
  refine And.intro Tryz.func13 ?_
  refine And.intro Tryz.func14 ?_
  refine And.intro Tryz.func15 ?_
  refine And.intro Tryz.func16 ?_
  refine And.intro Tryz.func17 ?_
  refine And.intro Tryz.func18 ?_
  refine And.intro Tryz.func19 ?_
  refine And.intro Tryz.func20 ?_
  refine And.intro Tryz.func21 ?_
  refine And.intro Tryz.func22 ?_
  refine And.intro Tryz.func23 ?_
  refine And.intro Tryz.func24 ?_
  refine And.intro Tryz.func25 ?_
  refine And.intro Tryz.func26 ?_
  refine And.intro Tryz.func27 ?_
  refine And.intro Tryz.func28 ?_
  refine And.intro Tryz.func29 ?_
  refine And.intro Tryz.func30 ?_
  refine And.intro Tryz.func31 ?_
  refine And.intro Tryz.func32 ?_
  refine And.intro Tryz.func33 ?_
  refine And.intro Tryz.func34 ?_
  refine And.intro Tryz.func35 ?_
  refine And.intro Tryz.func36 ?_
  refine And.intro Tryz.func37 ?_
  refine And.intro Tryz.func38 ?_
  refine And.intro Tryz.func39 ?_
  refine And.intro Tryz.func40 ?_
  refine And.intro Tryz.func41 ?_
  refine And.intro Tryz.func42 ?_
  refine And.intro Tryz.func43 ?_
  refine And.intro Tryz.func44 ?_
  refine And.intro Tryz.func45 ?_
  refine And.intro Tryz.func46 ?_
  refine And.intro Tryz.func47 ?_
  refine And.intro Tryz.func48 ?_
  refine And.intro Tryz.func49 ?_
  refine And.intro Tryz.func50 ?_
  refine And.intro Tryz.func51 ?_
  refine And.intro Tryz.func52 ?_
  refine And.intro Tryz.func53 ?_
  refine And.intro Tryz.func54 ?_
  refine And.intro Tryz.func55 ?_
  refine And.intro Tryz.func56 ?_
  refine And.intro Tryz.func57 ?_
  refine And.intro Tryz.func58 ?_
  refine And.intro Tryz.func59 ?_
  refine And.intro Tryz.func60 ?_
  refine And.intro Tryz.func61 ?_
  refine And.intro Tryz.func62 ?_
  refine And.intro Tryz.func63 ?_
  refine And.intro Tryz.func64 ?_
  refine And.intro Tryz.func65 ?_
  refine And.intro Tryz.func66 ?_
  refine And.intro Tryz.func67 ?_
  refine And.intro Tryz.func68 ?_
  refine And.intro Tryz.func69 ?_
  refine And.intro Tryz.func70 ?_
  refine And.intro Tryz.func71 ?_
  refine And.intro Tryz.func72 ?_
  refine And.intro Tryz.func73 ?_
  refine And.intro Tryz.func74 ?_
  refine And.intro Tryz.func75 ?_
  refine And.intro Tryz.func76 ?_
  refine And.intro Tryz.func77 ?_
  refine And.intro Tryz.func78 ?_
  refine And.intro Tryz.func79 ?_
  refine And.intro Tryz.func80 ?_
  refine And.intro Tryz.func81 ?_
  refine And.intro Tryz.func82 ?_
  refine And.intro Tryz.func83 ?_
  refine And.intro Tryz.func84 ?_
  refine And.intro Tryz.func85 ?_
  refine And.intro Tryz.func86 ?_
  refine And.intro Tryz.func87 ?_
  refine And.intro Tryz.func88 ?_
  refine And.intro Tryz.func89 ?_
  refine And.intro Tryz.func90 ?_
  refine And.intro Tryz.func91 ?_
  refine And.intro Tryz.func92 ?_
  refine And.intro Tryz.func93 ?_
  refine And.intro Tryz.func94 ?_
  refine And.intro Tryz.func95 ?_
  refine And.intro Tryz.func96 ?_
  refine And.intro Tryz.func97 ?_
  refine And.intro Tryz.func98 ?_
  refine And.intro Tryz.func99 ?_
  refine And.intro Tryz.func100 ?_
  refine And.intro Tryz.func101 ?_
  refine And.intro Tryz.func102 ?_
  refine And.intro Tryz.func103 ?_
  refine And.intro Tryz.func104 ?_
  refine And.intro Tryz.func105 ?_
  refine And.intro Tryz.func106 ?_
  refine And.intro Tryz.func107 ?_
  refine And.intro Tryz.func108 ?_
  refine And.intro Tryz.func109 ?_
  refine And.intro Tryz.func110 ?_
  refine And.intro Tryz.func111 ?_
  refine And.intro Tryz.func112 ?_
  refine And.intro Tryz.func113 ?_
  refine And.intro Tryz.func114 ?_
  refine And.intro Tryz.func115 ?_
  refine And.intro Tryz.func116 ?_
  refine And.intro Tryz.func117 ?_
  refine And.intro Tryz.func118 ?_
  refine And.intro Tryz.func119 ?_
  refine And.intro Tryz.func120 ?_
  refine And.intro Tryz.func121 ?_
  refine And.intro Tryz.func122 ?_
  refine And.intro Tryz.func123 ?_
  refine And.intro Tryz.func124 ?_
  refine And.intro Tryz.func125 ?_
  refine And.intro Tryz.func126 ?_
  refine And.intro Tryz.func127 ?_
  refine And.intro Tryz.func128 ?_
  refine And.intro Tryz.func129 ?_
  refine And.intro Tryz.func130 ?_
  refine And.intro Tryz.func131 ?_
  refine And.intro Tryz.func132 ?_
  refine And.intro Tryz.func133 ?_
  refine And.intro Tryz.func134 ?_
  refine And.intro Tryz.func135 ?_
  refine And.intro Tryz.func136 ?_
  refine And.intro Tryz.func137 ?_
  refine And.intro Tryz.func138 ?_
  refine And.intro Tryz.func139 ?_
  refine And.intro Tryz.func140 ?_
  refine And.intro Tryz.func141 ?_
  refine And.intro Tryz.func142 ?_
  refine And.intro Tryz.func143 ?_
  refine And.intro Tryz.func144 ?_
  refine And.intro Tryz.func145 ?_
  refine And.intro Tryz.func146 ?_
  refine And.intro Tryz.func147 ?_
  refine And.intro Tryz.func148 ?_
  refine And.intro Tryz.func149 ?_
  refine And.intro Tryz.func150 ?_
  refine And.intro Tryz.func151 ?_
  refine And.intro Tryz.func152 ?_
  refine And.intro Tryz.func153 ?_
  refine And.intro Tryz.func154 ?_
  refine And.intro Tryz.func155 ?_
  refine And.intro Tryz.func156 ?_
  refine And.intro Tryz.func157 ?_
  refine And.intro Tryz.func158 ?_
  refine And.intro Tryz.func159 ?_
  refine And.intro Tryz.func160 ?_
  refine And.intro Tryz.func161 ?_
  refine And.intro Tryz.func162 ?_
  refine And.intro Tryz.func163 ?_
  refine And.intro Tryz.func164 ?_
  refine And.intro Tryz.func165 ?_
  refine And.intro Tryz.func166 ?_
  refine And.intro Tryz.func167 ?_
  refine And.intro Tryz.func168 ?_
  refine And.intro Tryz.func169 ?_
  refine And.intro Tryz.func170 ?_
  refine And.intro Tryz.func171 ?_
  refine And.intro Tryz.func172 ?_
  refine And.intro Tryz.func173 ?_
  refine And.intro Tryz.func174 ?_
  refine And.intro Tryz.func175 ?_
  refine And.intro Tryz.func176 ?_
  refine And.intro Tryz.func177 ?_
  refine And.intro Tryz.func178 ?_
  refine And.intro Tryz.func180 ?_
  refine And.intro Tryz.func181 ?_
  refine And.intro Tryz.func182 ?_
  refine And.intro Tryz.func183 ?_
  refine And.intro Tryz.func184 ?_
  refine And.intro Tryz.func187 ?_
  refine And.intro Tryz.func188 ?_
  refine And.intro Tryz.func189 ?_
  refine And.intro Tryz.func190 ?_
  refine And.intro Tryz.func191 ?_
  refine And.intro Tryz.func192 ?_
  refine And.intro Tryz.func193 ?_
  refine And.intro Tryz.func194 ?_
  refine And.intro Tryz.func195 ?_
  refine And.intro Tryz.func196 ?_
  refine And.intro Tryz.func197 ?_
  refine And.intro Tryz.func198 ?_
  refine And.intro Tryz.func199 ?_
  refine And.intro Tryz.func200 ?_
  refine And.intro Tryz.func201 ?_
  refine And.intro Tryz.func203 ?_
  refine And.intro Tryz.func204 ?_
  refine And.intro Tryz.func205 ?_
  refine And.intro Tryz.func206 ?_
  refine And.intro Tryz.func207 ?_
  refine And.intro Tryz.func208 ?_
  refine And.intro Tryz.func209 ?_
  refine And.intro Tryz.func210 ?_
  refine And.intro Tryz.func211 ?_
  refine And.intro Tryz.func212 ?_
  refine And.intro Tryz.func213 ?_
  refine And.intro Tryz.func214 ?_
  refine And.intro Tryz.func215 ?_
  refine And.intro Tryz.func216 ?_
  refine And.intro Tryz.func217 ?_
  refine And.intro Tryz.func219 ?_
  refine And.intro Tryz.func220 ?_
  refine And.intro Tryz.func221 ?_
  refine And.intro Tryz.func222 ?_
  refine And.intro Tryz.func223 ?_
  refine And.intro Tryz.func224 ?_
  refine And.intro Tryz.func225 ?_
  refine And.intro Tryz.func226 ?_
  refine And.intro Tryz.func227 ?_
  refine And.intro Tryz.func228 ?_
  refine And.intro Tryz.func229 ?_
  refine And.intro Tryz.func230 ?_
  refine And.intro Tryz.func231 ?_
  refine And.intro Tryz.func232 ?_
  refine And.intro Tryz.func233 ?_
  refine And.intro Tryz.func234 ?_
  refine And.intro Tryz.func235 ?_
  refine And.intro Tryz.func236 ?_
  refine And.intro Tryz.func237 ?_
  refine And.intro Tryz.func238 ?_
  refine And.intro Tryz.func239 ?_
  refine And.intro Tryz.func240 ?_
  refine And.intro Tryz.func241 ?_
  refine And.intro Tryz.func242 ?_
  refine And.intro Tryz.func243 ?_
  exact trivial
theorem fn_all : fnL.all (fun p => p.2.body.isSome && p.2.name != "runtime.NumGoroutine") = true := by kernel_rfl
theorem fn_lookup (f : FuncId) (fn0 : Func) (h1 : lookupN fnL f = some fn0) : Tryz.prog.funcs[f]? = some fn0 ∧ (fn0.body.isSome = true ∧ fn0.name ≠ "runtime.NumGoroutine") := by
  have hm := lookupN_mem h1
  have h2 := List.all_eq_true.1 fn_all _ hm
  have h3 := allF_mem fn_rows _ hm
  rw [Bool.and_eq_true, bne_iff_ne] at h2
  exact ⟨h3, h2⟩
theorem fnOK_of {P : Program} {f : FuncId} {fn0 : Func} (h : P.funcs[f]? = some fn0 ∧ (fn0.body.isSome = true ∧ fn0.name ≠ "runtime.NumGoroutine")) : FnOK P f (funOf fn0) := by
  obtain ⟨b, hb⟩ := Option.isSome_iff_exists.1 h.2.1
  exact ⟨fn0, h.1, by simp [funOf, hb], h.2.2, rfl, rfl⟩
theorem fn_facts (f : FuncId) (fn : Fun) (h : fnT f = some fn) : FnOK Tryz.prog f fn := by
  unfold fnT at h
  rw [Option.map_eq_some_iff] at h
  obtain ⟨fn0, h1, h2⟩ := h
  subst h2
  exact fnOK_of (fn_lookup f fn0 h1)
theorem range_all : fnL.all (fun p => nodupN (rangeIds (funOf p.2).body)) = true := by kernel_rfl
theorem yb_facts (f : FuncId) (fn : Fun) (h : fnT f = some fn) : YbOK E0 f fn.ntmps fn.body := by
  refine YbOK.of_find (fun i _ => ?_) ?_
  · show ybT f i = _
    unfold ybT
    rw [h]
    rfl
  · unfold fnT at h
    rw [Option.map_eq_some_iff] at h
    obtain ⟨F, h1, rfl⟩ := h
    exact nodupN_sound (List.all_eq_true.1 range_all (f, F) (lookupN_mem h1))
end Go.Proofs.YtcjgmffbebjddaaGreatDoor
