/- The Lean functions of laws 1 and 2, each with the proof that the Go function computes it. Written by a program. -/
import Derived.Test.YtcjgmffbebjddaaGreatDoorEnv
set_option linter.all false
set_option maxRecDepth 100000
set_option maxHeartbeats 4000000
namespace Go.Proofs.YtcjgmffbebjddaaGreatDoor
open Go Go.Eng

noncomputable def ref21_Few_L4 (fu : Nat) : Nat → Int → Int → ByteArray → List D → List D → List D → Int → Int → Option (((((Int × Int × ByteArray × List D × List D × List D × Int × Unit) × Unit) × (Unit × Bool × Unit)) ⊕ (((Int × Int × ByteArray × List D × List D × List D × Int × Unit) × Unit) × (Unit × Unit))))
  | 0, _, _, _, _, _, _, _, _ => none
  | n + 1, x0, x1, x2, x3, x4, x5, x6, x7 =>
    (bif (decide (x7 < (((List.length x3) : Nat) : Int))) then
     ((nat? x7).bind fun (v0 : Nat) =>
      (if (v0 < (List.length x3)) then
       ((rdS x3 v0).bind fun (v1 : ByteArray) =>
        (bif (decide ((((ByteArray.size v1) : Nat) : Int) > (100 : Int))) then
         some (.inl ((((x0, x1, x2, x3, x4, x5, x6, ()), ()), ((), false, ()))))
        else
         ref21_Few_L4 fu n x0 x1 x2 x3 x4 x5 x6 (w64 (x7 + (1 : Int)))))
      else
       none))
    else
     some (.inr ((((x0, x1, x2, x3, x4, x5, x6, ()), ()), ((), ())))))

noncomputable def l_ref21_Few_L4 (fu : Nat) : LE := ⟨10, 4, ⟨[(0, 0)], [(.cons (.lf (.int .i64)) (.cons (.lf (.int .i64)) (.cons (.lf .str) (.cons (.lf (.sl 9)) (.cons (.lf (.sl 9)) (.cons (.lf (.sl 3)) (.cons (.lf (.int .i64)) .nil)))))))], [(1, (.ptr 0 0 0)), (3, (.lf (.int .i64)))]⟩, [(.ret, ⟨[(0, 0)], [(.cons (.lf (.int .i64)) (.cons (.lf (.int .i64)) (.cons (.lf .str) (.cons (.lf (.sl 9)) (.cons (.lf (.sl 9)) (.cons (.lf (.sl 3)) (.cons (.lf (.int .i64)) .nil)))))))], [(1, (.ptr 0 0 0)), (2, (.lf .bool))]⟩), (.exit 0, ⟨[(0, 0)], [(.cons (.lf (.int .i64)) (.cons (.lf (.int .i64)) (.cons (.lf .str) (.cons (.lf (.sl 9)) (.cons (.lf (.sl 9)) (.cons (.lf (.sl 3)) (.cons (.lf (.int .i64)) .nil)))))))], [(1, (.ptr 0 0 0))]⟩)], fun (v : (((Int × Int × ByteArray × List D × List D × List D × Int × Unit) × Unit) × (Unit × Int × Unit))) => ref21_Few_L4 fu fu v.1.1.1 v.1.1.2.1 v.1.1.2.2.1 v.1.1.2.2.2.1 v.1.1.2.2.2.2.1 v.1.1.2.2.2.2.2.1 v.1.1.2.2.2.2.2.2.1 v.2.2.1⟩

theorem l_ref21_Few_L4_ok (fu : Nat) : (l_ref21_Few_L4 fu).ok E0 := LE.rule (f := 10) (id := 4) (inn := ⟨[(0, 0)], [(.cons (.lf (.int .i64)) (.cons (.lf (.int .i64)) (.cons (.lf .str) (.cons (.lf (.sl 9)) (.cons (.lf (.sl 9)) (.cons (.lf (.sl 3)) (.cons (.lf (.int .i64)) .nil)))))))], [(1, (.ptr 0 0 0)), (3, (.lf (.int .i64)))]⟩) (outs := [(.ret, ⟨[(0, 0)], [(.cons (.lf (.int .i64)) (.cons (.lf (.int .i64)) (.cons (.lf .str) (.cons (.lf (.sl 9)) (.cons (.lf (.sl 9)) (.cons (.lf (.sl 3)) (.cons (.lf (.int .i64)) .nil)))))))], [(1, (.ptr 0 0 0)), (2, (.lf .bool))]⟩), (.exit 0, ⟨[(0, 0)], [(.cons (.lf (.int .i64)) (.cons (.lf (.int .i64)) (.cons (.lf .str) (.cons (.lf (.sl 9)) (.cons (.lf (.sl 9)) (.cons (.lf (.sl 3)) (.cons (.lf (.int .i64)) .nil)))))))], [(1, (.ptr 0 0 0))]⟩)]) (g := fun n (v : (((Int × Int × ByteArray × List D × List D × List D × Int × Unit) × Unit) × (Unit × Int × Unit))) => ref21_Few_L4 fu n v.1.1.1 v.1.1.2.1 v.1.1.2.2.1 v.1.1.2.2.2.1 v.1.1.2.2.2.2.1 v.1.1.2.2.2.2.2.1 v.1.1.2.2.2.2.2.2.1 v.2.2.1) .nil (by kernel_rfl) (fun v => rfl) (fun n v => by kernel_rfl) fu

noncomputable def ref21_Few_L9 (fu : Nat) : Nat → Int → Int → ByteArray → List D → List D → List D → Int → Int → Option (((Unit × (Bool × Unit)) ⊕ (Unit × Unit)))
  | 0, _, _, _, _, _, _, _, _ => none
  | n + 1, x0, x1, x2, x3, x4, x5, x6, x7 =>
    (bif (decide (x7 < (((List.length x4) : Nat) : Int))) then
     ((nat? x7).bind fun (v5 : Nat) =>
      (if (v5 < (List.length x4)) then
       ((rdS x4 v5).bind fun (v6 : ByteArray) =>
        (bif (decide ((((ByteArray.size v6) : Nat) : Int) > (100 : Int))) then
         some (.inl (((), (false, ()))))
        else
         ref21_Few_L9 fu n x0 x1 x2 x3 x4 x5 x6 (w64 (x7 + (1 : Int)))))
      else
       none))
    else
     some (.inr (((), ()))))

noncomputable def l_ref21_Few_L9 (fu : Nat) : LE := ⟨10, 9, ⟨[(0, 0)], [(.cons (.lf (.int .i64)) (.cons (.lf (.int .i64)) (.cons (.lf .str) (.cons (.lf (.sl 9)) (.cons (.lf (.sl 9)) (.cons (.lf (.sl 3)) (.cons (.lf (.int .i64)) .nil)))))))], [(1, (.ptr 0 0 0)), (4, (.lf (.int .i64)))]⟩, [(.ret, ⟨[], [], [(2, (.lf .bool))]⟩), (.exit 2, ⟨[], [], []⟩)], fun (v : (((Int × Int × ByteArray × List D × List D × List D × Int × Unit) × Unit) × (Unit × Int × Unit))) => ref21_Few_L9 fu fu v.1.1.1 v.1.1.2.1 v.1.1.2.2.1 v.1.1.2.2.2.1 v.1.1.2.2.2.2.1 v.1.1.2.2.2.2.2.1 v.1.1.2.2.2.2.2.2.1 v.2.2.1⟩

theorem l_ref21_Few_L9_ok (fu : Nat) : (l_ref21_Few_L9 fu).ok E0 := LE.rule (f := 10) (id := 9) (inn := ⟨[(0, 0)], [(.cons (.lf (.int .i64)) (.cons (.lf (.int .i64)) (.cons (.lf .str) (.cons (.lf (.sl 9)) (.cons (.lf (.sl 9)) (.cons (.lf (.sl 3)) (.cons (.lf (.int .i64)) .nil)))))))], [(1, (.ptr 0 0 0)), (4, (.lf (.int .i64)))]⟩) (outs := [(.ret, ⟨[], [], [(2, (.lf .bool))]⟩), (.exit 2, ⟨[], [], []⟩)]) (g := fun n (v : (((Int × Int × ByteArray × List D × List D × List D × Int × Unit) × Unit) × (Unit × Int × Unit))) => ref21_Few_L9 fu n v.1.1.1 v.1.1.2.1 v.1.1.2.2.1 v.1.1.2.2.2.1 v.1.1.2.2.2.2.1 v.1.1.2.2.2.2.2.1 v.1.1.2.2.2.2.2.2.1 v.2.2.1) .nil (by kernel_rfl) (fun v => rfl) (fun n v => by kernel_rfl) fu

noncomputable def ref21_Few (fu : Nat) (x0 : Int) (x1 : Int) (x2 : ByteArray) (x3 : List D) (x4 : List D) (x5 : List D) (x6 : Int) : Option (Bool) :=
  (bif (decide ((((List.length x3) : Nat) : Int) > (40 : Int))) then
   some false
  else
   (bif (decide ((((List.length x4) : Nat) : Int) > (40 : Int))) then
    some false
   else
    (bif (decide ((((List.length x5) : Nat) : Int) > (70 : Int))) then
     some false
    else
     (bif (decide ((((ByteArray.size x2) : Nat) : Int) > (1000 : Int))) then
      some false
     else
      ((ref21_Few_L4 fu fu x0 x1 x2 x3 x4 x5 x6 (0 : Int)).bind fun (v7 : ((((Int × Int × ByteArray × List D × List D × List D × Int × Unit) × Unit) × (Unit × Bool × Unit)) ⊕ (((Int × Int × ByteArray × List D × List D × List D × Int × Unit) × Unit) × (Unit × Unit)))) =>
       (match v7 with
       | .inl v8 =>
         some v8.2.2.1
       | .inr v9 =>
         ((ref21_Few_L9 fu fu v9.1.1.1 v9.1.1.2.1 v9.1.1.2.2.1 v9.1.1.2.2.2.1 v9.1.1.2.2.2.2.1 v9.1.1.2.2.2.2.2.1 v9.1.1.2.2.2.2.2.2.1 (0 : Int)).bind fun (v10 : ((Unit × (Bool × Unit)) ⊕ (Unit × Unit))) =>
          (match v10 with
          | .inl v11 =>
            some v11.2.1
          | .inr v12 =>
            some true))))))))

noncomputable def e_ref21_Few (fu : Nat) : FE := ⟨10, (.cons (.agg [(.int .i64), (.int .i64), .str, (.sl 9), (.sl 9), (.sl 3), (.int .i64)]) .nil), [], (.lf .bool), [], fun (a : ((Int × Int × ByteArray × List D × List D × List D × Int × Unit) × Unit)) (p : Unit) => ref21_Few fu a.1.1 a.1.2.1 a.1.2.2.1 a.1.2.2.2.1 a.1.2.2.2.2.1 a.1.2.2.2.2.2.1 a.1.2.2.2.2.2.2.1⟩

theorem e_ref21_Few_ok (fu : Nat) : (e_ref21_Few fu).ok E0 := FE.rule (.l (l_ref21_Few_L4_ok fu) (.l (l_ref21_Few_L9_ok fu) .nil)) fun a p => by kernel_rfl

noncomputable def law21_in (x0 : List D) : Option ((Int × Int × ByteArray × List D × List D × List D × Int × Unit)) :=
  some ((0 : Int), (1099511627777 : Int), (bs []), ([] : List D), ([] : List D), x0, (0 : Int), ())

noncomputable def e_law21_in : FE := ⟨32, (.cons (.lf (.sl 3)) .nil), [], (.agg [(.int .i64), (.int .i64), .str, (.sl 9), (.sl 9), (.sl 3), (.int .i64)]), [], fun (a : (List D × Unit)) (p : Unit) => law21_in a.1⟩

theorem e_law21_in_ok : (e_law21_in).ok E0 := FE.rule .nil fun a p => by kernel_rfl

noncomputable def utf8_RuneCountInString_L2 : Nat → ByteArray → Nat → Int → Option ((Unit × (Int × Unit)))
  | 0, _, _, _ => none
  | n + 1, x0, x1, x2 =>
    (bif (decide (x1 < (ByteArray.size x0))) then
     utf8_RuneCountInString_L2 n x0 (x1 + (Go.Utf8.decode x0 x1).2) (w64 (x2 + (1 : Int)))
    else
     some (((), (x2, ()))))

noncomputable def l_utf8_RuneCountInString_L2 (fu : Nat) : LE := ⟨177, 2, ⟨[(1001, 0)], [(.cons .it .nil)], [(2, (.lf (.int .i64))), (4, (.ptr 1001 0 0))]⟩, [(.exit 0, ⟨[], [], [(2, (.lf (.int .i64)))]⟩)], fun (v : ((((ByteArray × Nat) × Unit) × Unit) × (Int × Unit × Unit))) => utf8_RuneCountInString_L2 fu v.1.1.1.1 v.1.1.1.2 v.2.1⟩

theorem l_utf8_RuneCountInString_L2_ok (fu : Nat) : (l_utf8_RuneCountInString_L2 fu).ok E0 := LE.rule (f := 177) (id := 2) (inn := ⟨[(1001, 0)], [(.cons .it .nil)], [(2, (.lf (.int .i64))), (4, (.ptr 1001 0 0))]⟩) (outs := [(.exit 0, ⟨[], [], [(2, (.lf (.int .i64)))]⟩)]) (g := fun n (v : ((((ByteArray × Nat) × Unit) × Unit) × (Int × Unit × Unit))) => utf8_RuneCountInString_L2 n v.1.1.1.1 v.1.1.1.2 v.2.1) .nil (by kernel_rfl) (fun v => rfl) (fun n v => by kernel_rfl) fu

noncomputable def utf8_RuneCountInString (fu : Nat) (x0 : ByteArray) : Option (Int) :=
  ((utf8_RuneCountInString_L2 fu x0 0 (0 : Int)).bind fun (v17 : (Unit × (Int × Unit))) =>
   some v17.2.1)

noncomputable def e_utf8_RuneCountInString (fu : Nat) : FE := ⟨177, (.cons (.lf .str) .nil), [], (.lf (.int .i64)), [], fun (a : (ByteArray × Unit)) (p : Unit) => utf8_RuneCountInString fu a.1⟩

theorem e_utf8_RuneCountInString_ok (fu : Nat) : (e_utf8_RuneCountInString fu).ok E0 := FE.rule (.l (l_utf8_RuneCountInString_L2_ok fu) .nil) fun a p => by kernel_rfl

noncomputable def strings_explode_L6 (fu : Nat) : Nat → ByteArray → Int → List D → Int → Option ((Unit × (ByteArray × Int × List D × Unit)))
  | 0, _, _, _, _ => none
  | n + 1, x0, x1, x2, x3 =>
    (bif (decide (x3 < (w64 (x1 - (1 : Int))))) then
     ((utf8_DecodeRuneInString x0).bind fun (v19 : (Int × Int × Unit)) =>
      ((nat? v19.2.1).bind fun (v20 : Nat) =>
       (if ((0 ≤ v20) ∧ (v20 ≤ (ByteArray.size x0))) then
        ((nat? x3).bind fun (v21 : Nat) =>
         (if (v21 < (List.length x2)) then
          (((x2[v21]?)).bind fun (v22 : Go.Eng.D) =>
           ((nat? v19.2.1).bind fun (v23 : Nat) =>
            (if ((v23 ≤ (ByteArray.size x0)) ∧ ((ByteArray.size x0) ≤ (ByteArray.size x0))) then
             strings_explode_L6 fu n (ByteArray.extract x0 v23 (ByteArray.size x0)) x1 (List.set x2 v21 (D.v (.string (ByteArray.extract x0 0 v20)))) (w64 (x3 + (1 : Int)))
            else
             none)))
         else
          none))
       else
        none)))
    else
     some (((), (x0, x1, x2, ()))))

noncomputable def l_strings_explode_L6 (fu : Nat) : LE := ⟨143, 6, ⟨[], [], [(0, (.lf .str)), (1, (.lf (.int .i64))), (6, (.own 9)), (7, (.lf (.int .i64)))]⟩, [(.exit 0, ⟨[], [], [(0, (.lf .str)), (1, (.lf (.int .i64))), (6, (.own 9))]⟩)], fun (v : (Unit × (ByteArray × Int × List D × Int × Unit))) => strings_explode_L6 fu fu v.2.1 v.2.2.1 v.2.2.2.1 v.2.2.2.2.1⟩

theorem l_strings_explode_L6_ok (fu : Nat) : (l_strings_explode_L6 fu).ok E0 := LE.rule (f := 143) (id := 6) (inn := ⟨[], [], [(0, (.lf .str)), (1, (.lf (.int .i64))), (6, (.own 9)), (7, (.lf (.int .i64)))]⟩) (outs := [(.exit 0, ⟨[], [], [(0, (.lf .str)), (1, (.lf (.int .i64))), (6, (.own 9))]⟩)]) (g := fun n (v : (Unit × (ByteArray × Int × List D × Int × Unit))) => strings_explode_L6 fu n v.2.1 v.2.2.1 v.2.2.2.1 v.2.2.2.2.1) (.f (e_utf8_DecodeRuneInString_ok) (.f (e_utf8_RuneCountInString_ok fu) .nil)) (by kernel_rfl) (fun v => rfl) (fun n v => by kernel_rfl) fu

noncomputable def strings_explode (fu : Nat) (x0 : ByteArray) (x1 : Int) : Option (List D) :=
  ((utf8_RuneCountInString fu x0).bind fun (v24 : Int) =>
   (bif (decide (x1 < (0 : Int))) then
    (if ((v24 = v24) ∧ (((0 : Int) ≤ v24) ∧ (((Int.toNat v24) * 16) ≤ Go.Eng.maxRow))) then
     ((strings_explode_L6 fu fu x0 v24 (List.replicate (Int.toNat v24) (D.v (.string (bs [])))) (0 : Int)).bind fun (v25 : (Unit × (ByteArray × Int × List D × Unit))) =>
      (bif (decide (v25.2.2.1 > (0 : Int))) then
       ((nat? (w64 (v25.2.2.1 - (1 : Int)))).bind fun (v26 : Nat) =>
        (if (v26 < (List.length v25.2.2.2.1)) then
         (((v25.2.2.2.1[v26]?)).bind fun (v27 : Go.Eng.D) =>
          some (List.set v25.2.2.2.1 v26 (D.v (.string v25.2.1))))
        else
         none))
      else
       some v25.2.2.2.1))
    else
     none)
   else
    (bif (decide (x1 > v24)) then
     (if ((v24 = v24) ∧ (((0 : Int) ≤ v24) ∧ (((Int.toNat v24) * 16) ≤ Go.Eng.maxRow))) then
      ((strings_explode_L6 fu fu x0 v24 (List.replicate (Int.toNat v24) (D.v (.string (bs [])))) (0 : Int)).bind fun (v28 : (Unit × (ByteArray × Int × List D × Unit))) =>
       (bif (decide (v28.2.2.1 > (0 : Int))) then
        ((nat? (w64 (v28.2.2.1 - (1 : Int)))).bind fun (v29 : Nat) =>
         (if (v29 < (List.length v28.2.2.2.1)) then
          (((v28.2.2.2.1[v29]?)).bind fun (v30 : Go.Eng.D) =>
           some (List.set v28.2.2.2.1 v29 (D.v (.string v28.2.1))))
         else
          none))
       else
        some v28.2.2.2.1))
     else
      none)
    else
     (if ((x1 = x1) ∧ (((0 : Int) ≤ x1) ∧ (((Int.toNat x1) * 16) ≤ Go.Eng.maxRow))) then
      ((strings_explode_L6 fu fu x0 x1 (List.replicate (Int.toNat x1) (D.v (.string (bs [])))) (0 : Int)).bind fun (v31 : (Unit × (ByteArray × Int × List D × Unit))) =>
       (bif (decide (v31.2.2.1 > (0 : Int))) then
        ((nat? (w64 (v31.2.2.1 - (1 : Int)))).bind fun (v32 : Nat) =>
         (if (v32 < (List.length v31.2.2.2.1)) then
          (((v31.2.2.2.1[v32]?)).bind fun (v33 : Go.Eng.D) =>
           some (List.set v31.2.2.2.1 v32 (D.v (.string v31.2.1))))
         else
          none))
       else
        some v31.2.2.2.1))
     else
      none))))

noncomputable def e_strings_explode (fu : Nat) : FE := ⟨143, (.cons (.lf .str) (.cons (.lf (.int .i64)) .nil)), [], (.lf (.sl 9)), [], fun (a : (ByteArray × Int × Unit)) (p : Unit) => strings_explode fu a.1 a.2.1⟩

theorem e_strings_explode_ok (fu : Nat) : (e_strings_explode fu).ok E0 := FE.rule (.f (e_utf8_RuneCountInString_ok fu) (.f (e_utf8_DecodeRuneInString_ok) (.l (l_strings_explode_L6_ok fu) .nil))) fun a p => by kernel_rfl

noncomputable def strings_genSplit_L11 (fu : Nat) : Nat → ByteArray → ByteArray → Int → Int → List D → Int → Option ((Unit × (ByteArray × List D × Int × Unit)))
  | 0, _, _, _, _, _, _ => none
  | n + 1, x0, x1, x2, x3, x4, x5 =>
    (bif (decide (x5 < x3)) then
     ((strings_Index x0 x1).bind fun (v36 : Int) =>
      (bif (decide (v36 < (0 : Int))) then
       some (((), (x0, x4, x5, ())))
      else
       ((nat? (w64 (v36 + x2))).bind fun (v37 : Nat) =>
        (if ((0 ≤ v37) ∧ (v37 ≤ (ByteArray.size x0))) then
         ((nat? x5).bind fun (v38 : Nat) =>
          (if (v38 < (List.length x4)) then
           (((x4[v38]?)).bind fun (v39 : Go.Eng.D) =>
            ((nat? (w64 (v36 + (((ByteArray.size x1) : Nat) : Int)))).bind fun (v40 : Nat) =>
             (if ((v40 ≤ (ByteArray.size x0)) ∧ ((ByteArray.size x0) ≤ (ByteArray.size x0))) then
              strings_genSplit_L11 fu n (ByteArray.extract x0 v40 (ByteArray.size x0)) x1 x2 x3 (List.set x4 v38 (D.v (.string (ByteArray.extract x0 0 v37)))) (w64 (x5 + (1 : Int)))
             else
              none)))
          else
           none))
        else
         none))))
    else
     some (((), (x0, x4, x5, ()))))

noncomputable def l_strings_genSplit_L11 (fu : Nat) : LE := ⟨108, 11, ⟨[], [], [(0, (.lf .str)), (1, (.lf .str)), (2, (.lf (.int .i64))), (3, (.lf (.int .i64))), (9, (.own 9)), (10, (.lf (.int .i64)))]⟩, [(.exit 0, ⟨[], [], [(0, (.lf .str)), (9, (.own 9)), (10, (.lf (.int .i64)))]⟩)], fun (v : (Unit × (ByteArray × ByteArray × Int × Int × List D × Int × Unit))) => strings_genSplit_L11 fu fu v.2.1 v.2.2.1 v.2.2.2.1 v.2.2.2.2.1 v.2.2.2.2.2.1 v.2.2.2.2.2.2.1⟩

theorem l_strings_genSplit_L11_ok (fu : Nat) : (l_strings_genSplit_L11 fu).ok E0 := LE.rule (f := 108) (id := 11) (inn := ⟨[], [], [(0, (.lf .str)), (1, (.lf .str)), (2, (.lf (.int .i64))), (3, (.lf (.int .i64))), (9, (.own 9)), (10, (.lf (.int .i64)))]⟩) (outs := [(.exit 0, ⟨[], [], [(0, (.lf .str)), (9, (.own 9)), (10, (.lf (.int .i64)))]⟩)]) (g := fun n (v : (Unit × (ByteArray × ByteArray × Int × Int × List D × Int × Unit))) => strings_genSplit_L11 fu n v.2.1 v.2.2.1 v.2.2.2.1 v.2.2.2.2.1 v.2.2.2.2.2.1 v.2.2.2.2.2.2.1) (.f (e_strings_Index_ok) (.f (e_strings_Count_ok) (.f (e_strings_explode_ok fu) .nil))) (by kernel_rfl) (fun v => rfl) (fun n v => by kernel_rfl) fu

noncomputable def strings_genSplit (fu : Nat) (x0 : ByteArray) (x1 : ByteArray) (x2 : Int) (x3 : Int) : Option (List D) :=
  (bif (x3 == (0 : Int)) then
   some ([] : List D)
  else
   (bif (Go.Eng.seq x1 (bs [])) then
    ((strings_explode fu x0 x3).bind fun (v41 : List D) =>
     some v41)
   else
    (bif (decide (x3 < (0 : Int))) then
     ((strings_Count x0 x1).bind fun (v42 : Int) =>
      (if (((if ((w64 ((((ByteArray.size x0) : Nat) : Int) + (1 : Int))) < (w64 (v42 + (1 : Int)))) then (w64 ((((ByteArray.size x0) : Nat) : Int) + (1 : Int))) else (w64 (v42 + (1 : Int)))) = (if ((w64 ((((ByteArray.size x0) : Nat) : Int) + (1 : Int))) < (w64 (v42 + (1 : Int)))) then (w64 ((((ByteArray.size x0) : Nat) : Int) + (1 : Int))) else (w64 (v42 + (1 : Int))))) ∧ (((0 : Int) ≤ (if ((w64 ((((ByteArray.size x0) : Nat) : Int) + (1 : Int))) < (w64 (v42 + (1 : Int)))) then (w64 ((((ByteArray.size x0) : Nat) : Int) + (1 : Int))) else (w64 (v42 + (1 : Int))))) ∧ (((Int.toNat (if ((w64 ((((ByteArray.size x0) : Nat) : Int) + (1 : Int))) < (w64 (v42 + (1 : Int)))) then (w64 ((((ByteArray.size x0) : Nat) : Int) + (1 : Int))) else (w64 (v42 + (1 : Int))))) * 16) ≤ Go.Eng.maxRow))) then
       ((strings_genSplit_L11 fu fu x0 x1 x2 (w64 ((if ((w64 ((((ByteArray.size x0) : Nat) : Int) + (1 : Int))) < (w64 (v42 + (1 : Int)))) then (w64 ((((ByteArray.size x0) : Nat) : Int) + (1 : Int))) else (w64 (v42 + (1 : Int)))) - (1 : Int))) (List.replicate (Int.toNat (if ((w64 ((((ByteArray.size x0) : Nat) : Int) + (1 : Int))) < (w64 (v42 + (1 : Int)))) then (w64 ((((ByteArray.size x0) : Nat) : Int) + (1 : Int))) else (w64 (v42 + (1 : Int))))) (D.v (.string (bs [])))) (0 : Int)).bind fun (v43 : (Unit × (ByteArray × List D × Int × Unit))) =>
        ((nat? v43.2.2.2.1).bind fun (v44 : Nat) =>
         (if (v44 < (List.length v43.2.2.1)) then
          (((v43.2.2.1[v44]?)).bind fun (v45 : Go.Eng.D) =>
           ((nat? (w64 (v43.2.2.2.1 + (1 : Int)))).bind fun (v46 : Nat) =>
            (if (v46 ≤ (List.length (List.set v43.2.2.1 v44 (D.v (.string v43.2.1))))) then
             some (List.take v46 (List.set v43.2.2.1 v44 (D.v (.string v43.2.1))))
            else
             none)))
         else
          none)))
      else
       none))
    else
     (if (((if ((w64 ((((ByteArray.size x0) : Nat) : Int) + (1 : Int))) < x3) then (w64 ((((ByteArray.size x0) : Nat) : Int) + (1 : Int))) else x3) = (if ((w64 ((((ByteArray.size x0) : Nat) : Int) + (1 : Int))) < x3) then (w64 ((((ByteArray.size x0) : Nat) : Int) + (1 : Int))) else x3)) ∧ (((0 : Int) ≤ (if ((w64 ((((ByteArray.size x0) : Nat) : Int) + (1 : Int))) < x3) then (w64 ((((ByteArray.size x0) : Nat) : Int) + (1 : Int))) else x3)) ∧ (((Int.toNat (if ((w64 ((((ByteArray.size x0) : Nat) : Int) + (1 : Int))) < x3) then (w64 ((((ByteArray.size x0) : Nat) : Int) + (1 : Int))) else x3)) * 16) ≤ Go.Eng.maxRow))) then
      ((strings_genSplit_L11 fu fu x0 x1 x2 (w64 ((if ((w64 ((((ByteArray.size x0) : Nat) : Int) + (1 : Int))) < x3) then (w64 ((((ByteArray.size x0) : Nat) : Int) + (1 : Int))) else x3) - (1 : Int))) (List.replicate (Int.toNat (if ((w64 ((((ByteArray.size x0) : Nat) : Int) + (1 : Int))) < x3) then (w64 ((((ByteArray.size x0) : Nat) : Int) + (1 : Int))) else x3)) (D.v (.string (bs [])))) (0 : Int)).bind fun (v47 : (Unit × (ByteArray × List D × Int × Unit))) =>
       ((nat? v47.2.2.2.1).bind fun (v48 : Nat) =>
        (if (v48 < (List.length v47.2.2.1)) then
         (((v47.2.2.1[v48]?)).bind fun (v49 : Go.Eng.D) =>
          ((nat? (w64 (v47.2.2.2.1 + (1 : Int)))).bind fun (v50 : Nat) =>
           (if (v50 ≤ (List.length (List.set v47.2.2.1 v48 (D.v (.string v47.2.1))))) then
            some (List.take v50 (List.set v47.2.2.1 v48 (D.v (.string v47.2.1))))
           else
            none)))
        else
         none)))
     else
      none))))

noncomputable def e_strings_genSplit (fu : Nat) : FE := ⟨108, (.cons (.lf .str) (.cons (.lf .str) (.cons (.lf (.int .i64)) (.cons (.lf (.int .i64)) .nil)))), [], (.lf (.sl 9)), [], fun (a : (ByteArray × ByteArray × Int × Int × Unit)) (p : Unit) => strings_genSplit fu a.1 a.2.1 a.2.2.1 a.2.2.2.1⟩

theorem e_strings_genSplit_ok (fu : Nat) : (e_strings_genSplit fu).ok E0 := FE.rule (.f (e_strings_explode_ok fu) (.f (e_strings_Count_ok) (.f (e_strings_Index_ok) (.l (l_strings_genSplit_L11_ok fu) .nil)))) fun a p => by kernel_rfl

noncomputable def strings_Split (fu : Nat) (x0 : ByteArray) (x1 : ByteArray) : Option (List D) :=
  ((strings_genSplit fu x0 x1 (0 : Int) (-1 : Int)).bind fun (v51 : List D) =>
   some v51)

noncomputable def e_strings_Split (fu : Nat) : FE := ⟨60, (.cons (.lf .str) (.cons (.lf .str) .nil)), [], (.lf (.sl 9)), [], fun (a : (ByteArray × ByteArray × Unit)) (p : Unit) => strings_Split fu a.1 a.2.1⟩

theorem e_strings_Split_ok (fu : Nat) : (e_strings_Split fu).ok E0 := FE.rule (.f (e_strings_genSplit_ok fu) .nil) fun a p => by kernel_rfl

noncomputable def address_isLetter (x0 : Int) : Option (Bool) :=
  (bif (decide (x0 ≥ (97 : Int))) then
   (bif (decide (x0 ≤ (122 : Int))) then
    some true
   else
    (bif (decide (x0 ≥ (48 : Int))) then
     (bif (decide (x0 ≤ (57 : Int))) then
      some true
     else
      (bif (x0 == (45 : Int)) then
       some true
      else
       (bif (x0 == (95 : Int)) then
        some true
       else
        some (x0 == (46 : Int)))))
    else
     (bif (x0 == (45 : Int)) then
      some true
     else
      (bif (x0 == (95 : Int)) then
       some true
      else
       some (x0 == (46 : Int))))))
  else
   (bif (decide (x0 ≥ (48 : Int))) then
    (bif (decide (x0 ≤ (57 : Int))) then
     some true
    else
     (bif (x0 == (45 : Int)) then
      some true
     else
      (bif (x0 == (95 : Int)) then
       some true
      else
       some (x0 == (46 : Int)))))
   else
    (bif (x0 == (45 : Int)) then
     some true
    else
     (bif (x0 == (95 : Int)) then
      some true
     else
      some (x0 == (46 : Int))))))

noncomputable def e_address_isLetter : FE := ⟨172, (.cons (.lf (.int .i32)) .nil), [], (.lf .bool), [], fun (a : (Int × Unit)) (p : Unit) => address_isLetter a.1⟩

theorem e_address_isLetter_ok : (e_address_isLetter).ok E0 := FE.rule .nil fun a p => by kernel_rfl

noncomputable def address_isWord_1 (fu : Nat) (x0 : Int) : Option (Bool) :=
  ((address_isLetter x0).bind fun (v55 : Bool) =>
   some (!v55))

noncomputable def e_address_isWord_1 (fu : Nat) : FE := ⟨171, (.cons (.lf (.int .i32)) .nil), [], (.lf .bool), [], fun (a : (Int × Unit)) (p : Unit) => address_isWord_1 fu a.1⟩

theorem e_address_isWord_1_ok (fu : Nat) : (e_address_isWord_1 fu).ok E0 := FE.rule (.f (e_address_isLetter_ok) .nil) fun a p => by kernel_rfl

noncomputable def strings_indexFunc_L2 (fu : Nat) : Nat → ByteArray → Nat → Bool → Option (((Unit × (Int × Unit)) ⊕ (Unit × Unit)))
  | 0, _, _, _ => none
  | n + 1, x0, x1, x2 =>
    (bif (decide (x1 < (ByteArray.size x0))) then
     ((address_isWord_1 fu (((Go.Utf8.decode x0 x1).1 : Nat) : Int)).bind fun (v56 : Bool) =>
      (bif (v56 == x2) then
       some (.inl (((), (((x1 : Nat) : Int), ()))))
      else
       strings_indexFunc_L2 fu n x0 (x1 + (Go.Utf8.decode x0 x1).2) x2))
    else
     some (.inr (((), ()))))

noncomputable def l_strings_indexFunc_L2 (fu : Nat) : LE := ⟨217, 2, ⟨[(1001, 0)], [(.cons .it .nil)], [(1, (.fn 171 .nil .nil)), (2, (.lf .bool)), (10, (.ptr 1001 0 0))]⟩, [(.ret, ⟨[], [], [(6, (.lf (.int .i64)))]⟩), (.exit 0, ⟨[], [], []⟩)], fun (v : ((((ByteArray × Nat) × Unit) × Unit) × ((Unit × Unit) × Bool × Unit × Unit))) => strings_indexFunc_L2 fu fu v.1.1.1.1 v.1.1.1.2 v.2.2.1⟩

theorem l_strings_indexFunc_L2_ok (fu : Nat) : (l_strings_indexFunc_L2 fu).ok E0 := LE.rule (f := 217) (id := 2) (inn := ⟨[(1001, 0)], [(.cons .it .nil)], [(1, (.fn 171 .nil .nil)), (2, (.lf .bool)), (10, (.ptr 1001 0 0))]⟩) (outs := [(.ret, ⟨[], [], [(6, (.lf (.int .i64)))]⟩), (.exit 0, ⟨[], [], []⟩)]) (g := fun n (v : ((((ByteArray × Nat) × Unit) × Unit) × ((Unit × Unit) × Bool × Unit × Unit))) => strings_indexFunc_L2 fu n v.1.1.1.1 v.1.1.1.2 v.2.2.1) (.f (e_address_isWord_1_ok fu) .nil) (by kernel_rfl) (fun v => rfl) (fun n v => by kernel_rfl) fu

noncomputable def strings_indexFunc (fu : Nat) (x0 : ByteArray) (x1 : Bool) : Option (Int) :=
  ((strings_indexFunc_L2 fu fu x0 0 x1).bind fun (v57 : ((Unit × (Int × Unit)) ⊕ (Unit × Unit))) =>
   (match v57 with
   | .inl v58 =>
     some v58.2.1
   | .inr v59 =>
     some (-1 : Int)))

noncomputable def e_strings_indexFunc (fu : Nat) : FE := ⟨217, (.cons (.lf .str) (.cons (.fn 171 .nil .nil) (.cons (.lf .bool) .nil))), [], (.lf (.int .i64)), [], fun (a : (ByteArray × (Unit × Unit) × Bool × Unit)) (p : Unit) => strings_indexFunc fu a.1 a.2.2.1⟩

theorem e_strings_indexFunc_ok (fu : Nat) : (e_strings_indexFunc fu).ok E0 := FE.rule (.f (e_address_isWord_1_ok fu) (.l (l_strings_indexFunc_L2_ok fu) .nil)) fun a p => by kernel_rfl

noncomputable def strings_IndexFunc (fu : Nat) (x0 : ByteArray) : Option (Int) :=
  ((strings_indexFunc fu x0 true).bind fun (v60 : Int) =>
   some v60)

noncomputable def e_strings_IndexFunc (fu : Nat) : FE := ⟨200, (.cons (.lf .str) (.cons (.fn 171 .nil .nil) .nil)), [], (.lf (.int .i64)), [], fun (a : (ByteArray × (Unit × Unit) × Unit)) (p : Unit) => strings_IndexFunc fu a.1⟩

theorem e_strings_IndexFunc_ok (fu : Nat) : (e_strings_IndexFunc fu).ok E0 := FE.rule (.f (e_strings_indexFunc_ok fu) (.f (e_address_isWord_1_ok fu) .nil)) fun a p => by kernel_rfl

noncomputable def strings_ContainsFunc (fu : Nat) (x0 : ByteArray) : Option (Bool) :=
  ((strings_IndexFunc fu x0).bind fun (v61 : Int) =>
   some (decide (v61 ≥ (0 : Int))))

noncomputable def e_strings_ContainsFunc (fu : Nat) : FE := ⟨170, (.cons (.lf .str) (.cons (.fn 171 .nil .nil) .nil)), [], (.lf .bool), [], fun (a : (ByteArray × (Unit × Unit) × Unit)) (p : Unit) => strings_ContainsFunc fu a.1⟩

theorem e_strings_ContainsFunc_ok (fu : Nat) : (e_strings_ContainsFunc fu).ok E0 := FE.rule (.f (e_strings_IndexFunc_ok fu) (.f (e_address_isWord_1_ok fu) .nil)) fun a p => by kernel_rfl

noncomputable def address_isWord (fu : Nat) (x0 : ByteArray) : Option (Bool) :=
  (bif (!(Go.Eng.seq x0 (bs []))) then
   (bif (decide ((((ByteArray.size x0) : Nat) : Int) ≤ (64 : Int))) then
    (bif (!(Go.Eng.seq x0 (bs [46]))) then
     (bif (!(Go.Eng.seq x0 (bs [46, 46]))) then
      ((strings_ContainsFunc fu x0).bind fun (v62 : Bool) =>
       some (!v62))
     else
      some false)
    else
     some false)
   else
    some false)
  else
   some false)

noncomputable def e_address_isWord (fu : Nat) : FE := ⟨133, (.cons (.lf .str) .nil), [], (.lf .bool), [], fun (a : (ByteArray × Unit)) (p : Unit) => address_isWord fu a.1⟩

theorem e_address_isWord_ok (fu : Nat) : (e_address_isWord fu).ok E0 := FE.rule (.f (e_strings_ContainsFunc_ok fu) (.f (e_address_isWord_1_ok fu) .nil)) fun a p => by kernel_rfl

noncomputable def address_isName (fu : Nat) (x0 : ByteArray) : Option (Bool) :=
  ((address_isWord fu x0).bind fun (v63 : Bool) =>
   (bif v63 then
    ((strings_Contains x0 (bs [46])).bind fun (v64 : Bool) =>
     some (!v64))
   else
    some false))

noncomputable def e_address_isName (fu : Nat) : FE := ⟨131, (.cons (.lf .str) .nil), [], (.lf .bool), [], fun (a : (ByteArray × Unit)) (p : Unit) => address_isName fu a.1⟩

theorem e_address_isName_ok (fu : Nat) : (e_address_isName fu).ok E0 := FE.rule (.f (e_address_isWord_ok fu) (.f (e_strings_Contains_ok) .nil)) fun a p => by kernel_rfl

noncomputable def i_stringslite_HasPrefix (x0 : ByteArray) (x1 : ByteArray) : Option (Bool) :=
  (bif (decide ((((ByteArray.size x0) : Nat) : Int) ≥ (((ByteArray.size x1) : Nat) : Int))) then
   (if ((0 ≤ (Int.toNat (((ByteArray.size x1) : Nat) : Int))) ∧ ((Int.toNat (((ByteArray.size x1) : Nat) : Int)) ≤ (ByteArray.size x0))) then
    some (Go.Eng.seq (ByteArray.extract x0 0 (Int.toNat (((ByteArray.size x1) : Nat) : Int))) x1)
   else
    none)
  else
   some false)

noncomputable def e_i_stringslite_HasPrefix : FE := ⟨173, (.cons (.lf .str) (.cons (.lf .str) .nil)), [], (.lf .bool), [], fun (a : (ByteArray × ByteArray × Unit)) (p : Unit) => i_stringslite_HasPrefix a.1 a.2.1⟩

theorem e_i_stringslite_HasPrefix_ok : (e_i_stringslite_HasPrefix).ok E0 := FE.rule .nil fun a p => by kernel_rfl

noncomputable def i_stringslite_CutPrefix (fu : Nat) (x0 : ByteArray) (x1 : ByteArray) : Option ((ByteArray × Bool × Unit)) :=
  ((i_stringslite_HasPrefix x0 x1).bind fun (v70 : Bool) =>
   (bif (!v70) then
    some (x0, false, ())
   else
    (if (((Int.toNat (((ByteArray.size x1) : Nat) : Int)) ≤ (ByteArray.size x0)) ∧ ((ByteArray.size x0) ≤ (ByteArray.size x0))) then
     some ((ByteArray.extract x0 (Int.toNat (((ByteArray.size x1) : Nat) : Int)) (ByteArray.size x0)), true, ())
    else
     none)))

noncomputable def e_i_stringslite_CutPrefix (fu : Nat) : FE := ⟨199, (.cons (.lf .str) (.cons (.lf .str) .nil)), [], (.tup (.cons (.lf .str) (.cons (.lf .bool) .nil))), [], fun (a : (ByteArray × ByteArray × Unit)) (p : Unit) => i_stringslite_CutPrefix fu a.1 a.2.1⟩

theorem e_i_stringslite_CutPrefix_ok (fu : Nat) : (e_i_stringslite_CutPrefix fu).ok E0 := FE.rule (.f (e_i_stringslite_HasPrefix_ok) .nil) fun a p => by kernel_rfl

noncomputable def strings_CutPrefix (fu : Nat) (x0 : ByteArray) (x1 : ByteArray) : Option ((ByteArray × Bool × Unit)) :=
  ((i_stringslite_CutPrefix fu x0 x1).bind fun (v71 : (ByteArray × Bool × Unit)) =>
   some (v71.1, v71.2.1, ()))

noncomputable def e_strings_CutPrefix (fu : Nat) : FE := ⟨169, (.cons (.lf .str) (.cons (.lf .str) .nil)), [], (.tup (.cons (.lf .str) (.cons (.lf .bool) .nil))), [], fun (a : (ByteArray × ByteArray × Unit)) (p : Unit) => strings_CutPrefix fu a.1 a.2.1⟩

theorem e_strings_CutPrefix_ok (fu : Nat) : (e_strings_CutPrefix fu).ok E0 := FE.rule (.f (e_i_stringslite_CutPrefix_ok fu) .nil) fun a p => by kernel_rfl

noncomputable def address_partOf (fu : Nat) (x0 : ByteArray) : Option ((Int × ByteArray × Unit)) :=
  ((strings_CutPrefix fu x0 (bs [42])).bind fun (v72 : (ByteArray × Bool × Unit)) =>
   (bif (!v72.2.1) then
    some ((0 : Int), x0, ())
   else
    (bif (!(Go.Eng.seq v72.1 (bs []))) then
     some ((1 : Int), v72.1, ())
    else
     some ((2 : Int), (bs []), ()))))

noncomputable def e_address_partOf (fu : Nat) : FE := ⟨132, (.cons (.lf .str) .nil), [], (.agg [(.int .i64), .str]), [], fun (a : (ByteArray × Unit)) (p : Unit) => address_partOf fu a.1⟩

theorem e_address_partOf_ok (fu : Nat) : (e_address_partOf fu).ok E0 := FE.rule (.f (e_strings_CutPrefix_ok fu) .nil) fun a p => by kernel_rfl

noncomputable def strings_HasPrefix (fu : Nat) (x0 : ByteArray) (x1 : ByteArray) : Option (Bool) :=
  ((i_stringslite_HasPrefix x0 x1).bind fun (v84 : Bool) =>
   some v84)

noncomputable def e_strings_HasPrefix (fu : Nat) : FE := ⟨134, (.cons (.lf .str) (.cons (.lf .str) .nil)), [], (.lf .bool), [], fun (a : (ByteArray × ByteArray × Unit)) (p : Unit) => strings_HasPrefix fu a.1 a.2.1⟩

theorem e_strings_HasPrefix_ok (fu : Nat) : (e_strings_HasPrefix fu).ok E0 := FE.rule (.f (e_i_stringslite_HasPrefix_ok) .nil) fun a p => by kernel_rfl

noncomputable def address_compile_L6 (fu : Nat) : Nat → Int → ByteArray → List D → Bool → List D → List D → Int → Int → Option (((((Int × ByteArray × List D × Bool × Unit) × Unit) × (Unit × Bool × Unit)) ⊕ (((Int × ByteArray × List D × Bool × Unit) × Unit) × (Unit × Unit))))
  | 0, _, _, _, _, _, _, _, _ => none
  | n + 1, x0, x1, x2, x3, x4, x5, x6, x7 =>
    (bif (decide (x7 < x6)) then
     ((nat? x7).bind fun (v85 : Nat) =>
      (if (v85 < (List.length x5)) then
       ((rdS x5 v85).bind fun (v86 : ByteArray) =>
        (bif (Go.Eng.seq v86 (bs [42, 42])) then
         (bif (x7 == (w64 ((((List.length x4) : Nat) : Int) - (2 : Int)))) then
          address_compile_L6 fu n x0 x1 x2 true x4 x5 x6 (w64 (x7 + (1 : Int)))
         else
          (bif (Go.Eng.seq v86 (bs [42])) then
           ((address_partOf fu v86).bind fun (v87 : (Int × ByteArray × Unit)) =>
            (if ((((List.length x2) + (List.length [(D.agg [(D.v (.int .i64 v87.1)), (D.v (.string v87.2.1))])])) * 24) ≤ Go.Eng.maxRow) then
             address_compile_L6 fu n x0 x1 (x2 ++ [(D.agg [(D.v (.int .i64 v87.1)), (D.v (.string v87.2.1))])]) x3 x4 x5 x6 (w64 (x7 + (1 : Int)))
            else
             none))
          else
           ((address_isWord fu v86).bind fun (v88 : Bool) =>
            (bif v88 then
             ((address_partOf fu v86).bind fun (v89 : (Int × ByteArray × Unit)) =>
              (if ((((List.length x2) + (List.length [(D.agg [(D.v (.int .i64 v89.1)), (D.v (.string v89.2.1))])])) * 24) ≤ Go.Eng.maxRow) then
               address_compile_L6 fu n x0 x1 (x2 ++ [(D.agg [(D.v (.int .i64 v89.1)), (D.v (.string v89.2.1))])]) x3 x4 x5 x6 (w64 (x7 + (1 : Int)))
              else
               none))
            else
             (bif (decide ((((ByteArray.size v86) : Nat) : Int) ≤ (34 : Int))) then
              ((strings_HasPrefix fu v86 (bs [42, 46])).bind fun (v90 : Bool) =>
               (bif v90 then
                (if (((Int.toNat (2 : Int)) ≤ (ByteArray.size v86)) ∧ ((ByteArray.size v86) ≤ (ByteArray.size v86))) then
                 ((address_isWord fu (ByteArray.extract v86 (Int.toNat (2 : Int)) (ByteArray.size v86))).bind fun (v91 : Bool) =>
                  (bif v91 then
                   ((address_partOf fu v86).bind fun (v92 : (Int × ByteArray × Unit)) =>
                    (if ((((List.length x2) + (List.length [(D.agg [(D.v (.int .i64 v92.1)), (D.v (.string v92.2.1))])])) * 24) ≤ Go.Eng.maxRow) then
                     address_compile_L6 fu n x0 x1 (x2 ++ [(D.agg [(D.v (.int .i64 v92.1)), (D.v (.string v92.2.1))])]) x3 x4 x5 x6 (w64 (x7 + (1 : Int)))
                    else
                     none))
                  else
                   some (.inl ((((x0, x1, x2, x3, ()), ()), ((), false, ()))))))
                else
                 none)
               else
                some (.inl ((((x0, x1, x2, x3, ()), ()), ((), false, ()))))))
             else
              some (.inl ((((x0, x1, x2, x3, ()), ()), ((), false, ())))))))))
        else
         (bif (Go.Eng.seq v86 (bs [42])) then
          ((address_partOf fu v86).bind fun (v93 : (Int × ByteArray × Unit)) =>
           (if ((((List.length x2) + (List.length [(D.agg [(D.v (.int .i64 v93.1)), (D.v (.string v93.2.1))])])) * 24) ≤ Go.Eng.maxRow) then
            address_compile_L6 fu n x0 x1 (x2 ++ [(D.agg [(D.v (.int .i64 v93.1)), (D.v (.string v93.2.1))])]) x3 x4 x5 x6 (w64 (x7 + (1 : Int)))
           else
            none))
         else
          ((address_isWord fu v86).bind fun (v94 : Bool) =>
           (bif v94 then
            ((address_partOf fu v86).bind fun (v95 : (Int × ByteArray × Unit)) =>
             (if ((((List.length x2) + (List.length [(D.agg [(D.v (.int .i64 v95.1)), (D.v (.string v95.2.1))])])) * 24) ≤ Go.Eng.maxRow) then
              address_compile_L6 fu n x0 x1 (x2 ++ [(D.agg [(D.v (.int .i64 v95.1)), (D.v (.string v95.2.1))])]) x3 x4 x5 x6 (w64 (x7 + (1 : Int)))
             else
              none))
           else
            (bif (decide ((((ByteArray.size v86) : Nat) : Int) ≤ (34 : Int))) then
             ((strings_HasPrefix fu v86 (bs [42, 46])).bind fun (v96 : Bool) =>
              (bif v96 then
               (if (((Int.toNat (2 : Int)) ≤ (ByteArray.size v86)) ∧ ((ByteArray.size v86) ≤ (ByteArray.size v86))) then
                ((address_isWord fu (ByteArray.extract v86 (Int.toNat (2 : Int)) (ByteArray.size v86))).bind fun (v97 : Bool) =>
                 (bif v97 then
                  ((address_partOf fu v86).bind fun (v98 : (Int × ByteArray × Unit)) =>
                   (if ((((List.length x2) + (List.length [(D.agg [(D.v (.int .i64 v98.1)), (D.v (.string v98.2.1))])])) * 24) ≤ Go.Eng.maxRow) then
                    address_compile_L6 fu n x0 x1 (x2 ++ [(D.agg [(D.v (.int .i64 v98.1)), (D.v (.string v98.2.1))])]) x3 x4 x5 x6 (w64 (x7 + (1 : Int)))
                   else
                    none))
                 else
                  some (.inl ((((x0, x1, x2, x3, ()), ()), ((), false, ()))))))
               else
                none)
              else
               some (.inl ((((x0, x1, x2, x3, ()), ()), ((), false, ()))))))
            else
             some (.inl ((((x0, x1, x2, x3, ()), ()), ((), false, ()))))))))))
      else
       none))
    else
     some (.inr ((((x0, x1, x2, x3, ()), ()), ((), ())))))

noncomputable def l_address_compile_L6 (fu : Nat) : LE := ⟨97, 6, ⟨[(0, 0)], [(.cons (.lf (.int .i64)) (.cons (.lf .str) (.cons (.own 119) (.cons (.lf .bool) .nil))))], [(2, (.ptr 0 0 0)), (4, (.lf (.sl 9))), (32, (.lf (.sl 9))), (33, (.lf (.int .i64))), (34, (.lf (.int .i64)))]⟩, [(.ret, ⟨[(0, 0)], [(.cons (.lf (.int .i64)) (.cons (.lf .str) (.cons (.own 119) (.cons (.lf .bool) .nil))))], [(2, (.ptr 0 0 0)), (3, (.lf .bool))]⟩), (.exit 0, ⟨[(0, 0)], [(.cons (.lf (.int .i64)) (.cons (.lf .str) (.cons (.own 119) (.cons (.lf .bool) .nil))))], [(2, (.ptr 0 0 0))]⟩)], fun (v : (((Int × ByteArray × List D × Bool × Unit) × Unit) × (Unit × List D × List D × Int × Int × Unit))) => address_compile_L6 fu fu v.1.1.1 v.1.1.2.1 v.1.1.2.2.1 v.1.1.2.2.2.1 v.2.2.1 v.2.2.2.1 v.2.2.2.2.1 v.2.2.2.2.2.1⟩

theorem l_address_compile_L6_ok (fu : Nat) : (l_address_compile_L6 fu).ok E0 := LE.rule (f := 97) (id := 6) (inn := ⟨[(0, 0)], [(.cons (.lf (.int .i64)) (.cons (.lf .str) (.cons (.own 119) (.cons (.lf .bool) .nil))))], [(2, (.ptr 0 0 0)), (4, (.lf (.sl 9))), (32, (.lf (.sl 9))), (33, (.lf (.int .i64))), (34, (.lf (.int .i64)))]⟩) (outs := [(.ret, ⟨[(0, 0)], [(.cons (.lf (.int .i64)) (.cons (.lf .str) (.cons (.own 119) (.cons (.lf .bool) .nil))))], [(2, (.ptr 0 0 0)), (3, (.lf .bool))]⟩), (.exit 0, ⟨[(0, 0)], [(.cons (.lf (.int .i64)) (.cons (.lf .str) (.cons (.own 119) (.cons (.lf .bool) .nil))))], [(2, (.ptr 0 0 0))]⟩)]) (g := fun n (v : (((Int × ByteArray × List D × Bool × Unit) × Unit) × (Unit × List D × List D × Int × Int × Unit))) => address_compile_L6 fu n v.1.1.1 v.1.1.2.1 v.1.1.2.2.1 v.1.1.2.2.2.1 v.2.2.1 v.2.2.2.1 v.2.2.2.2.1 v.2.2.2.2.2.1) (.f (e_address_partOf_ok fu) (.f (e_address_isWord_ok fu) (.f (e_strings_HasPrefix_ok fu) (.f (e_strings_Split_ok fu) (.f (e_address_isName_ok fu) .nil))))) (by kernel_rfl) (fun v => rfl) (fun n v => by kernel_rfl) fu

noncomputable def address_compile (fu : Nat) (x0 : ByteArray) : Option (((Int × ByteArray × List D × Bool × Unit) × Bool × Unit)) :=
  ((strings_Split fu x0 (bs [47])).bind fun (v99 : List D) =>
   (bif (decide ((((List.length v99) : Nat) : Int) > (33 : Int))) then
    some (((0 : Int), (bs []), ([] : List D), false, ()), false, ())
   else
    (if ((Int.toNat (0 : Int)) < (List.length v99)) then
     ((rdS v99 (Int.toNat (0 : Int))).bind fun (v100 : ByteArray) =>
      (bif (!(Go.Eng.seq v100 (bs [42]))) then
       (if ((Int.toNat (0 : Int)) < (List.length v99)) then
        ((rdS v99 (Int.toNat (0 : Int))).bind fun (v101 : ByteArray) =>
         ((address_isName fu v101).bind fun (v102 : Bool) =>
          (bif (!v102) then
           some (((0 : Int), (bs []), ([] : List D), false, ()), false, ())
          else
           (if ((Int.toNat (0 : Int)) < (List.length v99)) then
            ((rdS v99 (Int.toNat (0 : Int))).bind fun (v103 : ByteArray) =>
             ((address_partOf fu v103).bind fun (v104 : (Int × ByteArray × Unit)) =>
              (if (((Int.toNat (1 : Int)) ≤ (List.length v99)) ∧ ((List.length v99) ≤ (List.length v99))) then
               ((address_compile_L6 fu fu v104.1 v104.2.1 ([] : List D) false v99 (List.drop (Int.toNat (1 : Int)) (List.take (List.length v99) v99)) (((List.length (List.drop (Int.toNat (1 : Int)) (List.take (List.length v99) v99))) : Nat) : Int) (0 : Int)).bind fun (v105 : ((((Int × ByteArray × List D × Bool × Unit) × Unit) × (Unit × Bool × Unit)) ⊕ (((Int × ByteArray × List D × Bool × Unit) × Unit) × (Unit × Unit)))) =>
                (match v105 with
                | .inl v106 =>
                  some ((v106.1.1.1, v106.1.1.2.1, v106.1.1.2.2.1, v106.1.1.2.2.2.1, ()), v106.2.2.1, ())
                | .inr v107 =>
                  some ((v107.1.1.1, v107.1.1.2.1, v107.1.1.2.2.1, v107.1.1.2.2.2.1, ()), true, ())))
              else
               none)))
           else
            none))))
       else
        none)
      else
       (if ((Int.toNat (0 : Int)) < (List.length v99)) then
        ((rdS v99 (Int.toNat (0 : Int))).bind fun (v108 : ByteArray) =>
         ((address_partOf fu v108).bind fun (v109 : (Int × ByteArray × Unit)) =>
          (if (((Int.toNat (1 : Int)) ≤ (List.length v99)) ∧ ((List.length v99) ≤ (List.length v99))) then
           ((address_compile_L6 fu fu v109.1 v109.2.1 ([] : List D) false v99 (List.drop (Int.toNat (1 : Int)) (List.take (List.length v99) v99)) (((List.length (List.drop (Int.toNat (1 : Int)) (List.take (List.length v99) v99))) : Nat) : Int) (0 : Int)).bind fun (v110 : ((((Int × ByteArray × List D × Bool × Unit) × Unit) × (Unit × Bool × Unit)) ⊕ (((Int × ByteArray × List D × Bool × Unit) × Unit) × (Unit × Unit)))) =>
            (match v110 with
            | .inl v111 =>
              some ((v111.1.1.1, v111.1.1.2.1, v111.1.1.2.2.1, v111.1.1.2.2.2.1, ()), v111.2.2.1, ())
            | .inr v112 =>
              some ((v112.1.1.1, v112.1.1.2.1, v112.1.1.2.2.1, v112.1.1.2.2.2.1, ()), true, ())))
          else
           none)))
       else
        none)))
    else
     none)))

noncomputable def e_address_compile (fu : Nat) : FE := ⟨97, (.cons (.lf .str) .nil), [], (.tup (.cons (.agg [(.int .i64), .str, (.sl 119), .bool]) (.cons (.lf .bool) .nil))), [], fun (a : (ByteArray × Unit)) (p : Unit) => address_compile fu a.1⟩

theorem e_address_compile_ok (fu : Nat) : (e_address_compile fu).ok E0 := FE.rule (.f (e_strings_Split_ok fu) (.f (e_address_isName_ok fu) (.f (e_address_partOf_ok fu) (.f (e_address_isWord_ok fu) (.f (e_strings_HasPrefix_ok fu) (.l (l_address_compile_L6_ok fu) .nil)))))) fun a p => by kernel_rfl

noncomputable def address_Valid (fu : Nat) (x0 : ByteArray) : Option (Bool) :=
  ((address_compile fu x0).bind fun (v113 : ((Int × ByteArray × List D × Bool × Unit) × Bool × Unit)) =>
   some v113.2.1)

noncomputable def e_address_Valid (fu : Nat) : FE := ⟨54, (.cons (.lf .str) .nil), [], (.lf .bool), [], fun (a : (ByteArray × Unit)) (p : Unit) => address_Valid fu a.1⟩

theorem e_address_Valid_ok (fu : Nat) : (e_address_Valid fu).ok E0 := FE.rule (.f (e_address_compile_ok fu) .nil) fun a p => by kernel_rfl

noncomputable def cond_isName (fu : Nat) (x0 : ByteArray) : Option (Bool) :=
  (bif (!(Go.Eng.seq x0 (bs [42]))) then
   ((strings_Contains x0 (bs [47])).bind fun (v114 : Bool) =>
    (bif (!v114) then
     ((address_Valid fu x0).bind fun (v115 : Bool) =>
      some v115)
    else
     some false))
  else
   some false)

noncomputable def e_cond_isName (fu : Nat) : FE := ⟨56, (.cons (.lf .str) .nil), [], (.lf .bool), [], fun (a : (ByteArray × Unit)) (p : Unit) => cond_isName fu a.1⟩

theorem e_cond_isName_ok (fu : Nat) : (e_cond_isName fu).ok E0 := FE.rule (.f (e_strings_Contains_ok) (.f (e_address_Valid_ok fu) .nil)) fun a p => by kernel_rfl

noncomputable def cond_isSet_string_L2 (fu : Nat) : Nat → List D → Int → List D → Int → Int → Option (((Unit × (List D × Int × Bool × Unit)) ⊕ (Unit × (List D × Int × Unit))))
  | 0, _, _, _, _, _ => none
  | n + 1, x0, x1, x2, x3, x4 =>
    (bif (decide (x4 < x3)) then
     ((nat? x4).bind fun (v116 : Nat) =>
      (if (v116 < (List.length x2)) then
       ((rdS x2 v116).bind fun (v117 : ByteArray) =>
        ((cond_isName fu v117).bind fun (v118 : Bool) =>
         (bif (!v118) then
          some (.inl (((), (x0, x1, false, ()))))
         else
          (bif (decide (x4 > (0 : Int))) then
           ((nat? (w64 (x4 - (1 : Int)))).bind fun (v119 : Nat) =>
            (if (v119 < (List.length x0)) then
             ((rdS x0 v119).bind fun (v120 : ByteArray) =>
              (bif ((Go.Eng.slt v117 v120) || (Go.Eng.seq v117 v120)) then
               some (.inl (((), (x0, x1, false, ()))))
              else
               cond_isSet_string_L2 fu n x0 x1 x2 x3 (w64 (x4 + (1 : Int)))))
            else
             none))
          else
           cond_isSet_string_L2 fu n x0 x1 x2 x3 (w64 (x4 + (1 : Int)))))))
      else
       none))
    else
     some (.inr (((), (x0, x1, ())))))

noncomputable def l_cond_isSet_string_L2 (fu : Nat) : LE := ⟨55, 2, ⟨[], [], [(0, (.lf (.sl 9))), (1, (.lf (.int .i64))), (2, (.fn 56 .nil .nil)), (9, (.lf (.sl 9))), (10, (.lf (.int .i64))), (11, (.lf (.int .i64)))]⟩, [(.ret, ⟨[], [], [(0, (.lf (.sl 9))), (1, (.lf (.int .i64))), (6, (.lf .bool))]⟩), (.exit 0, ⟨[], [], [(0, (.lf (.sl 9))), (1, (.lf (.int .i64)))]⟩)], fun (v : (Unit × (List D × Int × (Unit × Unit) × List D × Int × Int × Unit))) => cond_isSet_string_L2 fu fu v.2.1 v.2.2.1 v.2.2.2.2.1 v.2.2.2.2.2.1 v.2.2.2.2.2.2.1⟩

theorem l_cond_isSet_string_L2_ok (fu : Nat) : (l_cond_isSet_string_L2 fu).ok E0 := LE.rule (f := 55) (id := 2) (inn := ⟨[], [], [(0, (.lf (.sl 9))), (1, (.lf (.int .i64))), (2, (.fn 56 .nil .nil)), (9, (.lf (.sl 9))), (10, (.lf (.int .i64))), (11, (.lf (.int .i64)))]⟩) (outs := [(.ret, ⟨[], [], [(0, (.lf (.sl 9))), (1, (.lf (.int .i64))), (6, (.lf .bool))]⟩), (.exit 0, ⟨[], [], [(0, (.lf (.sl 9))), (1, (.lf (.int .i64)))]⟩)]) (g := fun n (v : (Unit × (List D × Int × (Unit × Unit) × List D × Int × Int × Unit))) => cond_isSet_string_L2 fu n v.2.1 v.2.2.1 v.2.2.2.2.1 v.2.2.2.2.2.1 v.2.2.2.2.2.2.1) (.f (e_cond_isName_ok fu) .nil) (by kernel_rfl) (fun v => rfl) (fun n v => by kernel_rfl) fu

noncomputable def cond_isSet_string (fu : Nat) (x0 : List D) (x1 : Int) : Option (Bool) :=
  ((cond_isSet_string_L2 fu fu x0 x1 x0 (((List.length x0) : Nat) : Int) (0 : Int)).bind fun (v121 : ((Unit × (List D × Int × Bool × Unit)) ⊕ (Unit × (List D × Int × Unit)))) =>
   (match v121 with
   | .inl v122 =>
     some v122.2.2.2.1
   | .inr v123 =>
     some (decide ((((List.length v123.2.1) : Nat) : Int) ≤ v123.2.2.1))))

noncomputable def e_cond_isSet_string (fu : Nat) : FE := ⟨55, (.cons (.lf (.sl 9)) (.cons (.lf (.int .i64)) (.cons (.fn 56 .nil .nil) .nil))), [], (.lf .bool), [], fun (a : (List D × Int × (Unit × Unit) × Unit)) (p : Unit) => cond_isSet_string fu a.1 a.2.1⟩

theorem e_cond_isSet_string_ok (fu : Nat) : (e_cond_isSet_string fu).ok E0 := FE.rule (.f (e_cond_isName_ok fu) (.l (l_cond_isSet_string_L2_ok fu) .nil)) fun a p => by kernel_rfl

noncomputable def cond_isCountry (x0 : ByteArray) : Option (Bool) :=
  (bif ((((ByteArray.size x0) : Nat) : Int) == (2 : Int)) then
   (if ((Int.toNat (0 : Int)) < (ByteArray.size x0)) then
    (if ((Int.toNat (1 : Int)) < (ByteArray.size x0)) then
     (bif (decide ((if ((chr x0 (Int.toNat (1 : Int))) < (chr x0 (Int.toNat (0 : Int)))) then (chr x0 (Int.toNat (1 : Int))) else (chr x0 (Int.toNat (0 : Int)))) ≥ (97 : Int))) then
      (if ((Int.toNat (0 : Int)) < (ByteArray.size x0)) then
       (if ((Int.toNat (1 : Int)) < (ByteArray.size x0)) then
        some (decide ((if ((chr x0 (Int.toNat (1 : Int))) > (chr x0 (Int.toNat (0 : Int)))) then (chr x0 (Int.toNat (1 : Int))) else (chr x0 (Int.toNat (0 : Int)))) ≤ (122 : Int)))
       else
        none)
      else
       none)
     else
      some false)
    else
     none)
   else
    none)
  else
   some false)

noncomputable def e_cond_isCountry : FE := ⟨57, (.cons (.lf .str) .nil), [], (.lf .bool), [], fun (a : (ByteArray × Unit)) (p : Unit) => cond_isCountry a.1⟩

theorem e_cond_isCountry_ok : (e_cond_isCountry).ok E0 := FE.rule .nil fun a p => by kernel_rfl

noncomputable def cond_isSet_string_L2_8 (fu : Nat) : Nat → List D → Int → List D → Int → Int → Option (((Unit × (List D × Int × Bool × Unit)) ⊕ (Unit × (List D × Int × Unit))))
  | 0, _, _, _, _, _ => none
  | n + 1, x0, x1, x2, x3, x4 =>
    (bif (decide (x4 < x3)) then
     ((nat? x4).bind fun (v127 : Nat) =>
      (if (v127 < (List.length x2)) then
       ((rdS x2 v127).bind fun (v128 : ByteArray) =>
        ((cond_isCountry v128).bind fun (v129 : Bool) =>
         (bif (!v129) then
          some (.inl (((), (x0, x1, false, ()))))
         else
          (bif (decide (x4 > (0 : Int))) then
           ((nat? (w64 (x4 - (1 : Int)))).bind fun (v130 : Nat) =>
            (if (v130 < (List.length x0)) then
             ((rdS x0 v130).bind fun (v131 : ByteArray) =>
              (bif ((Go.Eng.slt v128 v131) || (Go.Eng.seq v128 v131)) then
               some (.inl (((), (x0, x1, false, ()))))
              else
               cond_isSet_string_L2_8 fu n x0 x1 x2 x3 (w64 (x4 + (1 : Int)))))
            else
             none))
          else
           cond_isSet_string_L2_8 fu n x0 x1 x2 x3 (w64 (x4 + (1 : Int)))))))
      else
       none))
    else
     some (.inr (((), (x0, x1, ())))))

noncomputable def l_cond_isSet_string_L2_8 (fu : Nat) : LE := ⟨55, 2, ⟨[], [], [(0, (.lf (.sl 9))), (1, (.lf (.int .i64))), (2, (.fn 57 .nil .nil)), (9, (.lf (.sl 9))), (10, (.lf (.int .i64))), (11, (.lf (.int .i64)))]⟩, [(.ret, ⟨[], [], [(0, (.lf (.sl 9))), (1, (.lf (.int .i64))), (6, (.lf .bool))]⟩), (.exit 0, ⟨[], [], [(0, (.lf (.sl 9))), (1, (.lf (.int .i64)))]⟩)], fun (v : (Unit × (List D × Int × (Unit × Unit) × List D × Int × Int × Unit))) => cond_isSet_string_L2_8 fu fu v.2.1 v.2.2.1 v.2.2.2.2.1 v.2.2.2.2.2.1 v.2.2.2.2.2.2.1⟩

theorem l_cond_isSet_string_L2_8_ok (fu : Nat) : (l_cond_isSet_string_L2_8 fu).ok E0 := LE.rule (f := 55) (id := 2) (inn := ⟨[], [], [(0, (.lf (.sl 9))), (1, (.lf (.int .i64))), (2, (.fn 57 .nil .nil)), (9, (.lf (.sl 9))), (10, (.lf (.int .i64))), (11, (.lf (.int .i64)))]⟩) (outs := [(.ret, ⟨[], [], [(0, (.lf (.sl 9))), (1, (.lf (.int .i64))), (6, (.lf .bool))]⟩), (.exit 0, ⟨[], [], [(0, (.lf (.sl 9))), (1, (.lf (.int .i64)))]⟩)]) (g := fun n (v : (Unit × (List D × Int × (Unit × Unit) × List D × Int × Int × Unit))) => cond_isSet_string_L2_8 fu n v.2.1 v.2.2.1 v.2.2.2.2.1 v.2.2.2.2.2.1 v.2.2.2.2.2.2.1) (.f (e_cond_isCountry_ok) .nil) (by kernel_rfl) (fun v => rfl) (fun n v => by kernel_rfl) fu

noncomputable def cond_isSet_string_31 (fu : Nat) (x0 : List D) (x1 : Int) : Option (Bool) :=
  ((cond_isSet_string_L2_8 fu fu x0 x1 x0 (((List.length x0) : Nat) : Int) (0 : Int)).bind fun (v132 : ((Unit × (List D × Int × Bool × Unit)) ⊕ (Unit × (List D × Int × Unit)))) =>
   (match v132 with
   | .inl v133 =>
     some v133.2.2.2.1
   | .inr v134 =>
     some (decide ((((List.length v134.2.1) : Nat) : Int) ≤ v134.2.2.1))))

noncomputable def e_cond_isSet_string_31 (fu : Nat) : FE := ⟨55, (.cons (.lf (.sl 9)) (.cons (.lf (.int .i64)) (.cons (.fn 57 .nil .nil) .nil))), [], (.lf .bool), [], fun (a : (List D × Int × (Unit × Unit) × Unit)) (p : Unit) => cond_isSet_string_31 fu a.1 a.2.1⟩

theorem e_cond_isSet_string_31_ok (fu : Nat) : (e_cond_isSet_string_31 fu).ok E0 := FE.rule (.f (e_cond_isCountry_ok) (.l (l_cond_isSet_string_L2_8_ok fu) .nil)) fun a p => by kernel_rfl

noncomputable def cond_isSite (x0 : Int) : Option (Bool) :=
  (bif (decide (x0 ≥ (0 : Int))) then
   some (decide (x0 < (64 : Int)))
  else
   some false)

noncomputable def e_cond_isSite : FE := ⟨59, (.cons (.lf (.int .i64)) .nil), [], (.lf .bool), [], fun (a : (Int × Unit)) (p : Unit) => cond_isSite a.1⟩

theorem e_cond_isSite_ok : (e_cond_isSite).ok E0 := FE.rule .nil fun a p => by kernel_rfl

noncomputable def cond_isSet_int_L2 (fu : Nat) : Nat → List D → Int → List D → Int → Int → Option (((Unit × (List D × Int × Bool × Unit)) ⊕ (Unit × (List D × Int × Unit))))
  | 0, _, _, _, _, _ => none
  | n + 1, x0, x1, x2, x3, x4 =>
    (bif (decide (x4 < x3)) then
     ((nat? x4).bind fun (v139 : Nat) =>
      (if (v139 < (List.length x2)) then
       ((rdI .i64 x2 v139).bind fun (v140 : Int) =>
        ((cond_isSite v140).bind fun (v141 : Bool) =>
         (bif (!v141) then
          some (.inl (((), (x0, x1, false, ()))))
         else
          (bif (decide (x4 > (0 : Int))) then
           ((nat? (w64 (x4 - (1 : Int)))).bind fun (v142 : Nat) =>
            (if (v142 < (List.length x0)) then
             ((rdI .i64 x0 v142).bind fun (v143 : Int) =>
              (bif (decide (v140 ≤ v143)) then
               some (.inl (((), (x0, x1, false, ()))))
              else
               cond_isSet_int_L2 fu n x0 x1 x2 x3 (w64 (x4 + (1 : Int)))))
            else
             none))
          else
           cond_isSet_int_L2 fu n x0 x1 x2 x3 (w64 (x4 + (1 : Int)))))))
      else
       none))
    else
     some (.inr (((), (x0, x1, ())))))

noncomputable def l_cond_isSet_int_L2 (fu : Nat) : LE := ⟨58, 2, ⟨[], [], [(0, (.lf (.sl 3))), (1, (.lf (.int .i64))), (2, (.fn 59 .nil .nil)), (9, (.lf (.sl 3))), (10, (.lf (.int .i64))), (11, (.lf (.int .i64)))]⟩, [(.ret, ⟨[], [], [(0, (.lf (.sl 3))), (1, (.lf (.int .i64))), (6, (.lf .bool))]⟩), (.exit 0, ⟨[], [], [(0, (.lf (.sl 3))), (1, (.lf (.int .i64)))]⟩)], fun (v : (Unit × (List D × Int × (Unit × Unit) × List D × Int × Int × Unit))) => cond_isSet_int_L2 fu fu v.2.1 v.2.2.1 v.2.2.2.2.1 v.2.2.2.2.2.1 v.2.2.2.2.2.2.1⟩

theorem l_cond_isSet_int_L2_ok (fu : Nat) : (l_cond_isSet_int_L2 fu).ok E0 := LE.rule (f := 58) (id := 2) (inn := ⟨[], [], [(0, (.lf (.sl 3))), (1, (.lf (.int .i64))), (2, (.fn 59 .nil .nil)), (9, (.lf (.sl 3))), (10, (.lf (.int .i64))), (11, (.lf (.int .i64)))]⟩) (outs := [(.ret, ⟨[], [], [(0, (.lf (.sl 3))), (1, (.lf (.int .i64))), (6, (.lf .bool))]⟩), (.exit 0, ⟨[], [], [(0, (.lf (.sl 3))), (1, (.lf (.int .i64)))]⟩)]) (g := fun n (v : (Unit × (List D × Int × (Unit × Unit) × List D × Int × Int × Unit))) => cond_isSet_int_L2 fu n v.2.1 v.2.2.1 v.2.2.2.2.1 v.2.2.2.2.2.1 v.2.2.2.2.2.2.1) (.f (e_cond_isSite_ok) .nil) (by kernel_rfl) (fun v => rfl) (fun n v => by kernel_rfl) fu

noncomputable def cond_isSet_int (fu : Nat) (x0 : List D) (x1 : Int) : Option (Bool) :=
  ((cond_isSet_int_L2 fu fu x0 x1 x0 (((List.length x0) : Nat) : Int) (0 : Int)).bind fun (v144 : ((Unit × (List D × Int × Bool × Unit)) ⊕ (Unit × (List D × Int × Unit)))) =>
   (match v144 with
   | .inl v145 =>
     some v145.2.2.2.1
   | .inr v146 =>
     some (decide ((((List.length v146.2.1) : Nat) : Int) ≤ v146.2.2.1))))

noncomputable def e_cond_isSet_int (fu : Nat) : FE := ⟨58, (.cons (.lf (.sl 3)) (.cons (.lf (.int .i64)) (.cons (.fn 59 .nil .nil) .nil))), [], (.lf .bool), [], fun (a : (List D × Int × (Unit × Unit) × Unit)) (p : Unit) => cond_isSet_int fu a.1 a.2.1⟩

theorem e_cond_isSet_int_ok (fu : Nat) : (e_cond_isSet_int fu).ok E0 := FE.rule (.f (e_cond_isSite_ok) (.l (l_cond_isSet_int_L2_ok fu) .nil)) fun a p => by kernel_rfl

noncomputable def cond_Valid (fu : Nat) (x0 : Int) (x1 : Int) (x2 : ByteArray) (x3 : List D) (x4 : List D) (x5 : List D) (x6 : Int) : Option (Bool) :=
  (bif (decide (x0 ≥ (0 : Int))) then
   (bif (decide (x0 ≤ (1099511627776 : Int))) then
    (bif (decide (x1 ≥ (0 : Int))) then
     (bif (decide (x1 ≤ (1099511627777 : Int))) then
      (bif (decide (x6 ≥ (0 : Int))) then
       (bif (decide (x6 ≤ (1073741824 : Int))) then
        (bif (Go.Eng.seq x2 (bs [])) then
         ((cond_isSet_string fu x3 (32 : Int)).bind fun (v147 : Bool) =>
          (bif v147 then
           ((cond_isSet_string_31 fu x4 (32 : Int)).bind fun (v148 : Bool) =>
            (bif v148 then
             ((cond_isSet_int fu x5 (64 : Int)).bind fun (v149 : Bool) =>
              some v149)
            else
             some false))
          else
           some false))
        else
         ((address_Valid fu x2).bind fun (v150 : Bool) =>
          (bif v150 then
           ((cond_isSet_string fu x3 (32 : Int)).bind fun (v151 : Bool) =>
            (bif v151 then
             ((cond_isSet_string_31 fu x4 (32 : Int)).bind fun (v152 : Bool) =>
              (bif v152 then
               ((cond_isSet_int fu x5 (64 : Int)).bind fun (v153 : Bool) =>
                some v153)
              else
               some false))
            else
             some false))
          else
           some false)))
       else
        some false)
      else
       some false)
     else
      some false)
    else
     some false)
   else
    some false)
  else
   some false)

noncomputable def e_cond_Valid (fu : Nat) : FE := ⟨19, (.cons (.agg [(.int .i64), (.int .i64), .str, (.sl 9), (.sl 9), (.sl 3), (.int .i64)]) .nil), [], (.lf .bool), [], fun (a : ((Int × Int × ByteArray × List D × List D × List D × Int × Unit) × Unit)) (p : Unit) => cond_Valid fu a.1.1 a.1.2.1 a.1.2.2.1 a.1.2.2.2.1 a.1.2.2.2.2.1 a.1.2.2.2.2.2.1 a.1.2.2.2.2.2.2.1⟩

theorem e_cond_Valid_ok (fu : Nat) : (e_cond_Valid fu).ok E0 := FE.rule (.f (e_cond_isSet_string_ok fu) (.f (e_cond_isSet_string_31_ok fu) (.f (e_cond_isSet_int_ok fu) (.f (e_address_Valid_ok fu) (.f (e_cond_isName_ok fu) (.f (e_cond_isCountry_ok) (.f (e_cond_isSite_ok) .nil))))))) fun a p => by kernel_rfl

noncomputable def cmp_Or_string_L3 (fu : Nat) : Nat → ByteArray → List D → Int → Int → Option (((Unit × (ByteArray × ByteArray × Unit)) ⊕ (Unit × (ByteArray × Unit))))
  | 0, _, _, _, _ => none
  | n + 1, x0, x1, x2, x3 =>
    (bif (decide (x3 < x2)) then
     ((nat? x3).bind fun (v157 : Nat) =>
      (if (v157 < (List.length x1)) then
       ((rdS x1 v157).bind fun (v158 : ByteArray) =>
        (bif (!(Go.Eng.seq v158 x0)) then
         some (.inl (((), (v158, x0, ()))))
        else
         cmp_Or_string_L3 fu n x0 x1 x2 (w64 (x3 + (1 : Int)))))
      else
       none))
    else
     some (.inr (((), (x0, ())))))

noncomputable def l_cmp_Or_string_L3 (fu : Nat) : LE := ⟨34, 3, ⟨[], [], [(3, (.lf .str)), (6, (.lf (.sl 9))), (7, (.lf (.int .i64))), (8, (.lf (.int .i64)))]⟩, [(.ret, ⟨[], [], [(2, (.lf .str)), (3, (.lf .str))]⟩), (.exit 0, ⟨[], [], [(3, (.lf .str))]⟩)], fun (v : (Unit × (ByteArray × List D × Int × Int × Unit))) => cmp_Or_string_L3 fu fu v.2.1 v.2.2.1 v.2.2.2.1 v.2.2.2.2.1⟩

theorem l_cmp_Or_string_L3_ok (fu : Nat) : (l_cmp_Or_string_L3 fu).ok E0 := LE.rule (f := 34) (id := 3) (inn := ⟨[], [], [(3, (.lf .str)), (6, (.lf (.sl 9))), (7, (.lf (.int .i64))), (8, (.lf (.int .i64)))]⟩) (outs := [(.ret, ⟨[], [], [(2, (.lf .str)), (3, (.lf .str))]⟩), (.exit 0, ⟨[], [], [(3, (.lf .str))]⟩)]) (g := fun n (v : (Unit × (ByteArray × List D × Int × Int × Unit))) => cmp_Or_string_L3 fu n v.2.1 v.2.2.1 v.2.2.2.1 v.2.2.2.2.1) .nil (by kernel_rfl) (fun v => rfl) (fun n v => by kernel_rfl) fu

noncomputable def cmp_Or_string (fu : Nat) (x0 : List D) : Option (ByteArray) :=
  ((cmp_Or_string_L3 fu fu (bs []) x0 (((List.length x0) : Nat) : Int) (0 : Int)).bind fun (v159 : ((Unit × (ByteArray × ByteArray × Unit)) ⊕ (Unit × (ByteArray × Unit)))) =>
   (match v159 with
   | .inl v160 =>
     some v160.2.1
   | .inr v161 =>
     some v161.2.1))

noncomputable def e_cmp_Or_string (fu : Nat) : FE := ⟨34, (.cons (.lf (.sl 9)) .nil), [], (.lf .str), [], fun (a : (List D × Unit)) (p : Unit) => cmp_Or_string fu a.1⟩

theorem e_cmp_Or_string_ok (fu : Nat) : (e_cmp_Or_string fu).ok E0 := FE.rule (.l (l_cmp_Or_string_L3_ok fu) .nil) fun a p => by kernel_rfl

noncomputable def strings_Clone (fu : Nat) (x0 : ByteArray) : Option (ByteArray) :=
  ((i_stringslite_Clone x0).bind fun (v168 : ByteArray) =>
   some v168)

noncomputable def e_strings_Clone (fu : Nat) : FE := ⟨68, (.cons (.lf .str) .nil), [], (.lf .str), [], fun (a : (ByteArray × Unit)) (p : Unit) => strings_Clone fu a.1⟩

theorem e_strings_Clone_ok (fu : Nat) : (e_strings_Clone fu).ok E0 := FE.rule (.f (e_i_stringslite_Clone_ok) .nil) fun a p => by kernel_rfl

noncomputable def cond_join_string_L3 (fu : Nat) : Nat → List D → List D → Int → Int → Option ((Unit × (List D × Unit)))
  | 0, _, _, _, _ => none
  | n + 1, x0, x1, x2, x3 =>
    (bif (decide (x3 < x2)) then
     ((nat? x3).bind fun (v169 : Nat) =>
      (if (v169 < (List.length x1)) then
       ((rdS x1 v169).bind fun (v170 : ByteArray) =>
        ((strings_Clone fu v170).bind fun (v171 : ByteArray) =>
         (if ((((List.length x0) + (List.length [(D.v (.string v171))])) * 16) ≤ Go.Eng.maxRow) then
          cond_join_string_L3 fu n (x0 ++ [(D.v (.string v171))]) x1 x2 (w64 (x3 + (1 : Int)))
         else
          none)))
      else
       none))
    else
     some (((), (x0, ()))))

noncomputable def l_cond_join_string_L3 (fu : Nat) : LE := ⟨71, 3, ⟨[], [], [(1, (.fn 68 .nil .nil)), (5, (.own 9)), (8, (.lf (.sl 9))), (9, (.lf (.int .i64))), (10, (.lf (.int .i64)))]⟩, [(.exit 0, ⟨[], [], [(5, (.own 9))]⟩)], fun (v : (Unit × ((Unit × Unit) × List D × List D × Int × Int × Unit))) => cond_join_string_L3 fu fu v.2.2.1 v.2.2.2.1 v.2.2.2.2.1 v.2.2.2.2.2.1⟩

theorem l_cond_join_string_L3_ok (fu : Nat) : (l_cond_join_string_L3 fu).ok E0 := LE.rule (f := 71) (id := 3) (inn := ⟨[], [], [(1, (.fn 68 .nil .nil)), (5, (.own 9)), (8, (.lf (.sl 9))), (9, (.lf (.int .i64))), (10, (.lf (.int .i64)))]⟩) (outs := [(.exit 0, ⟨[], [], [(5, (.own 9))]⟩)]) (g := fun n (v : (Unit × ((Unit × Unit) × List D × List D × Int × Int × Unit))) => cond_join_string_L3 fu n v.2.2.1 v.2.2.2.1 v.2.2.2.2.1 v.2.2.2.2.2.1) (.f (e_strings_Clone_ok fu) (.f (e_strings_Join_ok) (.f (e_cmp_Or_string_ok fu) .nil))) (by kernel_rfl) (fun v => rfl) (fun n v => by kernel_rfl) fu

noncomputable def cond_join_string (fu : Nat) (x0 : List D) : Option (ByteArray) :=
  ((cond_join_string_L3 fu fu ([] : List D) x0 (((List.length x0) : Nat) : Int) (0 : Int)).bind fun (v172 : (Unit × (List D × Unit))) =>
   ((strings_Join v172.2.1 (bs [44])).bind fun (v173 : ByteArray) =>
    ((cmp_Or_string fu [(D.v (.string v173)), (D.v (.string (bs [126])))]).bind fun (v174 : ByteArray) =>
     some v174)))

noncomputable def e_cond_join_string (fu : Nat) : FE := ⟨71, (.cons (.lf (.sl 9)) (.cons (.fn 68 .nil .nil) .nil)), [], (.lf .str), [], fun (a : (List D × (Unit × Unit) × Unit)) (p : Unit) => cond_join_string fu a.1⟩

theorem e_cond_join_string_ok (fu : Nat) : (e_cond_join_string fu).ok E0 := FE.rule (.f (e_strings_Join_ok) (.f (e_cmp_Or_string_ok fu) (.f (e_strings_Clone_ok fu) (.l (l_cond_join_string_L3_ok fu) .nil)))) fun a p => by kernel_rfl

noncomputable def cond_join_int_L3 (fu : Nat) : Nat → List D → List D → Int → Int → Option ((Unit × (List D × Unit)))
  | 0, _, _, _, _ => none
  | n + 1, x0, x1, x2, x3 =>
    (bif (decide (x3 < x2)) then
     ((nat? x3).bind fun (v181 : Nat) =>
      (if (v181 < (List.length x1)) then
       ((rdI .i64 x1 v181).bind fun (v182 : Int) =>
        ((strconv_Itoa v182).bind fun (v183 : ByteArray) =>
         (if ((((List.length x0) + (List.length [(D.v (.string v183))])) * 16) ≤ Go.Eng.maxRow) then
          cond_join_int_L3 fu n (x0 ++ [(D.v (.string v183))]) x1 x2 (w64 (x3 + (1 : Int)))
         else
          none)))
      else
       none))
    else
     some (((), (x0, ()))))

noncomputable def l_cond_join_int_L3 (fu : Nat) : LE := ⟨72, 3, ⟨[], [], [(1, (.fn 70 .nil .nil)), (5, (.own 9)), (8, (.lf (.sl 3))), (9, (.lf (.int .i64))), (10, (.lf (.int .i64)))]⟩, [(.exit 0, ⟨[], [], [(5, (.own 9))]⟩)], fun (v : (Unit × ((Unit × Unit) × List D × List D × Int × Int × Unit))) => cond_join_int_L3 fu fu v.2.2.1 v.2.2.2.1 v.2.2.2.2.1 v.2.2.2.2.2.1⟩

theorem l_cond_join_int_L3_ok (fu : Nat) : (l_cond_join_int_L3 fu).ok E0 := LE.rule (f := 72) (id := 3) (inn := ⟨[], [], [(1, (.fn 70 .nil .nil)), (5, (.own 9)), (8, (.lf (.sl 3))), (9, (.lf (.int .i64))), (10, (.lf (.int .i64)))]⟩) (outs := [(.exit 0, ⟨[], [], [(5, (.own 9))]⟩)]) (g := fun n (v : (Unit × ((Unit × Unit) × List D × List D × Int × Int × Unit))) => cond_join_int_L3 fu n v.2.2.1 v.2.2.2.1 v.2.2.2.2.1 v.2.2.2.2.2.1) (.f (e_strconv_Itoa_ok) (.f (e_strings_Join_ok) (.f (e_cmp_Or_string_ok fu) .nil))) (by kernel_rfl) (fun v => rfl) (fun n v => by kernel_rfl) fu

noncomputable def cond_join_int (fu : Nat) (x0 : List D) : Option (ByteArray) :=
  ((cond_join_int_L3 fu fu ([] : List D) x0 (((List.length x0) : Nat) : Int) (0 : Int)).bind fun (v184 : (Unit × (List D × Unit))) =>
   ((strings_Join v184.2.1 (bs [44])).bind fun (v185 : ByteArray) =>
    ((cmp_Or_string fu [(D.v (.string v185)), (D.v (.string (bs [126])))]).bind fun (v186 : ByteArray) =>
     some v186)))

noncomputable def e_cond_join_int (fu : Nat) : FE := ⟨72, (.cons (.lf (.sl 3)) (.cons (.fn 70 .nil .nil) .nil)), [], (.lf .str), [], fun (a : (List D × (Unit × Unit) × Unit)) (p : Unit) => cond_join_int fu a.1⟩

theorem e_cond_join_int_ok (fu : Nat) : (e_cond_join_int fu).ok E0 := FE.rule (.f (e_strings_Join_ok) (.f (e_cmp_Or_string_ok fu) (.f (e_strconv_Itoa_ok) (.l (l_cond_join_int_L3_ok fu) .nil)))) fun a p => by kernel_rfl

noncomputable def cond_Text (fu : Nat) (x0 : Int) (x1 : Int) (x2 : ByteArray) (x3 : List D) (x4 : List D) (x5 : List D) (x6 : Int) : Option ((ByteArray × Int × Unit)) :=
  ((cond_Valid fu x0 x1 x2 x3 x4 x5 x6).bind fun (v187 : Bool) =>
   (bif (!v187) then
    some ((bs []), (1 : Int), ())
   else
    ((strconv_Itoa x0).bind fun (v188 : ByteArray) =>
     ((strconv_Itoa x1).bind fun (v189 : ByteArray) =>
      ((cmp_Or_string fu [(D.v (.string x2)), (D.v (.string (bs [126])))]).bind fun (v190 : ByteArray) =>
       ((cond_join_string fu x3).bind fun (v191 : ByteArray) =>
        ((cond_join_string fu x4).bind fun (v192 : ByteArray) =>
         ((cond_join_int fu x5).bind fun (v193 : ByteArray) =>
          ((strconv_Itoa x6).bind fun (v194 : ByteArray) =>
           ((strings_Join [(D.v (.string v188)), (D.v (.string v189)), (D.v (.string v190)), (D.v (.string v191)), (D.v (.string v192)), (D.v (.string v193)), (D.v (.string v194))] (bs [32])).bind fun (v195 : ByteArray) =>
            some (v195, (0 : Int), ())))))))))))

noncomputable def e_cond_Text (fu : Nat) : FE := ⟨22, (.cons (.agg [(.int .i64), (.int .i64), .str, (.sl 9), (.sl 9), (.sl 3), (.int .i64)]) .nil), [], (.tup (.cons (.lf .str) (.cons (.lf (.int .i64)) .nil))), [], fun (a : ((Int × Int × ByteArray × List D × List D × List D × Int × Unit) × Unit)) (p : Unit) => cond_Text fu a.1.1 a.1.2.1 a.1.2.2.1 a.1.2.2.2.1 a.1.2.2.2.2.1 a.1.2.2.2.2.2.1 a.1.2.2.2.2.2.2.1⟩

theorem e_cond_Text_ok (fu : Nat) : (e_cond_Text fu).ok E0 := FE.rule (.f (e_cond_Valid_ok fu) (.f (e_strconv_Itoa_ok) (.f (e_cmp_Or_string_ok fu) (.f (e_cond_join_string_ok fu) (.f (e_cond_join_int_ok fu) (.f (e_strings_Join_ok) (.f (e_strings_Clone_ok fu) .nil))))))) fun a p => by kernel_rfl

noncomputable def i_stringslite_HasSuffix (fu : Nat) (x0 : ByteArray) (x1 : ByteArray) : Option (Bool) :=
  (bif (decide ((((ByteArray.size x0) : Nat) : Int) ≥ (((ByteArray.size x1) : Nat) : Int))) then
   ((nat? (w64 ((((ByteArray.size x0) : Nat) : Int) - (((ByteArray.size x1) : Nat) : Int)))).bind fun (v205 : Nat) =>
    (if ((v205 ≤ (ByteArray.size x0)) ∧ ((ByteArray.size x0) ≤ (ByteArray.size x0))) then
     some (Go.Eng.seq (ByteArray.extract x0 v205 (ByteArray.size x0)) x1)
    else
     none))
  else
   some false)

noncomputable def e_i_stringslite_HasSuffix (fu : Nat) : FE := ⟨174, (.cons (.lf .str) (.cons (.lf .str) .nil)), [], (.lf .bool), [], fun (a : (ByteArray × ByteArray × Unit)) (p : Unit) => i_stringslite_HasSuffix fu a.1 a.2.1⟩

theorem e_i_stringslite_HasSuffix_ok (fu : Nat) : (e_i_stringslite_HasSuffix fu).ok E0 := FE.rule .nil fun a p => by kernel_rfl

noncomputable def strings_HasSuffix (fu : Nat) (x0 : ByteArray) (x1 : ByteArray) : Option (Bool) :=
  ((i_stringslite_HasSuffix fu x0 x1).bind fun (v206 : Bool) =>
   some v206)

noncomputable def e_strings_HasSuffix (fu : Nat) : FE := ⟨135, (.cons (.lf .str) (.cons (.lf .str) .nil)), [], (.lf .bool), [], fun (a : (ByteArray × ByteArray × Unit)) (p : Unit) => strings_HasSuffix fu a.1 a.2.1⟩

theorem e_strings_HasSuffix_ok (fu : Nat) : (e_strings_HasSuffix fu).ok E0 := FE.rule (.f (e_i_stringslite_HasSuffix_ok fu) .nil) fun a p => by kernel_rfl

noncomputable def address_part_has (fu : Nat) (x0 : Int) (x1 : ByteArray) (x2 : ByteArray) : Option (Bool) :=
  (bif (x0 == (0 : Int)) then
   some (Go.Eng.seq x1 x2)
  else
   (bif (x0 == (1 : Int)) then
    (bif (decide ((((ByteArray.size x2) : Nat) : Int) > (((ByteArray.size x1) : Nat) : Int))) then
     ((strings_HasSuffix fu x2 x1).bind fun (v207 : Bool) =>
      some v207)
    else
     some false)
   else
    some true))

noncomputable def e_address_part_has (fu : Nat) : FE := ⟨122, (.cons (.agg [(.int .i64), .str]) (.cons (.lf .str) .nil)), [], (.lf .bool), [], fun (a : ((Int × ByteArray × Unit) × ByteArray × Unit)) (p : Unit) => address_part_has fu a.1.1 a.1.2.1 a.2.1⟩

theorem e_address_part_has_ok (fu : Nat) : (e_address_part_has fu).ok E0 := FE.rule (.f (e_strings_HasSuffix_ok fu) .nil) fun a p => by kernel_rfl

noncomputable def address_part_covers (fu : Nat) (x0 : Int) (x1 : ByteArray) (x2 : Int) (x3 : ByteArray) : Option (Bool) :=
  (bif (x2 == (0 : Int)) then
   ((address_part_has fu x0 x1 x3).bind fun (v208 : Bool) =>
    some v208)
  else
   (bif (x2 == (1 : Int)) then
    (bif (x0 == (2 : Int)) then
     some true
    else
     (bif (x0 == (1 : Int)) then
      ((strings_HasSuffix fu x3 x1).bind fun (v209 : Bool) =>
       some v209)
     else
      some false))
   else
    some (x0 == (2 : Int))))

noncomputable def e_address_part_covers (fu : Nat) : FE := ⟨100, (.cons (.agg [(.int .i64), .str]) (.cons (.agg [(.int .i64), .str]) .nil)), [], (.lf .bool), [], fun (a : ((Int × ByteArray × Unit) × (Int × ByteArray × Unit) × Unit)) (p : Unit) => address_part_covers fu a.1.1 a.1.2.1 a.2.1.1 a.2.1.2.1⟩

theorem e_address_part_covers_ok (fu : Nat) : (e_address_part_covers fu).ok E0 := FE.rule (.f (e_address_part_has_ok fu) (.f (e_strings_HasSuffix_ok fu) .nil)) fun a p => by kernel_rfl

noncomputable def address_meet (fu : Nat) (x0 : Int) (x1 : ByteArray) (x2 : Int) (x3 : ByteArray) : Option (((Int × ByteArray × Unit) × Bool × Unit)) :=
  ((address_part_covers fu x0 x1 x2 x3).bind fun (v210 : Bool) =>
   (bif v210 then
    some ((x2, x3, ()), true, ())
   else
    ((address_part_covers fu x2 x3 x0 x1).bind fun (v211 : Bool) =>
     some ((x0, x1, ()), v211, ()))))

noncomputable def e_address_meet (fu : Nat) : FE := ⟨168, (.cons (.agg [(.int .i64), .str]) (.cons (.agg [(.int .i64), .str]) .nil)), [], (.tup (.cons (.agg [(.int .i64), .str]) (.cons (.lf .bool) .nil))), [], fun (a : ((Int × ByteArray × Unit) × (Int × ByteArray × Unit) × Unit)) (p : Unit) => address_meet fu a.1.1 a.1.2.1 a.2.1.1 a.2.1.2.1⟩

theorem e_address_meet_ok (fu : Nat) : (e_address_meet fu).ok E0 := FE.rule (.f (e_address_part_covers_ok fu) .nil) fun a p => by kernel_rfl

noncomputable def address_common_L8 (fu : Nat) : Nat → Int → ByteArray → List D → Bool → Int → ByteArray → List D → Bool → List D → Int → Int → Option (((((Int × ByteArray × List D × Bool × Unit) × Unit) × (Unit × Bool × Unit)) ⊕ (((Int × ByteArray × List D × Bool × Unit) × Unit) × (Unit × Unit))))
  | 0, _, _, _, _, _, _, _, _, _, _, _ => none
  | n + 1, x0, x1, x2, x3, x4, x5, x6, x7, x8, x9, x10 =>
    (bif (decide (x10 < x9)) then
     ((nat? x10).bind fun (v213 : Nat) =>
      (if (v213 < (List.length x8)) then
       ((rdA [(.int .i64), .str] x8 v213).bind fun (v214 : (Int × ByteArray × Unit)) =>
        (bif (decide (x10 < (((List.length x2) : Nat) : Int))) then
         ((nat? x10).bind fun (v215 : Nat) =>
          (if (v215 < (List.length x2)) then
           ((rdA [(.int .i64), .str] x2 v215).bind fun (v216 : (Int × ByteArray × Unit)) =>
            ((address_meet fu v214.1 v214.2.1 v216.1 v216.2.1).bind fun (v217 : ((Int × ByteArray × Unit) × Bool × Unit)) =>
             (bif (!v217.2.1) then
              some (.inl ((((x4, x5, x6, x7, ()), ()), ((), false, ()))))
             else
              (if ((((List.length x6) + (List.length [(D.agg [(D.v (.int .i64 v217.1.1)), (D.v (.string v217.1.2.1))])])) * 24) ≤ Go.Eng.maxRow) then
               address_common_L8 fu n x0 x1 x2 x3 x4 x5 (x6 ++ [(D.agg [(D.v (.int .i64 v217.1.1)), (D.v (.string v217.1.2.1))])]) x7 x8 x9 (w64 (x10 + (1 : Int)))
              else
               none))))
          else
           none))
        else
         (if ((((List.length x6) + (List.length [(D.agg [(D.v (.int .i64 v214.1)), (D.v (.string v214.2.1))])])) * 24) ≤ Go.Eng.maxRow) then
          address_common_L8 fu n x0 x1 x2 x3 x4 x5 (x6 ++ [(D.agg [(D.v (.int .i64 v214.1)), (D.v (.string v214.2.1))])]) x7 x8 x9 (w64 (x10 + (1 : Int)))
         else
          none)))
      else
       none))
    else
     some (.inr ((((x4, x5, x6, x7, ()), ()), ((), ())))))

noncomputable def l_address_common_L8 (fu : Nat) : LE := ⟨129, 8, ⟨[(1, 0), (2, 0)], [(.cons (.lf (.int .i64)) (.cons (.lf .str) (.cons (.lf (.sl 119)) (.cons (.lf .bool) .nil)))), (.cons (.lf (.int .i64)) (.cons (.lf .str) (.cons (.own 119) (.cons (.lf .bool) .nil))))], [(3, (.ptr 1 0 0)), (4, (.ptr 2 0 0)), (51, (.lf (.sl 119))), (52, (.lf (.int .i64))), (53, (.lf (.int .i64)))]⟩, [(.ret, ⟨[(2, 0)], [(.cons (.lf (.int .i64)) (.cons (.lf .str) (.cons (.own 119) (.cons (.lf .bool) .nil))))], [(4, (.ptr 2 0 0)), (5, (.lf .bool))]⟩), (.exit 0, ⟨[(2, 0)], [(.cons (.lf (.int .i64)) (.cons (.lf .str) (.cons (.own 119) (.cons (.lf .bool) .nil))))], [(4, (.ptr 2 0 0))]⟩)], fun (v : (((Int × ByteArray × List D × Bool × Unit) × (Int × ByteArray × List D × Bool × Unit) × Unit) × (Unit × Unit × List D × Int × Int × Unit))) => address_common_L8 fu fu v.1.1.1 v.1.1.2.1 v.1.1.2.2.1 v.1.1.2.2.2.1 v.1.2.1.1 v.1.2.1.2.1 v.1.2.1.2.2.1 v.1.2.1.2.2.2.1 v.2.2.2.1 v.2.2.2.2.1 v.2.2.2.2.2.1⟩

theorem l_address_common_L8_ok (fu : Nat) : (l_address_common_L8 fu).ok E0 := LE.rule (f := 129) (id := 8) (inn := ⟨[(1, 0), (2, 0)], [(.cons (.lf (.int .i64)) (.cons (.lf .str) (.cons (.lf (.sl 119)) (.cons (.lf .bool) .nil)))), (.cons (.lf (.int .i64)) (.cons (.lf .str) (.cons (.own 119) (.cons (.lf .bool) .nil))))], [(3, (.ptr 1 0 0)), (4, (.ptr 2 0 0)), (51, (.lf (.sl 119))), (52, (.lf (.int .i64))), (53, (.lf (.int .i64)))]⟩) (outs := [(.ret, ⟨[(2, 0)], [(.cons (.lf (.int .i64)) (.cons (.lf .str) (.cons (.own 119) (.cons (.lf .bool) .nil))))], [(4, (.ptr 2 0 0)), (5, (.lf .bool))]⟩), (.exit 0, ⟨[(2, 0)], [(.cons (.lf (.int .i64)) (.cons (.lf .str) (.cons (.own 119) (.cons (.lf .bool) .nil))))], [(4, (.ptr 2 0 0))]⟩)]) (g := fun n (v : (((Int × ByteArray × List D × Bool × Unit) × (Int × ByteArray × List D × Bool × Unit) × Unit) × (Unit × Unit × List D × Int × Int × Unit))) => address_common_L8 fu n v.1.1.1 v.1.1.2.1 v.1.1.2.2.1 v.1.1.2.2.2.1 v.1.2.1.1 v.1.2.1.2.1 v.1.2.1.2.2.1 v.1.2.1.2.2.2.1 v.2.2.2.1 v.2.2.2.2.1 v.2.2.2.2.2.1) (.f (e_address_meet_ok fu) .nil) (by kernel_rfl) (fun v => rfl) (fun n v => by kernel_rfl) fu

noncomputable def address_common (fu : Nat) (x0 : Int) (x1 : ByteArray) (x2 : List D) (x3 : Bool) (x4 : Int) (x5 : ByteArray) (x6 : List D) (x7 : Bool) : Option (((Int × ByteArray × List D × Bool × Unit) × Bool × Unit)) :=
  (bif (decide ((((List.length x2) : Nat) : Int) < (((List.length x6) : Nat) : Int))) then
   ((address_meet fu x4 x5 x0 x1).bind fun (v218 : ((Int × ByteArray × Unit) × Bool × Unit)) =>
    (bif (!v218.2.1) then
     some ((v218.1.1, v218.1.2.1, ([] : List D), false, ()), false, ())
    else
     (bif (decide ((((List.length x6) : Nat) : Int) > (((List.length x2) : Nat) : Int))) then
      (bif (!x3) then
       some ((v218.1.1, v218.1.2.1, ([] : List D), false, ()), false, ())
      else
       (bif x7 then
        ((address_common_L8 fu fu x0 x1 x2 x3 v218.1.1 v218.1.2.1 ([] : List D) x3 x6 (((List.length x6) : Nat) : Int) (0 : Int)).bind fun (v219 : ((((Int × ByteArray × List D × Bool × Unit) × Unit) × (Unit × Bool × Unit)) ⊕ (((Int × ByteArray × List D × Bool × Unit) × Unit) × (Unit × Unit)))) =>
         (match v219 with
         | .inl v220 =>
           some ((v220.1.1.1, v220.1.1.2.1, v220.1.1.2.2.1, v220.1.1.2.2.2.1, ()), v220.2.2.1, ())
         | .inr v221 =>
           some ((v221.1.1.1, v221.1.1.2.1, v221.1.1.2.2.1, v221.1.1.2.2.2.1, ()), true, ())))
       else
        ((address_common_L8 fu fu x0 x1 x2 x3 v218.1.1 v218.1.2.1 ([] : List D) false x6 (((List.length x6) : Nat) : Int) (0 : Int)).bind fun (v222 : ((((Int × ByteArray × List D × Bool × Unit) × Unit) × (Unit × Bool × Unit)) ⊕ (((Int × ByteArray × List D × Bool × Unit) × Unit) × (Unit × Unit)))) =>
         (match v222 with
         | .inl v223 =>
           some ((v223.1.1.1, v223.1.1.2.1, v223.1.1.2.2.1, v223.1.1.2.2.2.1, ()), v223.2.2.1, ())
         | .inr v224 =>
           some ((v224.1.1.1, v224.1.1.2.1, v224.1.1.2.2.1, v224.1.1.2.2.2.1, ()), true, ())))))
     else
      (bif x7 then
       ((address_common_L8 fu fu x0 x1 x2 x3 v218.1.1 v218.1.2.1 ([] : List D) x3 x6 (((List.length x6) : Nat) : Int) (0 : Int)).bind fun (v225 : ((((Int × ByteArray × List D × Bool × Unit) × Unit) × (Unit × Bool × Unit)) ⊕ (((Int × ByteArray × List D × Bool × Unit) × Unit) × (Unit × Unit)))) =>
        (match v225 with
        | .inl v226 =>
          some ((v226.1.1.1, v226.1.1.2.1, v226.1.1.2.2.1, v226.1.1.2.2.2.1, ()), v226.2.2.1, ())
        | .inr v227 =>
          some ((v227.1.1.1, v227.1.1.2.1, v227.1.1.2.2.1, v227.1.1.2.2.2.1, ()), true, ())))
      else
       ((address_common_L8 fu fu x0 x1 x2 x3 v218.1.1 v218.1.2.1 ([] : List D) false x6 (((List.length x6) : Nat) : Int) (0 : Int)).bind fun (v228 : ((((Int × ByteArray × List D × Bool × Unit) × Unit) × (Unit × Bool × Unit)) ⊕ (((Int × ByteArray × List D × Bool × Unit) × Unit) × (Unit × Unit)))) =>
        (match v228 with
        | .inl v229 =>
          some ((v229.1.1.1, v229.1.1.2.1, v229.1.1.2.2.1, v229.1.1.2.2.2.1, ()), v229.2.2.1, ())
        | .inr v230 =>
          some ((v230.1.1.1, v230.1.1.2.1, v230.1.1.2.2.1, v230.1.1.2.2.2.1, ()), true, ())))))))
  else
   ((address_meet fu x0 x1 x4 x5).bind fun (v231 : ((Int × ByteArray × Unit) × Bool × Unit)) =>
    (bif (!v231.2.1) then
     some ((v231.1.1, v231.1.2.1, ([] : List D), false, ()), false, ())
    else
     (bif (decide ((((List.length x2) : Nat) : Int) > (((List.length x6) : Nat) : Int))) then
      (bif (!x7) then
       some ((v231.1.1, v231.1.2.1, ([] : List D), false, ()), false, ())
      else
       (bif x3 then
        ((address_common_L8 fu fu x4 x5 x6 x7 v231.1.1 v231.1.2.1 ([] : List D) x7 x2 (((List.length x2) : Nat) : Int) (0 : Int)).bind fun (v232 : ((((Int × ByteArray × List D × Bool × Unit) × Unit) × (Unit × Bool × Unit)) ⊕ (((Int × ByteArray × List D × Bool × Unit) × Unit) × (Unit × Unit)))) =>
         (match v232 with
         | .inl v233 =>
           some ((v233.1.1.1, v233.1.1.2.1, v233.1.1.2.2.1, v233.1.1.2.2.2.1, ()), v233.2.2.1, ())
         | .inr v234 =>
           some ((v234.1.1.1, v234.1.1.2.1, v234.1.1.2.2.1, v234.1.1.2.2.2.1, ()), true, ())))
       else
        ((address_common_L8 fu fu x4 x5 x6 x7 v231.1.1 v231.1.2.1 ([] : List D) false x2 (((List.length x2) : Nat) : Int) (0 : Int)).bind fun (v235 : ((((Int × ByteArray × List D × Bool × Unit) × Unit) × (Unit × Bool × Unit)) ⊕ (((Int × ByteArray × List D × Bool × Unit) × Unit) × (Unit × Unit)))) =>
         (match v235 with
         | .inl v236 =>
           some ((v236.1.1.1, v236.1.1.2.1, v236.1.1.2.2.1, v236.1.1.2.2.2.1, ()), v236.2.2.1, ())
         | .inr v237 =>
           some ((v237.1.1.1, v237.1.1.2.1, v237.1.1.2.2.1, v237.1.1.2.2.2.1, ()), true, ())))))
     else
      (bif x3 then
       ((address_common_L8 fu fu x4 x5 x6 x7 v231.1.1 v231.1.2.1 ([] : List D) x7 x2 (((List.length x2) : Nat) : Int) (0 : Int)).bind fun (v238 : ((((Int × ByteArray × List D × Bool × Unit) × Unit) × (Unit × Bool × Unit)) ⊕ (((Int × ByteArray × List D × Bool × Unit) × Unit) × (Unit × Unit)))) =>
        (match v238 with
        | .inl v239 =>
          some ((v239.1.1.1, v239.1.1.2.1, v239.1.1.2.2.1, v239.1.1.2.2.2.1, ()), v239.2.2.1, ())
        | .inr v240 =>
          some ((v240.1.1.1, v240.1.1.2.1, v240.1.1.2.2.1, v240.1.1.2.2.2.1, ()), true, ())))
      else
       ((address_common_L8 fu fu x4 x5 x6 x7 v231.1.1 v231.1.2.1 ([] : List D) false x2 (((List.length x2) : Nat) : Int) (0 : Int)).bind fun (v241 : ((((Int × ByteArray × List D × Bool × Unit) × Unit) × (Unit × Bool × Unit)) ⊕ (((Int × ByteArray × List D × Bool × Unit) × Unit) × (Unit × Unit)))) =>
        (match v241 with
        | .inl v242 =>
          some ((v242.1.1.1, v242.1.1.2.1, v242.1.1.2.2.1, v242.1.1.2.2.2.1, ()), v242.2.2.1, ())
        | .inr v243 =>
          some ((v243.1.1.1, v243.1.1.2.1, v243.1.1.2.2.1, v243.1.1.2.2.2.1, ()), true, ()))))))))

noncomputable def e_address_common (fu : Nat) : FE := ⟨129, (.cons (.agg [(.int .i64), .str, (.sl 119), .bool]) (.cons (.agg [(.int .i64), .str, (.sl 119), .bool]) .nil)), [], (.tup (.cons (.agg [(.int .i64), .str, (.sl 119), .bool]) (.cons (.lf .bool) .nil))), [], fun (a : ((Int × ByteArray × List D × Bool × Unit) × (Int × ByteArray × List D × Bool × Unit) × Unit)) (p : Unit) => address_common fu a.1.1 a.1.2.1 a.1.2.2.1 a.1.2.2.2.1 a.2.1.1 a.2.1.2.1 a.2.1.2.2.1 a.2.1.2.2.2.1⟩

theorem e_address_common_ok (fu : Nat) : (e_address_common fu).ok E0 := FE.rule (.f (e_address_meet_ok fu) (.l (l_address_common_L8_ok fu) .nil)) fun a p => by kernel_rfl


end Go.Proofs.YtcjgmffbebjddaaGreatDoor
