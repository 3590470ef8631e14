/- The Lean functions of laws 1 and 2, each with the proof that the Go function computes it. Written by a program. -/
import Derived.Test.YtcjgmffbebjddaaGreatDoorNat
set_option linter.all false
set_option maxRecDepth 100000
set_option maxHeartbeats 4000000
namespace Go.Proofs.YtcjgmffbebjddaaGreatDoor
open Go Go.Eng

noncomputable def address_both (fu : Nat) (x0 : ByteArray) (x1 : ByteArray) : Option (((Int × ByteArray × List D × Bool × Unit) × Bool × Int × Unit)) :=
  ((address_compile fu x0).bind fun (v244 : ((Int × ByteArray × List D × Bool × Unit) × Bool × Unit)) =>
   ((address_compile fu x1).bind fun (v245 : ((Int × ByteArray × List D × Bool × Unit) × Bool × Unit)) =>
    (bif (!v244.2.1) then
     some (((0 : Int), (bs []), ([] : List D), false, ()), false, (1 : Int), ())
    else
     (bif (!v245.2.1) then
      some (((0 : Int), (bs []), ([] : List D), false, ()), false, (1 : Int), ())
     else
      ((address_common fu v244.1.1 v244.1.2.1 v244.1.2.2.1 v244.1.2.2.2.1 v245.1.1 v245.1.2.1 v245.1.2.2.1 v245.1.2.2.2.1).bind fun (v246 : ((Int × ByteArray × List D × Bool × Unit) × Bool × Unit)) =>
       some ((v246.1.1, v246.1.2.1, v246.1.2.2.1, v246.1.2.2.2.1, ()), v246.2.1, (0 : Int), ()))))))

noncomputable def e_address_both (fu : Nat) : FE := ⟨93, (.cons (.lf .str) (.cons (.lf .str) .nil)), [], (.tup (.cons (.agg [(.int .i64), .str, (.sl 119), .bool]) (.cons (.lf .bool) (.cons (.lf (.int .i64)) .nil)))), [], fun (a : (ByteArray × ByteArray × Unit)) (p : Unit) => address_both fu a.1 a.2.1⟩

theorem e_address_both_ok (fu : Nat) : (e_address_both fu).ok E0 := FE.rule (.f (e_address_compile_ok fu) (.f (e_address_common_ok fu) .nil)) fun a p => by kernel_rfl

noncomputable def address_part_String (x0 : Int) (x1 : ByteArray) : Option (ByteArray) :=
  (bif (x0 == (0 : Int)) then
   some x1
  else
   (if (((ByteArray.size (bs [42])) + (ByteArray.size x1)) ≤ 9223372036854775807) then
    some ((bs [42]) ++ x1)
   else
    none))

noncomputable def e_address_part_String : FE := ⟨130, (.cons (.agg [(.int .i64), .str]) .nil), [], (.lf .str), [], fun (a : ((Int × ByteArray × Unit) × Unit)) (p : Unit) => address_part_String a.1.1 a.1.2.1⟩

theorem e_address_part_String_ok : (e_address_part_String).ok E0 := FE.rule .nil fun a p => by kernel_rfl

noncomputable def address_pattern_String_L3 (fu : Nat) : Nat → Int → ByteArray → List D → Bool → List D → List D → Int → Int → Option ((((Int × ByteArray × List D × Bool × Unit) × Unit) × (Unit × List D × Unit)))
  | 0, _, _, _, _, _, _, _, _ => none
  | n + 1, x0, x1, x2, x3, x4, x5, x6, x7 =>
    (bif (decide (x7 < x6)) then
     ((nat? x7).bind fun (v249 : Nat) =>
      (if (v249 < (List.length x5)) then
       ((rdA [(.int .i64), .str] x5 v249).bind fun (v250 : (Int × ByteArray × Unit)) =>
        ((address_part_String v250.1 v250.2.1).bind fun (v251 : ByteArray) =>
         (if ((((List.length x4) + (List.length [(D.v (.string v251))])) * 16) ≤ Go.Eng.maxRow) then
          address_pattern_String_L3 fu n x0 x1 x2 x3 (x4 ++ [(D.v (.string v251))]) x5 x6 (w64 (x7 + (1 : Int)))
         else
          none)))
      else
       none))
    else
     some ((((x0, x1, x2, x3, ()), ()), ((), x4, ()))))

noncomputable def l_address_pattern_String_L3 (fu : Nat) : LE := ⟨94, 3, ⟨[(0, 0)], [(.cons (.lf (.int .i64)) (.cons (.lf .str) (.cons (.lf (.sl 119)) (.cons (.lf .bool) .nil))))], [(1, (.ptr 0 0 0)), (3, (.own 9)), (11, (.lf (.sl 119))), (12, (.lf (.int .i64))), (13, (.lf (.int .i64)))]⟩, [(.exit 0, ⟨[(0, 0)], [(.cons (.lf (.int .i64)) (.cons (.lf .str) (.cons (.lf (.sl 119)) (.cons (.lf .bool) .nil))))], [(1, (.ptr 0 0 0)), (3, (.own 9))]⟩)], fun (v : (((Int × ByteArray × List D × Bool × Unit) × Unit) × (Unit × List D × List D × Int × Int × Unit))) => address_pattern_String_L3 fu fu v.1.1.1 v.1.1.2.1 v.1.1.2.2.1 v.1.1.2.2.2.1 v.2.2.1 v.2.2.2.1 v.2.2.2.2.1 v.2.2.2.2.2.1⟩

theorem l_address_pattern_String_L3_ok (fu : Nat) : (l_address_pattern_String_L3 fu).ok E0 := LE.rule (f := 94) (id := 3) (inn := ⟨[(0, 0)], [(.cons (.lf (.int .i64)) (.cons (.lf .str) (.cons (.lf (.sl 119)) (.cons (.lf .bool) .nil))))], [(1, (.ptr 0 0 0)), (3, (.own 9)), (11, (.lf (.sl 119))), (12, (.lf (.int .i64))), (13, (.lf (.int .i64)))]⟩) (outs := [(.exit 0, ⟨[(0, 0)], [(.cons (.lf (.int .i64)) (.cons (.lf .str) (.cons (.lf (.sl 119)) (.cons (.lf .bool) .nil))))], [(1, (.ptr 0 0 0)), (3, (.own 9))]⟩)]) (g := fun n (v : (((Int × ByteArray × List D × Bool × Unit) × Unit) × (Unit × List D × List D × Int × Int × Unit))) => address_pattern_String_L3 fu n v.1.1.1 v.1.1.2.1 v.1.1.2.2.1 v.1.1.2.2.2.1 v.2.2.1 v.2.2.2.1 v.2.2.2.2.1 v.2.2.2.2.2.1) (.f (e_address_part_String_ok) (.f (e_strings_Join_ok) .nil)) (by kernel_rfl) (fun v => rfl) (fun n v => by kernel_rfl) fu

noncomputable def address_pattern_String (fu : Nat) (x0 : Int) (x1 : ByteArray) (x2 : List D) (x3 : Bool) : Option (ByteArray) :=
  ((address_part_String x0 x1).bind fun (v252 : ByteArray) =>
   ((address_pattern_String_L3 fu fu x0 x1 x2 x3 [(D.v (.string v252))] x2 (((List.length x2) : Nat) : Int) (0 : Int)).bind fun (v253 : (((Int × ByteArray × List D × Bool × Unit) × Unit) × (Unit × List D × Unit))) =>
    (bif v253.1.1.2.2.2.1 then
     (if ((((List.length v253.2.2.1) + (List.length [(D.v (.string (bs [42, 42])))])) * 16) ≤ Go.Eng.maxRow) then
      ((strings_Join (v253.2.2.1 ++ [(D.v (.string (bs [42, 42])))]) (bs [47])).bind fun (v254 : ByteArray) =>
       some v254)
     else
      none)
    else
     ((strings_Join v253.2.2.1 (bs [47])).bind fun (v255 : ByteArray) =>
      some v255))))

noncomputable def e_address_pattern_String (fu : Nat) : FE := ⟨94, (.cons (.agg [(.int .i64), .str, (.sl 119), .bool]) .nil), [], (.lf .str), [], fun (a : ((Int × ByteArray × List D × Bool × Unit) × Unit)) (p : Unit) => address_pattern_String fu a.1.1 a.1.2.1 a.1.2.2.1 a.1.2.2.2.1⟩

theorem e_address_pattern_String_ok (fu : Nat) : (e_address_pattern_String fu).ok E0 := FE.rule (.f (e_address_part_String_ok) (.f (e_strings_Join_ok) (.l (l_address_pattern_String_L3_ok fu) .nil))) fun a p => by kernel_rfl

noncomputable def address_Both (fu : Nat) (x0 : ByteArray) (x1 : ByteArray) : Option ((ByteArray × Bool × Int × Unit)) :=
  ((address_both fu x0 x1).bind fun (v256 : ((Int × ByteArray × List D × Bool × Unit) × Bool × Int × Unit)) =>
   (bif (!v256.2.1) then
    some ((bs []), false, v256.2.2.1, ())
   else
    ((address_pattern_String fu v256.1.1 v256.1.2.1 v256.1.2.2.1 v256.1.2.2.2.1).bind fun (v257 : ByteArray) =>
     some (v257, true, (0 : Int), ()))))

noncomputable def e_address_Both (fu : Nat) : FE := ⟨37, (.cons (.lf .str) (.cons (.lf .str) .nil)), [], (.tup (.cons (.lf .str) (.cons (.lf .bool) (.cons (.lf (.int .i64)) .nil)))), [], fun (a : (ByteArray × ByteArray × Unit)) (p : Unit) => address_Both fu a.1 a.2.1⟩

theorem e_address_Both_ok (fu : Nat) : (e_address_Both fu).ok E0 := FE.rule (.f (e_address_both_ok fu) (.f (e_address_pattern_String_ok fu) .nil)) fun a p => by kernel_rfl

noncomputable def slices_Index_bool_bool_L2 (fu : Nat) : Nat → List D → Bool → Int → Int → Option (((Unit × (Int × Unit)) ⊕ (Unit × Unit)))
  | 0, _, _, _, _ => none
  | n + 1, x0, x1, x2, x3 =>
    (bif (decide (x3 < x2)) then
     ((nat? x3).bind fun (v265 : Nat) =>
      (if (v265 < (List.length x0)) then
       ((rdB x0 v265).bind fun (v266 : Bool) =>
        (bif (x1 == v266) then
         some (.inl (((), (x3, ()))))
        else
         slices_Index_bool_bool_L2 fu n x0 x1 x2 (w64 (x3 + (1 : Int)))))
      else
       none))
    else
     some (.inr (((), ()))))

noncomputable def l_slices_Index_bool_bool_L2 (fu : Nat) : LE := ⟨95, 2, ⟨[], [], [(0, (.lf (.sl 4))), (1, (.lf .bool)), (7, (.lf (.int .i64))), (8, (.lf (.int .i64)))]⟩, [(.ret, ⟨[], [], [(4, (.lf (.int .i64)))]⟩), (.exit 0, ⟨[], [], []⟩)], fun (v : (Unit × (List D × Bool × Int × Int × Unit))) => slices_Index_bool_bool_L2 fu fu v.2.1 v.2.2.1 v.2.2.2.1 v.2.2.2.2.1⟩

theorem l_slices_Index_bool_bool_L2_ok (fu : Nat) : (l_slices_Index_bool_bool_L2 fu).ok E0 := LE.rule (f := 95) (id := 2) (inn := ⟨[], [], [(0, (.lf (.sl 4))), (1, (.lf .bool)), (7, (.lf (.int .i64))), (8, (.lf (.int .i64)))]⟩) (outs := [(.ret, ⟨[], [], [(4, (.lf (.int .i64)))]⟩), (.exit 0, ⟨[], [], []⟩)]) (g := fun n (v : (Unit × (List D × Bool × Int × Int × Unit))) => slices_Index_bool_bool_L2 fu n v.2.1 v.2.2.1 v.2.2.2.1 v.2.2.2.2.1) .nil (by kernel_rfl) (fun v => rfl) (fun n v => by kernel_rfl) fu

noncomputable def slices_Index_bool_bool (fu : Nat) (x0 : List D) (x1 : Bool) : Option (Int) :=
  ((slices_Index_bool_bool_L2 fu fu x0 x1 (((List.length x0) : Nat) : Int) (0 : Int)).bind fun (v267 : ((Unit × (Int × Unit)) ⊕ (Unit × Unit))) =>
   (match v267 with
   | .inl v268 =>
     some v268.2.1
   | .inr v269 =>
     some (-1 : Int)))

noncomputable def e_slices_Index_bool_bool (fu : Nat) : FE := ⟨95, (.cons (.lf (.sl 4)) (.cons (.lf .bool) .nil)), [], (.lf (.int .i64)), [], fun (a : (List D × Bool × Unit)) (p : Unit) => slices_Index_bool_bool fu a.1 a.2.1⟩

theorem e_slices_Index_bool_bool_ok (fu : Nat) : (e_slices_Index_bool_bool fu).ok E0 := FE.rule (.l (l_slices_Index_bool_bool_L2_ok fu) .nil) fun a p => by kernel_rfl

noncomputable def slices_Contains_bool_bool (fu : Nat) (x0 : List D) (x1 : Bool) : Option (Bool) :=
  ((slices_Index_bool_bool fu x0 x1).bind fun (v270 : Int) =>
   some (decide (v270 ≥ (0 : Int))))

noncomputable def e_slices_Contains_bool_bool (fu : Nat) : FE := ⟨38, (.cons (.lf (.sl 4)) (.cons (.lf .bool) .nil)), [], (.lf .bool), [], fun (a : (List D × Bool × Unit)) (p : Unit) => slices_Contains_bool_bool fu a.1 a.2.1⟩

theorem e_slices_Contains_bool_bool_ok (fu : Nat) : (e_slices_Contains_bool_bool fu).ok E0 := FE.rule (.f (e_slices_Index_bool_bool_ok fu) .nil) fun a p => by kernel_rfl

noncomputable def cond_Meet (fu : Nat) (x0 : Int) (x1 : Int) (x2 : ByteArray) (x3 : List D) (x4 : List D) (x5 : List D) (x6 : Int) (x7 : Int) (x8 : Int) (x9 : ByteArray) (x10 : List D) (x11 : List D) (x12 : List D) (x13 : Int) : Option (((Int × Int × ByteArray × List D × List D × List D × Int × Unit) × Int × Unit)) :=
  ((cond_Valid fu x0 x1 x2 x3 x4 x5 x6).bind fun (v271 : Bool) =>
   (bif (!v271) then
    some (((0 : Int), (0 : Int), (bs []), ([] : List D), ([] : List D), ([] : List D), (0 : Int), ()), (1 : Int), ())
   else
    ((cond_Valid fu x7 x8 x9 x10 x11 x12 x13).bind fun (v272 : Bool) =>
     (bif (!v272) then
      some (((0 : Int), (0 : Int), (bs []), ([] : List D), ([] : List D), ([] : List D), (0 : Int), ()), (1 : Int), ())
     else
      ((cmp_Or_string fu [(D.v (.string x2)), (D.v (.string x9))]).bind fun (v273 : ByteArray) =>
       (bif (decide (x6 > (0 : Int))) then
        (bif (decide (x13 > (0 : Int))) then
         ((cond_both_string x3 x10).bind fun (v274 : (List D × Bool × Unit)) =>
          ((cond_both_string x4 x11).bind fun (v275 : (List D × Bool × Unit)) =>
           ((cond_both_int x5 x12).bind fun (v276 : (List D × Bool × Unit)) =>
            (bif (!(Go.Eng.seq x2 (bs []))) then
             (bif (!(Go.Eng.seq x9 (bs []))) then
              ((address_Both fu x2 x9).bind fun (v277 : (ByteArray × Bool × Int × Unit)) =>
               (bif (decide ((if (x7 > x0) then x7 else x0) ≥ (if (x8 < x1) then x8 else x1))) then
                some (((0 : Int), (0 : Int), (bs []), ([] : List D), ([] : List D), ([] : List D), (0 : Int), ()), (0 : Int), ())
               else
                ((slices_Contains_bool_bool fu (List.set (List.set (List.set (List.set (List.set (List.replicate (Int.toNat (4 : Int)) (D.v (.bool false))) (Int.toNat (0 : Int)) (D.v (.bool v274.2.1))) (Int.toNat (1 : Int)) (D.v (.bool v275.2.1))) (Int.toNat (2 : Int)) (D.v (.bool v276.2.1))) (Int.toNat (3 : Int)) (D.v (.bool true))) (Int.toNat (3 : Int)) (D.v (.bool v277.2.1))) false).bind fun (v278 : Bool) =>
                 (bif v278 then
                  some (((0 : Int), (0 : Int), (bs []), ([] : List D), ([] : List D), ([] : List D), (0 : Int), ()), (0 : Int), ())
                 else
                  some (((if (x7 > x0) then x7 else x0), (if (x8 < x1) then x8 else x1), v277.1, v274.1, v275.1, v276.1, (if (x13 < x6) then x13 else x6), ()), (0 : Int), ())))))
             else
              (bif (decide ((if (x7 > x0) then x7 else x0) ≥ (if (x8 < x1) then x8 else x1))) then
               some (((0 : Int), (0 : Int), (bs []), ([] : List D), ([] : List D), ([] : List D), (0 : Int), ()), (0 : Int), ())
              else
               ((slices_Contains_bool_bool fu (List.set (List.set (List.set (List.set (List.replicate (Int.toNat (4 : Int)) (D.v (.bool false))) (Int.toNat (0 : Int)) (D.v (.bool v274.2.1))) (Int.toNat (1 : Int)) (D.v (.bool v275.2.1))) (Int.toNat (2 : Int)) (D.v (.bool v276.2.1))) (Int.toNat (3 : Int)) (D.v (.bool true))) false).bind fun (v279 : Bool) =>
                (bif v279 then
                 some (((0 : Int), (0 : Int), (bs []), ([] : List D), ([] : List D), ([] : List D), (0 : Int), ()), (0 : Int), ())
                else
                 some (((if (x7 > x0) then x7 else x0), (if (x8 < x1) then x8 else x1), v273, v274.1, v275.1, v276.1, (if (x13 < x6) then x13 else x6), ()), (0 : Int), ())))))
            else
             (bif (decide ((if (x7 > x0) then x7 else x0) ≥ (if (x8 < x1) then x8 else x1))) then
              some (((0 : Int), (0 : Int), (bs []), ([] : List D), ([] : List D), ([] : List D), (0 : Int), ()), (0 : Int), ())
             else
              ((slices_Contains_bool_bool fu (List.set (List.set (List.set (List.set (List.replicate (Int.toNat (4 : Int)) (D.v (.bool false))) (Int.toNat (0 : Int)) (D.v (.bool v274.2.1))) (Int.toNat (1 : Int)) (D.v (.bool v275.2.1))) (Int.toNat (2 : Int)) (D.v (.bool v276.2.1))) (Int.toNat (3 : Int)) (D.v (.bool true))) false).bind fun (v280 : Bool) =>
               (bif v280 then
                some (((0 : Int), (0 : Int), (bs []), ([] : List D), ([] : List D), ([] : List D), (0 : Int), ()), (0 : Int), ())
               else
                some (((if (x7 > x0) then x7 else x0), (if (x8 < x1) then x8 else x1), v273, v274.1, v275.1, v276.1, (if (x13 < x6) then x13 else x6), ()), (0 : Int), ()))))))))
        else
         ((cond_both_string x3 x10).bind fun (v281 : (List D × Bool × Unit)) =>
          ((cond_both_string x4 x11).bind fun (v282 : (List D × Bool × Unit)) =>
           ((cond_both_int x5 x12).bind fun (v283 : (List D × Bool × Unit)) =>
            (bif (!(Go.Eng.seq x2 (bs []))) then
             (bif (!(Go.Eng.seq x9 (bs []))) then
              ((address_Both fu x2 x9).bind fun (v284 : (ByteArray × Bool × Int × Unit)) =>
               (bif (decide ((if (x7 > x0) then x7 else x0) ≥ (if (x8 < x1) then x8 else x1))) then
                some (((0 : Int), (0 : Int), (bs []), ([] : List D), ([] : List D), ([] : List D), (0 : Int), ()), (0 : Int), ())
               else
                ((slices_Contains_bool_bool fu (List.set (List.set (List.set (List.set (List.set (List.replicate (Int.toNat (4 : Int)) (D.v (.bool false))) (Int.toNat (0 : Int)) (D.v (.bool v281.2.1))) (Int.toNat (1 : Int)) (D.v (.bool v282.2.1))) (Int.toNat (2 : Int)) (D.v (.bool v283.2.1))) (Int.toNat (3 : Int)) (D.v (.bool true))) (Int.toNat (3 : Int)) (D.v (.bool v284.2.1))) false).bind fun (v285 : Bool) =>
                 (bif v285 then
                  some (((0 : Int), (0 : Int), (bs []), ([] : List D), ([] : List D), ([] : List D), (0 : Int), ()), (0 : Int), ())
                 else
                  some (((if (x7 > x0) then x7 else x0), (if (x8 < x1) then x8 else x1), v284.1, v281.1, v282.1, v283.1, (if (x13 > x6) then x13 else x6), ()), (0 : Int), ())))))
             else
              (bif (decide ((if (x7 > x0) then x7 else x0) ≥ (if (x8 < x1) then x8 else x1))) then
               some (((0 : Int), (0 : Int), (bs []), ([] : List D), ([] : List D), ([] : List D), (0 : Int), ()), (0 : Int), ())
              else
               ((slices_Contains_bool_bool fu (List.set (List.set (List.set (List.set (List.replicate (Int.toNat (4 : Int)) (D.v (.bool false))) (Int.toNat (0 : Int)) (D.v (.bool v281.2.1))) (Int.toNat (1 : Int)) (D.v (.bool v282.2.1))) (Int.toNat (2 : Int)) (D.v (.bool v283.2.1))) (Int.toNat (3 : Int)) (D.v (.bool true))) false).bind fun (v286 : Bool) =>
                (bif v286 then
                 some (((0 : Int), (0 : Int), (bs []), ([] : List D), ([] : List D), ([] : List D), (0 : Int), ()), (0 : Int), ())
                else
                 some (((if (x7 > x0) then x7 else x0), (if (x8 < x1) then x8 else x1), v273, v281.1, v282.1, v283.1, (if (x13 > x6) then x13 else x6), ()), (0 : Int), ())))))
            else
             (bif (decide ((if (x7 > x0) then x7 else x0) ≥ (if (x8 < x1) then x8 else x1))) then
              some (((0 : Int), (0 : Int), (bs []), ([] : List D), ([] : List D), ([] : List D), (0 : Int), ()), (0 : Int), ())
             else
              ((slices_Contains_bool_bool fu (List.set (List.set (List.set (List.set (List.replicate (Int.toNat (4 : Int)) (D.v (.bool false))) (Int.toNat (0 : Int)) (D.v (.bool v281.2.1))) (Int.toNat (1 : Int)) (D.v (.bool v282.2.1))) (Int.toNat (2 : Int)) (D.v (.bool v283.2.1))) (Int.toNat (3 : Int)) (D.v (.bool true))) false).bind fun (v287 : Bool) =>
               (bif v287 then
                some (((0 : Int), (0 : Int), (bs []), ([] : List D), ([] : List D), ([] : List D), (0 : Int), ()), (0 : Int), ())
               else
                some (((if (x7 > x0) then x7 else x0), (if (x8 < x1) then x8 else x1), v273, v281.1, v282.1, v283.1, (if (x13 > x6) then x13 else x6), ()), (0 : Int), ())))))))))
       else
        ((cond_both_string x3 x10).bind fun (v288 : (List D × Bool × Unit)) =>
         ((cond_both_string x4 x11).bind fun (v289 : (List D × Bool × Unit)) =>
          ((cond_both_int x5 x12).bind fun (v290 : (List D × Bool × Unit)) =>
           (bif (!(Go.Eng.seq x2 (bs []))) then
            (bif (!(Go.Eng.seq x9 (bs []))) then
             ((address_Both fu x2 x9).bind fun (v291 : (ByteArray × Bool × Int × Unit)) =>
              (bif (decide ((if (x7 > x0) then x7 else x0) ≥ (if (x8 < x1) then x8 else x1))) then
               some (((0 : Int), (0 : Int), (bs []), ([] : List D), ([] : List D), ([] : List D), (0 : Int), ()), (0 : Int), ())
              else
               ((slices_Contains_bool_bool fu (List.set (List.set (List.set (List.set (List.set (List.replicate (Int.toNat (4 : Int)) (D.v (.bool false))) (Int.toNat (0 : Int)) (D.v (.bool v288.2.1))) (Int.toNat (1 : Int)) (D.v (.bool v289.2.1))) (Int.toNat (2 : Int)) (D.v (.bool v290.2.1))) (Int.toNat (3 : Int)) (D.v (.bool true))) (Int.toNat (3 : Int)) (D.v (.bool v291.2.1))) false).bind fun (v292 : Bool) =>
                (bif v292 then
                 some (((0 : Int), (0 : Int), (bs []), ([] : List D), ([] : List D), ([] : List D), (0 : Int), ()), (0 : Int), ())
                else
                 some (((if (x7 > x0) then x7 else x0), (if (x8 < x1) then x8 else x1), v291.1, v288.1, v289.1, v290.1, (if (x13 > x6) then x13 else x6), ()), (0 : Int), ())))))
            else
             (bif (decide ((if (x7 > x0) then x7 else x0) ≥ (if (x8 < x1) then x8 else x1))) then
              some (((0 : Int), (0 : Int), (bs []), ([] : List D), ([] : List D), ([] : List D), (0 : Int), ()), (0 : Int), ())
             else
              ((slices_Contains_bool_bool fu (List.set (List.set (List.set (List.set (List.replicate (Int.toNat (4 : Int)) (D.v (.bool false))) (Int.toNat (0 : Int)) (D.v (.bool v288.2.1))) (Int.toNat (1 : Int)) (D.v (.bool v289.2.1))) (Int.toNat (2 : Int)) (D.v (.bool v290.2.1))) (Int.toNat (3 : Int)) (D.v (.bool true))) false).bind fun (v293 : Bool) =>
               (bif v293 then
                some (((0 : Int), (0 : Int), (bs []), ([] : List D), ([] : List D), ([] : List D), (0 : Int), ()), (0 : Int), ())
               else
                some (((if (x7 > x0) then x7 else x0), (if (x8 < x1) then x8 else x1), v273, v288.1, v289.1, v290.1, (if (x13 > x6) then x13 else x6), ()), (0 : Int), ())))))
           else
            (bif (decide ((if (x7 > x0) then x7 else x0) ≥ (if (x8 < x1) then x8 else x1))) then
             some (((0 : Int), (0 : Int), (bs []), ([] : List D), ([] : List D), ([] : List D), (0 : Int), ()), (0 : Int), ())
            else
             ((slices_Contains_bool_bool fu (List.set (List.set (List.set (List.set (List.replicate (Int.toNat (4 : Int)) (D.v (.bool false))) (Int.toNat (0 : Int)) (D.v (.bool v288.2.1))) (Int.toNat (1 : Int)) (D.v (.bool v289.2.1))) (Int.toNat (2 : Int)) (D.v (.bool v290.2.1))) (Int.toNat (3 : Int)) (D.v (.bool true))) false).bind fun (v294 : Bool) =>
              (bif v294 then
               some (((0 : Int), (0 : Int), (bs []), ([] : List D), ([] : List D), ([] : List D), (0 : Int), ()), (0 : Int), ())
              else
               some (((if (x7 > x0) then x7 else x0), (if (x8 < x1) then x8 else x1), v273, v288.1, v289.1, v290.1, (if (x13 > x6) then x13 else x6), ()), (0 : Int), ()))))))))))))))

noncomputable def e_cond_Meet (fu : Nat) : FE := ⟨12, (.cons (.agg [(.int .i64), (.int .i64), .str, (.sl 9), (.sl 9), (.sl 3), (.int .i64)]) (.cons (.agg [(.int .i64), (.int .i64), .str, (.sl 9), (.sl 9), (.sl 3), (.int .i64)]) .nil)), [], (.tup (.cons (.agg [(.int .i64), (.int .i64), .str, (.sl 9), (.sl 9), (.sl 3), (.int .i64)]) (.cons (.lf (.int .i64)) .nil))), [], fun (a : ((Int × Int × ByteArray × List D × List D × List D × Int × Unit) × (Int × Int × ByteArray × List D × List D × List D × Int × Unit) × Unit)) (p : Unit) => cond_Meet fu a.1.1 a.1.2.1 a.1.2.2.1 a.1.2.2.2.1 a.1.2.2.2.2.1 a.1.2.2.2.2.2.1 a.1.2.2.2.2.2.2.1 a.2.1.1 a.2.1.2.1 a.2.1.2.2.1 a.2.1.2.2.2.1 a.2.1.2.2.2.2.1 a.2.1.2.2.2.2.2.1 a.2.1.2.2.2.2.2.2.1⟩

theorem e_cond_Meet_ok (fu : Nat) : (e_cond_Meet fu).ok E0 := FE.rule (.f (e_cond_Valid_ok fu) (.f (e_cmp_Or_string_ok fu) (.f (e_cond_both_string_ok) (.f (e_cond_both_int_ok) (.f (e_address_Both_ok fu) (.f (e_slices_Contains_bool_bool_ok fu) .nil)))))) fun a p => by kernel_rfl

noncomputable def law21_always : Option ((Int × Int × ByteArray × List D × List D × List D × Int × Unit)) :=
  some ((0 : Int), (1099511627777 : Int), (bs []), ([] : List D), ([] : List D), ([] : List D), (0 : Int), ())

noncomputable def e_law21_always : FE := ⟨33, .nil, [], (.agg [(.int .i64), (.int .i64), .str, (.sl 9), (.sl 9), (.sl 3), (.int .i64)]), [], fun (a : Unit) (p : Unit) => law21_always⟩

theorem e_law21_always_ok : (e_law21_always).ok E0 := FE.rule .nil fun a p => by kernel_rfl

noncomputable def cond_pattern (fu : Nat) (x0 : Int) (x1 : Int) (x2 : ByteArray) (x3 : List D) (x4 : List D) (x5 : List D) (x6 : Int) : Option (ByteArray) :=
  ((cmp_Or_string fu [(D.v (.string x2)), (D.v (.string (bs [42, 47, 42, 42])))]).bind fun (v303 : ByteArray) =>
   some v303)

noncomputable def e_cond_pattern (fu : Nat) : FE := ⟨41, (.cons (.agg [(.int .i64), (.int .i64), .str, (.sl 9), (.sl 9), (.sl 3), (.int .i64)]) .nil), [], (.lf .str), [], fun (a : ((Int × Int × ByteArray × List D × List D × List D × Int × Unit) × Unit)) (p : Unit) => cond_pattern fu a.1.1 a.1.2.1 a.1.2.2.1 a.1.2.2.2.1 a.1.2.2.2.2.1 a.1.2.2.2.2.2.1 a.1.2.2.2.2.2.2.1⟩

theorem e_cond_pattern_ok (fu : Nat) : (e_cond_pattern fu).ok E0 := FE.rule (.f (e_cmp_Or_string_ok fu) .nil) fun a p => by kernel_rfl

noncomputable def address_part_with (x0 : Int) (x1 : ByteArray) (x2 : ByteArray) : Option (ByteArray) :=
  (bif (x0 == (0 : Int)) then
   some x1
  else
   (bif (x0 == (1 : Int)) then
    (if (((ByteArray.size x2) + (ByteArray.size x1)) ≤ 9223372036854775807) then
     some (x2 ++ x1)
    else
     none)
   else
    some x2))

noncomputable def e_address_part_with : FE := ⟨98, (.cons (.agg [(.int .i64), .str]) (.cons (.lf .str) .nil)), [], (.lf .str), [], fun (a : ((Int × ByteArray × Unit) × ByteArray × Unit)) (p : Unit) => address_part_with a.1.1 a.1.2.1 a.2.1⟩

theorem e_address_part_with_ok : (e_address_part_with).ok E0 := FE.rule .nil fun a p => by kernel_rfl

noncomputable def address_pattern_words_L3 (fu : Nat) : Nat → List D → List D → Int → Int → Option ((Unit × (List D × Unit)))
  | 0, _, _, _, _ => none
  | n + 1, x0, x1, x2, x3 =>
    (bif (decide (x3 < x2)) then
     ((nat? x3).bind fun (v308 : Nat) =>
      (if (v308 < (List.length x1)) then
       ((rdA [(.int .i64), .str] x1 v308).bind fun (v309 : (Int × ByteArray × Unit)) =>
        ((address_part_with v309.1 v309.2.1 (bs [97])).bind fun (v310 : ByteArray) =>
         (if ((((List.length x0) + (List.length [(D.v (.string v310))])) * 16) ≤ Go.Eng.maxRow) then
          address_pattern_words_L3 fu n (x0 ++ [(D.v (.string v310))]) x1 x2 (w64 (x3 + (1 : Int)))
         else
          none)))
      else
       none))
    else
     some (((), (x0, ()))))

noncomputable def l_address_pattern_words_L3 (fu : Nat) : LE := ⟨99, 3, ⟨[], [], [(3, (.own 9)), (7, (.lf (.sl 119))), (8, (.lf (.int .i64))), (9, (.lf (.int .i64)))]⟩, [(.exit 0, ⟨[], [], [(3, (.own 9))]⟩)], fun (v : (Unit × (List D × List D × Int × Int × Unit))) => address_pattern_words_L3 fu fu v.2.1 v.2.2.1 v.2.2.2.1 v.2.2.2.2.1⟩

theorem l_address_pattern_words_L3_ok (fu : Nat) : (l_address_pattern_words_L3 fu).ok E0 := LE.rule (f := 99) (id := 3) (inn := ⟨[], [], [(3, (.own 9)), (7, (.lf (.sl 119))), (8, (.lf (.int .i64))), (9, (.lf (.int .i64)))]⟩) (outs := [(.exit 0, ⟨[], [], [(3, (.own 9))]⟩)]) (g := fun n (v : (Unit × (List D × List D × Int × Int × Unit))) => address_pattern_words_L3 fu n v.2.1 v.2.2.1 v.2.2.2.1 v.2.2.2.2.1) (.f (e_address_part_with_ok) .nil) (by kernel_rfl) (fun v => rfl) (fun n v => by kernel_rfl) fu

noncomputable def address_pattern_words (fu : Nat) (x0 : Int) (x1 : ByteArray) (x2 : List D) (x3 : Bool) : Option (List D) :=
  ((address_pattern_words_L3 fu fu ([] : List D) x2 (((List.length x2) : Nat) : Int) (0 : Int)).bind fun (v311 : (Unit × (List D × Unit))) =>
   some v311.2.1)

noncomputable def e_address_pattern_words (fu : Nat) : FE := ⟨99, (.cons (.agg [(.int .i64), .str, (.sl 119), .bool]) .nil), [], (.own 9), [], fun (a : ((Int × ByteArray × List D × Bool × Unit) × Unit)) (p : Unit) => address_pattern_words fu a.1.1 a.1.2.1 a.1.2.2.1 a.1.2.2.2.1⟩

theorem e_address_pattern_words_ok (fu : Nat) : (e_address_pattern_words fu).ok E0 := FE.rule (.f (e_address_part_with_ok) (.l (l_address_pattern_words_L3_ok fu) .nil)) fun a p => by kernel_rfl

noncomputable def address_example (fu : Nat) (x0 : ByteArray) (x1 : List D) : Option (ByteArray) :=
  (if ((((List.length [(D.v (.string x0))]) + (List.length x1)) * 16) ≤ Go.Eng.maxRow) then
   ((strings_Join ([(D.v (.string x0))] ++ x1) (bs [47])).bind fun (v315 : ByteArray) =>
    some v315)
  else
   none)

noncomputable def e_address_example (fu : Nat) : FE := ⟨101, (.cons (.lf .str) (.cons (.lf (.sl 9)) .nil)), [], (.lf .str), [], fun (a : (ByteArray × List D × Unit)) (p : Unit) => address_example fu a.1 a.2.1⟩

theorem e_address_example_ok (fu : Nat) : (e_address_example fu).ok E0 := FE.rule (.f (e_strings_Join_ok) .nil) fun a p => by kernel_rfl

noncomputable def address_Meet (fu : Nat) (x0 : ByteArray) (x1 : ByteArray) : Option ((Bool × ByteArray × Int × Unit)) :=
  ((address_both fu x0 x1).bind fun (v316 : ((Int × ByteArray × List D × Bool × Unit) × Bool × Int × Unit)) =>
   (bif (!v316.2.1) then
    some (false, (bs []), v316.2.2.1, ())
   else
    ((address_part_with v316.1.1 v316.1.2.1 (bs [97])).bind fun (v317 : ByteArray) =>
     ((address_pattern_words fu v316.1.1 v316.1.2.1 v316.1.2.2.1 v316.1.2.2.2.1).bind fun (v318 : List D) =>
      ((address_example fu v317 v318).bind fun (v319 : ByteArray) =>
       some (true, v319, (0 : Int), ()))))))

noncomputable def e_address_Meet (fu : Nat) : FE := ⟨96, (.cons (.lf .str) (.cons (.lf .str) .nil)), [], (.tup (.cons (.lf .bool) (.cons (.lf .str) (.cons (.lf (.int .i64)) .nil)))), [], fun (a : (ByteArray × ByteArray × Unit)) (p : Unit) => address_Meet fu a.1 a.2.1⟩

theorem e_address_Meet_ok (fu : Nat) : (e_address_Meet fu).ok E0 := FE.rule (.f (e_address_both_ok fu) (.f (e_address_part_with_ok) (.f (e_address_pattern_words_ok fu) (.f (e_address_example_ok fu) .nil)))) fun a p => by kernel_rfl

noncomputable def cond_sample (fu : Nat) (x0 : Int) (x1 : Int) (x2 : ByteArray) (x3 : List D) (x4 : List D) (x5 : List D) (x6 : Int) : Option ((ByteArray × ByteArray × ByteArray × Int × Int × Int × Unit)) :=
  ((cond_pattern fu x0 x1 x2 x3 x4 x5 x6).bind fun (v320 : ByteArray) =>
   ((address_Meet fu v320 (bs [42, 47, 42, 42])).bind fun (v321 : (Bool × ByteArray × Int × Unit)) =>
    (bif (decide ((((List.length x3) : Nat) : Int) > (0 : Int))) then
     (if ((Int.toNat (0 : Int)) < (List.length x3)) then
      ((rdS x3 (Int.toNat (0 : Int))).bind fun (v322 : ByteArray) =>
       (bif (decide ((((List.length x4) : Nat) : Int) > (0 : Int))) then
        (if ((Int.toNat (0 : Int)) < (List.length x4)) then
         ((rdS x4 (Int.toNat (0 : Int))).bind fun (v323 : ByteArray) =>
          (bif (decide ((((List.length x5) : Nat) : Int) > (0 : Int))) then
           (if ((Int.toNat (0 : Int)) < (List.length x5)) then
            ((rdI .i64 x5 (Int.toNat (0 : Int))).bind fun (v324 : Int) =>
             some (v321.2.1, v322, v323, v324, x0, x0, ()))
           else
            none)
          else
           some (v321.2.1, v322, v323, (0 : Int), x0, x0, ())))
        else
         none)
       else
        (bif (decide ((((List.length x5) : Nat) : Int) > (0 : Int))) then
         (if ((Int.toNat (0 : Int)) < (List.length x5)) then
          ((rdI .i64 x5 (Int.toNat (0 : Int))).bind fun (v325 : Int) =>
           some (v321.2.1, v322, (bs [97, 97]), v325, x0, x0, ()))
         else
          none)
        else
         some (v321.2.1, v322, (bs [97, 97]), (0 : Int), x0, x0, ()))))
     else
      none)
    else
     (bif (decide ((((List.length x4) : Nat) : Int) > (0 : Int))) then
      (if ((Int.toNat (0 : Int)) < (List.length x4)) then
       ((rdS x4 (Int.toNat (0 : Int))).bind fun (v326 : ByteArray) =>
        (bif (decide ((((List.length x5) : Nat) : Int) > (0 : Int))) then
         (if ((Int.toNat (0 : Int)) < (List.length x5)) then
          ((rdI .i64 x5 (Int.toNat (0 : Int))).bind fun (v327 : Int) =>
           some (v321.2.1, (bs [97]), v326, v327, x0, x0, ()))
         else
          none)
        else
         some (v321.2.1, (bs [97]), v326, (0 : Int), x0, x0, ())))
      else
       none)
     else
      (bif (decide ((((List.length x5) : Nat) : Int) > (0 : Int))) then
       (if ((Int.toNat (0 : Int)) < (List.length x5)) then
        ((rdI .i64 x5 (Int.toNat (0 : Int))).bind fun (v328 : Int) =>
         some (v321.2.1, (bs [97]), (bs [97, 97]), v328, x0, x0, ()))
       else
        none)
      else
       some (v321.2.1, (bs [97]), (bs [97, 97]), (0 : Int), x0, x0, ()))))))

noncomputable def e_cond_sample (fu : Nat) : FE := ⟨39, (.cons (.agg [(.int .i64), (.int .i64), .str, (.sl 9), (.sl 9), (.sl 3), (.int .i64)]) .nil), [], (.agg [.str, .str, .str, (.int .i64), (.int .i64), (.int .i64)]), [], fun (a : ((Int × Int × ByteArray × List D × List D × List D × Int × Unit) × Unit)) (p : Unit) => cond_sample fu a.1.1 a.1.2.1 a.1.2.2.1 a.1.2.2.2.1 a.1.2.2.2.2.1 a.1.2.2.2.2.2.1 a.1.2.2.2.2.2.2.1⟩

theorem e_cond_sample_ok (fu : Nat) : (e_cond_sample fu).ok E0 := FE.rule (.f (e_cond_pattern_ok fu) (.f (e_address_Meet_ok fu) .nil)) fun a p => by kernel_rfl

noncomputable def address_part_without (fu : Nat) (x0 : Int) (x1 : ByteArray) (x2 : Int) (x3 : ByteArray) : Option (ByteArray) :=
  ((address_part_with x0 x1 (bs [97])).bind fun (v339 : ByteArray) =>
   ((address_part_has fu x2 x3 v339).bind fun (v340 : Bool) =>
    (bif v340 then
     ((address_part_with x0 x1 (bs [98])).bind fun (v341 : ByteArray) =>
      some v341)
    else
     some v339)))

noncomputable def e_address_part_without (fu : Nat) : FE := ⟨102, (.cons (.agg [(.int .i64), .str]) (.cons (.agg [(.int .i64), .str]) .nil)), [], (.lf .str), [], fun (a : ((Int × ByteArray × Unit) × (Int × ByteArray × Unit) × Unit)) (p : Unit) => address_part_without fu a.1.1 a.1.2.1 a.2.1.1 a.2.1.2.1⟩

theorem e_address_part_without_ok (fu : Nat) : (e_address_part_without fu).ok E0 := FE.rule (.f (e_address_part_with_ok) (.f (e_address_part_has_ok fu) .nil)) fun a p => by kernel_rfl

noncomputable def address_Covers_L15 (fu : Nat) : Nat → Int → ByteArray → List D → Bool → ByteArray → List D → List D → Int → Int → Option (((Unit × (Bool × ByteArray × Int × Unit)) ⊕ (Unit × Unit)))
  | 0, _, _, _, _, _, _, _, _, _ => none
  | n + 1, x0, x1, x2, x3, x4, x5, x6, x7, x8 =>
    (bif (decide (x8 < x7)) then
     ((nat? x8).bind fun (v352 : Nat) =>
      (if (v352 < (List.length x6)) then
       ((rdA [(.int .i64), .str] x6 v352).bind fun (v353 : (Int × ByteArray × Unit)) =>
        ((nat? x8).bind fun (v354 : Nat) =>
         (if (v354 < (List.length x2)) then
          ((rdA [(.int .i64), .str] x2 v354).bind fun (v355 : (Int × ByteArray × Unit)) =>
           ((address_part_covers fu v353.1 v353.2.1 v355.1 v355.2.1).bind fun (v356 : Bool) =>
            (bif (!v356) then
             ((nat? x8).bind fun (v357 : Nat) =>
              (if (v357 < (List.length x2)) then
               ((rdA [(.int .i64), .str] x2 v357).bind fun (v358 : (Int × ByteArray × Unit)) =>
                ((address_part_without fu v358.1 v358.2.1 v353.1 v353.2.1).bind fun (v359 : ByteArray) =>
                 ((nat? x8).bind fun (v360 : Nat) =>
                  (if (v360 < (List.length x5)) then
                   (((x5[v360]?)).bind fun (v361 : Go.Eng.D) =>
                    ((address_example fu x4 (List.set x5 v360 (D.v (.string v359)))).bind fun (v362 : ByteArray) =>
                     some (.inl (((), (false, v362, (0 : Int), ()))))))
                  else
                   none))))
              else
               none))
            else
             address_Covers_L15 fu n x0 x1 x2 x3 x4 x5 x6 x7 (w64 (x8 + (1 : Int))))))
         else
          none)))
      else
       none))
    else
     some (.inr (((), ()))))

noncomputable def l_address_Covers_L15 (fu : Nat) : LE := ⟨40, 15, ⟨[(2005, 0)], [(.cons (.lf (.int .i64)) (.cons (.lf .str) (.cons (.lf (.sl 119)) (.cons (.lf .bool) .nil))))], [(9, (.ptr 2005 0 0)), (11, (.lf .str)), (12, (.own 9)), (86, (.lf (.sl 119))), (87, (.lf (.int .i64))), (88, (.lf (.int .i64)))]⟩, [(.ret, ⟨[], [], [(4, (.lf .bool)), (5, (.lf .str)), (6, (.lf (.int .i64)))]⟩), (.exit 1, ⟨[], [], []⟩)], fun (v : (((Int × ByteArray × List D × Bool × Unit) × Unit) × (Unit × ByteArray × List D × List D × Int × Int × Unit))) => address_Covers_L15 fu fu v.1.1.1 v.1.1.2.1 v.1.1.2.2.1 v.1.1.2.2.2.1 v.2.2.1 v.2.2.2.1 v.2.2.2.2.1 v.2.2.2.2.2.1 v.2.2.2.2.2.2.1⟩

theorem l_address_Covers_L15_ok (fu : Nat) : (l_address_Covers_L15 fu).ok E0 := LE.rule (f := 40) (id := 15) (inn := ⟨[(2005, 0)], [(.cons (.lf (.int .i64)) (.cons (.lf .str) (.cons (.lf (.sl 119)) (.cons (.lf .bool) .nil))))], [(9, (.ptr 2005 0 0)), (11, (.lf .str)), (12, (.own 9)), (86, (.lf (.sl 119))), (87, (.lf (.int .i64))), (88, (.lf (.int .i64)))]⟩) (outs := [(.ret, ⟨[], [], [(4, (.lf .bool)), (5, (.lf .str)), (6, (.lf (.int .i64)))]⟩), (.exit 1, ⟨[], [], []⟩)]) (g := fun n (v : (((Int × ByteArray × List D × Bool × Unit) × Unit) × (Unit × ByteArray × List D × List D × Int × Int × Unit))) => address_Covers_L15 fu n v.1.1.1 v.1.1.2.1 v.1.1.2.2.1 v.1.1.2.2.2.1 v.2.2.1 v.2.2.2.1 v.2.2.2.2.1 v.2.2.2.2.2.1 v.2.2.2.2.2.2.1) (.f (e_address_part_covers_ok fu) (.f (e_address_part_without_ok fu) (.f (e_address_example_ok fu) (.f (e_address_compile_ok fu) (.f (e_address_part_with_ok) (.f (e_address_pattern_words_ok fu) .nil)))))) (by kernel_rfl) (fun v => rfl) (fun n v => by kernel_rfl) fu

noncomputable def address_Covers (fu : Nat) (x0 : ByteArray) (x1 : ByteArray) : Option ((Bool × ByteArray × Int × Unit)) :=
  ((address_compile fu x0).bind fun (v363 : ((Int × ByteArray × List D × Bool × Unit) × Bool × Unit)) =>
   ((address_compile fu x1).bind fun (v364 : ((Int × ByteArray × List D × Bool × Unit) × Bool × Unit)) =>
    (bif (!v363.2.1) then
     some (false, (bs []), (1 : Int), ())
    else
     (bif (!v364.2.1) then
      some (false, (bs []), (1 : Int), ())
     else
      ((address_part_with v364.1.1 v364.1.2.1 (bs [97])).bind fun (v365 : ByteArray) =>
       ((address_pattern_words fu v364.1.1 v364.1.2.1 v364.1.2.2.1 v364.1.2.2.2.1).bind fun (v366 : List D) =>
        ((address_part_covers fu v363.1.1 v363.1.2.1 v364.1.1 v364.1.2.1).bind fun (v367 : Bool) =>
         (bif (!v367) then
          ((address_part_without fu v364.1.1 v364.1.2.1 v363.1.1 v363.1.2.1).bind fun (v368 : ByteArray) =>
           ((address_example fu v368 v366).bind fun (v369 : ByteArray) =>
            some (false, v369, (0 : Int), ())))
         else
          (bif (decide ((((List.length v363.1.2.2.1) : Nat) : Int) > (((List.length v364.1.2.2.1) : Nat) : Int))) then
           ((address_example fu v365 v366).bind fun (v370 : ByteArray) =>
            some (false, v370, (0 : Int), ()))
          else
           (bif (decide ((((List.length v363.1.2.2.1) : Nat) : Int) < (((List.length v364.1.2.2.1) : Nat) : Int))) then
            (bif (!v363.1.2.2.2.1) then
             ((address_example fu v365 v366).bind fun (v371 : ByteArray) =>
              some (false, v371, (0 : Int), ()))
            else
             (bif v364.1.2.2.2.1 then
              (bif (!v363.1.2.2.2.1) then
               (if ((((List.length v366) + (List.length [(D.v (.string (bs [97])))])) * 16) ≤ Go.Eng.maxRow) then
                ((address_example fu v365 (v366 ++ [(D.v (.string (bs [97])))])).bind fun (v372 : ByteArray) =>
                 some (false, v372, (0 : Int), ()))
               else
                none)
              else
               ((address_Covers_L15 fu fu v364.1.1 v364.1.2.1 v364.1.2.2.1 v364.1.2.2.2.1 v365 v366 v363.1.2.2.1 (((List.length v363.1.2.2.1) : Nat) : Int) (0 : Int)).bind fun (v373 : ((Unit × (Bool × ByteArray × Int × Unit)) ⊕ (Unit × Unit))) =>
                (match v373 with
                | .inl v374 =>
                  some (v374.2.1, v374.2.2.1, v374.2.2.2.1, ())
                | .inr v375 =>
                  some (true, (bs []), (0 : Int), ()))))
             else
              ((address_Covers_L15 fu fu v364.1.1 v364.1.2.1 v364.1.2.2.1 v364.1.2.2.2.1 v365 v366 v363.1.2.2.1 (((List.length v363.1.2.2.1) : Nat) : Int) (0 : Int)).bind fun (v376 : ((Unit × (Bool × ByteArray × Int × Unit)) ⊕ (Unit × Unit))) =>
               (match v376 with
               | .inl v377 =>
                 some (v377.2.1, v377.2.2.1, v377.2.2.2.1, ())
               | .inr v378 =>
                 some (true, (bs []), (0 : Int), ())))))
           else
            (bif v364.1.2.2.2.1 then
             (bif (!v363.1.2.2.2.1) then
              (if ((((List.length v366) + (List.length [(D.v (.string (bs [97])))])) * 16) ≤ Go.Eng.maxRow) then
               ((address_example fu v365 (v366 ++ [(D.v (.string (bs [97])))])).bind fun (v379 : ByteArray) =>
                some (false, v379, (0 : Int), ()))
              else
               none)
             else
              ((address_Covers_L15 fu fu v364.1.1 v364.1.2.1 v364.1.2.2.1 v364.1.2.2.2.1 v365 v366 v363.1.2.2.1 (((List.length v363.1.2.2.1) : Nat) : Int) (0 : Int)).bind fun (v380 : ((Unit × (Bool × ByteArray × Int × Unit)) ⊕ (Unit × Unit))) =>
               (match v380 with
               | .inl v381 =>
                 some (v381.2.1, v381.2.2.1, v381.2.2.2.1, ())
               | .inr v382 =>
                 some (true, (bs []), (0 : Int), ()))))
            else
             ((address_Covers_L15 fu fu v364.1.1 v364.1.2.1 v364.1.2.2.1 v364.1.2.2.2.1 v365 v366 v363.1.2.2.1 (((List.length v363.1.2.2.1) : Nat) : Int) (0 : Int)).bind fun (v383 : ((Unit × (Bool × ByteArray × Int × Unit)) ⊕ (Unit × Unit))) =>
              (match v383 with
              | .inl v384 =>
                some (v384.2.1, v384.2.2.1, v384.2.2.2.1, ())
              | .inr v385 =>
                some (true, (bs []), (0 : Int), ()))))))))))))))

noncomputable def e_address_Covers (fu : Nat) : FE := ⟨40, (.cons (.lf .str) (.cons (.lf .str) .nil)), [], (.tup (.cons (.lf .bool) (.cons (.lf .str) (.cons (.lf (.int .i64)) .nil)))), [], fun (a : (ByteArray × ByteArray × Unit)) (p : Unit) => address_Covers fu a.1 a.2.1⟩

theorem e_address_Covers_ok (fu : Nat) : (e_address_Covers fu).ok E0 := FE.rule (.f (e_address_compile_ok fu) (.f (e_address_part_with_ok) (.f (e_address_pattern_words_ok fu) (.f (e_address_part_covers_ok fu) (.f (e_address_part_without_ok fu) (.f (e_address_example_ok fu) (.l (l_address_Covers_L15_ok fu) .nil))))))) fun a p => by kernel_rfl

noncomputable def slices_Values_string_string (x0 : List D) : Option ((Unit × ((List D × Unit) × Unit))) :=
  some ((), ((x0, ()), ()))

noncomputable def e_slices_Values_string_string : FE := ⟨64, (.cons (.lf (.sl 9)) .nil), [], (.fn 110 .nil (.cons (.bx [(.sl 9)]) .nil)), [], fun (a : (List D × Unit)) (p : Unit) => slices_Values_string_string a.1⟩

theorem e_slices_Values_string_string_ok : (e_slices_Values_string_string).ok E0 := FE.rule .nil fun a p => by kernel_rfl

noncomputable def slices_Index_string_string_L2 (fu : Nat) : Nat → List D → ByteArray → Int → Int → Option (((Unit × (Int × Unit)) ⊕ (Unit × Unit)))
  | 0, _, _, _, _ => none
  | n + 1, x0, x1, x2, x3 =>
    (bif (decide (x3 < x2)) then
     ((nat? x3).bind fun (v394 : Nat) =>
      (if (v394 < (List.length x0)) then
       ((rdS x0 v394).bind fun (v395 : ByteArray) =>
        (bif (Go.Eng.seq x1 v395) then
         some (.inl (((), (x3, ()))))
        else
         slices_Index_string_string_L2 fu n x0 x1 x2 (w64 (x3 + (1 : Int)))))
      else
       none))
    else
     some (.inr (((), ()))))

noncomputable def l_slices_Index_string_string_L2 (fu : Nat) : LE := ⟨162, 2, ⟨[], [], [(0, (.lf (.sl 9))), (1, (.lf .str)), (7, (.lf (.int .i64))), (8, (.lf (.int .i64)))]⟩, [(.ret, ⟨[], [], [(4, (.lf (.int .i64)))]⟩), (.exit 0, ⟨[], [], []⟩)], fun (v : (Unit × (List D × ByteArray × Int × Int × Unit))) => slices_Index_string_string_L2 fu fu v.2.1 v.2.2.1 v.2.2.2.1 v.2.2.2.2.1⟩

theorem l_slices_Index_string_string_L2_ok (fu : Nat) : (l_slices_Index_string_string_L2 fu).ok E0 := LE.rule (f := 162) (id := 2) (inn := ⟨[], [], [(0, (.lf (.sl 9))), (1, (.lf .str)), (7, (.lf (.int .i64))), (8, (.lf (.int .i64)))]⟩) (outs := [(.ret, ⟨[], [], [(4, (.lf (.int .i64)))]⟩), (.exit 0, ⟨[], [], []⟩)]) (g := fun n (v : (Unit × (List D × ByteArray × Int × Int × Unit))) => slices_Index_string_string_L2 fu n v.2.1 v.2.2.1 v.2.2.2.1 v.2.2.2.2.1) .nil (by kernel_rfl) (fun v => rfl) (fun n v => by kernel_rfl) fu

noncomputable def slices_Index_string_string (fu : Nat) (x0 : List D) (x1 : ByteArray) : Option (Int) :=
  ((slices_Index_string_string_L2 fu fu x0 x1 (((List.length x0) : Nat) : Int) (0 : Int)).bind fun (v396 : ((Unit × (Int × Unit)) ⊕ (Unit × Unit))) =>
   (match v396 with
   | .inl v397 =>
     some v397.2.1
   | .inr v398 =>
     some (-1 : Int)))

noncomputable def e_slices_Index_string_string (fu : Nat) : FE := ⟨162, (.cons (.lf (.sl 9)) (.cons (.lf .str) .nil)), [], (.lf (.int .i64)), [], fun (a : (List D × ByteArray × Unit)) (p : Unit) => slices_Index_string_string fu a.1 a.2.1⟩

theorem e_slices_Index_string_string_ok (fu : Nat) : (e_slices_Index_string_string fu).ok E0 := FE.rule (.l (l_slices_Index_string_string_L2_ok fu) .nil) fun a p => by kernel_rfl

noncomputable def slices_Contains_string_string (fu : Nat) (x0 : List D) (x1 : ByteArray) : Option (Bool) :=
  ((slices_Index_string_string fu x0 x1).bind fun (v399 : Int) =>
   some (decide (v399 ≥ (0 : Int))))

noncomputable def e_slices_Contains_string_string (fu : Nat) : FE := ⟨123, (.cons (.lf (.sl 9)) (.cons (.lf .str) .nil)), [], (.lf .bool), [], fun (a : (List D × ByteArray × Unit)) (p : Unit) => slices_Contains_string_string fu a.1 a.2.1⟩

theorem e_slices_Contains_string_string_ok (fu : Nat) : (e_slices_Contains_string_string fu).ok E0 := FE.rule (.f (e_slices_Index_string_string_ok fu) .nil) fun a p => by kernel_rfl

noncomputable def cond_allows_string (fu : Nat) (x0 : List D) (x1 : ByteArray) : Option (Bool) :=
  (bif ((((List.length x0) : Nat) : Int) == (0 : Int)) then
   some true
  else
   ((slices_Contains_string_string fu x0 x1).bind fun (v400 : Bool) =>
    some v400))

noncomputable def e_cond_allows_string (fu : Nat) : FE := ⟨82, (.cons (.lf (.sl 9)) (.cons (.lf .str) .nil)), [], (.lf .bool), [], fun (a : (List D × ByteArray × Unit)) (p : Unit) => cond_allows_string fu a.1 a.2.1⟩

theorem e_cond_allows_string_ok (fu : Nat) : (e_cond_allows_string fu).ok E0 := FE.rule (.f (e_slices_Contains_string_string_ok fu) .nil) fun a p => by kernel_rfl

noncomputable def cond_outside_string_round4 (fu : Nat) (x0 : ByteArray) (x1 : List D) (x2 : ByteArray) (x3 : Bool) : Option ((Bool × (((Nat × (Unit × Unit × Unit × Unit)) × Unit) × (List D × Unit) × (ByteArray × Unit) × (Bool × Unit) × Unit))) :=
  ((cond_allows_string fu x1 x0).bind fun (v401 : Bool) =>
   (bif (!v401) then
    some ((2 == 0), (((2, ((), (), (), ())), ()), (x1, ()), (x0, ()), (true, ()), ()))
   else
    some ((0 == 0), (((0, ((), (), (), ())), ()), (x1, ()), (x2, ()), (x3, ()), ()))))

noncomputable def e_cond_outside_string_round4 (fu : Nat) : FE := ⟨1000000007, (.cons (.lf .str) (.cons (.yf 0 1) .nil)), [(.cons (.lp0 42 4 [4, 6, 7] (.cons (.ptr 1 1 0) (.cons (.ptr 2 1 0) (.cons (.ptr 3 1 0) .nil)))) .nil), (.cons (.lf (.sl 9)) .nil), (.cons (.lf .str) .nil), (.cons (.lf .bool) .nil)], (.lf .bool), [(.cons (.lp 42 4 [4, 6, 7] (.cons (.ptr 1 1 0) (.cons (.ptr 2 1 0) (.cons (.ptr 3 1 0) .nil)))) .nil), (.cons (.lf (.sl 9)) .nil), (.cons (.lf .str) .nil), (.cons (.lf .bool) .nil)], fun (a : (ByteArray × Unit × Unit)) (p : (((Unit × Unit × Unit × Unit) × Unit) × (List D × Unit) × (ByteArray × Unit) × (Bool × Unit) × Unit)) => cond_outside_string_round4 fu a.1 p.2.1.1 p.2.2.1.1 p.2.2.2.1.1⟩

theorem e_cond_outside_string_round4_ok (fu : Nat) : (e_cond_outside_string_round4 fu).ok E0 := FE.rule (.f (e_cond_allows_string_ok fu) (.f (e_slices_Values_string_string_ok) .nil)) fun a p => by kernel_rfl

noncomputable def slices_Values_string_string_1_L1 (fu : Nat) : Nat → List D → List D → ByteArray → Bool → List D → Int → Int → Option ((((((Nat × (Unit × Unit × Unit × Unit)) × Unit) × (List D × Unit) × (List D × Unit) × (ByteArray × Unit) × (Bool × Unit) × Unit) × Unit) ⊕ ((((Nat × (Unit × Unit × Unit × Unit)) × Unit) × (List D × Unit) × (List D × Unit) × (ByteArray × Unit) × (Bool × Unit) × Unit) × Unit)))
  | 0, _, _, _, _, _, _, _ => none
  | n + 1, x0, x1, x2, x3, x4, x5, x6 =>
    (bif (decide (x6 < x5)) then
     ((nat? x6).bind fun (v402 : Nat) =>
      (if (v402 < (List.length x4)) then
       ((rdS x4 v402).bind fun (v403 : ByteArray) =>
        ((cond_outside_string_round4 fu v403 x1 x2 x3).bind fun (v404 : (Bool × (((Nat × (Unit × Unit × Unit × Unit)) × Unit) × (List D × Unit) × (ByteArray × Unit) × (Bool × Unit) × Unit))) =>
         (bif v404.1 then
          (if (v404.2.1.1.1 = 0) then
           slices_Values_string_string_1_L1 fu n x0 v404.2.2.1.1 v404.2.2.2.1.1 v404.2.2.2.2.1.1 x4 x5 (w64 (x6 + (1 : Int)))
          else
           none)
         else
          some (.inl (((((v404.2.1.1.1, ((), (), (), ())), ()), (x0, ()), (v404.2.2.1.1, ()), (v404.2.2.2.1.1, ()), (v404.2.2.2.2.1.1, ()), ()), ()))))))
      else
       none))
    else
     some (.inr (((((0, ((), (), (), ())), ()), (x0, ()), (x1, ()), (x2, ()), (x3, ()), ()), ()))))

noncomputable def l_slices_Values_string_string_1_L1 (fu : Nat) : LE := ⟨110, 1, ⟨[(0, 1), (1, 1), (2, 1), (3, 1), (4, 1)], [(.cons (.lp0 42 4 [4, 6, 7] (.cons (.ptr 2 1 0) (.cons (.ptr 3 1 0) (.cons (.ptr 4 1 0) .nil)))) .nil), (.cons (.lf (.sl 9)) .nil), (.cons (.lf (.sl 9)) .nil), (.cons (.lf .str) .nil), (.cons (.lf .bool) .nil)], [(0, (.yf 0 1)), (5, (.lf (.sl 9))), (6, (.lf (.int .i64))), (7, (.lf (.int .i64)))]⟩, [(.ret, ⟨[(0, 1), (1, 1), (2, 1), (3, 1), (4, 1)], [(.cons (.lp 42 4 [4, 6, 7] (.cons (.ptr 2 1 0) (.cons (.ptr 3 1 0) (.cons (.ptr 4 1 0) .nil)))) .nil), (.cons (.lf (.sl 9)) .nil), (.cons (.lf (.sl 9)) .nil), (.cons (.lf .str) .nil), (.cons (.lf .bool) .nil)], []⟩), (.exit 0, ⟨[(0, 1), (1, 1), (2, 1), (3, 1), (4, 1)], [(.cons (.lp 42 4 [4, 6, 7] (.cons (.ptr 2 1 0) (.cons (.ptr 3 1 0) (.cons (.ptr 4 1 0) .nil)))) .nil), (.cons (.lf (.sl 9)) .nil), (.cons (.lf (.sl 9)) .nil), (.cons (.lf .str) .nil), (.cons (.lf .bool) .nil)], []⟩)], fun (v : ((((Unit × Unit × Unit × Unit) × Unit) × (List D × Unit) × (List D × Unit) × (ByteArray × Unit) × (Bool × Unit) × Unit) × (Unit × List D × Int × Int × Unit))) => slices_Values_string_string_1_L1 fu fu v.1.2.1.1 v.1.2.2.1.1 v.1.2.2.2.1.1 v.1.2.2.2.2.1.1 v.2.2.1 v.2.2.2.1 v.2.2.2.2.1⟩

theorem l_slices_Values_string_string_1_L1_ok (fu : Nat) : (l_slices_Values_string_string_1_L1 fu).ok E0 := LE.rule (f := 110) (id := 1) (inn := ⟨[(0, 1), (1, 1), (2, 1), (3, 1), (4, 1)], [(.cons (.lp0 42 4 [4, 6, 7] (.cons (.ptr 2 1 0) (.cons (.ptr 3 1 0) (.cons (.ptr 4 1 0) .nil)))) .nil), (.cons (.lf (.sl 9)) .nil), (.cons (.lf (.sl 9)) .nil), (.cons (.lf .str) .nil), (.cons (.lf .bool) .nil)], [(0, (.yf 0 1)), (5, (.lf (.sl 9))), (6, (.lf (.int .i64))), (7, (.lf (.int .i64)))]⟩) (outs := [(.ret, ⟨[(0, 1), (1, 1), (2, 1), (3, 1), (4, 1)], [(.cons (.lp 42 4 [4, 6, 7] (.cons (.ptr 2 1 0) (.cons (.ptr 3 1 0) (.cons (.ptr 4 1 0) .nil)))) .nil), (.cons (.lf (.sl 9)) .nil), (.cons (.lf (.sl 9)) .nil), (.cons (.lf .str) .nil), (.cons (.lf .bool) .nil)], []⟩), (.exit 0, ⟨[(0, 1), (1, 1), (2, 1), (3, 1), (4, 1)], [(.cons (.lp 42 4 [4, 6, 7] (.cons (.ptr 2 1 0) (.cons (.ptr 3 1 0) (.cons (.ptr 4 1 0) .nil)))) .nil), (.cons (.lf (.sl 9)) .nil), (.cons (.lf (.sl 9)) .nil), (.cons (.lf .str) .nil), (.cons (.lf .bool) .nil)], []⟩)]) (g := fun n (v : ((((Unit × Unit × Unit × Unit) × Unit) × (List D × Unit) × (List D × Unit) × (ByteArray × Unit) × (Bool × Unit) × Unit) × (Unit × List D × Int × Int × Unit))) => slices_Values_string_string_1_L1 fu n v.1.2.1.1 v.1.2.2.1.1 v.1.2.2.2.1.1 v.1.2.2.2.2.1.1 v.2.2.1 v.2.2.2.1 v.2.2.2.2.1) (.f (e_cond_outside_string_round4_ok fu) .nil) (by kernel_rfl) (fun v => rfl) (fun n v => by kernel_rfl) fu

noncomputable def slices_Values_string_string_1 (fu : Nat) (x0 : List D) (x1 : List D) (x2 : ByteArray) (x3 : Bool) : Option ((Unit × (((Nat × (Unit × Unit × Unit × Unit)) × Unit) × (List D × Unit) × (List D × Unit) × (ByteArray × Unit) × (Bool × Unit) × Unit))) :=
  ((slices_Values_string_string_1_L1 fu fu x0 x1 x2 x3 x0 (((List.length x0) : Nat) : Int) (0 : Int)).bind fun (v405 : (((((Nat × (Unit × Unit × Unit × Unit)) × Unit) × (List D × Unit) × (List D × Unit) × (ByteArray × Unit) × (Bool × Unit) × Unit) × Unit) ⊕ ((((Nat × (Unit × Unit × Unit × Unit)) × Unit) × (List D × Unit) × (List D × Unit) × (ByteArray × Unit) × (Bool × Unit) × Unit) × Unit))) =>
   (match v405 with
   | .inl v406 =>
     some ((), (((v406.1.1.1.1, ((), (), (), ())), ()), (v406.1.2.1.1, ()), (v406.1.2.2.1.1, ()), (v406.1.2.2.2.1.1, ()), (v406.1.2.2.2.2.1.1, ()), ()))
   | .inr v407 =>
     some ((), (((v407.1.1.1.1, ((), (), (), ())), ()), (v407.1.2.1.1, ()), (v407.1.2.2.1.1, ()), (v407.1.2.2.2.1.1, ()), (v407.1.2.2.2.2.1.1, ()), ()))))

noncomputable def e_slices_Values_string_string_1 (fu : Nat) : FE := ⟨110, (.cons (.yf 0 1) (.cons (.ptr 1 1 0) .nil)), [(.cons (.lp0 42 4 [4, 6, 7] (.cons (.ptr 2 1 0) (.cons (.ptr 3 1 0) (.cons (.ptr 4 1 0) .nil)))) .nil), (.cons (.lf (.sl 9)) .nil), (.cons (.lf (.sl 9)) .nil), (.cons (.lf .str) .nil), (.cons (.lf .bool) .nil)], (.tup .nil), [(.cons (.lp 42 4 [4, 6, 7] (.cons (.ptr 2 1 0) (.cons (.ptr 3 1 0) (.cons (.ptr 4 1 0) .nil)))) .nil), (.cons (.lf (.sl 9)) .nil), (.cons (.lf (.sl 9)) .nil), (.cons (.lf .str) .nil), (.cons (.lf .bool) .nil)], fun (a : (Unit × Unit × Unit)) (p : (((Unit × Unit × Unit × Unit) × Unit) × (List D × Unit) × (List D × Unit) × (ByteArray × Unit) × (Bool × Unit) × Unit)) => slices_Values_string_string_1 fu p.2.1.1 p.2.2.1.1 p.2.2.2.1.1 p.2.2.2.2.1.1⟩

theorem e_slices_Values_string_string_1_ok (fu : Nat) : (e_slices_Values_string_string_1 fu).ok E0 := FE.rule (.l (l_slices_Values_string_string_1_L1_ok fu) .nil) fun a p => by kernel_rfl

noncomputable def cond_clients_L1 (fu : Nat) : Nat → List D → ByteArray → Bool → Int → Option ((((((Nat × (Unit × Unit × Unit × Unit)) × Unit) × (List D × Unit) × (ByteArray × Unit) × (Bool × Unit) × Unit) × Unit) ⊕ ((((Nat × (Unit × Unit × Unit × Unit)) × Unit) × (List D × Unit) × (ByteArray × Unit) × (Bool × Unit) × Unit) × Unit)))
  | 0, _, _, _, _ => none
  | n + 1, x0, x1, x2, x3 =>
    (bif (decide (x3 < (33 : Int))) then
     (((Go.Eng.bytesOf [(D.v (.int .u8 (99 : Int))), (D.v (.int .u8 (Go.IntKind.wrap .u8 (w64 ((48 : Int) + (w64 (Int.tdiv x3 (10 : Int)))))))), (D.v (.int .u8 (Go.IntKind.wrap .u8 (w64 ((48 : Int) + (Int.tmod x3 (10 : Int)))))))])).bind fun (v409 : (List UInt8)) =>
      ((cond_outside_string_round4 fu (ByteArray.mk (Array.mk v409)) x0 x1 x2).bind fun (v410 : (Bool × (((Nat × (Unit × Unit × Unit × Unit)) × Unit) × (List D × Unit) × (ByteArray × Unit) × (Bool × Unit) × Unit))) =>
       (bif v410.1 then
        (if (v410.2.1.1.1 = 0) then
         cond_clients_L1 fu n v410.2.2.1.1 v410.2.2.2.1.1 v410.2.2.2.2.1.1 (w64 (x3 + (1 : Int)))
        else
         none)
       else
        some (.inl (((((v410.2.1.1.1, ((), (), (), ())), ()), (v410.2.2.1.1, ()), (v410.2.2.2.1.1, ()), (v410.2.2.2.2.1.1, ()), ()), ()))))))
    else
     some (.inr (((((0, ((), (), (), ())), ()), (x0, ()), (x1, ()), (x2, ()), ()), ()))))

noncomputable def l_cond_clients_L1 (fu : Nat) : LE := ⟨43, 1, ⟨[(0, 1), (1, 1), (2, 1), (3, 1)], [(.cons (.lp0 42 4 [4, 6, 7] (.cons (.ptr 1 1 0) (.cons (.ptr 2 1 0) (.cons (.ptr 3 1 0) .nil)))) .nil), (.cons (.lf (.sl 9)) .nil), (.cons (.lf .str) .nil), (.cons (.lf .bool) .nil)], [(0, (.yf 0 1)), (3, (.lf (.int .i64)))]⟩, [(.ret, ⟨[(0, 1), (1, 1), (2, 1), (3, 1)], [(.cons (.lp 42 4 [4, 6, 7] (.cons (.ptr 1 1 0) (.cons (.ptr 2 1 0) (.cons (.ptr 3 1 0) .nil)))) .nil), (.cons (.lf (.sl 9)) .nil), (.cons (.lf .str) .nil), (.cons (.lf .bool) .nil)], []⟩), (.exit 0, ⟨[(0, 1), (1, 1), (2, 1), (3, 1)], [(.cons (.lp 42 4 [4, 6, 7] (.cons (.ptr 1 1 0) (.cons (.ptr 2 1 0) (.cons (.ptr 3 1 0) .nil)))) .nil), (.cons (.lf (.sl 9)) .nil), (.cons (.lf .str) .nil), (.cons (.lf .bool) .nil)], []⟩)], fun (v : ((((Unit × Unit × Unit × Unit) × Unit) × (List D × Unit) × (ByteArray × Unit) × (Bool × Unit) × Unit) × (Unit × Int × Unit))) => cond_clients_L1 fu fu v.1.2.1.1 v.1.2.2.1.1 v.1.2.2.2.1.1 v.2.2.1⟩

theorem l_cond_clients_L1_ok (fu : Nat) : (l_cond_clients_L1 fu).ok E0 := LE.rule (f := 43) (id := 1) (inn := ⟨[(0, 1), (1, 1), (2, 1), (3, 1)], [(.cons (.lp0 42 4 [4, 6, 7] (.cons (.ptr 1 1 0) (.cons (.ptr 2 1 0) (.cons (.ptr 3 1 0) .nil)))) .nil), (.cons (.lf (.sl 9)) .nil), (.cons (.lf .str) .nil), (.cons (.lf .bool) .nil)], [(0, (.yf 0 1)), (3, (.lf (.int .i64)))]⟩) (outs := [(.ret, ⟨[(0, 1), (1, 1), (2, 1), (3, 1)], [(.cons (.lp 42 4 [4, 6, 7] (.cons (.ptr 1 1 0) (.cons (.ptr 2 1 0) (.cons (.ptr 3 1 0) .nil)))) .nil), (.cons (.lf (.sl 9)) .nil), (.cons (.lf .str) .nil), (.cons (.lf .bool) .nil)], []⟩), (.exit 0, ⟨[(0, 1), (1, 1), (2, 1), (3, 1)], [(.cons (.lp 42 4 [4, 6, 7] (.cons (.ptr 1 1 0) (.cons (.ptr 2 1 0) (.cons (.ptr 3 1 0) .nil)))) .nil), (.cons (.lf (.sl 9)) .nil), (.cons (.lf .str) .nil), (.cons (.lf .bool) .nil)], []⟩)]) (g := fun n (v : ((((Unit × Unit × Unit × Unit) × Unit) × (List D × Unit) × (ByteArray × Unit) × (Bool × Unit) × Unit) × (Unit × Int × Unit))) => cond_clients_L1 fu n v.1.2.1.1 v.1.2.2.1.1 v.1.2.2.2.1.1 v.2.2.1) (.f (e_cond_outside_string_round4_ok fu) .nil) (by kernel_rfl) (fun v => rfl) (fun n v => by kernel_rfl) fu

noncomputable def cond_clients (fu : Nat) (x0 : List D) (x1 : ByteArray) (x2 : Bool) : Option ((Unit × (((Nat × (Unit × Unit × Unit × Unit)) × Unit) × (List D × Unit) × (ByteArray × Unit) × (Bool × Unit) × Unit))) :=
  ((cond_clients_L1 fu fu x0 x1 x2 (0 : Int)).bind fun (v411 : (((((Nat × (Unit × Unit × Unit × Unit)) × Unit) × (List D × Unit) × (ByteArray × Unit) × (Bool × Unit) × Unit) × Unit) ⊕ ((((Nat × (Unit × Unit × Unit × Unit)) × Unit) × (List D × Unit) × (ByteArray × Unit) × (Bool × Unit) × Unit) × Unit))) =>
   (match v411 with
   | .inl v412 =>
     some ((), (((v412.1.1.1.1, ((), (), (), ())), ()), (v412.1.2.1.1, ()), (v412.1.2.2.1.1, ()), (v412.1.2.2.2.1.1, ()), ()))
   | .inr v413 =>
     some ((), (((v413.1.1.1.1, ((), (), (), ())), ()), (v413.1.2.1.1, ()), (v413.1.2.2.1.1, ()), (v413.1.2.2.2.1.1, ()), ()))))

noncomputable def e_cond_clients (fu : Nat) : FE := ⟨43, (.cons (.yf 0 1) .nil), [(.cons (.lp0 42 4 [4, 6, 7] (.cons (.ptr 1 1 0) (.cons (.ptr 2 1 0) (.cons (.ptr 3 1 0) .nil)))) .nil), (.cons (.lf (.sl 9)) .nil), (.cons (.lf .str) .nil), (.cons (.lf .bool) .nil)], (.tup .nil), [(.cons (.lp 42 4 [4, 6, 7] (.cons (.ptr 1 1 0) (.cons (.ptr 2 1 0) (.cons (.ptr 3 1 0) .nil)))) .nil), (.cons (.lf (.sl 9)) .nil), (.cons (.lf .str) .nil), (.cons (.lf .bool) .nil)], fun (a : (Unit × Unit)) (p : (((Unit × Unit × Unit × Unit) × Unit) × (List D × Unit) × (ByteArray × Unit) × (Bool × Unit) × Unit)) => cond_clients fu p.2.1.1 p.2.2.1.1 p.2.2.2.1.1⟩

theorem e_cond_clients_ok (fu : Nat) : (e_cond_clients fu).ok E0 := FE.rule (.l (l_cond_clients_L1_ok fu) .nil) fun a p => by kernel_rfl

noncomputable def cond_outside_string (fu : Nat) (x0 : List D) (x1 : List D) : Option ((ByteArray × Bool × Unit)) :=
  (bif (decide ((((List.length x0) : Nat) : Int) > (0 : Int))) then
   ((slices_Values_string_string_1 fu x0 x1 (bs []) false).bind fun (v414 : (Unit × (((Nat × (Unit × Unit × Unit × Unit)) × Unit) × (List D × Unit) × (List D × Unit) × (ByteArray × Unit) × (Bool × Unit) × Unit))) =>
    (bif (decide (v414.2.1.1.1 = 0)) then
     some ((bs []), false, ())
    else
     (bif (decide (v414.2.1.1.1 = 2)) then
      some (v414.2.2.2.2.1.1, v414.2.2.2.2.2.1.1, ())
     else
      none)))
  else
   ((cond_clients fu x1 (bs []) false).bind fun (v415 : (Unit × (((Nat × (Unit × Unit × Unit × Unit)) × Unit) × (List D × Unit) × (ByteArray × Unit) × (Bool × Unit) × Unit))) =>
    (bif (decide (v415.2.1.1.1 = 0)) then
     some ((bs []), false, ())
    else
     (bif (decide (v415.2.1.1.1 = 2)) then
      some (v415.2.2.2.1.1, v415.2.2.2.2.1.1, ())
     else
      none))))

noncomputable def e_cond_outside_string (fu : Nat) : FE := ⟨42, (.cons (.lf (.sl 9)) (.cons (.lf (.sl 9)) (.cons (.fn 43 .nil .nil) .nil))), [], (.tup (.cons (.lf .str) (.cons (.lf .bool) .nil))), [], fun (a : (List D × List D × (Unit × Unit) × Unit)) (p : Unit) => cond_outside_string fu a.1 a.2.1⟩

theorem e_cond_outside_string_ok (fu : Nat) : (e_cond_outside_string fu).ok E0 := FE.rule (.f (e_slices_Values_string_string_1_ok fu) (.f (e_cond_clients_ok fu) (.f (e_slices_Values_string_string_ok) (.f (e_cond_allows_string_ok fu) .nil)))) fun a p => by kernel_rfl

noncomputable def cond_countries_L1 (fu : Nat) : Nat → List D → ByteArray → Bool → Int → Option ((((((Nat × (Unit × Unit × Unit × Unit)) × Unit) × (List D × Unit) × (ByteArray × Unit) × (Bool × Unit) × Unit) × Unit) ⊕ ((((Nat × (Unit × Unit × Unit × Unit)) × Unit) × (List D × Unit) × (ByteArray × Unit) × (Bool × Unit) × Unit) × Unit)))
  | 0, _, _, _, _ => none
  | n + 1, x0, x1, x2, x3 =>
    (bif (decide (x3 < (676 : Int))) then
     (((Go.Eng.bytesOf [(D.v (.int .u8 (Go.IntKind.wrap .u8 (w64 ((97 : Int) + (w64 (Int.tdiv x3 (26 : Int)))))))), (D.v (.int .u8 (Go.IntKind.wrap .u8 (w64 ((97 : Int) + (Int.tmod x3 (26 : Int)))))))])).bind fun (v424 : (List UInt8)) =>
      ((cond_outside_string_round4 fu (ByteArray.mk (Array.mk v424)) x0 x1 x2).bind fun (v425 : (Bool × (((Nat × (Unit × Unit × Unit × Unit)) × Unit) × (List D × Unit) × (ByteArray × Unit) × (Bool × Unit) × Unit))) =>
       (bif v425.1 then
        (if (v425.2.1.1.1 = 0) then
         cond_countries_L1 fu n v425.2.2.1.1 v425.2.2.2.1.1 v425.2.2.2.2.1.1 (w64 (x3 + (1 : Int)))
        else
         none)
       else
        some (.inl (((((v425.2.1.1.1, ((), (), (), ())), ()), (v425.2.2.1.1, ()), (v425.2.2.2.1.1, ()), (v425.2.2.2.2.1.1, ()), ()), ()))))))
    else
     some (.inr (((((0, ((), (), (), ())), ()), (x0, ()), (x1, ()), (x2, ()), ()), ()))))

noncomputable def l_cond_countries_L1 (fu : Nat) : LE := ⟨44, 1, ⟨[(0, 1), (1, 1), (2, 1), (3, 1)], [(.cons (.lp0 42 4 [4, 6, 7] (.cons (.ptr 1 1 0) (.cons (.ptr 2 1 0) (.cons (.ptr 3 1 0) .nil)))) .nil), (.cons (.lf (.sl 9)) .nil), (.cons (.lf .str) .nil), (.cons (.lf .bool) .nil)], [(0, (.yf 0 1)), (3, (.lf (.int .i64)))]⟩, [(.ret, ⟨[(0, 1), (1, 1), (2, 1), (3, 1)], [(.cons (.lp 42 4 [4, 6, 7] (.cons (.ptr 1 1 0) (.cons (.ptr 2 1 0) (.cons (.ptr 3 1 0) .nil)))) .nil), (.cons (.lf (.sl 9)) .nil), (.cons (.lf .str) .nil), (.cons (.lf .bool) .nil)], []⟩), (.exit 0, ⟨[(0, 1), (1, 1), (2, 1), (3, 1)], [(.cons (.lp 42 4 [4, 6, 7] (.cons (.ptr 1 1 0) (.cons (.ptr 2 1 0) (.cons (.ptr 3 1 0) .nil)))) .nil), (.cons (.lf (.sl 9)) .nil), (.cons (.lf .str) .nil), (.cons (.lf .bool) .nil)], []⟩)], fun (v : ((((Unit × Unit × Unit × Unit) × Unit) × (List D × Unit) × (ByteArray × Unit) × (Bool × Unit) × Unit) × (Unit × Int × Unit))) => cond_countries_L1 fu fu v.1.2.1.1 v.1.2.2.1.1 v.1.2.2.2.1.1 v.2.2.1⟩

theorem l_cond_countries_L1_ok (fu : Nat) : (l_cond_countries_L1 fu).ok E0 := LE.rule (f := 44) (id := 1) (inn := ⟨[(0, 1), (1, 1), (2, 1), (3, 1)], [(.cons (.lp0 42 4 [4, 6, 7] (.cons (.ptr 1 1 0) (.cons (.ptr 2 1 0) (.cons (.ptr 3 1 0) .nil)))) .nil), (.cons (.lf (.sl 9)) .nil), (.cons (.lf .str) .nil), (.cons (.lf .bool) .nil)], [(0, (.yf 0 1)), (3, (.lf (.int .i64)))]⟩) (outs := [(.ret, ⟨[(0, 1), (1, 1), (2, 1), (3, 1)], [(.cons (.lp 42 4 [4, 6, 7] (.cons (.ptr 1 1 0) (.cons (.ptr 2 1 0) (.cons (.ptr 3 1 0) .nil)))) .nil), (.cons (.lf (.sl 9)) .nil), (.cons (.lf .str) .nil), (.cons (.lf .bool) .nil)], []⟩), (.exit 0, ⟨[(0, 1), (1, 1), (2, 1), (3, 1)], [(.cons (.lp 42 4 [4, 6, 7] (.cons (.ptr 1 1 0) (.cons (.ptr 2 1 0) (.cons (.ptr 3 1 0) .nil)))) .nil), (.cons (.lf (.sl 9)) .nil), (.cons (.lf .str) .nil), (.cons (.lf .bool) .nil)], []⟩)]) (g := fun n (v : ((((Unit × Unit × Unit × Unit) × Unit) × (List D × Unit) × (ByteArray × Unit) × (Bool × Unit) × Unit) × (Unit × Int × Unit))) => cond_countries_L1 fu n v.1.2.1.1 v.1.2.2.1.1 v.1.2.2.2.1.1 v.2.2.1) (.f (e_cond_outside_string_round4_ok fu) .nil) (by kernel_rfl) (fun v => rfl) (fun n v => by kernel_rfl) fu

noncomputable def cond_countries (fu : Nat) (x0 : List D) (x1 : ByteArray) (x2 : Bool) : Option ((Unit × (((Nat × (Unit × Unit × Unit × Unit)) × Unit) × (List D × Unit) × (ByteArray × Unit) × (Bool × Unit) × Unit))) :=
  ((cond_countries_L1 fu fu x0 x1 x2 (0 : Int)).bind fun (v426 : (((((Nat × (Unit × Unit × Unit × Unit)) × Unit) × (List D × Unit) × (ByteArray × Unit) × (Bool × Unit) × Unit) × Unit) ⊕ ((((Nat × (Unit × Unit × Unit × Unit)) × Unit) × (List D × Unit) × (ByteArray × Unit) × (Bool × Unit) × Unit) × Unit))) =>
   (match v426 with
   | .inl v427 =>
     some ((), (((v427.1.1.1.1, ((), (), (), ())), ()), (v427.1.2.1.1, ()), (v427.1.2.2.1.1, ()), (v427.1.2.2.2.1.1, ()), ()))
   | .inr v428 =>
     some ((), (((v428.1.1.1.1, ((), (), (), ())), ()), (v428.1.2.1.1, ()), (v428.1.2.2.1.1, ()), (v428.1.2.2.2.1.1, ()), ()))))

noncomputable def e_cond_countries (fu : Nat) : FE := ⟨44, (.cons (.yf 0 1) .nil), [(.cons (.lp0 42 4 [4, 6, 7] (.cons (.ptr 1 1 0) (.cons (.ptr 2 1 0) (.cons (.ptr 3 1 0) .nil)))) .nil), (.cons (.lf (.sl 9)) .nil), (.cons (.lf .str) .nil), (.cons (.lf .bool) .nil)], (.tup .nil), [(.cons (.lp 42 4 [4, 6, 7] (.cons (.ptr 1 1 0) (.cons (.ptr 2 1 0) (.cons (.ptr 3 1 0) .nil)))) .nil), (.cons (.lf (.sl 9)) .nil), (.cons (.lf .str) .nil), (.cons (.lf .bool) .nil)], fun (a : (Unit × Unit)) (p : (((Unit × Unit × Unit × Unit) × Unit) × (List D × Unit) × (ByteArray × Unit) × (Bool × Unit) × Unit)) => cond_countries fu p.2.1.1 p.2.2.1.1 p.2.2.2.1.1⟩

theorem e_cond_countries_ok (fu : Nat) : (e_cond_countries fu).ok E0 := FE.rule (.l (l_cond_countries_L1_ok fu) .nil) fun a p => by kernel_rfl

noncomputable def cond_outside_string_71 (fu : Nat) (x0 : List D) (x1 : List D) : Option ((ByteArray × Bool × Unit)) :=
  (bif (decide ((((List.length x0) : Nat) : Int) > (0 : Int))) then
   ((slices_Values_string_string_1 fu x0 x1 (bs []) false).bind fun (v429 : (Unit × (((Nat × (Unit × Unit × Unit × Unit)) × Unit) × (List D × Unit) × (List D × Unit) × (ByteArray × Unit) × (Bool × Unit) × Unit))) =>
    (bif (decide (v429.2.1.1.1 = 0)) then
     some ((bs []), false, ())
    else
     (bif (decide (v429.2.1.1.1 = 2)) then
      some (v429.2.2.2.2.1.1, v429.2.2.2.2.2.1.1, ())
     else
      none)))
  else
   ((cond_countries fu x1 (bs []) false).bind fun (v430 : (Unit × (((Nat × (Unit × Unit × Unit × Unit)) × Unit) × (List D × Unit) × (ByteArray × Unit) × (Bool × Unit) × Unit))) =>
    (bif (decide (v430.2.1.1.1 = 0)) then
     some ((bs []), false, ())
    else
     (bif (decide (v430.2.1.1.1 = 2)) then
      some (v430.2.2.2.1.1, v430.2.2.2.2.1.1, ())
     else
      none))))

noncomputable def e_cond_outside_string_71 (fu : Nat) : FE := ⟨42, (.cons (.lf (.sl 9)) (.cons (.lf (.sl 9)) (.cons (.fn 44 .nil .nil) .nil))), [], (.tup (.cons (.lf .str) (.cons (.lf .bool) .nil))), [], fun (a : (List D × List D × (Unit × Unit) × Unit)) (p : Unit) => cond_outside_string_71 fu a.1 a.2.1⟩

theorem e_cond_outside_string_71_ok (fu : Nat) : (e_cond_outside_string_71 fu).ok E0 := FE.rule (.f (e_slices_Values_string_string_1_ok fu) (.f (e_cond_countries_ok fu) (.f (e_slices_Values_string_string_ok) (.f (e_cond_allows_string_ok fu) .nil)))) fun a p => by kernel_rfl

noncomputable def slices_Values_int_int (x0 : List D) : Option ((Unit × ((List D × Unit) × Unit))) :=
  some ((), ((x0, ()), ()))

noncomputable def e_slices_Values_int_int : FE := ⟨103, (.cons (.lf (.sl 3)) .nil), [], (.fn 136 .nil (.cons (.bx [(.sl 3)]) .nil)), [], fun (a : (List D × Unit)) (p : Unit) => slices_Values_int_int a.1⟩

theorem e_slices_Values_int_int_ok : (e_slices_Values_int_int).ok E0 := FE.rule .nil fun a p => by kernel_rfl

noncomputable def slices_Index_int_int_L2 (fu : Nat) : Nat → List D → Int → Int → Int → Option (((Unit × (Int × Unit)) ⊕ (Unit × Unit)))
  | 0, _, _, _, _ => none
  | n + 1, x0, x1, x2, x3 =>
    (bif (decide (x3 < x2)) then
     ((nat? x3).bind fun (v441 : Nat) =>
      (if (v441 < (List.length x0)) then
       ((rdI .i64 x0 v441).bind fun (v442 : Int) =>
        (bif (x1 == v442) then
         some (.inl (((), (x3, ()))))
        else
         slices_Index_int_int_L2 fu n x0 x1 x2 (w64 (x3 + (1 : Int)))))
      else
       none))
    else
     some (.inr (((), ()))))

noncomputable def l_slices_Index_int_int_L2 (fu : Nat) : LE := ⟨163, 2, ⟨[], [], [(0, (.lf (.sl 3))), (1, (.lf (.int .i64))), (7, (.lf (.int .i64))), (8, (.lf (.int .i64)))]⟩, [(.ret, ⟨[], [], [(4, (.lf (.int .i64)))]⟩), (.exit 0, ⟨[], [], []⟩)], fun (v : (Unit × (List D × Int × Int × Int × Unit))) => slices_Index_int_int_L2 fu fu v.2.1 v.2.2.1 v.2.2.2.1 v.2.2.2.2.1⟩

theorem l_slices_Index_int_int_L2_ok (fu : Nat) : (l_slices_Index_int_int_L2 fu).ok E0 := LE.rule (f := 163) (id := 2) (inn := ⟨[], [], [(0, (.lf (.sl 3))), (1, (.lf (.int .i64))), (7, (.lf (.int .i64))), (8, (.lf (.int .i64)))]⟩) (outs := [(.ret, ⟨[], [], [(4, (.lf (.int .i64)))]⟩), (.exit 0, ⟨[], [], []⟩)]) (g := fun n (v : (Unit × (List D × Int × Int × Int × Unit))) => slices_Index_int_int_L2 fu n v.2.1 v.2.2.1 v.2.2.2.1 v.2.2.2.2.1) .nil (by kernel_rfl) (fun v => rfl) (fun n v => by kernel_rfl) fu

noncomputable def slices_Index_int_int (fu : Nat) (x0 : List D) (x1 : Int) : Option (Int) :=
  ((slices_Index_int_int_L2 fu fu x0 x1 (((List.length x0) : Nat) : Int) (0 : Int)).bind fun (v443 : ((Unit × (Int × Unit)) ⊕ (Unit × Unit))) =>
   (match v443 with
   | .inl v444 =>
     some v444.2.1
   | .inr v445 =>
     some (-1 : Int)))

noncomputable def e_slices_Index_int_int (fu : Nat) : FE := ⟨163, (.cons (.lf (.sl 3)) (.cons (.lf (.int .i64)) .nil)), [], (.lf (.int .i64)), [], fun (a : (List D × Int × Unit)) (p : Unit) => slices_Index_int_int fu a.1 a.2.1⟩

theorem e_slices_Index_int_int_ok (fu : Nat) : (e_slices_Index_int_int fu).ok E0 := FE.rule (.l (l_slices_Index_int_int_L2_ok fu) .nil) fun a p => by kernel_rfl

noncomputable def slices_Contains_int_int (fu : Nat) (x0 : List D) (x1 : Int) : Option (Bool) :=
  ((slices_Index_int_int fu x0 x1).bind fun (v446 : Int) =>
   some (decide (v446 ≥ (0 : Int))))

noncomputable def e_slices_Contains_int_int (fu : Nat) : FE := ⟨124, (.cons (.lf (.sl 3)) (.cons (.lf (.int .i64)) .nil)), [], (.lf .bool), [], fun (a : (List D × Int × Unit)) (p : Unit) => slices_Contains_int_int fu a.1 a.2.1⟩

theorem e_slices_Contains_int_int_ok (fu : Nat) : (e_slices_Contains_int_int fu).ok E0 := FE.rule (.f (e_slices_Index_int_int_ok fu) .nil) fun a p => by kernel_rfl

noncomputable def cond_allows_int (fu : Nat) (x0 : List D) (x1 : Int) : Option (Bool) :=
  (bif ((((List.length x0) : Nat) : Int) == (0 : Int)) then
   some true
  else
   ((slices_Contains_int_int fu x0 x1).bind fun (v447 : Bool) =>
    some v447))

noncomputable def e_cond_allows_int (fu : Nat) : FE := ⟨83, (.cons (.lf (.sl 3)) (.cons (.lf (.int .i64)) .nil)), [], (.lf .bool), [], fun (a : (List D × Int × Unit)) (p : Unit) => cond_allows_int fu a.1 a.2.1⟩

theorem e_cond_allows_int_ok (fu : Nat) : (e_cond_allows_int fu).ok E0 := FE.rule (.f (e_slices_Contains_int_int_ok fu) .nil) fun a p => by kernel_rfl

noncomputable def cond_outside_int_round4 (fu : Nat) (x0 : Int) (x1 : List D) (x2 : Int) (x3 : Bool) : Option ((Bool × (((Nat × (Unit × Unit × Unit × Unit)) × Unit) × (List D × Unit) × (Int × Unit) × (Bool × Unit) × Unit))) :=
  ((cond_allows_int fu x1 x0).bind fun (v448 : Bool) =>
   (bif (!v448) then
    some ((2 == 0), (((2, ((), (), (), ())), ()), (x1, ()), (x0, ()), (true, ()), ()))
   else
    some ((0 == 0), (((0, ((), (), (), ())), ()), (x1, ()), (x2, ()), (x3, ()), ()))))

noncomputable def e_cond_outside_int_round4 (fu : Nat) : FE := ⟨1000000007, (.cons (.lf (.int .i64)) (.cons (.yf 0 1) .nil)), [(.cons (.lp0 45 4 [4, 6, 7] (.cons (.ptr 1 1 0) (.cons (.ptr 2 1 0) (.cons (.ptr 3 1 0) .nil)))) .nil), (.cons (.lf (.sl 3)) .nil), (.cons (.lf (.int .i64)) .nil), (.cons (.lf .bool) .nil)], (.lf .bool), [(.cons (.lp 45 4 [4, 6, 7] (.cons (.ptr 1 1 0) (.cons (.ptr 2 1 0) (.cons (.ptr 3 1 0) .nil)))) .nil), (.cons (.lf (.sl 3)) .nil), (.cons (.lf (.int .i64)) .nil), (.cons (.lf .bool) .nil)], fun (a : (Int × Unit × Unit)) (p : (((Unit × Unit × Unit × Unit) × Unit) × (List D × Unit) × (Int × Unit) × (Bool × Unit) × Unit)) => cond_outside_int_round4 fu a.1 p.2.1.1 p.2.2.1.1 p.2.2.2.1.1⟩

theorem e_cond_outside_int_round4_ok (fu : Nat) : (e_cond_outside_int_round4 fu).ok E0 := FE.rule (.f (e_cond_allows_int_ok fu) (.f (e_slices_Values_int_int_ok) .nil)) fun a p => by kernel_rfl

noncomputable def slices_Values_int_int_1_L1 (fu : Nat) : Nat → List D → List D → Int → Bool → List D → Int → Int → Option ((((((Nat × (Unit × Unit × Unit × Unit)) × Unit) × (List D × Unit) × (List D × Unit) × (Int × Unit) × (Bool × Unit) × Unit) × Unit) ⊕ ((((Nat × (Unit × Unit × Unit × Unit)) × Unit) × (List D × Unit) × (List D × Unit) × (Int × Unit) × (Bool × Unit) × Unit) × Unit)))
  | 0, _, _, _, _, _, _, _ => none
  | n + 1, x0, x1, x2, x3, x4, x5, x6 =>
    (bif (decide (x6 < x5)) then
     ((nat? x6).bind fun (v449 : Nat) =>
      (if (v449 < (List.length x4)) then
       ((rdI .i64 x4 v449).bind fun (v450 : Int) =>
        ((cond_outside_int_round4 fu v450 x1 x2 x3).bind fun (v451 : (Bool × (((Nat × (Unit × Unit × Unit × Unit)) × Unit) × (List D × Unit) × (Int × Unit) × (Bool × Unit) × Unit))) =>
         (bif v451.1 then
          (if (v451.2.1.1.1 = 0) then
           slices_Values_int_int_1_L1 fu n x0 v451.2.2.1.1 v451.2.2.2.1.1 v451.2.2.2.2.1.1 x4 x5 (w64 (x6 + (1 : Int)))
          else
           none)
         else
          some (.inl (((((v451.2.1.1.1, ((), (), (), ())), ()), (x0, ()), (v451.2.2.1.1, ()), (v451.2.2.2.1.1, ()), (v451.2.2.2.2.1.1, ()), ()), ()))))))
      else
       none))
    else
     some (.inr (((((0, ((), (), (), ())), ()), (x0, ()), (x1, ()), (x2, ()), (x3, ()), ()), ()))))

noncomputable def l_slices_Values_int_int_1_L1 (fu : Nat) : LE := ⟨136, 1, ⟨[(0, 1), (1, 1), (2, 1), (3, 1), (4, 1)], [(.cons (.lp0 45 4 [4, 6, 7] (.cons (.ptr 2 1 0) (.cons (.ptr 3 1 0) (.cons (.ptr 4 1 0) .nil)))) .nil), (.cons (.lf (.sl 3)) .nil), (.cons (.lf (.sl 3)) .nil), (.cons (.lf (.int .i64)) .nil), (.cons (.lf .bool) .nil)], [(0, (.yf 0 1)), (5, (.lf (.sl 3))), (6, (.lf (.int .i64))), (7, (.lf (.int .i64)))]⟩, [(.ret, ⟨[(0, 1), (1, 1), (2, 1), (3, 1), (4, 1)], [(.cons (.lp 45 4 [4, 6, 7] (.cons (.ptr 2 1 0) (.cons (.ptr 3 1 0) (.cons (.ptr 4 1 0) .nil)))) .nil), (.cons (.lf (.sl 3)) .nil), (.cons (.lf (.sl 3)) .nil), (.cons (.lf (.int .i64)) .nil), (.cons (.lf .bool) .nil)], []⟩), (.exit 0, ⟨[(0, 1), (1, 1), (2, 1), (3, 1), (4, 1)], [(.cons (.lp 45 4 [4, 6, 7] (.cons (.ptr 2 1 0) (.cons (.ptr 3 1 0) (.cons (.ptr 4 1 0) .nil)))) .nil), (.cons (.lf (.sl 3)) .nil), (.cons (.lf (.sl 3)) .nil), (.cons (.lf (.int .i64)) .nil), (.cons (.lf .bool) .nil)], []⟩)], fun (v : ((((Unit × Unit × Unit × Unit) × Unit) × (List D × Unit) × (List D × Unit) × (Int × Unit) × (Bool × Unit) × Unit) × (Unit × List D × Int × Int × Unit))) => slices_Values_int_int_1_L1 fu fu v.1.2.1.1 v.1.2.2.1.1 v.1.2.2.2.1.1 v.1.2.2.2.2.1.1 v.2.2.1 v.2.2.2.1 v.2.2.2.2.1⟩

theorem l_slices_Values_int_int_1_L1_ok (fu : Nat) : (l_slices_Values_int_int_1_L1 fu).ok E0 := LE.rule (f := 136) (id := 1) (inn := ⟨[(0, 1), (1, 1), (2, 1), (3, 1), (4, 1)], [(.cons (.lp0 45 4 [4, 6, 7] (.cons (.ptr 2 1 0) (.cons (.ptr 3 1 0) (.cons (.ptr 4 1 0) .nil)))) .nil), (.cons (.lf (.sl 3)) .nil), (.cons (.lf (.sl 3)) .nil), (.cons (.lf (.int .i64)) .nil), (.cons (.lf .bool) .nil)], [(0, (.yf 0 1)), (5, (.lf (.sl 3))), (6, (.lf (.int .i64))), (7, (.lf (.int .i64)))]⟩) (outs := [(.ret, ⟨[(0, 1), (1, 1), (2, 1), (3, 1), (4, 1)], [(.cons (.lp 45 4 [4, 6, 7] (.cons (.ptr 2 1 0) (.cons (.ptr 3 1 0) (.cons (.ptr 4 1 0) .nil)))) .nil), (.cons (.lf (.sl 3)) .nil), (.cons (.lf (.sl 3)) .nil), (.cons (.lf (.int .i64)) .nil), (.cons (.lf .bool) .nil)], []⟩), (.exit 0, ⟨[(0, 1), (1, 1), (2, 1), (3, 1), (4, 1)], [(.cons (.lp 45 4 [4, 6, 7] (.cons (.ptr 2 1 0) (.cons (.ptr 3 1 0) (.cons (.ptr 4 1 0) .nil)))) .nil), (.cons (.lf (.sl 3)) .nil), (.cons (.lf (.sl 3)) .nil), (.cons (.lf (.int .i64)) .nil), (.cons (.lf .bool) .nil)], []⟩)]) (g := fun n (v : ((((Unit × Unit × Unit × Unit) × Unit) × (List D × Unit) × (List D × Unit) × (Int × Unit) × (Bool × Unit) × Unit) × (Unit × List D × Int × Int × Unit))) => slices_Values_int_int_1_L1 fu n v.1.2.1.1 v.1.2.2.1.1 v.1.2.2.2.1.1 v.1.2.2.2.2.1.1 v.2.2.1 v.2.2.2.1 v.2.2.2.2.1) (.f (e_cond_outside_int_round4_ok fu) .nil) (by kernel_rfl) (fun v => rfl) (fun n v => by kernel_rfl) fu

noncomputable def slices_Values_int_int_1 (fu : Nat) (x0 : List D) (x1 : List D) (x2 : Int) (x3 : Bool) : Option ((Unit × (((Nat × (Unit × Unit × Unit × Unit)) × Unit) × (List D × Unit) × (List D × Unit) × (Int × Unit) × (Bool × Unit) × Unit))) :=
  ((slices_Values_int_int_1_L1 fu fu x0 x1 x2 x3 x0 (((List.length x0) : Nat) : Int) (0 : Int)).bind fun (v452 : (((((Nat × (Unit × Unit × Unit × Unit)) × Unit) × (List D × Unit) × (List D × Unit) × (Int × Unit) × (Bool × Unit) × Unit) × Unit) ⊕ ((((Nat × (Unit × Unit × Unit × Unit)) × Unit) × (List D × Unit) × (List D × Unit) × (Int × Unit) × (Bool × Unit) × Unit) × Unit))) =>
   (match v452 with
   | .inl v453 =>
     some ((), (((v453.1.1.1.1, ((), (), (), ())), ()), (v453.1.2.1.1, ()), (v453.1.2.2.1.1, ()), (v453.1.2.2.2.1.1, ()), (v453.1.2.2.2.2.1.1, ()), ()))
   | .inr v454 =>
     some ((), (((v454.1.1.1.1, ((), (), (), ())), ()), (v454.1.2.1.1, ()), (v454.1.2.2.1.1, ()), (v454.1.2.2.2.1.1, ()), (v454.1.2.2.2.2.1.1, ()), ()))))

noncomputable def e_slices_Values_int_int_1 (fu : Nat) : FE := ⟨136, (.cons (.yf 0 1) (.cons (.ptr 1 1 0) .nil)), [(.cons (.lp0 45 4 [4, 6, 7] (.cons (.ptr 2 1 0) (.cons (.ptr 3 1 0) (.cons (.ptr 4 1 0) .nil)))) .nil), (.cons (.lf (.sl 3)) .nil), (.cons (.lf (.sl 3)) .nil), (.cons (.lf (.int .i64)) .nil), (.cons (.lf .bool) .nil)], (.tup .nil), [(.cons (.lp 45 4 [4, 6, 7] (.cons (.ptr 2 1 0) (.cons (.ptr 3 1 0) (.cons (.ptr 4 1 0) .nil)))) .nil), (.cons (.lf (.sl 3)) .nil), (.cons (.lf (.sl 3)) .nil), (.cons (.lf (.int .i64)) .nil), (.cons (.lf .bool) .nil)], fun (a : (Unit × Unit × Unit)) (p : (((Unit × Unit × Unit × Unit) × Unit) × (List D × Unit) × (List D × Unit) × (Int × Unit) × (Bool × Unit) × Unit)) => slices_Values_int_int_1 fu p.2.1.1 p.2.2.1.1 p.2.2.2.1.1 p.2.2.2.2.1.1⟩

theorem e_slices_Values_int_int_1_ok (fu : Nat) : (e_slices_Values_int_int_1 fu).ok E0 := FE.rule (.l (l_slices_Values_int_int_1_L1_ok fu) .nil) fun a p => by kernel_rfl

noncomputable def cond_sites_L1 (fu : Nat) : Nat → List D → Int → Bool → Int → Option ((((((Nat × (Unit × Unit × Unit × Unit)) × Unit) × (List D × Unit) × (Int × Unit) × (Bool × Unit) × Unit) × Unit) ⊕ ((((Nat × (Unit × Unit × Unit × Unit)) × Unit) × (List D × Unit) × (Int × Unit) × (Bool × Unit) × Unit) × Unit)))
  | 0, _, _, _, _ => none
  | n + 1, x0, x1, x2, x3 =>
    (bif (decide (x3 < (64 : Int))) then
     ((cond_outside_int_round4 fu x3 x0 x1 x2).bind fun (v456 : (Bool × (((Nat × (Unit × Unit × Unit × Unit)) × Unit) × (List D × Unit) × (Int × Unit) × (Bool × Unit) × Unit))) =>
      (bif v456.1 then
       (if (v456.2.1.1.1 = 0) then
        cond_sites_L1 fu n v456.2.2.1.1 v456.2.2.2.1.1 v456.2.2.2.2.1.1 (w64 (x3 + (1 : Int)))
       else
        none)
      else
       some (.inl (((((v456.2.1.1.1, ((), (), (), ())), ()), (v456.2.2.1.1, ()), (v456.2.2.2.1.1, ()), (v456.2.2.2.2.1.1, ()), ()), ())))))
    else
     some (.inr (((((0, ((), (), (), ())), ()), (x0, ()), (x1, ()), (x2, ()), ()), ()))))

noncomputable def l_cond_sites_L1 (fu : Nat) : LE := ⟨46, 1, ⟨[(0, 1), (1, 1), (2, 1), (3, 1)], [(.cons (.lp0 45 4 [4, 6, 7] (.cons (.ptr 1 1 0) (.cons (.ptr 2 1 0) (.cons (.ptr 3 1 0) .nil)))) .nil), (.cons (.lf (.sl 3)) .nil), (.cons (.lf (.int .i64)) .nil), (.cons (.lf .bool) .nil)], [(0, (.yf 0 1)), (3, (.lf (.int .i64)))]⟩, [(.ret, ⟨[(0, 1), (1, 1), (2, 1), (3, 1)], [(.cons (.lp 45 4 [4, 6, 7] (.cons (.ptr 1 1 0) (.cons (.ptr 2 1 0) (.cons (.ptr 3 1 0) .nil)))) .nil), (.cons (.lf (.sl 3)) .nil), (.cons (.lf (.int .i64)) .nil), (.cons (.lf .bool) .nil)], []⟩), (.exit 0, ⟨[(0, 1), (1, 1), (2, 1), (3, 1)], [(.cons (.lp 45 4 [4, 6, 7] (.cons (.ptr 1 1 0) (.cons (.ptr 2 1 0) (.cons (.ptr 3 1 0) .nil)))) .nil), (.cons (.lf (.sl 3)) .nil), (.cons (.lf (.int .i64)) .nil), (.cons (.lf .bool) .nil)], []⟩)], fun (v : ((((Unit × Unit × Unit × Unit) × Unit) × (List D × Unit) × (Int × Unit) × (Bool × Unit) × Unit) × (Unit × Int × Unit))) => cond_sites_L1 fu fu v.1.2.1.1 v.1.2.2.1.1 v.1.2.2.2.1.1 v.2.2.1⟩

theorem l_cond_sites_L1_ok (fu : Nat) : (l_cond_sites_L1 fu).ok E0 := LE.rule (f := 46) (id := 1) (inn := ⟨[(0, 1), (1, 1), (2, 1), (3, 1)], [(.cons (.lp0 45 4 [4, 6, 7] (.cons (.ptr 1 1 0) (.cons (.ptr 2 1 0) (.cons (.ptr 3 1 0) .nil)))) .nil), (.cons (.lf (.sl 3)) .nil), (.cons (.lf (.int .i64)) .nil), (.cons (.lf .bool) .nil)], [(0, (.yf 0 1)), (3, (.lf (.int .i64)))]⟩) (outs := [(.ret, ⟨[(0, 1), (1, 1), (2, 1), (3, 1)], [(.cons (.lp 45 4 [4, 6, 7] (.cons (.ptr 1 1 0) (.cons (.ptr 2 1 0) (.cons (.ptr 3 1 0) .nil)))) .nil), (.cons (.lf (.sl 3)) .nil), (.cons (.lf (.int .i64)) .nil), (.cons (.lf .bool) .nil)], []⟩), (.exit 0, ⟨[(0, 1), (1, 1), (2, 1), (3, 1)], [(.cons (.lp 45 4 [4, 6, 7] (.cons (.ptr 1 1 0) (.cons (.ptr 2 1 0) (.cons (.ptr 3 1 0) .nil)))) .nil), (.cons (.lf (.sl 3)) .nil), (.cons (.lf (.int .i64)) .nil), (.cons (.lf .bool) .nil)], []⟩)]) (g := fun n (v : ((((Unit × Unit × Unit × Unit) × Unit) × (List D × Unit) × (Int × Unit) × (Bool × Unit) × Unit) × (Unit × Int × Unit))) => cond_sites_L1 fu n v.1.2.1.1 v.1.2.2.1.1 v.1.2.2.2.1.1 v.2.2.1) (.f (e_cond_outside_int_round4_ok fu) .nil) (by kernel_rfl) (fun v => rfl) (fun n v => by kernel_rfl) fu

noncomputable def cond_sites (fu : Nat) (x0 : List D) (x1 : Int) (x2 : Bool) : Option ((Unit × (((Nat × (Unit × Unit × Unit × Unit)) × Unit) × (List D × Unit) × (Int × Unit) × (Bool × Unit) × Unit))) :=
  ((cond_sites_L1 fu fu x0 x1 x2 (0 : Int)).bind fun (v457 : (((((Nat × (Unit × Unit × Unit × Unit)) × Unit) × (List D × Unit) × (Int × Unit) × (Bool × Unit) × Unit) × Unit) ⊕ ((((Nat × (Unit × Unit × Unit × Unit)) × Unit) × (List D × Unit) × (Int × Unit) × (Bool × Unit) × Unit) × Unit))) =>
   (match v457 with
   | .inl v458 =>
     some ((), (((v458.1.1.1.1, ((), (), (), ())), ()), (v458.1.2.1.1, ()), (v458.1.2.2.1.1, ()), (v458.1.2.2.2.1.1, ()), ()))
   | .inr v459 =>
     some ((), (((v459.1.1.1.1, ((), (), (), ())), ()), (v459.1.2.1.1, ()), (v459.1.2.2.1.1, ()), (v459.1.2.2.2.1.1, ()), ()))))

noncomputable def e_cond_sites (fu : Nat) : FE := ⟨46, (.cons (.yf 0 1) .nil), [(.cons (.lp0 45 4 [4, 6, 7] (.cons (.ptr 1 1 0) (.cons (.ptr 2 1 0) (.cons (.ptr 3 1 0) .nil)))) .nil), (.cons (.lf (.sl 3)) .nil), (.cons (.lf (.int .i64)) .nil), (.cons (.lf .bool) .nil)], (.tup .nil), [(.cons (.lp 45 4 [4, 6, 7] (.cons (.ptr 1 1 0) (.cons (.ptr 2 1 0) (.cons (.ptr 3 1 0) .nil)))) .nil), (.cons (.lf (.sl 3)) .nil), (.cons (.lf (.int .i64)) .nil), (.cons (.lf .bool) .nil)], fun (a : (Unit × Unit)) (p : (((Unit × Unit × Unit × Unit) × Unit) × (List D × Unit) × (Int × Unit) × (Bool × Unit) × Unit)) => cond_sites fu p.2.1.1 p.2.2.1.1 p.2.2.2.1.1⟩

theorem e_cond_sites_ok (fu : Nat) : (e_cond_sites fu).ok E0 := FE.rule (.l (l_cond_sites_L1_ok fu) .nil) fun a p => by kernel_rfl

noncomputable def cond_outside_int (fu : Nat) (x0 : List D) (x1 : List D) : Option ((Int × Bool × Unit)) :=
  (bif (decide ((((List.length x0) : Nat) : Int) > (0 : Int))) then
   ((slices_Values_int_int_1 fu x0 x1 (0 : Int) false).bind fun (v460 : (Unit × (((Nat × (Unit × Unit × Unit × Unit)) × Unit) × (List D × Unit) × (List D × Unit) × (Int × Unit) × (Bool × Unit) × Unit))) =>
    (bif (decide (v460.2.1.1.1 = 0)) then
     some ((0 : Int), false, ())
    else
     (bif (decide (v460.2.1.1.1 = 2)) then
      some (v460.2.2.2.2.1.1, v460.2.2.2.2.2.1.1, ())
     else
      none)))
  else
   ((cond_sites fu x1 (0 : Int) false).bind fun (v461 : (Unit × (((Nat × (Unit × Unit × Unit × Unit)) × Unit) × (List D × Unit) × (Int × Unit) × (Bool × Unit) × Unit))) =>
    (bif (decide (v461.2.1.1.1 = 0)) then
     some ((0 : Int), false, ())
    else
     (bif (decide (v461.2.1.1.1 = 2)) then
      some (v461.2.2.2.1.1, v461.2.2.2.2.1.1, ())
     else
      none))))

noncomputable def e_cond_outside_int (fu : Nat) : FE := ⟨45, (.cons (.lf (.sl 3)) (.cons (.lf (.sl 3)) (.cons (.fn 46 .nil .nil) .nil))), [], (.tup (.cons (.lf (.int .i64)) (.cons (.lf .bool) .nil))), [], fun (a : (List D × List D × (Unit × Unit) × Unit)) (p : Unit) => cond_outside_int fu a.1 a.2.1⟩

theorem e_cond_outside_int_ok (fu : Nat) : (e_cond_outside_int fu).ok E0 := FE.rule (.f (e_slices_Values_int_int_1_ok fu) (.f (e_cond_sites_ok fu) (.f (e_slices_Values_int_int_ok) (.f (e_cond_allows_int_ok fu) .nil)))) fun a p => by kernel_rfl

noncomputable def cond_Implies (fu : Nat) (x0 : Int) (x1 : Int) (x2 : ByteArray) (x3 : List D) (x4 : List D) (x5 : List D) (x6 : Int) (x7 : Int) (x8 : Int) (x9 : ByteArray) (x10 : List D) (x11 : List D) (x12 : List D) (x13 : Int) : Option ((Bool × (ByteArray × ByteArray × ByteArray × Int × Int × Int × Unit) × Int × Unit)) :=
  ((cond_Valid fu x0 x1 x2 x3 x4 x5 x6).bind fun (v462 : Bool) =>
   (bif (!v462) then
    some (false, ((bs []), (bs []), (bs []), (0 : Int), (0 : Int), (0 : Int), ()), (1 : Int), ())
   else
    ((cond_Valid fu x7 x8 x9 x10 x11 x12 x13).bind fun (v463 : Bool) =>
     (bif (!v463) then
      some (false, ((bs []), (bs []), (bs []), (0 : Int), (0 : Int), (0 : Int), ()), (1 : Int), ())
     else
      (bif (decide (x0 ≥ x1)) then
       some (true, ((bs []), (bs []), (bs []), (0 : Int), (0 : Int), (0 : Int), ()), (0 : Int), ())
      else
       ((cond_sample fu x0 x1 x2 x3 x4 x5 x6).bind fun (v464 : (ByteArray × ByteArray × ByteArray × Int × Int × Int × Unit)) =>
        ((cond_pattern fu x7 x8 x9 x10 x11 x12 x13).bind fun (v465 : ByteArray) =>
         ((cond_pattern fu x0 x1 x2 x3 x4 x5 x6).bind fun (v466 : ByteArray) =>
          ((address_Covers fu v465 v466).bind fun (v467 : (Bool × ByteArray × Int × Unit)) =>
           ((cond_outside_string fu x3 x10).bind fun (v468 : (ByteArray × Bool × Unit)) =>
            ((cond_outside_string_71 fu x4 x11).bind fun (v469 : (ByteArray × Bool × Unit)) =>
             ((cond_outside_int fu x5 x12).bind fun (v470 : (Int × Bool × Unit)) =>
              (bif (decide (x7 > x0)) then
               some (false, (v464.1, v464.2.1, v464.2.2.1, v464.2.2.2.1, v464.2.2.2.2.1, v464.2.2.2.2.2.1, ()), (0 : Int), ())
              else
               (bif (decide (x8 < x1)) then
                some (false, (v464.1, v464.2.1, v464.2.2.1, v464.2.2.2.1, (w64 (x1 - (1 : Int))), (w64 (x1 - (1 : Int))), ()), (0 : Int), ())
               else
                (bif (!v467.1) then
                 some (false, (v467.2.1, v464.2.1, v464.2.2.1, v464.2.2.2.1, v464.2.2.2.2.1, v464.2.2.2.2.2.1, ()), (0 : Int), ())
                else
                 (bif v468.2.1 then
                  some (false, (v464.1, v468.1, v464.2.2.1, v464.2.2.2.1, v464.2.2.2.2.1, v464.2.2.2.2.2.1, ()), (0 : Int), ())
                 else
                  (bif v469.2.1 then
                   some (false, (v464.1, v464.2.1, v469.1, v464.2.2.2.1, v464.2.2.2.2.1, v464.2.2.2.2.2.1, ()), (0 : Int), ())
                  else
                   (bif v470.2.1 then
                    some (false, (v464.1, v464.2.1, v464.2.2.1, v470.1, v464.2.2.2.2.1, v464.2.2.2.2.2.1, ()), (0 : Int), ())
                   else
                    some (true, ((bs []), (bs []), (bs []), (0 : Int), (0 : Int), (0 : Int), ()), (0 : Int), ())))))))))))))))))))

noncomputable def e_cond_Implies (fu : Nat) : FE := ⟨13, (.cons (.agg [(.int .i64), (.int .i64), .str, (.sl 9), (.sl 9), (.sl 3), (.int .i64)]) (.cons (.agg [(.int .i64), (.int .i64), .str, (.sl 9), (.sl 9), (.sl 3), (.int .i64)]) .nil)), [], (.tup (.cons (.lf .bool) (.cons (.agg [.str, .str, .str, (.int .i64), (.int .i64), (.int .i64)]) (.cons (.lf (.int .i64)) .nil)))), [], fun (a : ((Int × Int × ByteArray × List D × List D × List D × Int × Unit) × (Int × Int × ByteArray × List D × List D × List D × Int × Unit) × Unit)) (p : Unit) => cond_Implies fu a.1.1 a.1.2.1 a.1.2.2.1 a.1.2.2.2.1 a.1.2.2.2.2.1 a.1.2.2.2.2.2.1 a.1.2.2.2.2.2.2.1 a.2.1.1 a.2.1.2.1 a.2.1.2.2.1 a.2.1.2.2.2.1 a.2.1.2.2.2.2.1 a.2.1.2.2.2.2.2.1 a.2.1.2.2.2.2.2.2.1⟩

theorem e_cond_Implies_ok (fu : Nat) : (e_cond_Implies fu).ok E0 := FE.rule (.f (e_cond_Valid_ok fu) (.f (e_cond_sample_ok fu) (.f (e_cond_pattern_ok fu) (.f (e_address_Covers_ok fu) (.f (e_cond_outside_string_ok fu) (.f (e_cond_outside_string_71_ok fu) (.f (e_cond_outside_int_ok fu) (.f (e_cond_clients_ok fu) (.f (e_cond_countries_ok fu) (.f (e_cond_sites_ok fu) .nil)))))))))) fun a p => by kernel_rfl

noncomputable def law21_sanity_L13 (fu : Nat) : Nat → Int → Int → ByteArray → List D → List D → List D → Int → Int → Int → ByteArray → List D → List D → List D → Int → ByteArray → ByteArray → ByteArray → Int → Int → Int → ByteArray → Int → Int → Int → Bool → Int → List D → Int → Option ((((Int × Int × ByteArray × List D × List D × List D × Int × Unit) × (Int × Int × ByteArray × List D × List D × List D × Int × Unit) × (ByteArray × ByteArray × ByteArray × Int × Int × Int × Unit) × Unit) × (ByteArray × Int × Unit × Int × Unit × Int × Bool × Unit × Int × List D × Unit)))
  | 0, _, _, _, _, _, _, _, _, _, _, _, _, _, _, _, _, _, _, _, _, _, _, _, _, _, _, _, _ => none
  | n + 1, x0, x1, x2, x3, x4, x5, x6, x7, x8, x9, x10, x11, x12, x13, x14, x15, x16, x17, x18, x19, x20, x21, x22, x23, x24, x25, x26, x27 =>
    (bif (decide (x27 < (64 : Int))) then
     (if ((((List.length x26) + (List.length [(D.v (.int .i64 x27))])) * 8) ≤ Go.Eng.maxRow) then
      law21_sanity_L13 fu n x0 x1 x2 x3 x4 x5 x6 x7 x8 x9 x10 x11 x12 x13 x14 x15 x16 x17 x18 x19 x20 x21 x22 x23 x24 x25 (x26 ++ [(D.v (.int .i64 x27))]) (w64 (x27 + (1 : Int)))
     else
      none)
    else
     some ((((x0, x1, x2, x3, x4, x5, x6, ()), (x7, x8, x9, x10, x11, x12, x13, ()), (x14, x15, x16, x17, x18, x19, ()), ()), (x20, x21, (), x22, (), x23, x24, (), x25, x26, ()))))

noncomputable def l_law21_sanity_L13 (fu : Nat) : LE := ⟨11, 13, ⟨[(4008, 0), (5008, 0), (10007, 0)], [(.cons (.lf (.int .i64)) (.cons (.lf (.int .i64)) (.cons (.lf .str) (.cons (.lf (.sl 9)) (.cons (.lf (.sl 9)) (.cons (.lf (.sl 3)) (.cons (.lf (.int .i64)) .nil))))))), (.cons (.lf (.int .i64)) (.cons (.lf (.int .i64)) (.cons (.lf .str) (.cons (.lf (.sl 9)) (.cons (.lf (.sl 9)) (.cons (.lf (.sl 3)) (.cons (.lf (.int .i64)) .nil))))))), (.cons (.lf .str) (.cons (.lf .str) (.cons (.lf .str) (.cons (.lf (.int .i64)) (.cons (.lf (.int .i64)) (.cons (.lf (.int .i64)) .nil))))))], [(2, (.lf .str)), (3, (.lf (.int .i64))), (4, (.ptr 4008 0 0)), (5, (.lf (.int .i64))), (6, (.ptr 5008 0 0)), (7, (.lf (.int .i64))), (10, (.lf .bool)), (11, (.ptr 10007 0 0)), (12, (.lf (.int .i64))), (13, (.own 3)), (14, (.lf (.int .i64)))]⟩, [(.exit 0, ⟨[(4008, 0), (5008, 0), (10007, 0)], [(.cons (.lf (.int .i64)) (.cons (.lf (.int .i64)) (.cons (.lf .str) (.cons (.lf (.sl 9)) (.cons (.lf (.sl 9)) (.cons (.lf (.sl 3)) (.cons (.lf (.int .i64)) .nil))))))), (.cons (.lf (.int .i64)) (.cons (.lf (.int .i64)) (.cons (.lf .str) (.cons (.lf (.sl 9)) (.cons (.lf (.sl 9)) (.cons (.lf (.sl 3)) (.cons (.lf (.int .i64)) .nil))))))), (.cons (.lf .str) (.cons (.lf .str) (.cons (.lf .str) (.cons (.lf (.int .i64)) (.cons (.lf (.int .i64)) (.cons (.lf (.int .i64)) .nil))))))], [(2, (.lf .str)), (3, (.lf (.int .i64))), (4, (.ptr 4008 0 0)), (5, (.lf (.int .i64))), (6, (.ptr 5008 0 0)), (7, (.lf (.int .i64))), (10, (.lf .bool)), (11, (.ptr 10007 0 0)), (12, (.lf (.int .i64))), (13, (.own 3))]⟩)], fun (v : (((Int × Int × ByteArray × List D × List D × List D × Int × Unit) × (Int × Int × ByteArray × List D × List D × List D × Int × Unit) × (ByteArray × ByteArray × ByteArray × Int × Int × Int × Unit) × Unit) × (ByteArray × Int × Unit × Int × Unit × Int × Bool × Unit × Int × List D × Int × Unit))) => law21_sanity_L13 fu fu v.1.1.1 v.1.1.2.1 v.1.1.2.2.1 v.1.1.2.2.2.1 v.1.1.2.2.2.2.1 v.1.1.2.2.2.2.2.1 v.1.1.2.2.2.2.2.2.1 v.1.2.1.1 v.1.2.1.2.1 v.1.2.1.2.2.1 v.1.2.1.2.2.2.1 v.1.2.1.2.2.2.2.1 v.1.2.1.2.2.2.2.2.1 v.1.2.1.2.2.2.2.2.2.1 v.1.2.2.1.1 v.1.2.2.1.2.1 v.1.2.2.1.2.2.1 v.1.2.2.1.2.2.2.1 v.1.2.2.1.2.2.2.2.1 v.1.2.2.1.2.2.2.2.2.1 v.2.1 v.2.2.1 v.2.2.2.2.1 v.2.2.2.2.2.2.1 v.2.2.2.2.2.2.2.1 v.2.2.2.2.2.2.2.2.2.1 v.2.2.2.2.2.2.2.2.2.2.1 v.2.2.2.2.2.2.2.2.2.2.2.1⟩

theorem l_law21_sanity_L13_ok (fu : Nat) : (l_law21_sanity_L13 fu).ok E0 := LE.rule (f := 11) (id := 13) (inn := ⟨[(4008, 0), (5008, 0), (10007, 0)], [(.cons (.lf (.int .i64)) (.cons (.lf (.int .i64)) (.cons (.lf .str) (.cons (.lf (.sl 9)) (.cons (.lf (.sl 9)) (.cons (.lf (.sl 3)) (.cons (.lf (.int .i64)) .nil))))))), (.cons (.lf (.int .i64)) (.cons (.lf (.int .i64)) (.cons (.lf .str) (.cons (.lf (.sl 9)) (.cons (.lf (.sl 9)) (.cons (.lf (.sl 3)) (.cons (.lf (.int .i64)) .nil))))))), (.cons (.lf .str) (.cons (.lf .str) (.cons (.lf .str) (.cons (.lf (.int .i64)) (.cons (.lf (.int .i64)) (.cons (.lf (.int .i64)) .nil))))))], [(2, (.lf .str)), (3, (.lf (.int .i64))), (4, (.ptr 4008 0 0)), (5, (.lf (.int .i64))), (6, (.ptr 5008 0 0)), (7, (.lf (.int .i64))), (10, (.lf .bool)), (11, (.ptr 10007 0 0)), (12, (.lf (.int .i64))), (13, (.own 3)), (14, (.lf (.int .i64)))]⟩) (outs := [(.exit 0, ⟨[(4008, 0), (5008, 0), (10007, 0)], [(.cons (.lf (.int .i64)) (.cons (.lf (.int .i64)) (.cons (.lf .str) (.cons (.lf (.sl 9)) (.cons (.lf (.sl 9)) (.cons (.lf (.sl 3)) (.cons (.lf (.int .i64)) .nil))))))), (.cons (.lf (.int .i64)) (.cons (.lf (.int .i64)) (.cons (.lf .str) (.cons (.lf (.sl 9)) (.cons (.lf (.sl 9)) (.cons (.lf (.sl 3)) (.cons (.lf (.int .i64)) .nil))))))), (.cons (.lf .str) (.cons (.lf .str) (.cons (.lf .str) (.cons (.lf (.int .i64)) (.cons (.lf (.int .i64)) (.cons (.lf (.int .i64)) .nil))))))], [(2, (.lf .str)), (3, (.lf (.int .i64))), (4, (.ptr 4008 0 0)), (5, (.lf (.int .i64))), (6, (.ptr 5008 0 0)), (7, (.lf (.int .i64))), (10, (.lf .bool)), (11, (.ptr 10007 0 0)), (12, (.lf (.int .i64))), (13, (.own 3))]⟩)]) (g := fun n (v : (((Int × Int × ByteArray × List D × List D × List D × Int × Unit) × (Int × Int × ByteArray × List D × List D × List D × Int × Unit) × (ByteArray × ByteArray × ByteArray × Int × Int × Int × Unit) × Unit) × (ByteArray × Int × Unit × Int × Unit × Int × Bool × Unit × Int × List D × Int × Unit))) => law21_sanity_L13 fu n v.1.1.1 v.1.1.2.1 v.1.1.2.2.1 v.1.1.2.2.2.1 v.1.1.2.2.2.2.1 v.1.1.2.2.2.2.2.1 v.1.1.2.2.2.2.2.2.1 v.1.2.1.1 v.1.2.1.2.1 v.1.2.1.2.2.1 v.1.2.1.2.2.2.1 v.1.2.1.2.2.2.2.1 v.1.2.1.2.2.2.2.2.1 v.1.2.1.2.2.2.2.2.2.1 v.1.2.2.1.1 v.1.2.2.1.2.1 v.1.2.2.1.2.2.1 v.1.2.2.1.2.2.2.1 v.1.2.2.1.2.2.2.2.1 v.1.2.2.1.2.2.2.2.2.1 v.2.1 v.2.2.1 v.2.2.2.2.1 v.2.2.2.2.2.2.1 v.2.2.2.2.2.2.2.1 v.2.2.2.2.2.2.2.2.2.1 v.2.2.2.2.2.2.2.2.2.2.1 v.2.2.2.2.2.2.2.2.2.2.2.1) (.f (e_law21_in_ok) (.f (e_cond_Text_ok fu) (.f (e_cond_Meet_ok fu) (.f (e_law21_always_ok) (.f (e_cond_Implies_ok fu) .nil))))) (by kernel_rfl) (fun v => rfl) (fun n v => by kernel_rfl) fu

noncomputable def cond_Empty (fu : Nat) (x0 : Int) (x1 : Int) (x2 : ByteArray) (x3 : List D) (x4 : List D) (x5 : List D) (x6 : Int) : Option ((Bool × (ByteArray × ByteArray × ByteArray × Int × Int × Int × Unit) × Int × Unit)) :=
  ((cond_Valid fu x0 x1 x2 x3 x4 x5 x6).bind fun (v481 : Bool) =>
   (bif (!v481) then
    some (false, ((bs []), (bs []), (bs []), (0 : Int), (0 : Int), (0 : Int), ()), (1 : Int), ())
   else
    (bif (decide (x0 ≥ x1)) then
     some (true, ((bs []), (bs []), (bs []), (0 : Int), (0 : Int), (0 : Int), ()), (0 : Int), ())
    else
     ((cond_sample fu x0 x1 x2 x3 x4 x5 x6).bind fun (v482 : (ByteArray × ByteArray × ByteArray × Int × Int × Int × Unit)) =>
      some (false, (v482.1, v482.2.1, v482.2.2.1, v482.2.2.2.1, v482.2.2.2.2.1, v482.2.2.2.2.2.1, ()), (0 : Int), ())))))

noncomputable def e_cond_Empty (fu : Nat) : FE := ⟨24, (.cons (.agg [(.int .i64), (.int .i64), .str, (.sl 9), (.sl 9), (.sl 3), (.int .i64)]) .nil), [], (.tup (.cons (.lf .bool) (.cons (.agg [.str, .str, .str, (.int .i64), (.int .i64), (.int .i64)]) (.cons (.lf (.int .i64)) .nil)))), [], fun (a : ((Int × Int × ByteArray × List D × List D × List D × Int × Unit) × Unit)) (p : Unit) => cond_Empty fu a.1.1 a.1.2.1 a.1.2.2.1 a.1.2.2.2.1 a.1.2.2.2.2.1 a.1.2.2.2.2.2.1 a.1.2.2.2.2.2.2.1⟩

theorem e_cond_Empty_ok (fu : Nat) : (e_cond_Empty fu).ok E0 := FE.rule (.f (e_cond_Valid_ok fu) (.f (e_cond_sample_ok fu) .nil)) fun a p => by kernel_rfl

noncomputable def ref21_Same_L4 (fu : Nat) : Nat → Int → Int → ByteArray → List D → List D → List D → Int → Int → Int → ByteArray → List D → List D → List D → Int → Int → Option (((((Int × Int × ByteArray × List D × List D × List D × Int × Unit) × (Int × Int × ByteArray × List D × List D × List D × Int × Unit) × Unit) × (Unit × Unit × Bool × Unit)) ⊕ (((Int × Int × ByteArray × List D × List D × List D × Int × Unit) × (Int × Int × ByteArray × List D × List D × List D × Int × Unit) × Unit) × (Unit × Unit × Unit))))
  | 0, _, _, _, _, _, _, _, _, _, _, _, _, _, _, _ => none
  | n + 1, x0, x1, x2, x3, x4, x5, x6, x7, x8, x9, x10, x11, x12, x13, x14 =>
    (bif (decide (x14 < (((List.length x3) : Nat) : Int))) then
     ((nat? x14).bind fun (v491 : Nat) =>
      (if (v491 < (List.length x3)) then
       ((rdS x3 v491).bind fun (v492 : ByteArray) =>
        ((nat? x14).bind fun (v493 : Nat) =>
         (if (v493 < (List.length x10)) then
          ((rdS x10 v493).bind fun (v494 : ByteArray) =>
           (bif (!(Go.Eng.seq v492 v494)) then
            some (.inl ((((x0, x1, x2, x3, x4, x5, x6, ()), (x7, x8, x9, x10, x11, x12, x13, ()), ()), ((), (), false, ()))))
           else
            ref21_Same_L4 fu n x0 x1 x2 x3 x4 x5 x6 x7 x8 x9 x10 x11 x12 x13 (w64 (x14 + (1 : Int)))))
         else
          none)))
      else
       none))
    else
     some (.inr ((((x0, x1, x2, x3, x4, x5, x6, ()), (x7, x8, x9, x10, x11, x12, x13, ()), ()), ((), (), ())))))

noncomputable def l_ref21_Same_L4 (fu : Nat) : LE := ⟨18, 4, ⟨[(0, 0), (1, 0)], [(.cons (.lf (.int .i64)) (.cons (.lf (.int .i64)) (.cons (.lf .str) (.cons (.lf (.sl 9)) (.cons (.lf (.sl 9)) (.cons (.lf (.sl 3)) (.cons (.lf (.int .i64)) .nil))))))), (.cons (.lf (.int .i64)) (.cons (.lf (.int .i64)) (.cons (.lf .str) (.cons (.lf (.sl 9)) (.cons (.lf (.sl 9)) (.cons (.lf (.sl 3)) (.cons (.lf (.int .i64)) .nil)))))))], [(2, (.ptr 0 0 0)), (3, (.ptr 1 0 0)), (5, (.lf (.int .i64)))]⟩, [(.ret, ⟨[(0, 0), (1, 0)], [(.cons (.lf (.int .i64)) (.cons (.lf (.int .i64)) (.cons (.lf .str) (.cons (.lf (.sl 9)) (.cons (.lf (.sl 9)) (.cons (.lf (.sl 3)) (.cons (.lf (.int .i64)) .nil))))))), (.cons (.lf (.int .i64)) (.cons (.lf (.int .i64)) (.cons (.lf .str) (.cons (.lf (.sl 9)) (.cons (.lf (.sl 9)) (.cons (.lf (.sl 3)) (.cons (.lf (.int .i64)) .nil)))))))], [(2, (.ptr 0 0 0)), (3, (.ptr 1 0 0)), (4, (.lf .bool))]⟩), (.exit 0, ⟨[(0, 0), (1, 0)], [(.cons (.lf (.int .i64)) (.cons (.lf (.int .i64)) (.cons (.lf .str) (.cons (.lf (.sl 9)) (.cons (.lf (.sl 9)) (.cons (.lf (.sl 3)) (.cons (.lf (.int .i64)) .nil))))))), (.cons (.lf (.int .i64)) (.cons (.lf (.int .i64)) (.cons (.lf .str) (.cons (.lf (.sl 9)) (.cons (.lf (.sl 9)) (.cons (.lf (.sl 3)) (.cons (.lf (.int .i64)) .nil)))))))], [(2, (.ptr 0 0 0)), (3, (.ptr 1 0 0))]⟩)], fun (v : (((Int × Int × ByteArray × List D × List D × List D × Int × Unit) × (Int × Int × ByteArray × List D × List D × List D × Int × Unit) × Unit) × (Unit × Unit × Int × Unit))) => ref21_Same_L4 fu fu v.1.1.1 v.1.1.2.1 v.1.1.2.2.1 v.1.1.2.2.2.1 v.1.1.2.2.2.2.1 v.1.1.2.2.2.2.2.1 v.1.1.2.2.2.2.2.2.1 v.1.2.1.1 v.1.2.1.2.1 v.1.2.1.2.2.1 v.1.2.1.2.2.2.1 v.1.2.1.2.2.2.2.1 v.1.2.1.2.2.2.2.2.1 v.1.2.1.2.2.2.2.2.2.1 v.2.2.2.1⟩

theorem l_ref21_Same_L4_ok (fu : Nat) : (l_ref21_Same_L4 fu).ok E0 := LE.rule (f := 18) (id := 4) (inn := ⟨[(0, 0), (1, 0)], [(.cons (.lf (.int .i64)) (.cons (.lf (.int .i64)) (.cons (.lf .str) (.cons (.lf (.sl 9)) (.cons (.lf (.sl 9)) (.cons (.lf (.sl 3)) (.cons (.lf (.int .i64)) .nil))))))), (.cons (.lf (.int .i64)) (.cons (.lf (.int .i64)) (.cons (.lf .str) (.cons (.lf (.sl 9)) (.cons (.lf (.sl 9)) (.cons (.lf (.sl 3)) (.cons (.lf (.int .i64)) .nil)))))))], [(2, (.ptr 0 0 0)), (3, (.ptr 1 0 0)), (5, (.lf (.int .i64)))]⟩) (outs := [(.ret, ⟨[(0, 0), (1, 0)], [(.cons (.lf (.int .i64)) (.cons (.lf (.int .i64)) (.cons (.lf .str) (.cons (.lf (.sl 9)) (.cons (.lf (.sl 9)) (.cons (.lf (.sl 3)) (.cons (.lf (.int .i64)) .nil))))))), (.cons (.lf (.int .i64)) (.cons (.lf (.int .i64)) (.cons (.lf .str) (.cons (.lf (.sl 9)) (.cons (.lf (.sl 9)) (.cons (.lf (.sl 3)) (.cons (.lf (.int .i64)) .nil)))))))], [(2, (.ptr 0 0 0)), (3, (.ptr 1 0 0)), (4, (.lf .bool))]⟩), (.exit 0, ⟨[(0, 0), (1, 0)], [(.cons (.lf (.int .i64)) (.cons (.lf (.int .i64)) (.cons (.lf .str) (.cons (.lf (.sl 9)) (.cons (.lf (.sl 9)) (.cons (.lf (.sl 3)) (.cons (.lf (.int .i64)) .nil))))))), (.cons (.lf (.int .i64)) (.cons (.lf (.int .i64)) (.cons (.lf .str) (.cons (.lf (.sl 9)) (.cons (.lf (.sl 9)) (.cons (.lf (.sl 3)) (.cons (.lf (.int .i64)) .nil)))))))], [(2, (.ptr 0 0 0)), (3, (.ptr 1 0 0))]⟩)]) (g := fun n (v : (((Int × Int × ByteArray × List D × List D × List D × Int × Unit) × (Int × Int × ByteArray × List D × List D × List D × Int × Unit) × Unit) × (Unit × Unit × Int × Unit))) => ref21_Same_L4 fu n v.1.1.1 v.1.1.2.1 v.1.1.2.2.1 v.1.1.2.2.2.1 v.1.1.2.2.2.2.1 v.1.1.2.2.2.2.2.1 v.1.1.2.2.2.2.2.2.1 v.1.2.1.1 v.1.2.1.2.1 v.1.2.1.2.2.1 v.1.2.1.2.2.2.1 v.1.2.1.2.2.2.2.1 v.1.2.1.2.2.2.2.2.1 v.1.2.1.2.2.2.2.2.2.1 v.2.2.2.1) .nil (by kernel_rfl) (fun v => rfl) (fun n v => by kernel_rfl) fu

noncomputable def ref21_Same_L9 (fu : Nat) : Nat → Int → Int → ByteArray → List D → List D → List D → Int → Int → Int → ByteArray → List D → List D → List D → Int → Int → Option (((((Int × Int × ByteArray × List D × List D × List D × Int × Unit) × (Int × Int × ByteArray × List D × List D × List D × Int × Unit) × Unit) × (Unit × Unit × Bool × Unit)) ⊕ (((Int × Int × ByteArray × List D × List D × List D × Int × Unit) × (Int × Int × ByteArray × List D × List D × List D × Int × Unit) × Unit) × (Unit × Unit × Unit))))
  | 0, _, _, _, _, _, _, _, _, _, _, _, _, _, _, _ => none
  | n + 1, x0, x1, x2, x3, x4, x5, x6, x7, x8, x9, x10, x11, x12, x13, x14 =>
    (bif (decide (x14 < (((List.length x4) : Nat) : Int))) then
     ((nat? x14).bind fun (v498 : Nat) =>
      (if (v498 < (List.length x4)) then
       ((rdS x4 v498).bind fun (v499 : ByteArray) =>
        ((nat? x14).bind fun (v500 : Nat) =>
         (if (v500 < (List.length x11)) then
          ((rdS x11 v500).bind fun (v501 : ByteArray) =>
           (bif (!(Go.Eng.seq v499 v501)) then
            some (.inl ((((x0, x1, x2, x3, x4, x5, x6, ()), (x7, x8, x9, x10, x11, x12, x13, ()), ()), ((), (), false, ()))))
           else
            ref21_Same_L9 fu n x0 x1 x2 x3 x4 x5 x6 x7 x8 x9 x10 x11 x12 x13 (w64 (x14 + (1 : Int)))))
         else
          none)))
      else
       none))
    else
     some (.inr ((((x0, x1, x2, x3, x4, x5, x6, ()), (x7, x8, x9, x10, x11, x12, x13, ()), ()), ((), (), ())))))

noncomputable def l_ref21_Same_L9 (fu : Nat) : LE := ⟨18, 9, ⟨[(0, 0), (1, 0)], [(.cons (.lf (.int .i64)) (.cons (.lf (.int .i64)) (.cons (.lf .str) (.cons (.lf (.sl 9)) (.cons (.lf (.sl 9)) (.cons (.lf (.sl 3)) (.cons (.lf (.int .i64)) .nil))))))), (.cons (.lf (.int .i64)) (.cons (.lf (.int .i64)) (.cons (.lf .str) (.cons (.lf (.sl 9)) (.cons (.lf (.sl 9)) (.cons (.lf (.sl 3)) (.cons (.lf (.int .i64)) .nil)))))))], [(2, (.ptr 0 0 0)), (3, (.ptr 1 0 0)), (6, (.lf (.int .i64)))]⟩, [(.ret, ⟨[(0, 0), (1, 0)], [(.cons (.lf (.int .i64)) (.cons (.lf (.int .i64)) (.cons (.lf .str) (.cons (.lf (.sl 9)) (.cons (.lf (.sl 9)) (.cons (.lf (.sl 3)) (.cons (.lf (.int .i64)) .nil))))))), (.cons (.lf (.int .i64)) (.cons (.lf (.int .i64)) (.cons (.lf .str) (.cons (.lf (.sl 9)) (.cons (.lf (.sl 9)) (.cons (.lf (.sl 3)) (.cons (.lf (.int .i64)) .nil)))))))], [(2, (.ptr 0 0 0)), (3, (.ptr 1 0 0)), (4, (.lf .bool))]⟩), (.exit 2, ⟨[(0, 0), (1, 0)], [(.cons (.lf (.int .i64)) (.cons (.lf (.int .i64)) (.cons (.lf .str) (.cons (.lf (.sl 9)) (.cons (.lf (.sl 9)) (.cons (.lf (.sl 3)) (.cons (.lf (.int .i64)) .nil))))))), (.cons (.lf (.int .i64)) (.cons (.lf (.int .i64)) (.cons (.lf .str) (.cons (.lf (.sl 9)) (.cons (.lf (.sl 9)) (.cons (.lf (.sl 3)) (.cons (.lf (.int .i64)) .nil)))))))], [(2, (.ptr 0 0 0)), (3, (.ptr 1 0 0))]⟩)], fun (v : (((Int × Int × ByteArray × List D × List D × List D × Int × Unit) × (Int × Int × ByteArray × List D × List D × List D × Int × Unit) × Unit) × (Unit × Unit × Int × Unit))) => ref21_Same_L9 fu fu v.1.1.1 v.1.1.2.1 v.1.1.2.2.1 v.1.1.2.2.2.1 v.1.1.2.2.2.2.1 v.1.1.2.2.2.2.2.1 v.1.1.2.2.2.2.2.2.1 v.1.2.1.1 v.1.2.1.2.1 v.1.2.1.2.2.1 v.1.2.1.2.2.2.1 v.1.2.1.2.2.2.2.1 v.1.2.1.2.2.2.2.2.1 v.1.2.1.2.2.2.2.2.2.1 v.2.2.2.1⟩

theorem l_ref21_Same_L9_ok (fu : Nat) : (l_ref21_Same_L9 fu).ok E0 := LE.rule (f := 18) (id := 9) (inn := ⟨[(0, 0), (1, 0)], [(.cons (.lf (.int .i64)) (.cons (.lf (.int .i64)) (.cons (.lf .str) (.cons (.lf (.sl 9)) (.cons (.lf (.sl 9)) (.cons (.lf (.sl 3)) (.cons (.lf (.int .i64)) .nil))))))), (.cons (.lf (.int .i64)) (.cons (.lf (.int .i64)) (.cons (.lf .str) (.cons (.lf (.sl 9)) (.cons (.lf (.sl 9)) (.cons (.lf (.sl 3)) (.cons (.lf (.int .i64)) .nil)))))))], [(2, (.ptr 0 0 0)), (3, (.ptr 1 0 0)), (6, (.lf (.int .i64)))]⟩) (outs := [(.ret, ⟨[(0, 0), (1, 0)], [(.cons (.lf (.int .i64)) (.cons (.lf (.int .i64)) (.cons (.lf .str) (.cons (.lf (.sl 9)) (.cons (.lf (.sl 9)) (.cons (.lf (.sl 3)) (.cons (.lf (.int .i64)) .nil))))))), (.cons (.lf (.int .i64)) (.cons (.lf (.int .i64)) (.cons (.lf .str) (.cons (.lf (.sl 9)) (.cons (.lf (.sl 9)) (.cons (.lf (.sl 3)) (.cons (.lf (.int .i64)) .nil)))))))], [(2, (.ptr 0 0 0)), (3, (.ptr 1 0 0)), (4, (.lf .bool))]⟩), (.exit 2, ⟨[(0, 0), (1, 0)], [(.cons (.lf (.int .i64)) (.cons (.lf (.int .i64)) (.cons (.lf .str) (.cons (.lf (.sl 9)) (.cons (.lf (.sl 9)) (.cons (.lf (.sl 3)) (.cons (.lf (.int .i64)) .nil))))))), (.cons (.lf (.int .i64)) (.cons (.lf (.int .i64)) (.cons (.lf .str) (.cons (.lf (.sl 9)) (.cons (.lf (.sl 9)) (.cons (.lf (.sl 3)) (.cons (.lf (.int .i64)) .nil)))))))], [(2, (.ptr 0 0 0)), (3, (.ptr 1 0 0))]⟩)]) (g := fun n (v : (((Int × Int × ByteArray × List D × List D × List D × Int × Unit) × (Int × Int × ByteArray × List D × List D × List D × Int × Unit) × Unit) × (Unit × Unit × Int × Unit))) => ref21_Same_L9 fu n v.1.1.1 v.1.1.2.1 v.1.1.2.2.1 v.1.1.2.2.2.1 v.1.1.2.2.2.2.1 v.1.1.2.2.2.2.2.1 v.1.1.2.2.2.2.2.2.1 v.1.2.1.1 v.1.2.1.2.1 v.1.2.1.2.2.1 v.1.2.1.2.2.2.1 v.1.2.1.2.2.2.2.1 v.1.2.1.2.2.2.2.2.1 v.1.2.1.2.2.2.2.2.2.1 v.2.2.2.1) .nil (by kernel_rfl) (fun v => rfl) (fun n v => by kernel_rfl) fu

noncomputable def ref21_Same_L14 (fu : Nat) : Nat → Int → Int → ByteArray → List D → List D → List D → Int → Int → Int → ByteArray → List D → List D → List D → Int → Int → Option (((Unit × (Bool × Unit)) ⊕ (Unit × Unit)))
  | 0, _, _, _, _, _, _, _, _, _, _, _, _, _, _, _ => none
  | n + 1, x0, x1, x2, x3, x4, x5, x6, x7, x8, x9, x10, x11, x12, x13, x14 =>
    (bif (decide (x14 < (((List.length x5) : Nat) : Int))) then
     ((nat? x14).bind fun (v508 : Nat) =>
      (if (v508 < (List.length x5)) then
       ((rdI .i64 x5 v508).bind fun (v509 : Int) =>
        ((nat? x14).bind fun (v510 : Nat) =>
         (if (v510 < (List.length x12)) then
          ((rdI .i64 x12 v510).bind fun (v511 : Int) =>
           (bif (v509 != v511) then
            some (.inl (((), (false, ()))))
           else
            ref21_Same_L14 fu n x0 x1 x2 x3 x4 x5 x6 x7 x8 x9 x10 x11 x12 x13 (w64 (x14 + (1 : Int)))))
         else
          none)))
      else
       none))
    else
     some (.inr (((), ()))))

noncomputable def l_ref21_Same_L14 (fu : Nat) : LE := ⟨18, 14, ⟨[(0, 0), (1, 0)], [(.cons (.lf (.int .i64)) (.cons (.lf (.int .i64)) (.cons (.lf .str) (.cons (.lf (.sl 9)) (.cons (.lf (.sl 9)) (.cons (.lf (.sl 3)) (.cons (.lf (.int .i64)) .nil))))))), (.cons (.lf (.int .i64)) (.cons (.lf (.int .i64)) (.cons (.lf .str) (.cons (.lf (.sl 9)) (.cons (.lf (.sl 9)) (.cons (.lf (.sl 3)) (.cons (.lf (.int .i64)) .nil)))))))], [(2, (.ptr 0 0 0)), (3, (.ptr 1 0 0)), (7, (.lf (.int .i64)))]⟩, [(.ret, ⟨[], [], [(4, (.lf .bool))]⟩), (.exit 4, ⟨[], [], []⟩)], fun (v : (((Int × Int × ByteArray × List D × List D × List D × Int × Unit) × (Int × Int × ByteArray × List D × List D × List D × Int × Unit) × Unit) × (Unit × Unit × Int × Unit))) => ref21_Same_L14 fu fu v.1.1.1 v.1.1.2.1 v.1.1.2.2.1 v.1.1.2.2.2.1 v.1.1.2.2.2.2.1 v.1.1.2.2.2.2.2.1 v.1.1.2.2.2.2.2.2.1 v.1.2.1.1 v.1.2.1.2.1 v.1.2.1.2.2.1 v.1.2.1.2.2.2.1 v.1.2.1.2.2.2.2.1 v.1.2.1.2.2.2.2.2.1 v.1.2.1.2.2.2.2.2.2.1 v.2.2.2.1⟩

theorem l_ref21_Same_L14_ok (fu : Nat) : (l_ref21_Same_L14 fu).ok E0 := LE.rule (f := 18) (id := 14) (inn := ⟨[(0, 0), (1, 0)], [(.cons (.lf (.int .i64)) (.cons (.lf (.int .i64)) (.cons (.lf .str) (.cons (.lf (.sl 9)) (.cons (.lf (.sl 9)) (.cons (.lf (.sl 3)) (.cons (.lf (.int .i64)) .nil))))))), (.cons (.lf (.int .i64)) (.cons (.lf (.int .i64)) (.cons (.lf .str) (.cons (.lf (.sl 9)) (.cons (.lf (.sl 9)) (.cons (.lf (.sl 3)) (.cons (.lf (.int .i64)) .nil)))))))], [(2, (.ptr 0 0 0)), (3, (.ptr 1 0 0)), (7, (.lf (.int .i64)))]⟩) (outs := [(.ret, ⟨[], [], [(4, (.lf .bool))]⟩), (.exit 4, ⟨[], [], []⟩)]) (g := fun n (v : (((Int × Int × ByteArray × List D × List D × List D × Int × Unit) × (Int × Int × ByteArray × List D × List D × List D × Int × Unit) × Unit) × (Unit × Unit × Int × Unit))) => ref21_Same_L14 fu n v.1.1.1 v.1.1.2.1 v.1.1.2.2.1 v.1.1.2.2.2.1 v.1.1.2.2.2.2.1 v.1.1.2.2.2.2.2.1 v.1.1.2.2.2.2.2.2.1 v.1.2.1.1 v.1.2.1.2.1 v.1.2.1.2.2.1 v.1.2.1.2.2.2.1 v.1.2.1.2.2.2.2.1 v.1.2.1.2.2.2.2.2.1 v.1.2.1.2.2.2.2.2.2.1 v.2.2.2.1) .nil (by kernel_rfl) (fun v => rfl) (fun n v => by kernel_rfl) fu

noncomputable def ref21_Same (fu : Nat) (x0 : Int) (x1 : Int) (x2 : ByteArray) (x3 : List D) (x4 : List D) (x5 : List D) (x6 : Int) (x7 : Int) (x8 : Int) (x9 : ByteArray) (x10 : List D) (x11 : List D) (x12 : List D) (x13 : Int) : Option (Bool) :=
  (bif (x0 != x7) then
   some false
  else
   (bif (x1 != x8) then
    some false
   else
    (bif (!(Go.Eng.seq x2 x9)) then
     some false
    else
     (bif (x6 != x13) then
      some false
     else
      (bif ((((List.length x3) : Nat) : Int) != (((List.length x10) : Nat) : Int)) then
       some false
      else
       (bif ((((List.length x4) : Nat) : Int) != (((List.length x11) : Nat) : Int)) then
        some false
       else
        (bif ((((List.length x5) : Nat) : Int) != (((List.length x12) : Nat) : Int)) then
         some false
        else
         ((ref21_Same_L4 fu fu x0 x1 x2 x3 x4 x5 x6 x7 x8 x9 x10 x11 x12 x13 (0 : Int)).bind fun (v512 : ((((Int × Int × ByteArray × List D × List D × List D × Int × Unit) × (Int × Int × ByteArray × List D × List D × List D × Int × Unit) × Unit) × (Unit × Unit × Bool × Unit)) ⊕ (((Int × Int × ByteArray × List D × List D × List D × Int × Unit) × (Int × Int × ByteArray × List D × List D × List D × Int × Unit) × Unit) × (Unit × Unit × Unit)))) =>
          (match v512 with
          | .inl v513 =>
            some v513.2.2.2.1
          | .inr v514 =>
            ((ref21_Same_L9 fu fu v514.1.1.1 v514.1.1.2.1 v514.1.1.2.2.1 v514.1.1.2.2.2.1 v514.1.1.2.2.2.2.1 v514.1.1.2.2.2.2.2.1 v514.1.1.2.2.2.2.2.2.1 v514.1.2.1.1 v514.1.2.1.2.1 v514.1.2.1.2.2.1 v514.1.2.1.2.2.2.1 v514.1.2.1.2.2.2.2.1 v514.1.2.1.2.2.2.2.2.1 v514.1.2.1.2.2.2.2.2.2.1 (0 : Int)).bind fun (v515 : ((((Int × Int × ByteArray × List D × List D × List D × Int × Unit) × (Int × Int × ByteArray × List D × List D × List D × Int × Unit) × Unit) × (Unit × Unit × Bool × Unit)) ⊕ (((Int × Int × ByteArray × List D × List D × List D × Int × Unit) × (Int × Int × ByteArray × List D × List D × List D × Int × Unit) × Unit) × (Unit × Unit × Unit)))) =>
             (match v515 with
             | .inl v516 =>
               some v516.2.2.2.1
             | .inr v517 =>
               ((ref21_Same_L14 fu fu v517.1.1.1 v517.1.1.2.1 v517.1.1.2.2.1 v517.1.1.2.2.2.1 v517.1.1.2.2.2.2.1 v517.1.1.2.2.2.2.2.1 v517.1.1.2.2.2.2.2.2.1 v517.1.2.1.1 v517.1.2.1.2.1 v517.1.2.1.2.2.1 v517.1.2.1.2.2.2.1 v517.1.2.1.2.2.2.2.1 v517.1.2.1.2.2.2.2.2.1 v517.1.2.1.2.2.2.2.2.2.1 (0 : Int)).bind fun (v518 : ((Unit × (Bool × Unit)) ⊕ (Unit × Unit))) =>
                (match v518 with
                | .inl v519 =>
                  some v519.2.1
                | .inr v520 =>
                  some true)))))))))))))

noncomputable def e_ref21_Same (fu : Nat) : FE := ⟨18, (.cons (.agg [(.int .i64), (.int .i64), .str, (.sl 9), (.sl 9), (.sl 3), (.int .i64)]) (.cons (.agg [(.int .i64), (.int .i64), .str, (.sl 9), (.sl 9), (.sl 3), (.int .i64)]) .nil)), [], (.lf .bool), [], fun (a : ((Int × Int × ByteArray × List D × List D × List D × Int × Unit) × (Int × Int × ByteArray × List D × List D × List D × Int × Unit) × Unit)) (p : Unit) => ref21_Same fu a.1.1 a.1.2.1 a.1.2.2.1 a.1.2.2.2.1 a.1.2.2.2.2.1 a.1.2.2.2.2.2.1 a.1.2.2.2.2.2.2.1 a.2.1.1 a.2.1.2.1 a.2.1.2.2.1 a.2.1.2.2.2.1 a.2.1.2.2.2.2.1 a.2.1.2.2.2.2.2.1 a.2.1.2.2.2.2.2.2.1⟩

theorem e_ref21_Same_ok (fu : Nat) : (e_ref21_Same fu).ok E0 := FE.rule (.l (l_ref21_Same_L4_ok fu) (.l (l_ref21_Same_L9_ok fu) (.l (l_ref21_Same_L14_ok fu) .nil))) fun a p => by kernel_rfl

noncomputable def law21_sanity (fu : Nat) : Option (Bool) :=
  ((cond_Text fu (0 : Int) (1099511627777 : Int) (bs [97, 99, 109, 101, 47, 42, 42]) ([] : List D) ([] : List D) [(D.v (.int .i64 (1 : Int))), (D.v (.int .i64 (2 : Int)))] (0 : Int)).bind fun (v521 : (ByteArray × Int × Unit)) =>
   ((cond_Meet fu (0 : Int) (1099511627777 : Int) (bs []) ([] : List D) ([] : List D) [(D.v (.int .i64 (1 : Int))), (D.v (.int .i64 (2 : Int)))] (0 : Int) (0 : Int) (1099511627777 : Int) (bs []) ([] : List D) ([] : List D) [(D.v (.int .i64 (2 : Int))), (D.v (.int .i64 (3 : Int)))] (0 : Int)).bind fun (v522 : ((Int × Int × ByteArray × List D × List D × List D × Int × Unit) × Int × Unit)) =>
    ((cond_Meet fu (0 : Int) (1099511627777 : Int) (bs []) ([] : List D) ([] : List D) [(D.v (.int .i64 (1 : Int))), (D.v (.int .i64 (2 : Int)))] (0 : Int) (0 : Int) (1099511627777 : Int) (bs []) ([] : List D) ([] : List D) [(D.v (.int .i64 (3 : Int)))] (0 : Int)).bind fun (v523 : ((Int × Int × ByteArray × List D × List D × List D × Int × Unit) × Int × Unit)) =>
     ((cond_Implies fu (0 : Int) (1099511627777 : Int) (bs []) ([] : List D) [(D.v (.string (bs [100, 101]))), (D.v (.string (bs [102, 114])))] ([] : List D) (0 : Int) (0 : Int) (1099511627777 : Int) (bs []) ([] : List D) [(D.v (.string (bs [100, 101])))] ([] : List D) (0 : Int)).bind fun (v524 : (Bool × (ByteArray × ByteArray × ByteArray × Int × Int × Int × Unit) × Int × Unit)) =>
      ((law21_sanity_L13 fu fu v522.1.1 v522.1.2.1 v522.1.2.2.1 v522.1.2.2.2.1 v522.1.2.2.2.2.1 v522.1.2.2.2.2.2.1 v522.1.2.2.2.2.2.2.1 v523.1.1 v523.1.2.1 v523.1.2.2.1 v523.1.2.2.2.1 v523.1.2.2.2.2.1 v523.1.2.2.2.2.2.1 v523.1.2.2.2.2.2.2.1 v524.2.1.1 v524.2.1.2.1 v524.2.1.2.2.1 v524.2.1.2.2.2.1 v524.2.1.2.2.2.2.1 v524.2.1.2.2.2.2.2.1 v521.1 v521.2.1 v522.2.1 v523.2.1 v524.1 v524.2.2.1 ([] : List D) (0 : Int)).bind fun (v525 : (((Int × Int × ByteArray × List D × List D × List D × Int × Unit) × (Int × Int × ByteArray × List D × List D × List D × Int × Unit) × (ByteArray × ByteArray × ByteArray × Int × Int × Int × Unit) × Unit) × (ByteArray × Int × Unit × Int × Unit × Int × Bool × Unit × Int × List D × Unit))) =>
       ((cond_Implies fu (0 : Int) (1099511627777 : Int) (bs []) ([] : List D) ([] : List D) ([] : List D) (0 : Int) (0 : Int) (1099511627777 : Int) (bs []) ([] : List D) ([] : List D) v525.2.2.2.2.2.2.2.2.2.2.1 (0 : Int)).bind fun (v526 : (Bool × (ByteArray × ByteArray × ByteArray × Int × Int × Int × Unit) × Int × Unit)) =>
        ((cond_Empty fu (5 : Int) (5 : Int) (bs []) ([] : List D) ([] : List D) ([] : List D) (0 : Int)).bind fun (v527 : (Bool × (ByteArray × ByteArray × ByteArray × Int × Int × Int × Unit) × Int × Unit)) =>
         ((cond_Empty fu (5 : Int) (6 : Int) (bs []) ([] : List D) ([] : List D) ([] : List D) (0 : Int)).bind fun (v528 : (Bool × (ByteArray × ByteArray × ByteArray × Int × Int × Int × Unit) × Int × Unit)) =>
          (bif (v525.2.2.1 == (0 : Int)) then
           (bif (v525.2.2.2.2.1 == (0 : Int)) then
            (bif (v525.2.2.2.2.2.2.1 == (0 : Int)) then
             (bif (v525.2.2.2.2.2.2.2.2.2.1 == (0 : Int)) then
              (bif (v526.2.2.1 == (0 : Int)) then
               (bif (v527.2.2.1 == (0 : Int)) then
                (bif (v528.2.2.1 == (0 : Int)) then
                 (bif (Go.Eng.seq v525.2.1 (bs [48, 32, 49, 48, 57, 57, 53, 49, 49, 54, 50, 55, 55, 55, 55, 32, 97, 99, 109, 101, 47, 42, 42, 32, 126, 32, 126, 32, 49, 44, 50, 32, 48])) then
                  ((ref21_Same fu v525.1.1.1 v525.1.1.2.1 v525.1.1.2.2.1 v525.1.1.2.2.2.1 v525.1.1.2.2.2.2.1 v525.1.1.2.2.2.2.2.1 v525.1.1.2.2.2.2.2.2.1 (0 : Int) (1099511627777 : Int) (bs []) ([] : List D) ([] : List D) [(D.v (.int .i64 (2 : Int)))] (0 : Int)).bind fun (v529 : Bool) =>
                   (bif v529 then
                    ((ref21_Same fu v525.1.2.1.1 v525.1.2.1.2.1 v525.1.2.1.2.2.1 v525.1.2.1.2.2.2.1 v525.1.2.1.2.2.2.2.1 v525.1.2.1.2.2.2.2.2.1 v525.1.2.1.2.2.2.2.2.2.1 (0 : Int) (0 : Int) (bs []) ([] : List D) ([] : List D) ([] : List D) (0 : Int)).bind fun (v530 : Bool) =>
                     (bif v530 then
                      (bif (!v525.2.2.2.2.2.2.2.1) then
                       (bif (Go.Eng.seq v525.1.2.2.1.2.2.1 (bs [102, 114])) then
                        (bif v526.1 then
                         (bif v527.1 then
                          (bif (!v528.1) then
                           some ((v528.2.1.2.2.2.2.1 == (5 : Int)) && ((v528.2.1.2.2.2.2.2.1 == (5 : Int)) && true))
                          else
                           some false)
                         else
                          some false)
                        else
                         some false)
                       else
                        some false)
                      else
                       some false)
                     else
                      some false))
                   else
                    some false))
                 else
                  some false)
                else
                 some false)
               else
                some false)
              else
               some false)
             else
              some false)
            else
             some false)
           else
            some false)
          else
           some false)))))))))

noncomputable def e_law21_sanity (fu : Nat) : FE := ⟨11, .nil, [], (.lf .bool), [], fun (a : Unit) (p : Unit) => law21_sanity fu⟩

theorem e_law21_sanity_ok (fu : Nat) : (e_law21_sanity fu).ok E0 := FE.rule (.f (e_cond_Text_ok fu) (.f (e_cond_Meet_ok fu) (.f (e_cond_Implies_ok fu) (.f (e_cond_Empty_ok fu) (.f (e_ref21_Same_ok fu) (.f (e_law21_in_ok) (.f (e_law21_always_ok) (.l (l_law21_sanity_L13_ok fu) .nil)))))))) fun a p => by kernel_rfl

noncomputable def cond_Within (fu : Nat) (x0 : Int) (x1 : Int) (x2 : ByteArray) (x3 : List D) (x4 : List D) (x5 : List D) (x6 : Int) (x7 : Int) (x8 : Int) (x9 : ByteArray) (x10 : List D) (x11 : List D) (x12 : List D) (x13 : Int) : Option ((Bool × Int × Unit)) :=
  ((cond_Implies fu x0 x1 x2 x3 x4 x5 x6 x7 x8 x9 x10 x11 x12 x13).bind fun (v537 : (Bool × (ByteArray × ByteArray × ByteArray × Int × Int × Int × Unit) × Int × Unit)) =>
   (bif v537.1 then
    (bif (decide (x0 ≥ x1)) then
     some (true, v537.2.2.1, ())
    else
     (bif (x13 == (0 : Int)) then
      some (true, v537.2.2.1, ())
     else
      (bif (decide (x6 > (0 : Int))) then
       some ((decide (x6 ≤ x13)), v537.2.2.1, ())
      else
       some (false, v537.2.2.1, ()))))
   else
    some (false, v537.2.2.1, ())))

noncomputable def e_cond_Within (fu : Nat) : FE := ⟨14, (.cons (.agg [(.int .i64), (.int .i64), .str, (.sl 9), (.sl 9), (.sl 3), (.int .i64)]) (.cons (.agg [(.int .i64), (.int .i64), .str, (.sl 9), (.sl 9), (.sl 3), (.int .i64)]) .nil)), [], (.tup (.cons (.lf .bool) (.cons (.lf (.int .i64)) .nil))), [], fun (a : ((Int × Int × ByteArray × List D × List D × List D × Int × Unit) × (Int × Int × ByteArray × List D × List D × List D × Int × Unit) × Unit)) (p : Unit) => cond_Within fu a.1.1 a.1.2.1 a.1.2.2.1 a.1.2.2.2.1 a.1.2.2.2.2.1 a.1.2.2.2.2.2.1 a.1.2.2.2.2.2.2.1 a.2.1.1 a.2.1.2.1 a.2.1.2.2.1 a.2.1.2.2.2.1 a.2.1.2.2.2.2.1 a.2.1.2.2.2.2.2.1 a.2.1.2.2.2.2.2.2.1⟩

theorem e_cond_Within_ok (fu : Nat) : (e_cond_Within fu).ok E0 := FE.rule (.f (e_cond_Implies_ok fu) .nil) fun a p => by kernel_rfl

noncomputable def ref06_split_L4 (fu : Nat) : Nat → ByteArray → Int → List D → Int → Int → Option ((Unit × (ByteArray × List D × Int × Unit)))
  | 0, _, _, _, _, _ => none
  | n + 1, x0, x1, x2, x3, x4 =>
    (bif (decide (x4 < (((ByteArray.size x0) : Nat) : Int))) then
     ((nat? x4).bind fun (v545 : Nat) =>
      (if (v545 < (ByteArray.size x0)) then
       (bif ((chr x0 v545) == x1) then
        ((nat? x3).bind fun (v546 : Nat) =>
         ((nat? x4).bind fun (v547 : Nat) =>
          (if ((v546 ≤ v547) ∧ (v547 ≤ (ByteArray.size x0))) then
           (if ((((List.length x2) + (List.length [(D.v (.string (ByteArray.extract x0 v546 v547)))])) * 16) ≤ Go.Eng.maxRow) then
            ref06_split_L4 fu n x0 x1 (x2 ++ [(D.v (.string (ByteArray.extract x0 v546 v547)))]) (w64 (x4 + (1 : Int))) (w64 (x4 + (1 : Int)))
           else
            none)
          else
           none)))
       else
        ref06_split_L4 fu n x0 x1 x2 x3 (w64 (x4 + (1 : Int))))
      else
       none))
    else
     some (((), (x0, x2, x3, ()))))

noncomputable def l_ref06_split_L4 (fu : Nat) : LE := ⟨138, 4, ⟨[], [], [(0, (.lf .str)), (1, (.lf (.int .u8))), (5, (.own 9)), (6, (.lf (.int .i64))), (7, (.lf (.int .i64)))]⟩, [(.exit 0, ⟨[], [], [(0, (.lf .str)), (5, (.own 9)), (6, (.lf (.int .i64)))]⟩)], fun (v : (Unit × (ByteArray × Int × List D × Int × Int × Unit))) => ref06_split_L4 fu fu v.2.1 v.2.2.1 v.2.2.2.1 v.2.2.2.2.1 v.2.2.2.2.2.1⟩

theorem l_ref06_split_L4_ok (fu : Nat) : (l_ref06_split_L4 fu).ok E0 := LE.rule (f := 138) (id := 4) (inn := ⟨[], [], [(0, (.lf .str)), (1, (.lf (.int .u8))), (5, (.own 9)), (6, (.lf (.int .i64))), (7, (.lf (.int .i64)))]⟩) (outs := [(.exit 0, ⟨[], [], [(0, (.lf .str)), (5, (.own 9)), (6, (.lf (.int .i64)))]⟩)]) (g := fun n (v : (Unit × (ByteArray × Int × List D × Int × Int × Unit))) => ref06_split_L4 fu n v.2.1 v.2.2.1 v.2.2.2.1 v.2.2.2.2.1 v.2.2.2.2.2.1) .nil (by kernel_rfl) (fun v => rfl) (fun n v => by kernel_rfl) fu

noncomputable def ref06_split (fu : Nat) (x0 : ByteArray) (x1 : Int) : Option (List D) :=
  ((ref06_split_L4 fu fu x0 x1 ([] : List D) (0 : Int) (0 : Int)).bind fun (v548 : (Unit × (ByteArray × List D × Int × Unit))) =>
   ((nat? v548.2.2.2.1).bind fun (v549 : Nat) =>
    (if ((v549 ≤ (ByteArray.size v548.2.1)) ∧ ((ByteArray.size v548.2.1) ≤ (ByteArray.size v548.2.1))) then
     (if ((((List.length v548.2.2.1) + (List.length [(D.v (.string (ByteArray.extract v548.2.1 v549 (ByteArray.size v548.2.1))))])) * 16) ≤ Go.Eng.maxRow) then
      some (v548.2.2.1 ++ [(D.v (.string (ByteArray.extract v548.2.1 v549 (ByteArray.size v548.2.1))))])
     else
      none)
    else
     none)))

noncomputable def e_ref06_split (fu : Nat) : FE := ⟨138, (.cons (.lf .str) (.cons (.lf (.int .u8)) .nil)), [], (.lf (.sl 9)), [], fun (a : (ByteArray × Int × Unit)) (p : Unit) => ref06_split fu a.1 a.2.1⟩

theorem e_ref06_split_ok (fu : Nat) : (e_ref06_split fu).ok E0 := FE.rule (.l (l_ref06_split_L4_ok fu) .nil) fun a p => by kernel_rfl

noncomputable def ref06_letter (x0 : Int) : Option (Bool) :=
  (bif (decide (x0 ≥ (97 : Int))) then
   (bif (decide (x0 ≤ (122 : Int))) then
    some true
   else
    (bif (decide (x0 ≥ (48 : Int))) then
     (bif (decide (x0 ≤ (57 : Int))) then
      some true
     else
      (bif (x0 == (45 : Int)) then
       some true
      else
       (bif (x0 == (95 : Int)) then
        some true
       else
        some (x0 == (46 : Int)))))
    else
     (bif (x0 == (45 : Int)) then
      some true
     else
      (bif (x0 == (95 : Int)) then
       some true
      else
       some (x0 == (46 : Int))))))
  else
   (bif (decide (x0 ≥ (48 : Int))) then
    (bif (decide (x0 ≤ (57 : Int))) then
     some true
    else
     (bif (x0 == (45 : Int)) then
      some true
     else
      (bif (x0 == (95 : Int)) then
       some true
      else
       some (x0 == (46 : Int)))))
   else
    (bif (x0 == (45 : Int)) then
     some true
    else
     (bif (x0 == (95 : Int)) then
      some true
     else
      some (x0 == (46 : Int))))))

noncomputable def e_ref06_letter : FE := ⟨150, (.cons (.lf (.int .u8)) .nil), [], (.lf .bool), [], fun (a : (Int × Unit)) (p : Unit) => ref06_letter a.1⟩

theorem e_ref06_letter_ok : (e_ref06_letter).ok E0 := FE.rule .nil fun a p => by kernel_rfl

noncomputable def ref06_Word_L4 (fu : Nat) : Nat → ByteArray → Int → Option (((Unit × (Bool × Unit)) ⊕ (Unit × Unit)))
  | 0, _, _ => none
  | n + 1, x0, x1 =>
    (bif (decide (x1 < (((ByteArray.size x0) : Nat) : Int))) then
     ((nat? x1).bind fun (v554 : Nat) =>
      (if (v554 < (ByteArray.size x0)) then
       ((ref06_letter (chr x0 v554)).bind fun (v555 : Bool) =>
        (bif (!v555) then
         some (.inl (((), (false, ()))))
        else
         ref06_Word_L4 fu n x0 (w64 (x1 + (1 : Int)))))
      else
       none))
    else
     some (.inr (((), ()))))

noncomputable def l_ref06_Word_L4 (fu : Nat) : LE := ⟨116, 4, ⟨[], [], [(0, (.lf .str)), (3, (.lf (.int .i64)))]⟩, [(.ret, ⟨[], [], [(2, (.lf .bool))]⟩), (.exit 0, ⟨[], [], []⟩)], fun (v : (Unit × (ByteArray × Int × Unit))) => ref06_Word_L4 fu fu v.2.1 v.2.2.1⟩

theorem l_ref06_Word_L4_ok (fu : Nat) : (l_ref06_Word_L4 fu).ok E0 := LE.rule (f := 116) (id := 4) (inn := ⟨[], [], [(0, (.lf .str)), (3, (.lf (.int .i64)))]⟩) (outs := [(.ret, ⟨[], [], [(2, (.lf .bool))]⟩), (.exit 0, ⟨[], [], []⟩)]) (g := fun n (v : (Unit × (ByteArray × Int × Unit))) => ref06_Word_L4 fu n v.2.1 v.2.2.1) (.f (e_ref06_letter_ok) .nil) (by kernel_rfl) (fun v => rfl) (fun n v => by kernel_rfl) fu

noncomputable def ref06_Word (fu : Nat) (x0 : ByteArray) : Option (Bool) :=
  (bif ((((ByteArray.size x0) : Nat) : Int) == (0 : Int)) then
   some false
  else
   (bif (decide ((((ByteArray.size x0) : Nat) : Int) > (64 : Int))) then
    some false
   else
    (bif (Go.Eng.seq x0 (bs [46])) then
     some false
    else
     (bif (Go.Eng.seq x0 (bs [46, 46])) then
      some false
     else
      ((ref06_Word_L4 fu fu x0 (0 : Int)).bind fun (v556 : ((Unit × (Bool × Unit)) ⊕ (Unit × Unit))) =>
       (match v556 with
       | .inl v557 =>
         some v557.2.1
       | .inr v558 =>
         some true))))))

noncomputable def e_ref06_Word (fu : Nat) : FE := ⟨116, (.cons (.lf .str) .nil), [], (.lf .bool), [], fun (a : (ByteArray × Unit)) (p : Unit) => ref06_Word fu a.1⟩

theorem e_ref06_Word_ok (fu : Nat) : (e_ref06_Word fu).ok E0 := FE.rule (.f (e_ref06_letter_ok) (.l (l_ref06_Word_L4_ok fu) .nil)) fun a p => by kernel_rfl

noncomputable def ref06_has_L2 (fu : Nat) : Nat → ByteArray → Int → Int → Option (((Unit × (Bool × Unit)) ⊕ (Unit × Unit)))
  | 0, _, _, _ => none
  | n + 1, x0, x1, x2 =>
    (bif (decide (x2 < (((ByteArray.size x0) : Nat) : Int))) then
     ((nat? x2).bind fun (v560 : Nat) =>
      (if (v560 < (ByteArray.size x0)) then
       (bif ((chr x0 v560) == x1) then
        some (.inl (((), (true, ()))))
       else
        ref06_has_L2 fu n x0 x1 (w64 (x2 + (1 : Int))))
      else
       none))
    else
     some (.inr (((), ()))))

noncomputable def l_ref06_has_L2 (fu : Nat) : LE := ⟨117, 2, ⟨[], [], [(0, (.lf .str)), (1, (.lf (.int .u8))), (5, (.lf (.int .i64)))]⟩, [(.ret, ⟨[], [], [(4, (.lf .bool))]⟩), (.exit 0, ⟨[], [], []⟩)], fun (v : (Unit × (ByteArray × Int × Int × Unit))) => ref06_has_L2 fu fu v.2.1 v.2.2.1 v.2.2.2.1⟩

theorem l_ref06_has_L2_ok (fu : Nat) : (l_ref06_has_L2 fu).ok E0 := LE.rule (f := 117) (id := 2) (inn := ⟨[], [], [(0, (.lf .str)), (1, (.lf (.int .u8))), (5, (.lf (.int .i64)))]⟩) (outs := [(.ret, ⟨[], [], [(4, (.lf .bool))]⟩), (.exit 0, ⟨[], [], []⟩)]) (g := fun n (v : (Unit × (ByteArray × Int × Int × Unit))) => ref06_has_L2 fu n v.2.1 v.2.2.1 v.2.2.2.1) .nil (by kernel_rfl) (fun v => rfl) (fun n v => by kernel_rfl) fu

noncomputable def ref06_has (fu : Nat) (x0 : ByteArray) (x1 : Int) : Option (Bool) :=
  ((ref06_has_L2 fu fu x0 x1 (0 : Int)).bind fun (v561 : ((Unit × (Bool × Unit)) ⊕ (Unit × Unit))) =>
   (match v561 with
   | .inl v562 =>
     some v562.2.1
   | .inr v563 =>
     some false))

noncomputable def e_ref06_has (fu : Nat) : FE := ⟨117, (.cons (.lf .str) (.cons (.lf (.int .u8)) .nil)), [], (.lf .bool), [], fun (a : (ByteArray × Int × Unit)) (p : Unit) => ref06_has fu a.1 a.2.1⟩

theorem e_ref06_has_ok (fu : Nat) : (e_ref06_has fu).ok E0 := FE.rule (.l (l_ref06_has_L2_ok fu) .nil) fun a p => by kernel_rfl

noncomputable def ref06_Name (fu : Nat) (x0 : ByteArray) : Option (Bool) :=
  ((ref06_Word fu x0).bind fun (v564 : Bool) =>
   (bif v564 then
    ((ref06_has fu x0 (46 : Int)).bind fun (v565 : Bool) =>
     some (!v565))
   else
    some false))

noncomputable def e_ref06_Name (fu : Nat) : FE := ⟨76, (.cons (.lf .str) .nil), [], (.lf .bool), [], fun (a : (ByteArray × Unit)) (p : Unit) => ref06_Name fu a.1⟩

theorem e_ref06_Name_ok (fu : Nat) : (e_ref06_Name fu).ok E0 := FE.rule (.f (e_ref06_Word_ok fu) (.f (e_ref06_has_ok fu) .nil)) fun a p => by kernel_rfl

noncomputable def ref06_part (fu : Nat) (x0 : ByteArray) : Option (Bool) :=
  (bif (decide ((((ByteArray.size x0) : Nat) : Int) > (2 : Int))) then
   (if ((0 ≤ (Int.toNat (2 : Int))) ∧ ((Int.toNat (2 : Int)) ≤ (ByteArray.size x0))) then
    (bif (Go.Eng.seq (ByteArray.extract x0 0 (Int.toNat (2 : Int))) (bs [42, 46])) then
     (bif (decide ((((ByteArray.size x0) : Nat) : Int) ≤ (34 : Int))) then
      (if (((Int.toNat (2 : Int)) ≤ (ByteArray.size x0)) ∧ ((ByteArray.size x0) ≤ (ByteArray.size x0))) then
       ((ref06_Word fu (ByteArray.extract x0 (Int.toNat (2 : Int)) (ByteArray.size x0))).bind fun (v575 : Bool) =>
        some v575)
      else
       none)
     else
      some false)
    else
     (bif (Go.Eng.seq x0 (bs [42])) then
      some true
     else
      ((ref06_Word fu x0).bind fun (v576 : Bool) =>
       some v576)))
   else
    none)
  else
   (bif (Go.Eng.seq x0 (bs [42])) then
    some true
   else
    ((ref06_Word fu x0).bind fun (v577 : Bool) =>
     some v577)))

noncomputable def e_ref06_part (fu : Nat) : FE := ⟨139, (.cons (.lf .str) .nil), [], (.lf .bool), [], fun (a : (ByteArray × Unit)) (p : Unit) => ref06_part fu a.1⟩

theorem e_ref06_part_ok (fu : Nat) : (e_ref06_part fu).ok E0 := FE.rule (.f (e_ref06_Word_ok fu) .nil) fun a p => by kernel_rfl

noncomputable def ref06_Compile_L6 (fu : Nat) : Nat → ByteArray → List D → Bool → ByteArray → List D → Bool → List D → Int → Option (((((ByteArray × List D × Bool × Unit) × (ByteArray × List D × Bool × Unit) × Unit) × (Unit × Bool × Unit × Unit)) ⊕ (((ByteArray × List D × Bool × Unit) × (ByteArray × List D × Bool × Unit) × Unit) × (Unit × Unit × Unit))))
  | 0, _, _, _, _, _, _, _, _ => none
  | n + 1, x0, x1, x2, x3, x4, x5, x6, x7 =>
    (bif (decide (x7 < (((List.length x6) : Nat) : Int))) then
     ((nat? x7).bind fun (v578 : Nat) =>
      (if (v578 < (List.length x6)) then
       ((rdS x6 v578).bind fun (v579 : ByteArray) =>
        (bif (Go.Eng.seq v579 (bs [42, 42])) then
         (bif (x7 == (w64 ((((List.length x6) : Nat) : Int) - (1 : Int)))) then
          ref06_Compile_L6 fu n x0 x1 x2 x3 x4 true x6 (w64 (x7 + (1 : Int)))
         else
          ((nat? x7).bind fun (v580 : Nat) =>
           (if (v580 < (List.length x6)) then
            ((rdS x6 v580).bind fun (v581 : ByteArray) =>
             ((ref06_part fu v581).bind fun (v582 : Bool) =>
              (bif (!v582) then
               some (.inl (((((bs []), ([] : List D), false, ()), (x3, x4, x5, ()), ()), ((), false, (), ()))))
              else
               ((nat? x7).bind fun (v583 : Nat) =>
                (if (v583 < (List.length x6)) then
                 ((rdS x6 v583).bind fun (v584 : ByteArray) =>
                  (if ((((List.length x4) + (List.length [(D.v (.string v584))])) * 16) ≤ Go.Eng.maxRow) then
                   ref06_Compile_L6 fu n x0 x1 x2 x3 (x4 ++ [(D.v (.string v584))]) x5 x6 (w64 (x7 + (1 : Int)))
                  else
                   none))
                else
                 none)))))
           else
            none)))
        else
         ((nat? x7).bind fun (v585 : Nat) =>
          (if (v585 < (List.length x6)) then
           ((rdS x6 v585).bind fun (v586 : ByteArray) =>
            ((ref06_part fu v586).bind fun (v587 : Bool) =>
             (bif (!v587) then
              some (.inl (((((bs []), ([] : List D), false, ()), (x3, x4, x5, ()), ()), ((), false, (), ()))))
             else
              ((nat? x7).bind fun (v588 : Nat) =>
               (if (v588 < (List.length x6)) then
                ((rdS x6 v588).bind fun (v589 : ByteArray) =>
                 (if ((((List.length x4) + (List.length [(D.v (.string v589))])) * 16) ≤ Go.Eng.maxRow) then
                  ref06_Compile_L6 fu n x0 x1 x2 x3 (x4 ++ [(D.v (.string v589))]) x5 x6 (w64 (x7 + (1 : Int)))
                 else
                  none))
               else
                none)))))
          else
           none))))
      else
       none))
    else
     some (.inr ((((x0, x1, x2, ()), (x3, x4, x5, ()), ()), ((), (), ())))))

noncomputable def l_ref06_Compile_L6 (fu : Nat) : LE := ⟨105, 6, ⟨[(0, 0), (4004, 0)], [(.cons (.lf .str) (.cons (.own 9) (.cons (.lf .bool) .nil))), (.cons (.lf .str) (.cons (.own 9) (.cons (.lf .bool) .nil)))], [(2, (.ptr 0 0 0)), (4, (.lf (.sl 9))), (5, (.ptr 4004 0 0)), (6, (.lf (.int .i64)))]⟩, [(.ret, ⟨[(0, 0), (4004, 0)], [(.cons (.lf .str) (.cons (.own 9) (.cons (.lf .bool) .nil))), (.cons (.lf .str) (.cons (.own 9) (.cons (.lf .bool) .nil)))], [(2, (.ptr 0 0 0)), (3, (.lf .bool)), (5, (.ptr 4004 0 0))]⟩), (.exit 0, ⟨[(0, 0), (4004, 0)], [(.cons (.lf .str) (.cons (.own 9) (.cons (.lf .bool) .nil))), (.cons (.lf .str) (.cons (.own 9) (.cons (.lf .bool) .nil)))], [(2, (.ptr 0 0 0)), (5, (.ptr 4004 0 0))]⟩)], fun (v : (((ByteArray × List D × Bool × Unit) × (ByteArray × List D × Bool × Unit) × Unit) × (Unit × List D × Unit × Int × Unit))) => ref06_Compile_L6 fu fu v.1.1.1 v.1.1.2.1 v.1.1.2.2.1 v.1.2.1.1 v.1.2.1.2.1 v.1.2.1.2.2.1 v.2.2.1 v.2.2.2.2.1⟩

theorem l_ref06_Compile_L6_ok (fu : Nat) : (l_ref06_Compile_L6 fu).ok E0 := LE.rule (f := 105) (id := 6) (inn := ⟨[(0, 0), (4004, 0)], [(.cons (.lf .str) (.cons (.own 9) (.cons (.lf .bool) .nil))), (.cons (.lf .str) (.cons (.own 9) (.cons (.lf .bool) .nil)))], [(2, (.ptr 0 0 0)), (4, (.lf (.sl 9))), (5, (.ptr 4004 0 0)), (6, (.lf (.int .i64)))]⟩) (outs := [(.ret, ⟨[(0, 0), (4004, 0)], [(.cons (.lf .str) (.cons (.own 9) (.cons (.lf .bool) .nil))), (.cons (.lf .str) (.cons (.own 9) (.cons (.lf .bool) .nil)))], [(2, (.ptr 0 0 0)), (3, (.lf .bool)), (5, (.ptr 4004 0 0))]⟩), (.exit 0, ⟨[(0, 0), (4004, 0)], [(.cons (.lf .str) (.cons (.own 9) (.cons (.lf .bool) .nil))), (.cons (.lf .str) (.cons (.own 9) (.cons (.lf .bool) .nil)))], [(2, (.ptr 0 0 0)), (5, (.ptr 4004 0 0))]⟩)]) (g := fun n (v : (((ByteArray × List D × Bool × Unit) × (ByteArray × List D × Bool × Unit) × Unit) × (Unit × List D × Unit × Int × Unit))) => ref06_Compile_L6 fu n v.1.1.1 v.1.1.2.1 v.1.1.2.2.1 v.1.2.1.1 v.1.2.1.2.1 v.1.2.1.2.2.1 v.2.2.1 v.2.2.2.2.1) (.f (e_ref06_part_ok fu) (.f (e_ref06_split_ok fu) (.f (e_ref06_Name_ok fu) .nil))) (by kernel_rfl) (fun v => rfl) (fun n v => by kernel_rfl) fu

noncomputable def ref06_Compile (fu : Nat) (x0 : ByteArray) : Option (((ByteArray × List D × Bool × Unit) × Bool × Unit)) :=
  ((ref06_split fu x0 (47 : Int)).bind fun (v590 : List D) =>
   (if ((Int.toNat (0 : Int)) < (List.length v590)) then
    ((rdS v590 (Int.toNat (0 : Int))).bind fun (v591 : ByteArray) =>
     (bif (!(Go.Eng.seq v591 (bs [42]))) then
      (if ((Int.toNat (0 : Int)) < (List.length v590)) then
       ((rdS v590 (Int.toNat (0 : Int))).bind fun (v592 : ByteArray) =>
        ((ref06_Name fu v592).bind fun (v593 : Bool) =>
         (bif (!v593) then
          some (((bs []), ([] : List D), false, ()), false, ())
         else
          (bif (decide ((w64 ((((List.length v590) : Nat) : Int) - (1 : Int))) > (32 : Int))) then
           some (((bs []), ([] : List D), false, ()), false, ())
          else
           (if ((Int.toNat (0 : Int)) < (List.length v590)) then
            ((rdS v590 (Int.toNat (0 : Int))).bind fun (v594 : ByteArray) =>
             ((ref06_Compile_L6 fu fu (bs []) ([] : List D) false v594 ([] : List D) false v590 (1 : Int)).bind fun (v595 : ((((ByteArray × List D × Bool × Unit) × (ByteArray × List D × Bool × Unit) × Unit) × (Unit × Bool × Unit × Unit)) ⊕ (((ByteArray × List D × Bool × Unit) × (ByteArray × List D × Bool × Unit) × Unit) × (Unit × Unit × Unit)))) =>
              (match v595 with
              | .inl v596 =>
                some ((v596.1.1.1, v596.1.1.2.1, v596.1.1.2.2.1, ()), v596.2.2.1, ())
              | .inr v597 =>
                some ((v597.1.2.1.1, v597.1.2.1.2.1, v597.1.2.1.2.2.1, ()), true, ()))))
           else
            none)))))
      else
       none)
     else
      (bif (decide ((w64 ((((List.length v590) : Nat) : Int) - (1 : Int))) > (32 : Int))) then
       some (((bs []), ([] : List D), false, ()), false, ())
      else
       (if ((Int.toNat (0 : Int)) < (List.length v590)) then
        ((rdS v590 (Int.toNat (0 : Int))).bind fun (v598 : ByteArray) =>
         ((ref06_Compile_L6 fu fu (bs []) ([] : List D) false v598 ([] : List D) false v590 (1 : Int)).bind fun (v599 : ((((ByteArray × List D × Bool × Unit) × (ByteArray × List D × Bool × Unit) × Unit) × (Unit × Bool × Unit × Unit)) ⊕ (((ByteArray × List D × Bool × Unit) × (ByteArray × List D × Bool × Unit) × Unit) × (Unit × Unit × Unit)))) =>
          (match v599 with
          | .inl v600 =>
            some ((v600.1.1.1, v600.1.1.2.1, v600.1.1.2.2.1, ()), v600.2.2.1, ())
          | .inr v601 =>
            some ((v601.1.2.1.1, v601.1.2.1.2.1, v601.1.2.1.2.2.1, ()), true, ()))))
       else
        none))))
   else
    none))

noncomputable def e_ref06_Compile (fu : Nat) : FE := ⟨105, (.cons (.lf .str) .nil), [], (.tup (.cons (.agg [.str, (.sl 9), .bool]) (.cons (.lf .bool) .nil))), [], fun (a : (ByteArray × Unit)) (p : Unit) => ref06_Compile fu a.1⟩

theorem e_ref06_Compile_ok (fu : Nat) : (e_ref06_Compile fu).ok E0 := FE.rule (.f (e_ref06_split_ok fu) (.f (e_ref06_Name_ok fu) (.f (e_ref06_part_ok fu) (.l (l_ref06_Compile_L6_ok fu) .nil)))) fun a p => by kernel_rfl

noncomputable def ref06_Valid (fu : Nat) (x0 : ByteArray) : Option (Bool) :=
  ((ref06_Compile fu x0).bind fun (v602 : ((ByteArray × List D × Bool × Unit) × Bool × Unit)) =>
   some v602.2.1)

noncomputable def e_ref06_Valid (fu : Nat) : FE := ⟨75, (.cons (.lf .str) .nil), [], (.lf .bool), [], fun (a : (ByteArray × Unit)) (p : Unit) => ref06_Valid fu a.1⟩

theorem e_ref06_Valid_ok (fu : Nat) : (e_ref06_Valid fu).ok E0 := FE.rule (.f (e_ref06_Compile_ok fu) .nil) fun a p => by kernel_rfl

noncomputable def ref21_Valid_L6 (fu : Nat) : Nat → Int → Int → ByteArray → List D → List D → List D → Int → Int → Option (((((Int × Int × ByteArray × List D × List D × List D × Int × Unit) × Unit) × (Unit × Bool × Unit)) ⊕ (((Int × Int × ByteArray × List D × List D × List D × Int × Unit) × Unit) × (Unit × Unit))))
  | 0, _, _, _, _, _, _, _, _ => none
  | n + 1, x0, x1, x2, x3, x4, x5, x6, x7 =>
    (bif (decide (x7 < (((List.length x3) : Nat) : Int))) then
     ((nat? x7).bind fun (v604 : Nat) =>
      (if (v604 < (List.length x3)) then
       ((rdS x3 v604).bind fun (v605 : ByteArray) =>
        ((ref06_Name fu v605).bind fun (v606 : Bool) =>
         (bif (!v606) then
          some (.inl ((((x0, x1, x2, x3, x4, x5, x6, ()), ()), ((), false, ()))))
         else
          ref21_Valid_L6 fu n x0 x1 x2 x3 x4 x5 x6 (w64 (x7 + (1 : Int))))))
      else
       none))
    else
     some (.inr ((((x0, x1, x2, x3, x4, x5, x6, ()), ()), ((), ())))))

noncomputable def l_ref21_Valid_L6 (fu : Nat) : LE := ⟨27, 6, ⟨[(0, 0)], [(.cons (.lf (.int .i64)) (.cons (.lf (.int .i64)) (.cons (.lf .str) (.cons (.lf (.sl 9)) (.cons (.lf (.sl 9)) (.cons (.lf (.sl 3)) (.cons (.lf (.int .i64)) .nil)))))))], [(1, (.ptr 0 0 0)), (3, (.lf (.int .i64)))]⟩, [(.ret, ⟨[(0, 0)], [(.cons (.lf (.int .i64)) (.cons (.lf (.int .i64)) (.cons (.lf .str) (.cons (.lf (.sl 9)) (.cons (.lf (.sl 9)) (.cons (.lf (.sl 3)) (.cons (.lf (.int .i64)) .nil)))))))], [(1, (.ptr 0 0 0)), (2, (.lf .bool))]⟩), (.exit 0, ⟨[(0, 0)], [(.cons (.lf (.int .i64)) (.cons (.lf (.int .i64)) (.cons (.lf .str) (.cons (.lf (.sl 9)) (.cons (.lf (.sl 9)) (.cons (.lf (.sl 3)) (.cons (.lf (.int .i64)) .nil)))))))], [(1, (.ptr 0 0 0))]⟩)], fun (v : (((Int × Int × ByteArray × List D × List D × List D × Int × Unit) × Unit) × (Unit × Int × Unit))) => ref21_Valid_L6 fu fu v.1.1.1 v.1.1.2.1 v.1.1.2.2.1 v.1.1.2.2.2.1 v.1.1.2.2.2.2.1 v.1.1.2.2.2.2.2.1 v.1.1.2.2.2.2.2.2.1 v.2.2.1⟩

theorem l_ref21_Valid_L6_ok (fu : Nat) : (l_ref21_Valid_L6 fu).ok E0 := LE.rule (f := 27) (id := 6) (inn := ⟨[(0, 0)], [(.cons (.lf (.int .i64)) (.cons (.lf (.int .i64)) (.cons (.lf .str) (.cons (.lf (.sl 9)) (.cons (.lf (.sl 9)) (.cons (.lf (.sl 3)) (.cons (.lf (.int .i64)) .nil)))))))], [(1, (.ptr 0 0 0)), (3, (.lf (.int .i64)))]⟩) (outs := [(.ret, ⟨[(0, 0)], [(.cons (.lf (.int .i64)) (.cons (.lf (.int .i64)) (.cons (.lf .str) (.cons (.lf (.sl 9)) (.cons (.lf (.sl 9)) (.cons (.lf (.sl 3)) (.cons (.lf (.int .i64)) .nil)))))))], [(1, (.ptr 0 0 0)), (2, (.lf .bool))]⟩), (.exit 0, ⟨[(0, 0)], [(.cons (.lf (.int .i64)) (.cons (.lf (.int .i64)) (.cons (.lf .str) (.cons (.lf (.sl 9)) (.cons (.lf (.sl 9)) (.cons (.lf (.sl 3)) (.cons (.lf (.int .i64)) .nil)))))))], [(1, (.ptr 0 0 0))]⟩)]) (g := fun n (v : (((Int × Int × ByteArray × List D × List D × List D × Int × Unit) × Unit) × (Unit × Int × Unit))) => ref21_Valid_L6 fu n v.1.1.1 v.1.1.2.1 v.1.1.2.2.1 v.1.1.2.2.2.1 v.1.1.2.2.2.2.1 v.1.1.2.2.2.2.2.1 v.1.1.2.2.2.2.2.2.1 v.2.2.1) (.f (e_ref06_Name_ok fu) (.f (e_ref06_Valid_ok fu) .nil)) (by kernel_rfl) (fun v => rfl) (fun n v => by kernel_rfl) fu

noncomputable def ref21_Country (x0 : ByteArray) : Option (Bool) :=
  (bif ((((ByteArray.size x0) : Nat) : Int) == (2 : Int)) then
   (if ((Int.toNat (0 : Int)) < (ByteArray.size x0)) then
    (bif (decide ((chr x0 (Int.toNat (0 : Int))) ≥ (97 : Int))) then
     (if ((Int.toNat (0 : Int)) < (ByteArray.size x0)) then
      (bif (decide ((chr x0 (Int.toNat (0 : Int))) ≤ (122 : Int))) then
       (if ((Int.toNat (1 : Int)) < (ByteArray.size x0)) then
        (bif (decide ((chr x0 (Int.toNat (1 : Int))) ≥ (97 : Int))) then
         (if ((Int.toNat (1 : Int)) < (ByteArray.size x0)) then
          some (decide ((chr x0 (Int.toNat (1 : Int))) ≤ (122 : Int)))
         else
          none)
        else
         some false)
       else
        none)
      else
       some false)
     else
      none)
    else
     some false)
   else
    none)
  else
   some false)

noncomputable def e_ref21_Country : FE := ⟨77, (.cons (.lf .str) .nil), [], (.lf .bool), [], fun (a : (ByteArray × Unit)) (p : Unit) => ref21_Country a.1⟩

theorem e_ref21_Country_ok : (e_ref21_Country).ok E0 := FE.rule .nil fun a p => by kernel_rfl

noncomputable def ref21_Valid_L11 (fu : Nat) : Nat → Int → Int → ByteArray → List D → List D → List D → Int → Int → Option (((((Int × Int × ByteArray × List D × List D × List D × Int × Unit) × Unit) × (Unit × Bool × Unit)) ⊕ (((Int × Int × ByteArray × List D × List D × List D × Int × Unit) × Unit) × (Unit × Unit))))
  | 0, _, _, _, _, _, _, _, _ => none
  | n + 1, x0, x1, x2, x3, x4, x5, x6, x7 =>
    (bif (decide (x7 < (((List.length x4) : Nat) : Int))) then
     ((nat? x7).bind fun (v613 : Nat) =>
      (if (v613 < (List.length x4)) then
       ((rdS x4 v613).bind fun (v614 : ByteArray) =>
        ((ref21_Country v614).bind fun (v615 : Bool) =>
         (bif (!v615) then
          some (.inl ((((x0, x1, x2, x3, x4, x5, x6, ()), ()), ((), false, ()))))
         else
          ref21_Valid_L11 fu n x0 x1 x2 x3 x4 x5 x6 (w64 (x7 + (1 : Int))))))
      else
       none))
    else
     some (.inr ((((x0, x1, x2, x3, x4, x5, x6, ()), ()), ((), ())))))

noncomputable def l_ref21_Valid_L11 (fu : Nat) : LE := ⟨27, 11, ⟨[(0, 0)], [(.cons (.lf (.int .i64)) (.cons (.lf (.int .i64)) (.cons (.lf .str) (.cons (.lf (.sl 9)) (.cons (.lf (.sl 9)) (.cons (.lf (.sl 3)) (.cons (.lf (.int .i64)) .nil)))))))], [(1, (.ptr 0 0 0)), (4, (.lf (.int .i64)))]⟩, [(.ret, ⟨[(0, 0)], [(.cons (.lf (.int .i64)) (.cons (.lf (.int .i64)) (.cons (.lf .str) (.cons (.lf (.sl 9)) (.cons (.lf (.sl 9)) (.cons (.lf (.sl 3)) (.cons (.lf (.int .i64)) .nil)))))))], [(1, (.ptr 0 0 0)), (2, (.lf .bool))]⟩), (.exit 2, ⟨[(0, 0)], [(.cons (.lf (.int .i64)) (.cons (.lf (.int .i64)) (.cons (.lf .str) (.cons (.lf (.sl 9)) (.cons (.lf (.sl 9)) (.cons (.lf (.sl 3)) (.cons (.lf (.int .i64)) .nil)))))))], [(1, (.ptr 0 0 0))]⟩)], fun (v : (((Int × Int × ByteArray × List D × List D × List D × Int × Unit) × Unit) × (Unit × Int × Unit))) => ref21_Valid_L11 fu fu v.1.1.1 v.1.1.2.1 v.1.1.2.2.1 v.1.1.2.2.2.1 v.1.1.2.2.2.2.1 v.1.1.2.2.2.2.2.1 v.1.1.2.2.2.2.2.2.1 v.2.2.1⟩

theorem l_ref21_Valid_L11_ok (fu : Nat) : (l_ref21_Valid_L11 fu).ok E0 := LE.rule (f := 27) (id := 11) (inn := ⟨[(0, 0)], [(.cons (.lf (.int .i64)) (.cons (.lf (.int .i64)) (.cons (.lf .str) (.cons (.lf (.sl 9)) (.cons (.lf (.sl 9)) (.cons (.lf (.sl 3)) (.cons (.lf (.int .i64)) .nil)))))))], [(1, (.ptr 0 0 0)), (4, (.lf (.int .i64)))]⟩) (outs := [(.ret, ⟨[(0, 0)], [(.cons (.lf (.int .i64)) (.cons (.lf (.int .i64)) (.cons (.lf .str) (.cons (.lf (.sl 9)) (.cons (.lf (.sl 9)) (.cons (.lf (.sl 3)) (.cons (.lf (.int .i64)) .nil)))))))], [(1, (.ptr 0 0 0)), (2, (.lf .bool))]⟩), (.exit 2, ⟨[(0, 0)], [(.cons (.lf (.int .i64)) (.cons (.lf (.int .i64)) (.cons (.lf .str) (.cons (.lf (.sl 9)) (.cons (.lf (.sl 9)) (.cons (.lf (.sl 3)) (.cons (.lf (.int .i64)) .nil)))))))], [(1, (.ptr 0 0 0))]⟩)]) (g := fun n (v : (((Int × Int × ByteArray × List D × List D × List D × Int × Unit) × Unit) × (Unit × Int × Unit))) => ref21_Valid_L11 fu n v.1.1.1 v.1.1.2.1 v.1.1.2.2.1 v.1.1.2.2.2.1 v.1.1.2.2.2.2.1 v.1.1.2.2.2.2.2.1 v.1.1.2.2.2.2.2.2.1 v.2.2.1) (.f (e_ref21_Country_ok) (.f (e_ref06_Name_ok fu) (.f (e_ref06_Valid_ok fu) .nil))) (by kernel_rfl) (fun v => rfl) (fun n v => by kernel_rfl) fu

noncomputable def ref21_Valid_L16 (fu : Nat) : Nat → Int → Int → ByteArray → List D → List D → List D → Int → Int → Option (((((Int × Int × ByteArray × List D × List D × List D × Int × Unit) × Unit) × (Unit × Bool × Unit)) ⊕ (((Int × Int × ByteArray × List D × List D × List D × Int × Unit) × Unit) × (Unit × Unit))))
  | 0, _, _, _, _, _, _, _, _ => none
  | n + 1, x0, x1, x2, x3, x4, x5, x6, x7 =>
    (bif (decide (x7 < (((List.length x5) : Nat) : Int))) then
     ((nat? x7).bind fun (v623 : Nat) =>
      (if (v623 < (List.length x5)) then
       ((rdI .i64 x5 v623).bind fun (v624 : Int) =>
        (bif (decide (v624 < (0 : Int))) then
         some (.inl ((((x0, x1, x2, x3, x4, x5, x6, ()), ()), ((), false, ()))))
        else
         ((nat? x7).bind fun (v625 : Nat) =>
          (if (v625 < (List.length x5)) then
           ((rdI .i64 x5 v625).bind fun (v626 : Int) =>
            (bif (decide (v626 ≥ (64 : Int))) then
             some (.inl ((((x0, x1, x2, x3, x4, x5, x6, ()), ()), ((), false, ()))))
            else
             (bif (decide (x7 > (0 : Int))) then
              ((nat? x7).bind fun (v627 : Nat) =>
               (if (v627 < (List.length x5)) then
                ((rdI .i64 x5 v627).bind fun (v628 : Int) =>
                 ((nat? (w64 (x7 - (1 : Int)))).bind fun (v629 : Nat) =>
                  (if (v629 < (List.length x5)) then
                   ((rdI .i64 x5 v629).bind fun (v630 : Int) =>
                    (bif (decide (v628 ≤ v630)) then
                     some (.inl ((((x0, x1, x2, x3, x4, x5, x6, ()), ()), ((), false, ()))))
                    else
                     ref21_Valid_L16 fu n x0 x1 x2 x3 x4 x5 x6 (w64 (x7 + (1 : Int)))))
                  else
                   none)))
               else
                none))
             else
              ref21_Valid_L16 fu n x0 x1 x2 x3 x4 x5 x6 (w64 (x7 + (1 : Int))))))
          else
           none))))
      else
       none))
    else
     some (.inr ((((x0, x1, x2, x3, x4, x5, x6, ()), ()), ((), ())))))

noncomputable def l_ref21_Valid_L16 (fu : Nat) : LE := ⟨27, 16, ⟨[(0, 0)], [(.cons (.lf (.int .i64)) (.cons (.lf (.int .i64)) (.cons (.lf .str) (.cons (.lf (.sl 9)) (.cons (.lf (.sl 9)) (.cons (.lf (.sl 3)) (.cons (.lf (.int .i64)) .nil)))))))], [(1, (.ptr 0 0 0)), (5, (.lf (.int .i64)))]⟩, [(.ret, ⟨[(0, 0)], [(.cons (.lf (.int .i64)) (.cons (.lf (.int .i64)) (.cons (.lf .str) (.cons (.lf (.sl 9)) (.cons (.lf (.sl 9)) (.cons (.lf (.sl 3)) (.cons (.lf (.int .i64)) .nil)))))))], [(1, (.ptr 0 0 0)), (2, (.lf .bool))]⟩), (.exit 4, ⟨[(0, 0)], [(.cons (.lf (.int .i64)) (.cons (.lf (.int .i64)) (.cons (.lf .str) (.cons (.lf (.sl 9)) (.cons (.lf (.sl 9)) (.cons (.lf (.sl 3)) (.cons (.lf (.int .i64)) .nil)))))))], [(1, (.ptr 0 0 0))]⟩)], fun (v : (((Int × Int × ByteArray × List D × List D × List D × Int × Unit) × Unit) × (Unit × Int × Unit))) => ref21_Valid_L16 fu fu v.1.1.1 v.1.1.2.1 v.1.1.2.2.1 v.1.1.2.2.2.1 v.1.1.2.2.2.2.1 v.1.1.2.2.2.2.2.1 v.1.1.2.2.2.2.2.2.1 v.2.2.1⟩

theorem l_ref21_Valid_L16_ok (fu : Nat) : (l_ref21_Valid_L16 fu).ok E0 := LE.rule (f := 27) (id := 16) (inn := ⟨[(0, 0)], [(.cons (.lf (.int .i64)) (.cons (.lf (.int .i64)) (.cons (.lf .str) (.cons (.lf (.sl 9)) (.cons (.lf (.sl 9)) (.cons (.lf (.sl 3)) (.cons (.lf (.int .i64)) .nil)))))))], [(1, (.ptr 0 0 0)), (5, (.lf (.int .i64)))]⟩) (outs := [(.ret, ⟨[(0, 0)], [(.cons (.lf (.int .i64)) (.cons (.lf (.int .i64)) (.cons (.lf .str) (.cons (.lf (.sl 9)) (.cons (.lf (.sl 9)) (.cons (.lf (.sl 3)) (.cons (.lf (.int .i64)) .nil)))))))], [(1, (.ptr 0 0 0)), (2, (.lf .bool))]⟩), (.exit 4, ⟨[(0, 0)], [(.cons (.lf (.int .i64)) (.cons (.lf (.int .i64)) (.cons (.lf .str) (.cons (.lf (.sl 9)) (.cons (.lf (.sl 9)) (.cons (.lf (.sl 3)) (.cons (.lf (.int .i64)) .nil)))))))], [(1, (.ptr 0 0 0))]⟩)]) (g := fun n (v : (((Int × Int × ByteArray × List D × List D × List D × Int × Unit) × Unit) × (Unit × Int × Unit))) => ref21_Valid_L16 fu n v.1.1.1 v.1.1.2.1 v.1.1.2.2.1 v.1.1.2.2.2.1 v.1.1.2.2.2.2.1 v.1.1.2.2.2.2.2.1 v.1.1.2.2.2.2.2.2.1 v.2.2.1) (.f (e_ref06_Name_ok fu) (.f (e_ref06_Valid_ok fu) (.f (e_ref21_Country_ok) .nil))) (by kernel_rfl) (fun v => rfl) (fun n v => by kernel_rfl) fu

noncomputable def ref21_ascend_L2 (fu : Nat) : Nat → List D → Int → Option (((Unit × (Bool × Unit)) ⊕ (Unit × Unit)))
  | 0, _, _ => none
  | n + 1, x0, x1 =>
    (bif (decide (x1 < (((List.length x0) : Nat) : Int))) then
     ((nat? x1).bind fun (v641 : Nat) =>
      (if (v641 < (List.length x0)) then
       ((rdS x0 v641).bind fun (v642 : ByteArray) =>
        ((nat? (w64 (x1 - (1 : Int)))).bind fun (v643 : Nat) =>
         (if (v643 < (List.length x0)) then
          ((rdS x0 v643).bind fun (v644 : ByteArray) =>
           (bif ((Go.Eng.slt v642 v644) || (Go.Eng.seq v642 v644)) then
            some (.inl (((), (false, ()))))
           else
            ref21_ascend_L2 fu n x0 (w64 (x1 + (1 : Int)))))
         else
          none)))
      else
       none))
    else
     some (.inr (((), ()))))

noncomputable def l_ref21_ascend_L2 (fu : Nat) : LE := ⟨78, 2, ⟨[], [], [(0, (.lf (.sl 9))), (3, (.lf (.int .i64)))]⟩, [(.ret, ⟨[], [], [(2, (.lf .bool))]⟩), (.exit 0, ⟨[], [], []⟩)], fun (v : (Unit × (List D × Int × Unit))) => ref21_ascend_L2 fu fu v.2.1 v.2.2.1⟩

theorem l_ref21_ascend_L2_ok (fu : Nat) : (l_ref21_ascend_L2 fu).ok E0 := LE.rule (f := 78) (id := 2) (inn := ⟨[], [], [(0, (.lf (.sl 9))), (3, (.lf (.int .i64)))]⟩) (outs := [(.ret, ⟨[], [], [(2, (.lf .bool))]⟩), (.exit 0, ⟨[], [], []⟩)]) (g := fun n (v : (Unit × (List D × Int × Unit))) => ref21_ascend_L2 fu n v.2.1 v.2.2.1) .nil (by kernel_rfl) (fun v => rfl) (fun n v => by kernel_rfl) fu

noncomputable def ref21_ascend (fu : Nat) (x0 : List D) : Option (Bool) :=
  ((ref21_ascend_L2 fu fu x0 (1 : Int)).bind fun (v645 : ((Unit × (Bool × Unit)) ⊕ (Unit × Unit))) =>
   (match v645 with
   | .inl v646 =>
     some v646.2.1
   | .inr v647 =>
     some true))

noncomputable def e_ref21_ascend (fu : Nat) : FE := ⟨78, (.cons (.lf (.sl 9)) .nil), [], (.lf .bool), [], fun (a : (List D × Unit)) (p : Unit) => ref21_ascend fu a.1⟩

theorem e_ref21_ascend_ok (fu : Nat) : (e_ref21_ascend fu).ok E0 := FE.rule (.l (l_ref21_ascend_L2_ok fu) .nil) fun a p => by kernel_rfl

noncomputable def ref21_Valid (fu : Nat) (x0 : Int) (x1 : Int) (x2 : ByteArray) (x3 : List D) (x4 : List D) (x5 : List D) (x6 : Int) : Option (Bool) :=
  (bif (decide (x0 < (0 : Int))) then
   some false
  else
   (bif (decide (x0 > (1099511627776 : Int))) then
    some false
   else
    (bif (decide (x1 < (0 : Int))) then
     some false
    else
     (bif (decide (x1 > (1099511627777 : Int))) then
      some false
     else
      (bif (decide (x6 < (0 : Int))) then
       some false
      else
       (bif (decide (x6 > (1073741824 : Int))) then
        some false
       else
        (bif (!(Go.Eng.seq x2 (bs []))) then
         ((ref06_Valid fu x2).bind fun (v648 : Bool) =>
          (bif (!v648) then
           some false
          else
           (bif (decide ((((List.length x3) : Nat) : Int) > (32 : Int))) then
            some false
           else
            (bif (decide ((((List.length x4) : Nat) : Int) > (32 : Int))) then
             some false
            else
             (bif (decide ((((List.length x5) : Nat) : Int) > (64 : Int))) then
              some false
             else
              ((ref21_Valid_L6 fu fu x0 x1 x2 x3 x4 x5 x6 (0 : Int)).bind fun (v649 : ((((Int × Int × ByteArray × List D × List D × List D × Int × Unit) × Unit) × (Unit × Bool × Unit)) ⊕ (((Int × Int × ByteArray × List D × List D × List D × Int × Unit) × Unit) × (Unit × Unit)))) =>
               (match v649 with
               | .inl v650 =>
                 some v650.2.2.1
               | .inr v651 =>
                 ((ref21_Valid_L11 fu fu v651.1.1.1 v651.1.1.2.1 v651.1.1.2.2.1 v651.1.1.2.2.2.1 v651.1.1.2.2.2.2.1 v651.1.1.2.2.2.2.2.1 v651.1.1.2.2.2.2.2.2.1 (0 : Int)).bind fun (v652 : ((((Int × Int × ByteArray × List D × List D × List D × Int × Unit) × Unit) × (Unit × Bool × Unit)) ⊕ (((Int × Int × ByteArray × List D × List D × List D × Int × Unit) × Unit) × (Unit × Unit)))) =>
                  (match v652 with
                  | .inl v653 =>
                    some v653.2.2.1
                  | .inr v654 =>
                    ((ref21_Valid_L16 fu fu v654.1.1.1 v654.1.1.2.1 v654.1.1.2.2.1 v654.1.1.2.2.2.1 v654.1.1.2.2.2.2.1 v654.1.1.2.2.2.2.2.1 v654.1.1.2.2.2.2.2.2.1 (0 : Int)).bind fun (v655 : ((((Int × Int × ByteArray × List D × List D × List D × Int × Unit) × Unit) × (Unit × Bool × Unit)) ⊕ (((Int × Int × ByteArray × List D × List D × List D × Int × Unit) × Unit) × (Unit × Unit)))) =>
                     (match v655 with
                     | .inl v656 =>
                       some v656.2.2.1
                     | .inr v657 =>
                       ((ref21_ascend fu v657.1.1.2.2.2.1).bind fun (v658 : Bool) =>
                        (bif v658 then
                         ((ref21_ascend fu v657.1.1.2.2.2.2.1).bind fun (v659 : Bool) =>
                          some v659)
                        else
                         some false)))))))))))))
        else
         (bif (decide ((((List.length x3) : Nat) : Int) > (32 : Int))) then
          some false
         else
          (bif (decide ((((List.length x4) : Nat) : Int) > (32 : Int))) then
           some false
          else
           (bif (decide ((((List.length x5) : Nat) : Int) > (64 : Int))) then
            some false
           else
            ((ref21_Valid_L6 fu fu x0 x1 x2 x3 x4 x5 x6 (0 : Int)).bind fun (v660 : ((((Int × Int × ByteArray × List D × List D × List D × Int × Unit) × Unit) × (Unit × Bool × Unit)) ⊕ (((Int × Int × ByteArray × List D × List D × List D × Int × Unit) × Unit) × (Unit × Unit)))) =>
             (match v660 with
             | .inl v661 =>
               some v661.2.2.1
             | .inr v662 =>
               ((ref21_Valid_L11 fu fu v662.1.1.1 v662.1.1.2.1 v662.1.1.2.2.1 v662.1.1.2.2.2.1 v662.1.1.2.2.2.2.1 v662.1.1.2.2.2.2.2.1 v662.1.1.2.2.2.2.2.2.1 (0 : Int)).bind fun (v663 : ((((Int × Int × ByteArray × List D × List D × List D × Int × Unit) × Unit) × (Unit × Bool × Unit)) ⊕ (((Int × Int × ByteArray × List D × List D × List D × Int × Unit) × Unit) × (Unit × Unit)))) =>
                (match v663 with
                | .inl v664 =>
                  some v664.2.2.1
                | .inr v665 =>
                  ((ref21_Valid_L16 fu fu v665.1.1.1 v665.1.1.2.1 v665.1.1.2.2.1 v665.1.1.2.2.2.1 v665.1.1.2.2.2.2.1 v665.1.1.2.2.2.2.2.1 v665.1.1.2.2.2.2.2.2.1 (0 : Int)).bind fun (v666 : ((((Int × Int × ByteArray × List D × List D × List D × Int × Unit) × Unit) × (Unit × Bool × Unit)) ⊕ (((Int × Int × ByteArray × List D × List D × List D × Int × Unit) × Unit) × (Unit × Unit)))) =>
                   (match v666 with
                   | .inl v667 =>
                     some v667.2.2.1
                   | .inr v668 =>
                     ((ref21_ascend fu v668.1.1.2.2.2.1).bind fun (v669 : Bool) =>
                      (bif v669 then
                       ((ref21_ascend fu v668.1.1.2.2.2.2.1).bind fun (v670 : Bool) =>
                        some v670)
                      else
                       some false))))))))))))))))))

noncomputable def e_ref21_Valid (fu : Nat) : FE := ⟨27, (.cons (.agg [(.int .i64), (.int .i64), .str, (.sl 9), (.sl 9), (.sl 3), (.int .i64)]) .nil), [], (.lf .bool), [], fun (a : ((Int × Int × ByteArray × List D × List D × List D × Int × Unit) × Unit)) (p : Unit) => ref21_Valid fu a.1.1 a.1.2.1 a.1.2.2.1 a.1.2.2.2.1 a.1.2.2.2.2.1 a.1.2.2.2.2.2.1 a.1.2.2.2.2.2.2.1⟩

theorem e_ref21_Valid_ok (fu : Nat) : (e_ref21_Valid fu).ok E0 := FE.rule (.f (e_ref06_Valid_ok fu) (.f (e_ref21_ascend_ok fu) (.f (e_ref06_Name_ok fu) (.f (e_ref21_Country_ok) (.l (l_ref21_Valid_L6_ok fu) (.l (l_ref21_Valid_L11_ok fu) (.l (l_ref21_Valid_L16_ok fu) .nil))))))) fun a p => by kernel_rfl

noncomputable def ref06_suffix (x0 : ByteArray) : Option (Bool) :=
  (bif (decide ((((ByteArray.size x0) : Nat) : Int) > (1 : Int))) then
   (if ((Int.toNat (0 : Int)) < (ByteArray.size x0)) then
    some ((chr x0 (Int.toNat (0 : Int))) == (42 : Int))
   else
    none)
  else
   some false)

noncomputable def e_ref06_suffix : FE := ⟨140, (.cons (.lf .str) .nil), [], (.lf .bool), [], fun (a : (ByteArray × Unit)) (p : Unit) => ref06_suffix a.1⟩

theorem e_ref06_suffix_ok : (e_ref06_suffix).ok E0 := FE.rule .nil fun a p => by kernel_rfl

noncomputable def ref06_ends (fu : Nat) (x0 : ByteArray) (x1 : ByteArray) : Option (Bool) :=
  (bif (decide ((((ByteArray.size x1) : Nat) : Int) > (w64 ((((ByteArray.size x0) : Nat) : Int) - (1 : Int))))) then
   ((nat? (w64 ((((ByteArray.size x1) : Nat) : Int) - (w64 ((((ByteArray.size x0) : Nat) : Int) - (1 : Int)))))).bind fun (v681 : Nat) =>
    (if ((v681 ≤ (ByteArray.size x1)) ∧ ((ByteArray.size x1) ≤ (ByteArray.size x1))) then
     (if (((Int.toNat (1 : Int)) ≤ (ByteArray.size x0)) ∧ ((ByteArray.size x0) ≤ (ByteArray.size x0))) then
      some (Go.Eng.seq (ByteArray.extract x1 v681 (ByteArray.size x1)) (ByteArray.extract x0 (Int.toNat (1 : Int)) (ByteArray.size x0)))
     else
      none)
    else
     none))
  else
   some false)

noncomputable def e_ref06_ends (fu : Nat) : FE := ⟨141, (.cons (.lf .str) (.cons (.lf .str) .nil)), [], (.lf .bool), [], fun (a : (ByteArray × ByteArray × Unit)) (p : Unit) => ref06_ends fu a.1 a.2.1⟩

theorem e_ref06_ends_ok (fu : Nat) : (e_ref06_ends fu).ok E0 := FE.rule .nil fun a p => by kernel_rfl

noncomputable def ref06_covers (fu : Nat) (x0 : ByteArray) (x1 : ByteArray) : Option (Bool) :=
  (bif (Go.Eng.seq x0 (bs [42])) then
   some true
  else
   (bif (Go.Eng.seq x0 x1) then
    some true
   else
    ((ref06_suffix x0).bind fun (v682 : Bool) =>
     (bif (!v682) then
      some false
     else
      (bif (Go.Eng.seq x1 (bs [42])) then
       some false
      else
       ((ref06_suffix x1).bind fun (v683 : Bool) =>
        (bif v683 then
         (if (((Int.toNat (1 : Int)) ≤ (ByteArray.size x1)) ∧ ((ByteArray.size x1) ≤ (ByteArray.size x1))) then
          (if (((ByteArray.size (bs [97])) + (ByteArray.size (ByteArray.extract x1 (Int.toNat (1 : Int)) (ByteArray.size x1)))) ≤ 9223372036854775807) then
           ((ref06_ends fu x0 ((bs [97]) ++ (ByteArray.extract x1 (Int.toNat (1 : Int)) (ByteArray.size x1)))).bind fun (v684 : Bool) =>
            some v684)
          else
           none)
         else
          none)
        else
         ((ref06_ends fu x0 x1).bind fun (v685 : Bool) =>
          some v685))))))))

noncomputable def e_ref06_covers (fu : Nat) : FE := ⟨106, (.cons (.lf .str) (.cons (.lf .str) .nil)), [], (.lf .bool), [], fun (a : (ByteArray × ByteArray × Unit)) (p : Unit) => ref06_covers fu a.1 a.2.1⟩

theorem e_ref06_covers_ok (fu : Nat) : (e_ref06_covers fu).ok E0 := FE.rule (.f (e_ref06_suffix_ok) (.f (e_ref06_ends_ok fu) .nil)) fun a p => by kernel_rfl

noncomputable def ref06_meets (fu : Nat) (x0 : ByteArray) (x1 : ByteArray) : Option (Bool) :=
  ((ref06_covers fu x0 x1).bind fun (v686 : Bool) =>
   (bif v686 then
    some true
   else
    ((ref06_covers fu x1 x0).bind fun (v687 : Bool) =>
     (bif v687 then
      some true
     else
      some false))))

noncomputable def e_ref06_meets (fu : Nat) : FE := ⟨175, (.cons (.lf .str) (.cons (.lf .str) .nil)), [], (.lf .bool), [], fun (a : (ByteArray × ByteArray × Unit)) (p : Unit) => ref06_meets fu a.1 a.2.1⟩

theorem e_ref06_meets_ok (fu : Nat) : (e_ref06_meets fu).ok E0 := FE.rule (.f (e_ref06_covers_ok fu) .nil) fun a p => by kernel_rfl

noncomputable def ref06_Meet_L10 (fu : Nat) : Nat → Bool → Int → ByteArray → List D → Bool → ByteArray → List D → Bool → Int → Option (((((Bool × Int × Unit) × Unit) × (Unit × Unit)) ⊕ (((Bool × Int × Unit) × Unit) × (Unit × Unit))))
  | 0, _, _, _, _, _, _, _, _, _ => none
  | n + 1, x0, x1, x2, x3, x4, x5, x6, x7, x8 =>
    (bif (decide (x8 < (((List.length x3) : Nat) : Int))) then
     (bif (decide (x8 < (((List.length x6) : Nat) : Int))) then
      ((nat? x8).bind fun (v688 : Nat) =>
       (if (v688 < (List.length x3)) then
        ((rdS x3 v688).bind fun (v689 : ByteArray) =>
         ((nat? x8).bind fun (v690 : Nat) =>
          (if (v690 < (List.length x6)) then
           ((rdS x6 v690).bind fun (v691 : ByteArray) =>
            ((ref06_meets fu v689 v691).bind fun (v692 : Bool) =>
             (bif (!v692) then
              some (.inl ((((false, (0 : Int), ()), ()), ((), ()))))
             else
              ref06_Meet_L10 fu n x0 x1 x2 x3 x4 x5 x6 x7 (w64 (x8 + (1 : Int))))))
          else
           none)))
       else
        none))
     else
      some (.inr ((((x0, x1, ()), ()), ((), ())))))
    else
     some (.inr ((((x0, x1, ()), ()), ((), ())))))

noncomputable def l_ref06_Meet_L10 (fu : Nat) : LE := ⟨137, 10, ⟨[(0, 0), (1005, 0), (2005, 0)], [(.cons (.lf .bool) (.cons (.lf (.int .i64)) .nil)), (.cons (.lf .str) (.cons (.lf (.sl 9)) (.cons (.lf .bool) .nil))), (.cons (.lf .str) (.cons (.lf (.sl 9)) (.cons (.lf .bool) .nil)))], [(4, (.ptr 0 0 0)), (5, (.ptr 1005 0 0)), (7, (.ptr 2005 0 0)), (9, (.lf (.int .i64)))]⟩, [(.ret, ⟨[(0, 0)], [(.cons (.lf .bool) (.cons (.lf (.int .i64)) .nil))], [(4, (.ptr 0 0 0))]⟩), (.exit 0, ⟨[(0, 0)], [(.cons (.lf .bool) (.cons (.lf (.int .i64)) .nil))], [(4, (.ptr 0 0 0))]⟩)], fun (v : (((Bool × Int × Unit) × (ByteArray × List D × Bool × Unit) × (ByteArray × List D × Bool × Unit) × Unit) × (Unit × Unit × Unit × Int × Unit))) => ref06_Meet_L10 fu fu v.1.1.1 v.1.1.2.1 v.1.2.1.1 v.1.2.1.2.1 v.1.2.1.2.2.1 v.1.2.2.1.1 v.1.2.2.1.2.1 v.1.2.2.1.2.2.1 v.2.2.2.2.1⟩

theorem l_ref06_Meet_L10_ok (fu : Nat) : (l_ref06_Meet_L10 fu).ok E0 := LE.rule (f := 137) (id := 10) (inn := ⟨[(0, 0), (1005, 0), (2005, 0)], [(.cons (.lf .bool) (.cons (.lf (.int .i64)) .nil)), (.cons (.lf .str) (.cons (.lf (.sl 9)) (.cons (.lf .bool) .nil))), (.cons (.lf .str) (.cons (.lf (.sl 9)) (.cons (.lf .bool) .nil)))], [(4, (.ptr 0 0 0)), (5, (.ptr 1005 0 0)), (7, (.ptr 2005 0 0)), (9, (.lf (.int .i64)))]⟩) (outs := [(.ret, ⟨[(0, 0)], [(.cons (.lf .bool) (.cons (.lf (.int .i64)) .nil))], [(4, (.ptr 0 0 0))]⟩), (.exit 0, ⟨[(0, 0)], [(.cons (.lf .bool) (.cons (.lf (.int .i64)) .nil))], [(4, (.ptr 0 0 0))]⟩)]) (g := fun n (v : (((Bool × Int × Unit) × (ByteArray × List D × Bool × Unit) × (ByteArray × List D × Bool × Unit) × Unit) × (Unit × Unit × Unit × Int × Unit))) => ref06_Meet_L10 fu n v.1.1.1 v.1.1.2.1 v.1.2.1.1 v.1.2.1.2.1 v.1.2.1.2.2.1 v.1.2.2.1.1 v.1.2.2.1.2.1 v.1.2.2.1.2.2.1 v.2.2.2.2.1) (.f (e_ref06_meets_ok fu) (.f (e_ref06_Compile_ok fu) .nil)) (by kernel_rfl) (fun v => rfl) (fun n v => by kernel_rfl) fu

noncomputable def ref06_Meet (fu : Nat) (x0 : ByteArray) (x1 : ByteArray) : Option ((Bool × Int × Unit)) :=
  ((ref06_Compile fu x0).bind fun (v693 : ((ByteArray × List D × Bool × Unit) × Bool × Unit)) =>
   ((ref06_Compile fu x1).bind fun (v694 : ((ByteArray × List D × Bool × Unit) × Bool × Unit)) =>
    (bif (!v693.2.1) then
     some (false, (1 : Int), ())
    else
     (bif (!v694.2.1) then
      some (false, (1 : Int), ())
     else
      (bif (!(Go.Eng.seq v693.1.1 (bs [42]))) then
       (bif (!(Go.Eng.seq v694.1.1 (bs [42]))) then
        (bif (!(Go.Eng.seq v693.1.1 v694.1.1)) then
         some (false, (0 : Int), ())
        else
         (bif (decide ((((List.length v693.1.2.1) : Nat) : Int) < (((List.length v694.1.2.1) : Nat) : Int))) then
          (bif (!v693.1.2.2.1) then
           some (false, (0 : Int), ())
          else
           (bif (decide ((((List.length v694.1.2.1) : Nat) : Int) < (((List.length v693.1.2.1) : Nat) : Int))) then
            (bif (!v694.1.2.2.1) then
             some (false, (0 : Int), ())
            else
             ((ref06_Meet_L10 fu fu false (0 : Int) v693.1.1 v693.1.2.1 v693.1.2.2.1 v694.1.1 v694.1.2.1 v694.1.2.2.1 (0 : Int)).bind fun (v695 : ((((Bool × Int × Unit) × Unit) × (Unit × Unit)) ⊕ (((Bool × Int × Unit) × Unit) × (Unit × Unit)))) =>
              (match v695 with
              | .inl v696 =>
                some (v696.1.1.1, v696.1.1.2.1, ())
              | .inr v697 =>
                some (true, (0 : Int), ()))))
           else
            ((ref06_Meet_L10 fu fu false (0 : Int) v693.1.1 v693.1.2.1 v693.1.2.2.1 v694.1.1 v694.1.2.1 v694.1.2.2.1 (0 : Int)).bind fun (v698 : ((((Bool × Int × Unit) × Unit) × (Unit × Unit)) ⊕ (((Bool × Int × Unit) × Unit) × (Unit × Unit)))) =>
             (match v698 with
             | .inl v699 =>
               some (v699.1.1.1, v699.1.1.2.1, ())
             | .inr v700 =>
               some (true, (0 : Int), ())))))
         else
          (bif (decide ((((List.length v694.1.2.1) : Nat) : Int) < (((List.length v693.1.2.1) : Nat) : Int))) then
           (bif (!v694.1.2.2.1) then
            some (false, (0 : Int), ())
           else
            ((ref06_Meet_L10 fu fu false (0 : Int) v693.1.1 v693.1.2.1 v693.1.2.2.1 v694.1.1 v694.1.2.1 v694.1.2.2.1 (0 : Int)).bind fun (v701 : ((((Bool × Int × Unit) × Unit) × (Unit × Unit)) ⊕ (((Bool × Int × Unit) × Unit) × (Unit × Unit)))) =>
             (match v701 with
             | .inl v702 =>
               some (v702.1.1.1, v702.1.1.2.1, ())
             | .inr v703 =>
               some (true, (0 : Int), ()))))
          else
           ((ref06_Meet_L10 fu fu false (0 : Int) v693.1.1 v693.1.2.1 v693.1.2.2.1 v694.1.1 v694.1.2.1 v694.1.2.2.1 (0 : Int)).bind fun (v704 : ((((Bool × Int × Unit) × Unit) × (Unit × Unit)) ⊕ (((Bool × Int × Unit) × Unit) × (Unit × Unit)))) =>
            (match v704 with
            | .inl v705 =>
              some (v705.1.1.1, v705.1.1.2.1, ())
            | .inr v706 =>
              some (true, (0 : Int), ()))))))
       else
        (bif (decide ((((List.length v693.1.2.1) : Nat) : Int) < (((List.length v694.1.2.1) : Nat) : Int))) then
         (bif (!v693.1.2.2.1) then
          some (false, (0 : Int), ())
         else
          (bif (decide ((((List.length v694.1.2.1) : Nat) : Int) < (((List.length v693.1.2.1) : Nat) : Int))) then
           (bif (!v694.1.2.2.1) then
            some (false, (0 : Int), ())
           else
            ((ref06_Meet_L10 fu fu false (0 : Int) v693.1.1 v693.1.2.1 v693.1.2.2.1 v694.1.1 v694.1.2.1 v694.1.2.2.1 (0 : Int)).bind fun (v707 : ((((Bool × Int × Unit) × Unit) × (Unit × Unit)) ⊕ (((Bool × Int × Unit) × Unit) × (Unit × Unit)))) =>
             (match v707 with
             | .inl v708 =>
               some (v708.1.1.1, v708.1.1.2.1, ())
             | .inr v709 =>
               some (true, (0 : Int), ()))))
          else
           ((ref06_Meet_L10 fu fu false (0 : Int) v693.1.1 v693.1.2.1 v693.1.2.2.1 v694.1.1 v694.1.2.1 v694.1.2.2.1 (0 : Int)).bind fun (v710 : ((((Bool × Int × Unit) × Unit) × (Unit × Unit)) ⊕ (((Bool × Int × Unit) × Unit) × (Unit × Unit)))) =>
            (match v710 with
            | .inl v711 =>
              some (v711.1.1.1, v711.1.1.2.1, ())
            | .inr v712 =>
              some (true, (0 : Int), ())))))
        else
         (bif (decide ((((List.length v694.1.2.1) : Nat) : Int) < (((List.length v693.1.2.1) : Nat) : Int))) then
          (bif (!v694.1.2.2.1) then
           some (false, (0 : Int), ())
          else
           ((ref06_Meet_L10 fu fu false (0 : Int) v693.1.1 v693.1.2.1 v693.1.2.2.1 v694.1.1 v694.1.2.1 v694.1.2.2.1 (0 : Int)).bind fun (v713 : ((((Bool × Int × Unit) × Unit) × (Unit × Unit)) ⊕ (((Bool × Int × Unit) × Unit) × (Unit × Unit)))) =>
            (match v713 with
            | .inl v714 =>
              some (v714.1.1.1, v714.1.1.2.1, ())
            | .inr v715 =>
              some (true, (0 : Int), ()))))
         else
          ((ref06_Meet_L10 fu fu false (0 : Int) v693.1.1 v693.1.2.1 v693.1.2.2.1 v694.1.1 v694.1.2.1 v694.1.2.2.1 (0 : Int)).bind fun (v716 : ((((Bool × Int × Unit) × Unit) × (Unit × Unit)) ⊕ (((Bool × Int × Unit) × Unit) × (Unit × Unit)))) =>
           (match v716 with
           | .inl v717 =>
             some (v717.1.1.1, v717.1.1.2.1, ())
           | .inr v718 =>
             some (true, (0 : Int), ()))))))
      else
       (bif (decide ((((List.length v693.1.2.1) : Nat) : Int) < (((List.length v694.1.2.1) : Nat) : Int))) then
        (bif (!v693.1.2.2.1) then
         some (false, (0 : Int), ())
        else
         (bif (decide ((((List.length v694.1.2.1) : Nat) : Int) < (((List.length v693.1.2.1) : Nat) : Int))) then
          (bif (!v694.1.2.2.1) then
           some (false, (0 : Int), ())
          else
           ((ref06_Meet_L10 fu fu false (0 : Int) v693.1.1 v693.1.2.1 v693.1.2.2.1 v694.1.1 v694.1.2.1 v694.1.2.2.1 (0 : Int)).bind fun (v719 : ((((Bool × Int × Unit) × Unit) × (Unit × Unit)) ⊕ (((Bool × Int × Unit) × Unit) × (Unit × Unit)))) =>
            (match v719 with
            | .inl v720 =>
              some (v720.1.1.1, v720.1.1.2.1, ())
            | .inr v721 =>
              some (true, (0 : Int), ()))))
         else
          ((ref06_Meet_L10 fu fu false (0 : Int) v693.1.1 v693.1.2.1 v693.1.2.2.1 v694.1.1 v694.1.2.1 v694.1.2.2.1 (0 : Int)).bind fun (v722 : ((((Bool × Int × Unit) × Unit) × (Unit × Unit)) ⊕ (((Bool × Int × Unit) × Unit) × (Unit × Unit)))) =>
           (match v722 with
           | .inl v723 =>
             some (v723.1.1.1, v723.1.1.2.1, ())
           | .inr v724 =>
             some (true, (0 : Int), ())))))
       else
        (bif (decide ((((List.length v694.1.2.1) : Nat) : Int) < (((List.length v693.1.2.1) : Nat) : Int))) then
         (bif (!v694.1.2.2.1) then
          some (false, (0 : Int), ())
         else
          ((ref06_Meet_L10 fu fu false (0 : Int) v693.1.1 v693.1.2.1 v693.1.2.2.1 v694.1.1 v694.1.2.1 v694.1.2.2.1 (0 : Int)).bind fun (v725 : ((((Bool × Int × Unit) × Unit) × (Unit × Unit)) ⊕ (((Bool × Int × Unit) × Unit) × (Unit × Unit)))) =>
           (match v725 with
           | .inl v726 =>
             some (v726.1.1.1, v726.1.1.2.1, ())
           | .inr v727 =>
             some (true, (0 : Int), ()))))
        else
         ((ref06_Meet_L10 fu fu false (0 : Int) v693.1.1 v693.1.2.1 v693.1.2.2.1 v694.1.1 v694.1.2.1 v694.1.2.2.1 (0 : Int)).bind fun (v728 : ((((Bool × Int × Unit) × Unit) × (Unit × Unit)) ⊕ (((Bool × Int × Unit) × Unit) × (Unit × Unit)))) =>
          (match v728 with
          | .inl v729 =>
            some (v729.1.1.1, v729.1.1.2.1, ())
          | .inr v730 =>
            some (true, (0 : Int), ()))))))))))

noncomputable def e_ref06_Meet (fu : Nat) : FE := ⟨137, (.cons (.lf .str) (.cons (.lf .str) .nil)), [], (.agg [.bool, (.int .i64)]), [], fun (a : (ByteArray × ByteArray × Unit)) (p : Unit) => ref06_Meet fu a.1 a.2.1⟩

theorem e_ref06_Meet_ok (fu : Nat) : (e_ref06_Meet fu).ok E0 := FE.rule (.f (e_ref06_Compile_ok fu) (.f (e_ref06_meets_ok fu) (.l (l_ref06_Meet_L10_ok fu) .nil))) fun a p => by kernel_rfl

noncomputable def ref06_Both_L10 (fu : Nat) : Nat → ByteArray → Bool → Int → ByteArray → List D → Bool → ByteArray → List D → Bool → ByteArray → Int → Option ((((ByteArray × Bool × Int × Unit) × (ByteArray × List D × Bool × Unit) × (ByteArray × List D × Bool × Unit) × Unit) × (Unit × Unit × Unit × ByteArray × Unit)))
  | 0, _, _, _, _, _, _, _, _, _, _, _ => none
  | n + 1, x0, x1, x2, x3, x4, x5, x6, x7, x8, x9, x10 =>
    (bif (decide (x10 < (if ((((List.length x7) : Nat) : Int) > (((List.length x4) : Nat) : Int)) then (((List.length x7) : Nat) : Int) else (((List.length x4) : Nat) : Int)))) then
     (bif (decide (x10 < (((List.length x4) : Nat) : Int))) then
      ((nat? x10).bind fun (v734 : Nat) =>
       (if (v734 < (List.length x4)) then
        ((rdS x4 v734).bind fun (v735 : ByteArray) =>
         (bif (decide (x10 < (((List.length x7) : Nat) : Int))) then
          ((nat? x10).bind fun (v736 : Nat) =>
           (if (v736 < (List.length x7)) then
            ((rdS x7 v736).bind fun (v737 : ByteArray) =>
             ((ref06_covers fu v735 v737).bind fun (v738 : Bool) =>
              (bif v738 then
               ((nat? x10).bind fun (v739 : Nat) =>
                (if (v739 < (List.length x7)) then
                 ((rdS x7 v739).bind fun (v740 : ByteArray) =>
                  (if (((ByteArray.size x9) + (ByteArray.size (bs [47]))) ≤ 9223372036854775807) then
                   (if (((ByteArray.size (x9 ++ (bs [47]))) + (ByteArray.size v740)) ≤ 9223372036854775807) then
                    ref06_Both_L10 fu n x0 x1 x2 x3 x4 x5 x6 x7 x8 ((x9 ++ (bs [47])) ++ v740) (w64 (x10 + (1 : Int)))
                   else
                    none)
                  else
                   none))
                else
                 none))
              else
               (if (((ByteArray.size x9) + (ByteArray.size (bs [47]))) ≤ 9223372036854775807) then
                (if (((ByteArray.size (x9 ++ (bs [47]))) + (ByteArray.size v735)) ≤ 9223372036854775807) then
                 ref06_Both_L10 fu n x0 x1 x2 x3 x4 x5 x6 x7 x8 ((x9 ++ (bs [47])) ++ v735) (w64 (x10 + (1 : Int)))
                else
                 none)
               else
                none))))
           else
            none))
         else
          (if (((ByteArray.size x9) + (ByteArray.size (bs [47]))) ≤ 9223372036854775807) then
           (if (((ByteArray.size (x9 ++ (bs [47]))) + (ByteArray.size v735)) ≤ 9223372036854775807) then
            ref06_Both_L10 fu n x0 x1 x2 x3 x4 x5 x6 x7 x8 ((x9 ++ (bs [47])) ++ v735) (w64 (x10 + (1 : Int)))
           else
            none)
          else
           none)))
       else
        none))
     else
      (bif (decide (x10 < (((List.length x7) : Nat) : Int))) then
       ((nat? x10).bind fun (v741 : Nat) =>
        (if (v741 < (List.length x7)) then
         ((rdS x7 v741).bind fun (v742 : ByteArray) =>
          ((nat? x10).bind fun (v743 : Nat) =>
           (if (v743 < (List.length x7)) then
            ((rdS x7 v743).bind fun (v744 : ByteArray) =>
             (if (((ByteArray.size x9) + (ByteArray.size (bs [47]))) ≤ 9223372036854775807) then
              (if (((ByteArray.size (x9 ++ (bs [47]))) + (ByteArray.size v744)) ≤ 9223372036854775807) then
               ref06_Both_L10 fu n x0 x1 x2 x3 x4 x5 x6 x7 x8 ((x9 ++ (bs [47])) ++ v744) (w64 (x10 + (1 : Int)))
              else
               none)
             else
              none))
           else
            none)))
        else
         none))
      else
       (if (((ByteArray.size x9) + (ByteArray.size (bs [47]))) ≤ 9223372036854775807) then
        (if (((ByteArray.size (x9 ++ (bs [47]))) + (ByteArray.size (bs [42]))) ≤ 9223372036854775807) then
         ref06_Both_L10 fu n x0 x1 x2 x3 x4 x5 x6 x7 x8 ((x9 ++ (bs [47])) ++ (bs [42])) (w64 (x10 + (1 : Int)))
        else
         none)
       else
        none)))
    else
     some ((((x0, x1, x2, ()), (x3, x4, x5, ()), (x6, x7, x8, ()), ()), ((), (), (), x9, ()))))

noncomputable def l_ref06_Both_L10 (fu : Nat) : LE := ⟨104, 10, ⟨[(0, 0), (4005, 0), (5005, 0)], [(.cons (.lf .str) (.cons (.lf .bool) (.cons (.lf (.int .i64)) .nil))), (.cons (.lf .str) (.cons (.lf (.sl 9)) (.cons (.lf .bool) .nil))), (.cons (.lf .str) (.cons (.lf (.sl 9)) (.cons (.lf .bool) .nil)))], [(4, (.ptr 0 0 0)), (6, (.ptr 4005 0 0)), (8, (.ptr 5005 0 0)), (10, (.lf .str)), (11, (.lf (.int .i64)))]⟩, [(.exit 0, ⟨[(0, 0), (4005, 0), (5005, 0)], [(.cons (.lf .str) (.cons (.lf .bool) (.cons (.lf (.int .i64)) .nil))), (.cons (.lf .str) (.cons (.lf (.sl 9)) (.cons (.lf .bool) .nil))), (.cons (.lf .str) (.cons (.lf (.sl 9)) (.cons (.lf .bool) .nil)))], [(4, (.ptr 0 0 0)), (6, (.ptr 4005 0 0)), (8, (.ptr 5005 0 0)), (10, (.lf .str))]⟩)], fun (v : (((ByteArray × Bool × Int × Unit) × (ByteArray × List D × Bool × Unit) × (ByteArray × List D × Bool × Unit) × Unit) × (Unit × Unit × Unit × ByteArray × Int × Unit))) => ref06_Both_L10 fu fu v.1.1.1 v.1.1.2.1 v.1.1.2.2.1 v.1.2.1.1 v.1.2.1.2.1 v.1.2.1.2.2.1 v.1.2.2.1.1 v.1.2.2.1.2.1 v.1.2.2.1.2.2.1 v.2.2.2.2.1 v.2.2.2.2.2.1⟩

theorem l_ref06_Both_L10_ok (fu : Nat) : (l_ref06_Both_L10 fu).ok E0 := LE.rule (f := 104) (id := 10) (inn := ⟨[(0, 0), (4005, 0), (5005, 0)], [(.cons (.lf .str) (.cons (.lf .bool) (.cons (.lf (.int .i64)) .nil))), (.cons (.lf .str) (.cons (.lf (.sl 9)) (.cons (.lf .bool) .nil))), (.cons (.lf .str) (.cons (.lf (.sl 9)) (.cons (.lf .bool) .nil)))], [(4, (.ptr 0 0 0)), (6, (.ptr 4005 0 0)), (8, (.ptr 5005 0 0)), (10, (.lf .str)), (11, (.lf (.int .i64)))]⟩) (outs := [(.exit 0, ⟨[(0, 0), (4005, 0), (5005, 0)], [(.cons (.lf .str) (.cons (.lf .bool) (.cons (.lf (.int .i64)) .nil))), (.cons (.lf .str) (.cons (.lf (.sl 9)) (.cons (.lf .bool) .nil))), (.cons (.lf .str) (.cons (.lf (.sl 9)) (.cons (.lf .bool) .nil)))], [(4, (.ptr 0 0 0)), (6, (.ptr 4005 0 0)), (8, (.ptr 5005 0 0)), (10, (.lf .str))]⟩)]) (g := fun n (v : (((ByteArray × Bool × Int × Unit) × (ByteArray × List D × Bool × Unit) × (ByteArray × List D × Bool × Unit) × Unit) × (Unit × Unit × Unit × ByteArray × Int × Unit))) => ref06_Both_L10 fu n v.1.1.1 v.1.1.2.1 v.1.1.2.2.1 v.1.2.1.1 v.1.2.1.2.1 v.1.2.1.2.2.1 v.1.2.2.1.1 v.1.2.2.1.2.1 v.1.2.2.1.2.2.1 v.2.2.2.2.1 v.2.2.2.2.2.1) (.f (e_ref06_covers_ok fu) (.f (e_ref06_Compile_ok fu) (.f (e_ref06_Meet_ok fu) .nil))) (by kernel_rfl) (fun v => rfl) (fun n v => by kernel_rfl) fu

noncomputable def ref06_Both (fu : Nat) (x0 : ByteArray) (x1 : ByteArray) : Option ((ByteArray × Bool × Int × Unit)) :=
  ((ref06_Meet fu x0 x1).bind fun (v745 : (Bool × Int × Unit)) =>
   (bif (v745.2.1 != (0 : Int)) then
    some ((bs []), false, v745.2.1, ())
   else
    (bif (!v745.1) then
     some ((bs []), false, v745.2.1, ())
    else
     ((ref06_Compile fu x0).bind fun (v746 : ((ByteArray × List D × Bool × Unit) × Bool × Unit)) =>
      ((ref06_Compile fu x1).bind fun (v747 : ((ByteArray × List D × Bool × Unit) × Bool × Unit)) =>
       (bif (Go.Eng.seq v746.1.1 (bs [42])) then
        ((ref06_Both_L10 fu fu (bs []) false (0 : Int) v746.1.1 v746.1.2.1 v746.1.2.2.1 v747.1.1 v747.1.2.1 v747.1.2.2.1 v747.1.1 (0 : Int)).bind fun (v748 : (((ByteArray × Bool × Int × Unit) × (ByteArray × List D × Bool × Unit) × (ByteArray × List D × Bool × Unit) × Unit) × (Unit × Unit × Unit × ByteArray × Unit))) =>
         (bif v748.1.2.1.2.2.1 then
          (bif v748.1.2.2.1.2.2.1 then
           (if (((ByteArray.size v748.2.2.2.2.1) + (ByteArray.size (bs [47, 42, 42]))) ≤ 9223372036854775807) then
            some ((v748.2.2.2.2.1 ++ (bs [47, 42, 42])), true, (0 : Int), ())
           else
            none)
          else
           some (v748.2.2.2.2.1, true, (0 : Int), ()))
         else
          some (v748.2.2.2.2.1, true, (0 : Int), ())))
       else
        ((ref06_Both_L10 fu fu (bs []) false (0 : Int) v746.1.1 v746.1.2.1 v746.1.2.2.1 v747.1.1 v747.1.2.1 v747.1.2.2.1 v746.1.1 (0 : Int)).bind fun (v749 : (((ByteArray × Bool × Int × Unit) × (ByteArray × List D × Bool × Unit) × (ByteArray × List D × Bool × Unit) × Unit) × (Unit × Unit × Unit × ByteArray × Unit))) =>
         (bif v749.1.2.1.2.2.1 then
          (bif v749.1.2.2.1.2.2.1 then
           (if (((ByteArray.size v749.2.2.2.2.1) + (ByteArray.size (bs [47, 42, 42]))) ≤ 9223372036854775807) then
            some ((v749.2.2.2.2.1 ++ (bs [47, 42, 42])), true, (0 : Int), ())
           else
            none)
          else
           some (v749.2.2.2.2.1, true, (0 : Int), ()))
         else
          some (v749.2.2.2.2.1, true, (0 : Int), ())))))))))

noncomputable def e_ref06_Both (fu : Nat) : FE := ⟨104, (.cons (.lf .str) (.cons (.lf .str) .nil)), [], (.agg [.str, .bool, (.int .i64)]), [], fun (a : (ByteArray × ByteArray × Unit)) (p : Unit) => ref06_Both fu a.1 a.2.1⟩

theorem e_ref06_Both_ok (fu : Nat) : (e_ref06_Both fu).ok E0 := FE.rule (.f (e_ref06_Meet_ok fu) (.f (e_ref06_Compile_ok fu) (.f (e_ref06_covers_ok fu) (.l (l_ref06_Both_L10_ok fu) .nil)))) fun a p => by kernel_rfl

noncomputable def ref21_pattern (fu : Nat) (x0 : ByteArray) (x1 : ByteArray) : Option ((ByteArray × Bool × Unit)) :=
  (bif (Go.Eng.seq x0 (bs [])) then
   some (x1, true, ())
  else
   (bif (Go.Eng.seq x1 (bs [])) then
    some (x0, true, ())
   else
    ((ref06_Both fu x0 x1).bind fun (v750 : (ByteArray × Bool × Int × Unit)) =>
     some (v750.1, v750.2.1, ()))))

noncomputable def e_ref21_pattern (fu : Nat) : FE := ⟨47, (.cons (.lf .str) (.cons (.lf .str) .nil)), [], (.tup (.cons (.lf .str) (.cons (.lf .bool) .nil))), [], fun (a : (ByteArray × ByteArray × Unit)) (p : Unit) => ref21_pattern fu a.1 a.2.1⟩

theorem e_ref21_pattern_ok (fu : Nat) : (e_ref21_pattern fu).ok E0 := FE.rule (.f (e_ref06_Both_ok fu) .nil) fun a p => by kernel_rfl

noncomputable def ref21_has_L2 (fu : Nat) : Nat → List D → ByteArray → Int → Option (((Unit × (Bool × Unit)) ⊕ (Unit × Unit)))
  | 0, _, _, _ => none
  | n + 1, x0, x1, x2 =>
    (bif (decide (x2 < (((List.length x0) : Nat) : Int))) then
     ((nat? x2).bind fun (v756 : Nat) =>
      (if (v756 < (List.length x0)) then
       ((rdS x0 v756).bind fun (v757 : ByteArray) =>
        (bif (Go.Eng.seq v757 x1) then
         some (.inl (((), (true, ()))))
        else
         ref21_has_L2 fu n x0 x1 (w64 (x2 + (1 : Int)))))
      else
       none))
    else
     some (.inr (((), ()))))

noncomputable def l_ref21_has_L2 (fu : Nat) : LE := ⟨85, 2, ⟨[], [], [(0, (.lf (.sl 9))), (1, (.lf .str)), (5, (.lf (.int .i64)))]⟩, [(.ret, ⟨[], [], [(4, (.lf .bool))]⟩), (.exit 0, ⟨[], [], []⟩)], fun (v : (Unit × (List D × ByteArray × Int × Unit))) => ref21_has_L2 fu fu v.2.1 v.2.2.1 v.2.2.2.1⟩

theorem l_ref21_has_L2_ok (fu : Nat) : (l_ref21_has_L2 fu).ok E0 := LE.rule (f := 85) (id := 2) (inn := ⟨[], [], [(0, (.lf (.sl 9))), (1, (.lf .str)), (5, (.lf (.int .i64)))]⟩) (outs := [(.ret, ⟨[], [], [(4, (.lf .bool))]⟩), (.exit 0, ⟨[], [], []⟩)]) (g := fun n (v : (Unit × (List D × ByteArray × Int × Unit))) => ref21_has_L2 fu n v.2.1 v.2.2.1 v.2.2.2.1) .nil (by kernel_rfl) (fun v => rfl) (fun n v => by kernel_rfl) fu

noncomputable def ref21_has (fu : Nat) (x0 : List D) (x1 : ByteArray) : Option (Bool) :=
  ((ref21_has_L2 fu fu x0 x1 (0 : Int)).bind fun (v758 : ((Unit × (Bool × Unit)) ⊕ (Unit × Unit))) =>
   (match v758 with
   | .inl v759 =>
     some v759.2.1
   | .inr v760 =>
     some false))

noncomputable def e_ref21_has (fu : Nat) : FE := ⟨85, (.cons (.lf (.sl 9)) (.cons (.lf .str) .nil)), [], (.lf .bool), [], fun (a : (List D × ByteArray × Unit)) (p : Unit) => ref21_has fu a.1 a.2.1⟩

theorem e_ref21_has_ok (fu : Nat) : (e_ref21_has fu).ok E0 := FE.rule (.l (l_ref21_has_L2_ok fu) .nil) fun a p => by kernel_rfl

noncomputable def ref21_both_L7 (fu : Nat) : Nat → List D → List D → List D → Int → Option ((Unit × (List D × Unit)))
  | 0, _, _, _, _ => none
  | n + 1, x0, x1, x2, x3 =>
    (bif (decide (x3 < (((List.length x0) : Nat) : Int))) then
     ((nat? x3).bind fun (v761 : Nat) =>
      (if (v761 < (List.length x0)) then
       ((rdS x0 v761).bind fun (v762 : ByteArray) =>
        ((ref21_has fu x1 v762).bind fun (v763 : Bool) =>
         (bif v763 then
          ((nat? x3).bind fun (v764 : Nat) =>
           (if (v764 < (List.length x0)) then
            ((rdS x0 v764).bind fun (v765 : ByteArray) =>
             (if ((((List.length x2) + (List.length [(D.v (.string v765))])) * 16) ≤ Go.Eng.maxRow) then
              ref21_both_L7 fu n x0 x1 (x2 ++ [(D.v (.string v765))]) (w64 (x3 + (1 : Int)))
             else
              none))
           else
            none))
         else
          ref21_both_L7 fu n x0 x1 x2 (w64 (x3 + (1 : Int))))))
      else
       none))
    else
     some (((), (x2, ()))))

noncomputable def l_ref21_both_L7 (fu : Nat) : LE := ⟨48, 7, ⟨[], [], [(0, (.lf (.sl 9))), (1, (.lf (.sl 9))), (6, (.own 9)), (7, (.lf (.int .i64)))]⟩, [(.exit 0, ⟨[], [], [(6, (.own 9))]⟩)], fun (v : (Unit × (List D × List D × List D × Int × Unit))) => ref21_both_L7 fu fu v.2.1 v.2.2.1 v.2.2.2.1 v.2.2.2.2.1⟩

theorem l_ref21_both_L7_ok (fu : Nat) : (l_ref21_both_L7 fu).ok E0 := LE.rule (f := 48) (id := 7) (inn := ⟨[], [], [(0, (.lf (.sl 9))), (1, (.lf (.sl 9))), (6, (.own 9)), (7, (.lf (.int .i64)))]⟩) (outs := [(.exit 0, ⟨[], [], [(6, (.own 9))]⟩)]) (g := fun n (v : (Unit × (List D × List D × List D × Int × Unit))) => ref21_both_L7 fu n v.2.1 v.2.2.1 v.2.2.2.1 v.2.2.2.2.1) (.f (e_ref21_has_ok fu) .nil) (by kernel_rfl) (fun v => rfl) (fun n v => by kernel_rfl) fu

noncomputable def ref21_both (fu : Nat) (x0 : List D) (x1 : List D) : Option ((List D × Bool × Unit)) :=
  (bif ((((List.length x0) : Nat) : Int) == (0 : Int)) then
   some (x1, true, ())
  else
   (bif ((((List.length x1) : Nat) : Int) == (0 : Int)) then
    some (x0, true, ())
   else
    ((ref21_both_L7 fu fu x0 x1 ([] : List D) (0 : Int)).bind fun (v766 : (Unit × (List D × Unit))) =>
     some (v766.2.1, (decide ((((List.length v766.2.1) : Nat) : Int) > (0 : Int))), ()))))

noncomputable def e_ref21_both (fu : Nat) : FE := ⟨48, (.cons (.lf (.sl 9)) (.cons (.lf (.sl 9)) .nil)), [], (.tup (.cons (.lf (.sl 9)) (.cons (.lf .bool) .nil))), [], fun (a : (List D × List D × Unit)) (p : Unit) => ref21_both fu a.1 a.2.1⟩

theorem e_ref21_both_ok (fu : Nat) : (e_ref21_both fu).ok E0 := FE.rule (.f (e_ref21_has_ok fu) (.l (l_ref21_both_L7_ok fu) .nil)) fun a p => by kernel_rfl

noncomputable def ref21_site_L2 (fu : Nat) : Nat → List D → Int → Int → Option (((Unit × (Bool × Unit)) ⊕ (Unit × Unit)))
  | 0, _, _, _ => none
  | n + 1, x0, x1, x2 =>
    (bif (decide (x2 < (((List.length x0) : Nat) : Int))) then
     ((nat? x2).bind fun (v774 : Nat) =>
      (if (v774 < (List.length x0)) then
       ((rdI .i64 x0 v774).bind fun (v775 : Int) =>
        (bif (v775 == x1) then
         some (.inl (((), (true, ()))))
        else
         ref21_site_L2 fu n x0 x1 (w64 (x2 + (1 : Int)))))
      else
       none))
    else
     some (.inr (((), ()))))

noncomputable def l_ref21_site_L2 (fu : Nat) : LE := ⟨86, 2, ⟨[], [], [(0, (.lf (.sl 3))), (1, (.lf (.int .i64))), (5, (.lf (.int .i64)))]⟩, [(.ret, ⟨[], [], [(4, (.lf .bool))]⟩), (.exit 0, ⟨[], [], []⟩)], fun (v : (Unit × (List D × Int × Int × Unit))) => ref21_site_L2 fu fu v.2.1 v.2.2.1 v.2.2.2.1⟩

theorem l_ref21_site_L2_ok (fu : Nat) : (l_ref21_site_L2 fu).ok E0 := LE.rule (f := 86) (id := 2) (inn := ⟨[], [], [(0, (.lf (.sl 3))), (1, (.lf (.int .i64))), (5, (.lf (.int .i64)))]⟩) (outs := [(.ret, ⟨[], [], [(4, (.lf .bool))]⟩), (.exit 0, ⟨[], [], []⟩)]) (g := fun n (v : (Unit × (List D × Int × Int × Unit))) => ref21_site_L2 fu n v.2.1 v.2.2.1 v.2.2.2.1) .nil (by kernel_rfl) (fun v => rfl) (fun n v => by kernel_rfl) fu

noncomputable def ref21_site (fu : Nat) (x0 : List D) (x1 : Int) : Option (Bool) :=
  ((ref21_site_L2 fu fu x0 x1 (0 : Int)).bind fun (v776 : ((Unit × (Bool × Unit)) ⊕ (Unit × Unit))) =>
   (match v776 with
   | .inl v777 =>
     some v777.2.1
   | .inr v778 =>
     some false))

noncomputable def e_ref21_site (fu : Nat) : FE := ⟨86, (.cons (.lf (.sl 3)) (.cons (.lf (.int .i64)) .nil)), [], (.lf .bool), [], fun (a : (List D × Int × Unit)) (p : Unit) => ref21_site fu a.1 a.2.1⟩

theorem e_ref21_site_ok (fu : Nat) : (e_ref21_site fu).ok E0 := FE.rule (.l (l_ref21_site_L2_ok fu) .nil) fun a p => by kernel_rfl

noncomputable def ref21_common_L7 (fu : Nat) : Nat → List D → List D → List D → Int → Option ((Unit × (List D × Unit)))
  | 0, _, _, _, _ => none
  | n + 1, x0, x1, x2, x3 =>
    (bif (decide (x3 < (((List.length x0) : Nat) : Int))) then
     ((nat? x3).bind fun (v779 : Nat) =>
      (if (v779 < (List.length x0)) then
       ((rdI .i64 x0 v779).bind fun (v780 : Int) =>
        ((ref21_site fu x1 v780).bind fun (v781 : Bool) =>
         (bif v781 then
          ((nat? x3).bind fun (v782 : Nat) =>
           (if (v782 < (List.length x0)) then
            ((rdI .i64 x0 v782).bind fun (v783 : Int) =>
             (if ((((List.length x2) + (List.length [(D.v (.int .i64 v783))])) * 8) ≤ Go.Eng.maxRow) then
              ref21_common_L7 fu n x0 x1 (x2 ++ [(D.v (.int .i64 v783))]) (w64 (x3 + (1 : Int)))
             else
              none))
           else
            none))
         else
          ref21_common_L7 fu n x0 x1 x2 (w64 (x3 + (1 : Int))))))
      else
       none))
    else
     some (((), (x2, ()))))

noncomputable def l_ref21_common_L7 (fu : Nat) : LE := ⟨49, 7, ⟨[], [], [(0, (.lf (.sl 3))), (1, (.lf (.sl 3))), (6, (.own 3)), (7, (.lf (.int .i64)))]⟩, [(.exit 0, ⟨[], [], [(6, (.own 3))]⟩)], fun (v : (Unit × (List D × List D × List D × Int × Unit))) => ref21_common_L7 fu fu v.2.1 v.2.2.1 v.2.2.2.1 v.2.2.2.2.1⟩

theorem l_ref21_common_L7_ok (fu : Nat) : (l_ref21_common_L7 fu).ok E0 := LE.rule (f := 49) (id := 7) (inn := ⟨[], [], [(0, (.lf (.sl 3))), (1, (.lf (.sl 3))), (6, (.own 3)), (7, (.lf (.int .i64)))]⟩) (outs := [(.exit 0, ⟨[], [], [(6, (.own 3))]⟩)]) (g := fun n (v : (Unit × (List D × List D × List D × Int × Unit))) => ref21_common_L7 fu n v.2.1 v.2.2.1 v.2.2.2.1 v.2.2.2.2.1) (.f (e_ref21_site_ok fu) .nil) (by kernel_rfl) (fun v => rfl) (fun n v => by kernel_rfl) fu

noncomputable def ref21_common (fu : Nat) (x0 : List D) (x1 : List D) : Option ((List D × Bool × Unit)) :=
  (bif ((((List.length x0) : Nat) : Int) == (0 : Int)) then
   some (x1, true, ())
  else
   (bif ((((List.length x1) : Nat) : Int) == (0 : Int)) then
    some (x0, true, ())
   else
    ((ref21_common_L7 fu fu x0 x1 ([] : List D) (0 : Int)).bind fun (v784 : (Unit × (List D × Unit))) =>
     some (v784.2.1, (decide ((((List.length v784.2.1) : Nat) : Int) > (0 : Int))), ()))))

noncomputable def e_ref21_common (fu : Nat) : FE := ⟨49, (.cons (.lf (.sl 3)) (.cons (.lf (.sl 3)) .nil)), [], (.tup (.cons (.lf (.sl 3)) (.cons (.lf .bool) .nil))), [], fun (a : (List D × List D × Unit)) (p : Unit) => ref21_common fu a.1 a.2.1⟩

theorem e_ref21_common_ok (fu : Nat) : (e_ref21_common fu).ok E0 := FE.rule (.f (e_ref21_site_ok fu) (.l (l_ref21_common_L7_ok fu) .nil)) fun a p => by kernel_rfl

noncomputable def ref21_uses (x0 : Int) (x1 : Int) : Option (Int) :=
  (bif (x0 == (0 : Int)) then
   some x1
  else
   (bif (x1 == (0 : Int)) then
    some x0
   else
    some (if (x1 < x0) then x1 else x0)))

noncomputable def e_ref21_uses : FE := ⟨50, (.cons (.lf (.int .i64)) (.cons (.lf (.int .i64)) .nil)), [], (.lf (.int .i64)), [], fun (a : (Int × Int × Unit)) (p : Unit) => ref21_uses a.1 a.2.1⟩

theorem e_ref21_uses_ok : (e_ref21_uses).ok E0 := FE.rule .nil fun a p => by kernel_rfl

noncomputable def ref21_Meet (fu : Nat) (x0 : Int) (x1 : Int) (x2 : ByteArray) (x3 : List D) (x4 : List D) (x5 : List D) (x6 : Int) (x7 : Int) (x8 : Int) (x9 : ByteArray) (x10 : List D) (x11 : List D) (x12 : List D) (x13 : Int) : Option ((Int × Int × ByteArray × List D × List D × List D × Int × Int × Unit)) :=
  ((ref21_Valid fu x0 x1 x2 x3 x4 x5 x6).bind fun (v791 : Bool) =>
   (bif (!v791) then
    some ((0 : Int), (0 : Int), (bs []), ([] : List D), ([] : List D), ([] : List D), (0 : Int), (1 : Int), ())
   else
    ((ref21_Valid fu x7 x8 x9 x10 x11 x12 x13).bind fun (v792 : Bool) =>
     (bif (!v792) then
      some ((0 : Int), (0 : Int), (bs []), ([] : List D), ([] : List D), ([] : List D), (0 : Int), (1 : Int), ())
     else
      ((ref21_pattern fu x2 x9).bind fun (v793 : (ByteArray × Bool × Unit)) =>
       ((ref21_both fu x3 x10).bind fun (v794 : (List D × Bool × Unit)) =>
        ((ref21_both fu x4 x11).bind fun (v795 : (List D × Bool × Unit)) =>
         ((ref21_common fu x5 x12).bind fun (v796 : (List D × Bool × Unit)) =>
          (if ((((List.length ([] : List D)) + (List.length v794.1)) * 16) ≤ Go.Eng.maxRow) then
           (if ((((List.length ([] : List D)) + (List.length v795.1)) * 16) ≤ Go.Eng.maxRow) then
            (if ((((List.length ([] : List D)) + (List.length v796.1)) * 8) ≤ Go.Eng.maxRow) then
             ((ref21_uses x6 x13).bind fun (v797 : Int) =>
              (bif (decide ((if (x7 > x0) then x7 else x0) ≥ (if (x8 < x1) then x8 else x1))) then
               some ((0 : Int), (0 : Int), (bs []), ([] : List D), ([] : List D), ([] : List D), (0 : Int), (0 : Int), ())
              else
               (bif (!v793.2.1) then
                some ((0 : Int), (0 : Int), (bs []), ([] : List D), ([] : List D), ([] : List D), (0 : Int), (0 : Int), ())
               else
                (bif (!v794.2.1) then
                 some ((0 : Int), (0 : Int), (bs []), ([] : List D), ([] : List D), ([] : List D), (0 : Int), (0 : Int), ())
                else
                 (bif (!v795.2.1) then
                  some ((0 : Int), (0 : Int), (bs []), ([] : List D), ([] : List D), ([] : List D), (0 : Int), (0 : Int), ())
                 else
                  (bif (!v796.2.1) then
                   some ((0 : Int), (0 : Int), (bs []), ([] : List D), ([] : List D), ([] : List D), (0 : Int), (0 : Int), ())
                  else
                   some ((if (x7 > x0) then x7 else x0), (if (x8 < x1) then x8 else x1), v793.1, (([] : List D) ++ v794.1), (([] : List D) ++ v795.1), (([] : List D) ++ v796.1), v797, (0 : Int), ())))))))
            else
             none)
           else
            none)
          else
           none)))))))))

noncomputable def e_ref21_Meet (fu : Nat) : FE := ⟨15, (.cons (.agg [(.int .i64), (.int .i64), .str, (.sl 9), (.sl 9), (.sl 3), (.int .i64)]) (.cons (.agg [(.int .i64), (.int .i64), .str, (.sl 9), (.sl 9), (.sl 3), (.int .i64)]) .nil)), [], (.agg [(.int .i64), (.int .i64), .str, (.sl 9), (.sl 9), (.sl 3), (.int .i64), (.int .i64)]), [], fun (a : ((Int × Int × ByteArray × List D × List D × List D × Int × Unit) × (Int × Int × ByteArray × List D × List D × List D × Int × Unit) × Unit)) (p : Unit) => ref21_Meet fu a.1.1 a.1.2.1 a.1.2.2.1 a.1.2.2.2.1 a.1.2.2.2.2.1 a.1.2.2.2.2.2.1 a.1.2.2.2.2.2.2.1 a.2.1.1 a.2.1.2.1 a.2.1.2.2.1 a.2.1.2.2.2.1 a.2.1.2.2.2.2.1 a.2.1.2.2.2.2.2.1 a.2.1.2.2.2.2.2.2.1⟩

theorem e_ref21_Meet_ok (fu : Nat) : (e_ref21_Meet fu).ok E0 := FE.rule (.f (e_ref21_Valid_ok fu) (.f (e_ref21_pattern_ok fu) (.f (e_ref21_both_ok fu) (.f (e_ref21_common_ok fu) (.f (e_ref21_uses_ok) .nil))))) fun a p => by kernel_rfl

noncomputable def ref06_Covers_L10 (fu : Nat) : Nat → Bool → Int → ByteArray → List D → Bool → ByteArray → List D → Bool → Int → Option (((((Bool × Int × Unit) × Unit) × (Unit × Unit)) ⊕ (((Bool × Int × Unit) × Unit) × (Unit × Unit))))
  | 0, _, _, _, _, _, _, _, _, _ => none
  | n + 1, x0, x1, x2, x3, x4, x5, x6, x7, x8 =>
    (bif (decide (x8 < (((List.length x3) : Nat) : Int))) then
     ((nat? x8).bind fun (v810 : Nat) =>
      (if (v810 < (List.length x3)) then
       ((rdS x3 v810).bind fun (v811 : ByteArray) =>
        ((nat? x8).bind fun (v812 : Nat) =>
         (if (v812 < (List.length x6)) then
          ((rdS x6 v812).bind fun (v813 : ByteArray) =>
           ((ref06_covers fu v811 v813).bind fun (v814 : Bool) =>
            (bif (!v814) then
             some (.inl ((((false, (0 : Int), ()), ()), ((), ()))))
            else
             ref06_Covers_L10 fu n x0 x1 x2 x3 x4 x5 x6 x7 (w64 (x8 + (1 : Int))))))
         else
          none)))
      else
       none))
    else
     some (.inr ((((x0, x1, ()), ()), ((), ())))))

noncomputable def l_ref06_Covers_L10 (fu : Nat) : LE := ⟨51, 10, ⟨[(0, 0), (1005, 0), (2005, 0)], [(.cons (.lf .bool) (.cons (.lf (.int .i64)) .nil)), (.cons (.lf .str) (.cons (.lf (.sl 9)) (.cons (.lf .bool) .nil))), (.cons (.lf .str) (.cons (.lf (.sl 9)) (.cons (.lf .bool) .nil)))], [(4, (.ptr 0 0 0)), (5, (.ptr 1005 0 0)), (7, (.ptr 2005 0 0)), (9, (.lf (.int .i64)))]⟩, [(.ret, ⟨[(0, 0)], [(.cons (.lf .bool) (.cons (.lf (.int .i64)) .nil))], [(4, (.ptr 0 0 0))]⟩), (.exit 0, ⟨[(0, 0)], [(.cons (.lf .bool) (.cons (.lf (.int .i64)) .nil))], [(4, (.ptr 0 0 0))]⟩)], fun (v : (((Bool × Int × Unit) × (ByteArray × List D × Bool × Unit) × (ByteArray × List D × Bool × Unit) × Unit) × (Unit × Unit × Unit × Int × Unit))) => ref06_Covers_L10 fu fu v.1.1.1 v.1.1.2.1 v.1.2.1.1 v.1.2.1.2.1 v.1.2.1.2.2.1 v.1.2.2.1.1 v.1.2.2.1.2.1 v.1.2.2.1.2.2.1 v.2.2.2.2.1⟩

theorem l_ref06_Covers_L10_ok (fu : Nat) : (l_ref06_Covers_L10 fu).ok E0 := LE.rule (f := 51) (id := 10) (inn := ⟨[(0, 0), (1005, 0), (2005, 0)], [(.cons (.lf .bool) (.cons (.lf (.int .i64)) .nil)), (.cons (.lf .str) (.cons (.lf (.sl 9)) (.cons (.lf .bool) .nil))), (.cons (.lf .str) (.cons (.lf (.sl 9)) (.cons (.lf .bool) .nil)))], [(4, (.ptr 0 0 0)), (5, (.ptr 1005 0 0)), (7, (.ptr 2005 0 0)), (9, (.lf (.int .i64)))]⟩) (outs := [(.ret, ⟨[(0, 0)], [(.cons (.lf .bool) (.cons (.lf (.int .i64)) .nil))], [(4, (.ptr 0 0 0))]⟩), (.exit 0, ⟨[(0, 0)], [(.cons (.lf .bool) (.cons (.lf (.int .i64)) .nil))], [(4, (.ptr 0 0 0))]⟩)]) (g := fun n (v : (((Bool × Int × Unit) × (ByteArray × List D × Bool × Unit) × (ByteArray × List D × Bool × Unit) × Unit) × (Unit × Unit × Unit × Int × Unit))) => ref06_Covers_L10 fu n v.1.1.1 v.1.1.2.1 v.1.2.1.1 v.1.2.1.2.1 v.1.2.1.2.2.1 v.1.2.2.1.1 v.1.2.2.1.2.1 v.1.2.2.1.2.2.1 v.2.2.2.2.1) (.f (e_ref06_covers_ok fu) (.f (e_ref06_Compile_ok fu) .nil)) (by kernel_rfl) (fun v => rfl) (fun n v => by kernel_rfl) fu

noncomputable def ref06_Covers (fu : Nat) (x0 : ByteArray) (x1 : ByteArray) : Option ((Bool × Int × Unit)) :=
  ((ref06_Compile fu x0).bind fun (v815 : ((ByteArray × List D × Bool × Unit) × Bool × Unit)) =>
   ((ref06_Compile fu x1).bind fun (v816 : ((ByteArray × List D × Bool × Unit) × Bool × Unit)) =>
    (bif (!v815.2.1) then
     some (false, (1 : Int), ())
    else
     (bif (!v816.2.1) then
      some (false, (1 : Int), ())
     else
      (bif (!(Go.Eng.seq v815.1.1 (bs [42]))) then
       (bif (!(Go.Eng.seq v815.1.1 v816.1.1)) then
        some (false, (0 : Int), ())
       else
        (bif (decide ((((List.length v815.1.2.1) : Nat) : Int) > (((List.length v816.1.2.1) : Nat) : Int))) then
         some (false, (0 : Int), ())
        else
         (bif (!v815.1.2.2.1) then
          (bif v816.1.2.2.1 then
           some (false, (0 : Int), ())
          else
           (bif (decide ((((List.length v815.1.2.1) : Nat) : Int) < (((List.length v816.1.2.1) : Nat) : Int))) then
            some (false, (0 : Int), ())
           else
            ((ref06_Covers_L10 fu fu false (0 : Int) v815.1.1 v815.1.2.1 v815.1.2.2.1 v816.1.1 v816.1.2.1 v816.1.2.2.1 (0 : Int)).bind fun (v817 : ((((Bool × Int × Unit) × Unit) × (Unit × Unit)) ⊕ (((Bool × Int × Unit) × Unit) × (Unit × Unit)))) =>
             (match v817 with
             | .inl v818 =>
               some (v818.1.1.1, v818.1.1.2.1, ())
             | .inr v819 =>
               some (true, (0 : Int), ())))))
         else
          ((ref06_Covers_L10 fu fu false (0 : Int) v815.1.1 v815.1.2.1 v815.1.2.2.1 v816.1.1 v816.1.2.1 v816.1.2.2.1 (0 : Int)).bind fun (v820 : ((((Bool × Int × Unit) × Unit) × (Unit × Unit)) ⊕ (((Bool × Int × Unit) × Unit) × (Unit × Unit)))) =>
           (match v820 with
           | .inl v821 =>
             some (v821.1.1.1, v821.1.1.2.1, ())
           | .inr v822 =>
             some (true, (0 : Int), ()))))))
      else
       (bif (decide ((((List.length v815.1.2.1) : Nat) : Int) > (((List.length v816.1.2.1) : Nat) : Int))) then
        some (false, (0 : Int), ())
       else
        (bif (!v815.1.2.2.1) then
         (bif v816.1.2.2.1 then
          some (false, (0 : Int), ())
         else
          (bif (decide ((((List.length v815.1.2.1) : Nat) : Int) < (((List.length v816.1.2.1) : Nat) : Int))) then
           some (false, (0 : Int), ())
          else
           ((ref06_Covers_L10 fu fu false (0 : Int) v815.1.1 v815.1.2.1 v815.1.2.2.1 v816.1.1 v816.1.2.1 v816.1.2.2.1 (0 : Int)).bind fun (v823 : ((((Bool × Int × Unit) × Unit) × (Unit × Unit)) ⊕ (((Bool × Int × Unit) × Unit) × (Unit × Unit)))) =>
            (match v823 with
            | .inl v824 =>
              some (v824.1.1.1, v824.1.1.2.1, ())
            | .inr v825 =>
              some (true, (0 : Int), ())))))
        else
         ((ref06_Covers_L10 fu fu false (0 : Int) v815.1.1 v815.1.2.1 v815.1.2.2.1 v816.1.1 v816.1.2.1 v816.1.2.2.1 (0 : Int)).bind fun (v826 : ((((Bool × Int × Unit) × Unit) × (Unit × Unit)) ⊕ (((Bool × Int × Unit) × Unit) × (Unit × Unit)))) =>
          (match v826 with
          | .inl v827 =>
            some (v827.1.1.1, v827.1.1.2.1, ())
          | .inr v828 =>
            some (true, (0 : Int), ()))))))))))

noncomputable def e_ref06_Covers (fu : Nat) : FE := ⟨51, (.cons (.lf .str) (.cons (.lf .str) .nil)), [], (.agg [.bool, (.int .i64)]), [], fun (a : (ByteArray × ByteArray × Unit)) (p : Unit) => ref06_Covers fu a.1 a.2.1⟩

theorem e_ref06_Covers_ok (fu : Nat) : (e_ref06_Covers fu).ok E0 := FE.rule (.f (e_ref06_Compile_ok fu) (.f (e_ref06_covers_ok fu) (.l (l_ref06_Covers_L10_ok fu) .nil))) fun a p => by kernel_rfl

noncomputable def ref21_within_L2 (fu : Nat) : Nat → List D → List D → Int → Option (((Unit × (Bool × Unit)) ⊕ (Unit × Unit)))
  | 0, _, _, _ => none
  | n + 1, x0, x1, x2 =>
    (bif (decide (x2 < (((List.length x0) : Nat) : Int))) then
     ((nat? x2).bind fun (v832 : Nat) =>
      (if (v832 < (List.length x0)) then
       ((rdS x0 v832).bind fun (v833 : ByteArray) =>
        ((ref21_has fu x1 v833).bind fun (v834 : Bool) =>
         (bif (!v834) then
          some (.inl (((), (false, ()))))
         else
          ref21_within_L2 fu n x0 x1 (w64 (x2 + (1 : Int))))))
      else
       none))
    else
     some (.inr (((), ()))))

noncomputable def l_ref21_within_L2 (fu : Nat) : LE := ⟨52, 2, ⟨[], [], [(0, (.lf (.sl 9))), (1, (.lf (.sl 9))), (5, (.lf (.int .i64)))]⟩, [(.ret, ⟨[], [], [(4, (.lf .bool))]⟩), (.exit 0, ⟨[], [], []⟩)], fun (v : (Unit × (List D × List D × Int × Unit))) => ref21_within_L2 fu fu v.2.1 v.2.2.1 v.2.2.2.1⟩

theorem l_ref21_within_L2_ok (fu : Nat) : (l_ref21_within_L2 fu).ok E0 := LE.rule (f := 52) (id := 2) (inn := ⟨[], [], [(0, (.lf (.sl 9))), (1, (.lf (.sl 9))), (5, (.lf (.int .i64)))]⟩) (outs := [(.ret, ⟨[], [], [(4, (.lf .bool))]⟩), (.exit 0, ⟨[], [], []⟩)]) (g := fun n (v : (Unit × (List D × List D × Int × Unit))) => ref21_within_L2 fu n v.2.1 v.2.2.1 v.2.2.2.1) (.f (e_ref21_has_ok fu) .nil) (by kernel_rfl) (fun v => rfl) (fun n v => by kernel_rfl) fu

noncomputable def ref21_within (fu : Nat) (x0 : List D) (x1 : List D) : Option (Bool) :=
  ((ref21_within_L2 fu fu x0 x1 (0 : Int)).bind fun (v835 : ((Unit × (Bool × Unit)) ⊕ (Unit × Unit))) =>
   (match v835 with
   | .inl v836 =>
     some v836.2.1
   | .inr v837 =>
     some true))

noncomputable def e_ref21_within (fu : Nat) : FE := ⟨52, (.cons (.lf (.sl 9)) (.cons (.lf (.sl 9)) .nil)), [], (.lf .bool), [], fun (a : (List D × List D × Unit)) (p : Unit) => ref21_within fu a.1 a.2.1⟩

theorem e_ref21_within_ok (fu : Nat) : (e_ref21_within fu).ok E0 := FE.rule (.f (e_ref21_has_ok fu) (.l (l_ref21_within_L2_ok fu) .nil)) fun a p => by kernel_rfl

noncomputable def ref21_sites_L2 (fu : Nat) : Nat → List D → List D → Int → Option (((Unit × (Bool × Unit)) ⊕ (Unit × Unit)))
  | 0, _, _, _ => none
  | n + 1, x0, x1, x2 =>
    (bif (decide (x2 < (64 : Int))) then
     (bif ((((List.length x0) : Nat) : Int) == (0 : Int)) then
      (bif ((((List.length x1) : Nat) : Int) == (0 : Int)) then
       ref21_sites_L2 fu n x0 x1 (w64 (x2 + (1 : Int)))
      else
       ((ref21_site fu x1 x2).bind fun (v843 : Bool) =>
        (bif (!v843) then
         some (.inl (((), (false, ()))))
        else
         ref21_sites_L2 fu n x0 x1 (w64 (x2 + (1 : Int))))))
     else
      ((ref21_site fu x0 x2).bind fun (v844 : Bool) =>
       (bif ((((List.length x1) : Nat) : Int) == (0 : Int)) then
        (bif v844 then
         ref21_sites_L2 fu n x0 x1 (w64 (x2 + (1 : Int)))
        else
         ref21_sites_L2 fu n x0 x1 (w64 (x2 + (1 : Int))))
       else
        ((ref21_site fu x1 x2).bind fun (v845 : Bool) =>
         (bif v844 then
          (bif (!v845) then
           some (.inl (((), (false, ()))))
          else
           ref21_sites_L2 fu n x0 x1 (w64 (x2 + (1 : Int))))
         else
          ref21_sites_L2 fu n x0 x1 (w64 (x2 + (1 : Int))))))))
    else
     some (.inr (((), ()))))

noncomputable def l_ref21_sites_L2 (fu : Nat) : LE := ⟨53, 2, ⟨[], [], [(0, (.lf (.sl 3))), (1, (.lf (.sl 3))), (5, (.lf (.int .i64)))]⟩, [(.ret, ⟨[], [], [(4, (.lf .bool))]⟩), (.exit 0, ⟨[], [], []⟩)], fun (v : (Unit × (List D × List D × Int × Unit))) => ref21_sites_L2 fu fu v.2.1 v.2.2.1 v.2.2.2.1⟩

theorem l_ref21_sites_L2_ok (fu : Nat) : (l_ref21_sites_L2 fu).ok E0 := LE.rule (f := 53) (id := 2) (inn := ⟨[], [], [(0, (.lf (.sl 3))), (1, (.lf (.sl 3))), (5, (.lf (.int .i64)))]⟩) (outs := [(.ret, ⟨[], [], [(4, (.lf .bool))]⟩), (.exit 0, ⟨[], [], []⟩)]) (g := fun n (v : (Unit × (List D × List D × Int × Unit))) => ref21_sites_L2 fu n v.2.1 v.2.2.1 v.2.2.2.1) (.f (e_ref21_site_ok fu) .nil) (by kernel_rfl) (fun v => rfl) (fun n v => by kernel_rfl) fu

noncomputable def ref21_sites (fu : Nat) (x0 : List D) (x1 : List D) : Option (Bool) :=
  ((ref21_sites_L2 fu fu x0 x1 (0 : Int)).bind fun (v846 : ((Unit × (Bool × Unit)) ⊕ (Unit × Unit))) =>
   (match v846 with
   | .inl v847 =>
     some v847.2.1
   | .inr v848 =>
     some true))

noncomputable def e_ref21_sites (fu : Nat) : FE := ⟨53, (.cons (.lf (.sl 3)) (.cons (.lf (.sl 3)) .nil)), [], (.lf .bool), [], fun (a : (List D × List D × Unit)) (p : Unit) => ref21_sites fu a.1 a.2.1⟩

theorem e_ref21_sites_ok (fu : Nat) : (e_ref21_sites fu).ok E0 := FE.rule (.f (e_ref21_site_ok fu) (.l (l_ref21_sites_L2_ok fu) .nil)) fun a p => by kernel_rfl

noncomputable def ref21_Implies (fu : Nat) (x0 : Int) (x1 : Int) (x2 : ByteArray) (x3 : List D) (x4 : List D) (x5 : List D) (x6 : Int) (x7 : Int) (x8 : Int) (x9 : ByteArray) (x10 : List D) (x11 : List D) (x12 : List D) (x13 : Int) : Option ((Bool × Int × Unit)) :=
  ((ref21_Valid fu x0 x1 x2 x3 x4 x5 x6).bind fun (v849 : Bool) =>
   (bif (!v849) then
    some (false, (1 : Int), ())
   else
    ((ref21_Valid fu x7 x8 x9 x10 x11 x12 x13).bind fun (v850 : Bool) =>
     (bif (!v850) then
      some (false, (1 : Int), ())
     else
      (bif (decide (x0 ≥ x1)) then
       some (true, (0 : Int), ())
      else
       (bif (decide (x7 > x0)) then
        some (false, (0 : Int), ())
       else
        (bif (decide (x8 < x1)) then
         some (false, (0 : Int), ())
        else
         (bif (!(Go.Eng.seq x9 (bs []))) then
          (bif (Go.Eng.seq x2 (bs [])) then
           ((ref06_Covers fu x9 (bs [42, 47, 42, 42])).bind fun (v851 : (Bool × Int × Unit)) =>
            (bif (!v851.1) then
             some (false, (0 : Int), ())
            else
             (bif (decide ((((List.length x10) : Nat) : Int) > (0 : Int))) then
              (bif ((((List.length x3) : Nat) : Int) == (0 : Int)) then
               some (false, (0 : Int), ())
              else
               ((ref21_within fu x3 x10).bind fun (v852 : Bool) =>
                (bif (!v852) then
                 some (false, (0 : Int), ())
                else
                 (bif (decide ((((List.length x11) : Nat) : Int) > (0 : Int))) then
                  (bif ((((List.length x4) : Nat) : Int) == (0 : Int)) then
                   some (false, (0 : Int), ())
                  else
                   ((ref21_within fu x4 x11).bind fun (v853 : Bool) =>
                    (bif (!v853) then
                     some (false, (0 : Int), ())
                    else
                     ((ref21_sites fu x5 x12).bind fun (v854 : Bool) =>
                      some (v854, (0 : Int), ())))))
                 else
                  ((ref21_sites fu x5 x12).bind fun (v855 : Bool) =>
                   some (v855, (0 : Int), ()))))))
             else
              (bif (decide ((((List.length x11) : Nat) : Int) > (0 : Int))) then
               (bif ((((List.length x4) : Nat) : Int) == (0 : Int)) then
                some (false, (0 : Int), ())
               else
                ((ref21_within fu x4 x11).bind fun (v856 : Bool) =>
                 (bif (!v856) then
                  some (false, (0 : Int), ())
                 else
                  ((ref21_sites fu x5 x12).bind fun (v857 : Bool) =>
                   some (v857, (0 : Int), ())))))
              else
               ((ref21_sites fu x5 x12).bind fun (v858 : Bool) =>
                some (v858, (0 : Int), ()))))))
          else
           ((ref06_Covers fu x9 x2).bind fun (v859 : (Bool × Int × Unit)) =>
            (bif (!v859.1) then
             some (false, (0 : Int), ())
            else
             (bif (decide ((((List.length x10) : Nat) : Int) > (0 : Int))) then
              (bif ((((List.length x3) : Nat) : Int) == (0 : Int)) then
               some (false, (0 : Int), ())
              else
               ((ref21_within fu x3 x10).bind fun (v860 : Bool) =>
                (bif (!v860) then
                 some (false, (0 : Int), ())
                else
                 (bif (decide ((((List.length x11) : Nat) : Int) > (0 : Int))) then
                  (bif ((((List.length x4) : Nat) : Int) == (0 : Int)) then
                   some (false, (0 : Int), ())
                  else
                   ((ref21_within fu x4 x11).bind fun (v861 : Bool) =>
                    (bif (!v861) then
                     some (false, (0 : Int), ())
                    else
                     ((ref21_sites fu x5 x12).bind fun (v862 : Bool) =>
                      some (v862, (0 : Int), ())))))
                 else
                  ((ref21_sites fu x5 x12).bind fun (v863 : Bool) =>
                   some (v863, (0 : Int), ()))))))
             else
              (bif (decide ((((List.length x11) : Nat) : Int) > (0 : Int))) then
               (bif ((((List.length x4) : Nat) : Int) == (0 : Int)) then
                some (false, (0 : Int), ())
               else
                ((ref21_within fu x4 x11).bind fun (v864 : Bool) =>
                 (bif (!v864) then
                  some (false, (0 : Int), ())
                 else
                  ((ref21_sites fu x5 x12).bind fun (v865 : Bool) =>
                   some (v865, (0 : Int), ())))))
              else
               ((ref21_sites fu x5 x12).bind fun (v866 : Bool) =>
                some (v866, (0 : Int), ())))))))
         else
          (bif (decide ((((List.length x10) : Nat) : Int) > (0 : Int))) then
           (bif ((((List.length x3) : Nat) : Int) == (0 : Int)) then
            some (false, (0 : Int), ())
           else
            ((ref21_within fu x3 x10).bind fun (v867 : Bool) =>
             (bif (!v867) then
              some (false, (0 : Int), ())
             else
              (bif (decide ((((List.length x11) : Nat) : Int) > (0 : Int))) then
               (bif ((((List.length x4) : Nat) : Int) == (0 : Int)) then
                some (false, (0 : Int), ())
               else
                ((ref21_within fu x4 x11).bind fun (v868 : Bool) =>
                 (bif (!v868) then
                  some (false, (0 : Int), ())
                 else
                  ((ref21_sites fu x5 x12).bind fun (v869 : Bool) =>
                   some (v869, (0 : Int), ())))))
              else
               ((ref21_sites fu x5 x12).bind fun (v870 : Bool) =>
                some (v870, (0 : Int), ()))))))
          else
           (bif (decide ((((List.length x11) : Nat) : Int) > (0 : Int))) then
            (bif ((((List.length x4) : Nat) : Int) == (0 : Int)) then
             some (false, (0 : Int), ())
            else
             ((ref21_within fu x4 x11).bind fun (v871 : Bool) =>
              (bif (!v871) then
               some (false, (0 : Int), ())
              else
               ((ref21_sites fu x5 x12).bind fun (v872 : Bool) =>
                some (v872, (0 : Int), ())))))
           else
            ((ref21_sites fu x5 x12).bind fun (v873 : Bool) =>
             some (v873, (0 : Int), ()))))))))))))

noncomputable def e_ref21_Implies (fu : Nat) : FE := ⟨16, (.cons (.agg [(.int .i64), (.int .i64), .str, (.sl 9), (.sl 9), (.sl 3), (.int .i64)]) (.cons (.agg [(.int .i64), (.int .i64), .str, (.sl 9), (.sl 9), (.sl 3), (.int .i64)]) .nil)), [], (.agg [.bool, (.int .i64)]), [], fun (a : ((Int × Int × ByteArray × List D × List D × List D × Int × Unit) × (Int × Int × ByteArray × List D × List D × List D × Int × Unit) × Unit)) (p : Unit) => ref21_Implies fu a.1.1 a.1.2.1 a.1.2.2.1 a.1.2.2.2.1 a.1.2.2.2.2.1 a.1.2.2.2.2.2.1 a.1.2.2.2.2.2.2.1 a.2.1.1 a.2.1.2.1 a.2.1.2.2.1 a.2.1.2.2.2.1 a.2.1.2.2.2.2.1 a.2.1.2.2.2.2.2.1 a.2.1.2.2.2.2.2.2.1⟩

theorem e_ref21_Implies_ok (fu : Nat) : (e_ref21_Implies fu).ok E0 := FE.rule (.f (e_ref21_Valid_ok fu) (.f (e_ref06_Covers_ok fu) (.f (e_ref21_within_ok fu) (.f (e_ref21_sites_ok fu) .nil)))) fun a p => by kernel_rfl

noncomputable def ref21_Within (fu : Nat) (x0 : Int) (x1 : Int) (x2 : ByteArray) (x3 : List D) (x4 : List D) (x5 : List D) (x6 : Int) (x7 : Int) (x8 : Int) (x9 : ByteArray) (x10 : List D) (x11 : List D) (x12 : List D) (x13 : Int) : Option ((Bool × Int × Unit)) :=
  ((ref21_Implies fu x0 x1 x2 x3 x4 x5 x6 x7 x8 x9 x10 x11 x12 x13).bind fun (v883 : (Bool × Int × Unit)) =>
   (bif (!v883.1) then
    some (v883.1, v883.2.1, ())
   else
    (bif (decide (x0 ≥ x1)) then
     some (v883.1, v883.2.1, ())
    else
     (bif (x13 == (0 : Int)) then
      some (v883.1, v883.2.1, ())
     else
      (bif (decide (x6 ≥ (1 : Int))) then
       some ((decide (x6 ≤ x13)), (0 : Int), ())
      else
       some (false, (0 : Int), ()))))))

noncomputable def e_ref21_Within (fu : Nat) : FE := ⟨17, (.cons (.agg [(.int .i64), (.int .i64), .str, (.sl 9), (.sl 9), (.sl 3), (.int .i64)]) (.cons (.agg [(.int .i64), (.int .i64), .str, (.sl 9), (.sl 9), (.sl 3), (.int .i64)]) .nil)), [], (.agg [.bool, (.int .i64)]), [], fun (a : ((Int × Int × ByteArray × List D × List D × List D × Int × Unit) × (Int × Int × ByteArray × List D × List D × List D × Int × Unit) × Unit)) (p : Unit) => ref21_Within fu a.1.1 a.1.2.1 a.1.2.2.1 a.1.2.2.2.1 a.1.2.2.2.2.1 a.1.2.2.2.2.2.1 a.1.2.2.2.2.2.2.1 a.2.1.1 a.2.1.2.1 a.2.1.2.2.1 a.2.1.2.2.2.1 a.2.1.2.2.2.2.1 a.2.1.2.2.2.2.2.1 a.2.1.2.2.2.2.2.2.1⟩

theorem e_ref21_Within_ok (fu : Nat) : (e_ref21_Within fu).ok E0 := FE.rule (.f (e_ref21_Implies_ok fu) .nil) fun a p => by kernel_rfl

noncomputable def law21_CondMeetsAsSpecified (fu : Nat) (x0 : Int) (x1 : Int) (x2 : ByteArray) (x3 : List D) (x4 : List D) (x5 : List D) (x6 : Int) (x7 : Int) (x8 : Int) (x9 : ByteArray) (x10 : List D) (x11 : List D) (x12 : List D) (x13 : Int) : Option (Bool) :=
  ((ref21_Few fu x0 x1 x2 x3 x4 x5 x6).bind fun (v884 : Bool) =>
   (bif (!v884) then
    ((law21_sanity 1000).bind fun (v885 : Bool) =>
     some v885)
   else
    ((ref21_Few fu x7 x8 x9 x10 x11 x12 x13).bind fun (v886 : Bool) =>
     (bif (!v886) then
      ((law21_sanity 1000).bind fun (v887 : Bool) =>
       some v887)
     else
      ((cond_Meet fu x0 x1 x2 x3 x4 x5 x6 x7 x8 x9 x10 x11 x12 x13).bind fun (v888 : ((Int × Int × ByteArray × List D × List D × List D × Int × Unit) × Int × Unit)) =>
       ((cond_Implies fu x0 x1 x2 x3 x4 x5 x6 x7 x8 x9 x10 x11 x12 x13).bind fun (v889 : (Bool × (ByteArray × ByteArray × ByteArray × Int × Int × Int × Unit) × Int × Unit)) =>
        ((cond_Within fu x0 x1 x2 x3 x4 x5 x6 x7 x8 x9 x10 x11 x12 x13).bind fun (v890 : (Bool × Int × Unit)) =>
         ((ref21_Meet fu x0 x1 x2 x3 x4 x5 x6 x7 x8 x9 x10 x11 x12 x13).bind fun (v891 : (Int × Int × ByteArray × List D × List D × List D × Int × Int × Unit)) =>
          ((ref21_Implies fu x0 x1 x2 x3 x4 x5 x6 x7 x8 x9 x10 x11 x12 x13).bind fun (v892 : (Bool × Int × Unit)) =>
           ((ref21_Within fu x0 x1 x2 x3 x4 x5 x6 x7 x8 x9 x10 x11 x12 x13).bind fun (v893 : (Bool × Int × Unit)) =>
            ((law21_sanity 1000).bind fun (v894 : Bool) =>
             (bif v894 then
              ((ref21_Same fu v888.1.1 v888.1.2.1 v888.1.2.2.1 v888.1.2.2.2.1 v888.1.2.2.2.2.1 v888.1.2.2.2.2.2.1 v888.1.2.2.2.2.2.2.1 v891.1 v891.2.1 v891.2.2.1 v891.2.2.2.1 v891.2.2.2.2.1 v891.2.2.2.2.2.1 v891.2.2.2.2.2.2.1).bind fun (v895 : Bool) =>
               (bif v895 then
                (bif (v888.2.1 == v891.2.2.2.2.2.2.2.1) then
                 (bif (v889.1 == v892.1) then
                  (bif (v889.2.2.1 == v892.2.1) then
                   (bif (v890.1 == v893.1) then
                    some (v890.2.1 == v893.2.1)
                   else
                    some false)
                  else
                   some false)
                 else
                  some false)
                else
                 some false)
               else
                some false))
             else
              some false))))))))))))

noncomputable def e_law21_CondMeetsAsSpecified (fu : Nat) : FE := ⟨3, (.cons (.agg [(.int .i64), (.int .i64), .str, (.sl 9), (.sl 9), (.sl 3), (.int .i64)]) (.cons (.agg [(.int .i64), (.int .i64), .str, (.sl 9), (.sl 9), (.sl 3), (.int .i64)]) .nil)), [], (.lf .bool), [], fun (a : ((Int × Int × ByteArray × List D × List D × List D × Int × Unit) × (Int × Int × ByteArray × List D × List D × List D × Int × Unit) × Unit)) (p : Unit) => law21_CondMeetsAsSpecified fu a.1.1 a.1.2.1 a.1.2.2.1 a.1.2.2.2.1 a.1.2.2.2.2.1 a.1.2.2.2.2.2.1 a.1.2.2.2.2.2.2.1 a.2.1.1 a.2.1.2.1 a.2.1.2.2.1 a.2.1.2.2.2.1 a.2.1.2.2.2.2.1 a.2.1.2.2.2.2.2.1 a.2.1.2.2.2.2.2.2.1⟩

theorem e_law21_CondMeetsAsSpecified_ok (fu : Nat) : (e_law21_CondMeetsAsSpecified fu).ok E0 := FE.rule (.f (e_ref21_Few_ok fu) (.f (e_law21_sanity_ok 1000) (.f (e_cond_Meet_ok fu) (.f (e_cond_Implies_ok fu) (.f (e_cond_Within_ok fu) (.f (e_ref21_Meet_ok fu) (.f (e_ref21_Implies_ok fu) (.f (e_ref21_Within_ok fu) (.f (e_ref21_Same_ok fu) .nil))))))))) fun a p => by kernel_rfl

noncomputable def law21_CondNarrows (fu : Nat) (x0 : Int) (x1 : Int) (x2 : ByteArray) (x3 : List D) (x4 : List D) (x5 : List D) (x6 : Int) (x7 : Int) (x8 : Int) (x9 : ByteArray) (x10 : List D) (x11 : List D) (x12 : List D) (x13 : Int) (x14 : Int) (x15 : Int) (x16 : ByteArray) (x17 : List D) (x18 : List D) (x19 : List D) (x20 : Int) : Option (Bool) :=
  ((ref21_Few fu x0 x1 x2 x3 x4 x5 x6).bind fun (v896 : Bool) =>
   (bif (!v896) then
    ((law21_sanity 1000).bind fun (v897 : Bool) =>
     some v897)
   else
    ((ref21_Few fu x7 x8 x9 x10 x11 x12 x13).bind fun (v898 : Bool) =>
     (bif (!v898) then
      ((law21_sanity 1000).bind fun (v899 : Bool) =>
       some v899)
     else
      ((ref21_Few fu x14 x15 x16 x17 x18 x19 x20).bind fun (v900 : Bool) =>
       (bif (!v900) then
        ((law21_sanity 1000).bind fun (v901 : Bool) =>
         some v901)
       else
        ((cond_Valid fu x0 x1 x2 x3 x4 x5 x6).bind fun (v902 : Bool) =>
         (bif (!v902) then
          ((law21_sanity 1000).bind fun (v903 : Bool) =>
           some v903)
         else
          ((cond_Valid fu x7 x8 x9 x10 x11 x12 x13).bind fun (v904 : Bool) =>
           (bif (!v904) then
            ((law21_sanity 1000).bind fun (v905 : Bool) =>
             some v905)
           else
            ((cond_Valid fu x14 x15 x16 x17 x18 x19 x20).bind fun (v906 : Bool) =>
             (bif (!v906) then
              ((law21_sanity 1000).bind fun (v907 : Bool) =>
               some v907)
             else
              ((cond_Meet fu x0 x1 x2 x3 x4 x5 x6 x7 x8 x9 x10 x11 x12 x13).bind fun (v908 : ((Int × Int × ByteArray × List D × List D × List D × Int × Unit) × Int × Unit)) =>
               ((cond_Meet fu x7 x8 x9 x10 x11 x12 x13 x14 x15 x16 x17 x18 x19 x20).bind fun (v909 : ((Int × Int × ByteArray × List D × List D × List D × Int × Unit) × Int × Unit)) =>
                ((cond_Meet fu v908.1.1 v908.1.2.1 v908.1.2.2.1 v908.1.2.2.2.1 v908.1.2.2.2.2.1 v908.1.2.2.2.2.2.1 v908.1.2.2.2.2.2.2.1 x14 x15 x16 x17 x18 x19 x20).bind fun (v910 : ((Int × Int × ByteArray × List D × List D × List D × Int × Unit) × Int × Unit)) =>
                 ((cond_Meet fu x0 x1 x2 x3 x4 x5 x6 v909.1.1 v909.1.2.1 v909.1.2.2.1 v909.1.2.2.2.1 v909.1.2.2.2.2.1 v909.1.2.2.2.2.2.1 v909.1.2.2.2.2.2.2.1).bind fun (v911 : ((Int × Int × ByteArray × List D × List D × List D × Int × Unit) × Int × Unit)) =>
                  (bif (v908.2.1 != (0 : Int)) then
                   some false
                  else
                   (bif (v909.2.1 != (0 : Int)) then
                    some false
                   else
                    (bif (v910.2.1 != (0 : Int)) then
                     some false
                    else
                     (bif (v911.2.1 != (0 : Int)) then
                      some false
                     else
                      ((ref21_Same fu v910.1.1 v910.1.2.1 v910.1.2.2.1 v910.1.2.2.2.1 v910.1.2.2.2.2.1 v910.1.2.2.2.2.2.1 v910.1.2.2.2.2.2.2.1 v911.1.1 v911.1.2.1 v911.1.2.2.1 v911.1.2.2.2.1 v911.1.2.2.2.2.1 v911.1.2.2.2.2.2.1 v911.1.2.2.2.2.2.2.1).bind fun (v912 : Bool) =>
                       (bif (!v912) then
                        some false
                       else
                        ((cond_Within fu x14 x15 x16 x17 x18 x19 x20 x0 x1 x2 x3 x4 x5 x6).bind fun (v913 : (Bool × Int × Unit)) =>
                         ((cond_Within fu x14 x15 x16 x17 x18 x19 x20 x7 x8 x9 x10 x11 x12 x13).bind fun (v914 : (Bool × Int × Unit)) =>
                          ((cond_Within fu x14 x15 x16 x17 x18 x19 x20 v908.1.1 v908.1.2.1 v908.1.2.2.1 v908.1.2.2.2.1 v908.1.2.2.2.2.1 v908.1.2.2.2.2.2.1 v908.1.2.2.2.2.2.2.1).bind fun (v915 : (Bool × Int × Unit)) =>
                           ((cond_Within fu x0 x1 x2 x3 x4 x5 x6 x7 x8 x9 x10 x11 x12 x13).bind fun (v916 : (Bool × Int × Unit)) =>
                            (bif (v913.2.1 != (0 : Int)) then
                             some false
                            else
                             (bif (v914.2.1 != (0 : Int)) then
                              some false
                             else
                              (bif (v915.2.1 != (0 : Int)) then
                               some false
                              else
                               (bif (v916.2.1 != (0 : Int)) then
                                some false
                               else
                                ((law21_sanity 1000).bind fun (v917 : Bool) =>
                                 (bif v917 then
                                  (bif v913.1 then
                                   (bif (v915.1 == v914.1) then
                                    (bif (!v913.1) then
                                     some true
                                    else
                                     (bif (!v916.1) then
                                      some true
                                     else
                                      some v914.1))
                                   else
                                    some false)
                                  else
                                   (bif (v915.1 == false) then
                                    (bif (!v913.1) then
                                     some true
                                    else
                                     (bif (!v916.1) then
                                      some true
                                     else
                                      some v914.1))
                                   else
                                    some false))
                                 else
                                  some false))))))))))))))))))))))))))))))))

noncomputable def e_law21_CondNarrows (fu : Nat) : FE := ⟨4, (.cons (.agg [(.int .i64), (.int .i64), .str, (.sl 9), (.sl 9), (.sl 3), (.int .i64)]) (.cons (.agg [(.int .i64), (.int .i64), .str, (.sl 9), (.sl 9), (.sl 3), (.int .i64)]) (.cons (.agg [(.int .i64), (.int .i64), .str, (.sl 9), (.sl 9), (.sl 3), (.int .i64)]) .nil))), [], (.lf .bool), [], fun (a : ((Int × Int × ByteArray × List D × List D × List D × Int × Unit) × (Int × Int × ByteArray × List D × List D × List D × Int × Unit) × (Int × Int × ByteArray × List D × List D × List D × Int × Unit) × Unit)) (p : Unit) => law21_CondNarrows fu a.1.1 a.1.2.1 a.1.2.2.1 a.1.2.2.2.1 a.1.2.2.2.2.1 a.1.2.2.2.2.2.1 a.1.2.2.2.2.2.2.1 a.2.1.1 a.2.1.2.1 a.2.1.2.2.1 a.2.1.2.2.2.1 a.2.1.2.2.2.2.1 a.2.1.2.2.2.2.2.1 a.2.1.2.2.2.2.2.2.1 a.2.2.1.1 a.2.2.1.2.1 a.2.2.1.2.2.1 a.2.2.1.2.2.2.1 a.2.2.1.2.2.2.2.1 a.2.2.1.2.2.2.2.2.1 a.2.2.1.2.2.2.2.2.2.1⟩

theorem e_law21_CondNarrows_ok (fu : Nat) : (e_law21_CondNarrows fu).ok E0 := FE.rule (.f (e_ref21_Few_ok fu) (.f (e_law21_sanity_ok 1000) (.f (e_cond_Valid_ok fu) (.f (e_cond_Meet_ok fu) (.f (e_ref21_Same_ok fu) (.f (e_cond_Within_ok fu) .nil)))))) fun a p => by kernel_rfl

end Go.Proofs.YtcjgmffbebjddaaGreatDoor
