/- Contracts of functions of the given program, for the law FnExactFingerAt: what they return and what they write, under the bounds that each theorem states. -/
import Derived.Test.YtmacgaechjiecaaGreatG3
namespace Go.AM
set_option linter.unusedVariables false
set_option linter.unusedSimpArgs false
theorem strz_frz (l : List Str) : frzRows (l.map Str.z) = l.map Str.z := Str.frz l
def m77 : MC :=
 (.seq (.reg [Xb 2 (.asg .fb)]) (.join [0] (.seq (.mixt [0] [0, 59] [] [0] [0, 1, 2, 3] [Xm 8 0, Xq 9 (.nilchk (.t 8)), Xf 10 0 9, Xl 11 1 10] (.step 4 (Xb 12 (.call (.fn 141) false [.lend (.t 11)])) (.step 5 (Xq 13 (.un .not (.t 12))) (.step 6 (Xm 14 13) (.step 7 (Xu 15 14 (.mov (.t 0))) (.step 8 (Xu 16 14 (.nilchk (.t 15))) (.step 9 (Xu 17 14 (.fad 1 (.t 16))) (.step 10 (Xu 18 14 (.load false 1
 (.t 17))) (.step 11 (Xu 19 14 (.len false (.t 18))) (.step 12 (Xu 20 14 (.bin false .gtr (.t 19) (.i 4))) (.step 13 (Xq 21 (.pick (.t 14) .tb (.t 20))) (.step 14 (Xm 22 21) (.step 15 (Xu 23 22 (.mov (.t 0))) (.step 16 (Xu 24 22 (.nilchk (.t 23))) (.step 17 (Xu 25 22 (.fad 0 (.t 24))) (.step 20 (Xu 28 22 (.mov (.t 0))) (.step 21 (Xu 29 22 (.nilchk (.t 28))) (.step 22 (Xu 30 22 (.fad 1 (.t 29)))
 (.alt (.step 18 (Xu 26 22 (.load false 1 (.t 25))) (.alt (.step 19 (XU 27 22 (.bsl 9 1 [.t 26])) (.step 23 (Xu 31 22 (.load false 1 (.t 30))) (.step 24 (XU 32 22 (.app false 9 1 16 (.t 27) (.t 31))) (.step 25 (XU 33 22 (.call (.fn 142) false [.lend (.t 32)])) (.step 26 (Xu 34 22 (.un .not (.t 33))) (.step 27 (Xq 35 (.pick (.t 22) .tb (.t 34))) (.step 28 (Xm 36 35) (.step 29 (Xu 37 36 (.mov (.t
 0))) (.step 30 (Xu 38 36 (.nilchk (.t 37))) (.step 31 (Xu 39 36 (.fad 2 (.t 38))) (.step 32 (Xu 40 36 (.load false 1 (.t 39))) (.step 33 (XU 41 36 (.call (.fn 55) false [.lend (.t 40)])) (.step 34 (Xu 42 36 (.un .not (.t 41))) (.step 35 (Xq 43 (.pick (.t 36) .tb (.t 42))) (.step 36 (Xm 44 43) (.step 37 (Xu 45 44 (.mov (.t 0))) (.step 38 (Xu 46 44 (.nilchk (.t 45))) (.step 39 (Xu 47 44 (.fad 3 (.t
 46))) (.step 40 (Xu 48 44 (.load false 1 (.t 47))) (.step 41 (Xu 49 44 (.len false (.t 48))) (.step 42 (Xu 50 44 (.bin false .gtr (.t 49) (.i 16))) (.step 43 (Xq 51 (.pick (.t 44) .tb (.t 50))) (.step 44 (Xm 52 51) (.step 45 (Xu 53 52 (.mov (.t 0))) (.step 46 (Xu 54 52 (.nilchk (.t 53))) (.step 47 (Xu 55 52 (.fad 4 (.t 54))) (.step 48 (Xu 56 52 (.load false 1 (.t 55))) (.step 49 (Xu 57 52 (.len
 false (.t 56))) (.step 50 (Xu 58 52 (.bin false .gtr (.t 57) (.i 40))) (.step 51 (Xq 59 (.pick (.t 52) .tb (.t 58))) .nil)))))))))))))))))))))))))))))) (.step 23 (Xu 31 22 (.load false 1 (.t 30))) (.step 19 (XU 27 22 (.bsl 9 1 [.t 26])) (.step 24 (XU 32 22 (.app false 9 1 16 (.t 27) (.t 31))) (.step 25 (XU 33 22 (.call (.fn 142) false [.lend (.t 32)])) (.step 26 (Xu 34 22 (.un .not (.t 33)))
 (.step 27 (Xq 35 (.pick (.t 22) .tb (.t 34))) (.step 28 (Xm 36 35) (.step 29 (Xu 37 36 (.mov (.t 0))) (.step 30 (Xu 38 36 (.nilchk (.t 37))) (.step 31 (Xu 39 36 (.fad 2 (.t 38))) (.step 32 (Xu 40 36 (.load false 1 (.t 39))) (.step 33 (XU 41 36 (.call (.fn 55) false [.lend (.t 40)])) (.step 34 (Xu 42 36 (.un .not (.t 41))) (.step 35 (Xq 43 (.pick (.t 36) .tb (.t 42))) (.step 36 (Xm 44 43) (.step 37
 (Xu 45 44 (.mov (.t 0))) (.step 38 (Xu 46 44 (.nilchk (.t 45))) (.step 39 (Xu 47 44 (.fad 3 (.t 46))) (.step 40 (Xu 48 44 (.load false 1 (.t 47))) (.step 41 (Xu 49 44 (.len false (.t 48))) (.step 42 (Xu 50 44 (.bin false .gtr (.t 49) (.i 16))) (.step 43 (Xq 51 (.pick (.t 44) .tb (.t 50))) (.step 44 (Xm 52 51) (.step 45 (Xu 53 52 (.mov (.t 0))) (.step 46 (Xu 54 52 (.nilchk (.t 53))) (.step 47 (Xu
 55 52 (.fad 4 (.t 54))) (.step 48 (Xu 56 52 (.load false 1 (.t 55))) (.step 49 (Xu 57 52 (.len false (.t 56))) (.step 50 (Xu 58 52 (.bin false .gtr (.t 57) (.i 40))) (.step 51 (Xq 59 (.pick (.t 52) .tb (.t 58))) .nil)))))))))))))))))))))))))))))))) (.step 23 (Xu 31 22 (.load false 1 (.t 30))) (.step 18 (Xu 26 22 (.load false 1 (.t 25))) (.step 19 (XU 27 22 (.bsl 9 1 [.t 26])) (.step 24 (XU 32 22
 (.app false 9 1 16 (.t 27) (.t 31))) (.step 25 (XU 33 22 (.call (.fn 142) false [.lend (.t 32)])) (.step 26 (Xu 34 22 (.un .not (.t 33))) (.step 27 (Xq 35 (.pick (.t 22) .tb (.t 34))) (.step 28 (Xm 36 35) (.step 29 (Xu 37 36 (.mov (.t 0))) (.step 30 (Xu 38 36 (.nilchk (.t 37))) (.step 31 (Xu 39 36 (.fad 2 (.t 38))) (.step 32 (Xu 40 36 (.load false 1 (.t 39))) (.step 33 (XU 41 36 (.call (.fn 55)
 false [.lend (.t 40)])) (.step 34 (Xu 42 36 (.un .not (.t 41))) (.step 35 (Xq 43 (.pick (.t 36) .tb (.t 42))) (.step 36 (Xm 44 43) (.step 37 (Xu 45 44 (.mov (.t 0))) (.step 38 (Xu 46 44 (.nilchk (.t 45))) (.step 39 (Xu 47 44 (.fad 3 (.t 46))) (.step 40 (Xu 48 44 (.load false 1 (.t 47))) (.step 41 (Xu 49 44 (.len false (.t 48))) (.step 42 (Xu 50 44 (.bin false .gtr (.t 49) (.i 16))) (.step 43 (Xq
 51 (.pick (.t 44) .tb (.t 50))) (.step 44 (Xm 52 51) (.step 45 (Xu 53 52 (.mov (.t 0))) (.step 46 (Xu 54 52 (.nilchk (.t 53))) (.step 47 (Xu 55 52 (.fad 4 (.t 54))) (.step 48 (Xu 56 52 (.load false 1 (.t 55))) (.step 49 (Xu 57 52 (.len false (.t 56))) (.step 50 (Xu 58 52 (.bin false .gtr (.t 57) (.i 40))) (.step 51 (Xq 59 (.pick (.t 52) .tb (.t 58)))
 .nil)))))))))))))))))))))))))))))))))))))))))))))))))) (.cond (.t 59) (.seq (.reg [Xb 2 (.asg .fb)]) .ret) .skip)) (.seq (.reg [Xm 60 0, Xq 61 (.nilchk (.t 60)), Xf 62 1 61, Xl 63 1 62, Xb 64 (.call (.fn 143) false [.lend (.t 63)]), Xa 3 64]) (.seq (.seq (.reg [Xm 65 0, Xq 66 (.nilchk (.t 65)), Xf 67 3 66, Xl 68 1 67, Xn 69 68, Xq 70 (.mov (.i 0))]) (.block 0 (.loop [0, 3, 64, 65, 66, 67, 68, 69,
 70, 82] (.seq (.reg [Xq 71 (.bin false .lss (.t 70) (.t 69))]) (.seq (.cond (.t 71) .skip (.exit 0)) (.seq (.block 1 (.seq (.reg [Xi 72 6 68 70, XL 73 6 72, Xb 5 (.alloc 52 [.z, .i, .i, .i, .i, .s 54 3]), Xz (.store 6 (.t 5) (.t 73))]) (.seq (.seq (.reg [Xm 74 0, XL 75 6 5, Xb 76 (.call (.fn 144) false [.lend (.t 74), .lend (.t 75)]), Xq 77 (.un .not (.t 76))]) (.cond (.t 77) (.seq (.reg [Xb 2
 (.asg .fb)]) .ret) .skip)) (.reg [Xm 78 3, Xf 79 0 5, Xl 80 1 79, Xb 81 (.bsl 9 1 [.t 80]), Xb 82 (.app true 9 1 16 (.t 78) (.t 81)), Xa 3 82])))) (.reg [Xq 83 (.bin false .add (.t 70) (.i 1)), Xm 70 83]))))))) (.seq (.seq (.reg [Xm 84 0, Xq 85 (.nilchk (.t 84)), Xf 86 4 85, Xl 87 1 86, Xn 88 87, Xq 89 (.mov (.i 0))]) (.block 2 (.loop [0, 3, 64, 82, 84, 85, 86, 87, 88, 89] (.seq (.reg [Xq 90 (.bin
 false .lss (.t 89) (.t 88))]) (.seq (.cond (.t 90) .skip (.exit 2)) (.seq (.block 3 (.seq (.reg [Xm 91 89, Xi 92 2 87 89, XL 93 2 92, Xb 7 (.alloc 155 [.z, .z]), Xa 6 91, Xz (.store 2 (.t 7) (.t 93))]) (.seq (.dreg [Xm 94 0, Xq 95 (.nilchk (.t 94)), Xf 96 1 95, Xl 97 1 96, Xf 98 0 7, Xl 99 1 98, Xb 100 (.call (.fn 145) false [.lend (.t 97), .lend (.t 99)]), Xq 101 (.un .not (.t 100)), Xm 102 101,
 Xu 103 102 (.fad 1 (.t 7)), Xu 104 102 (.load false 1 (.t 103)), XU 105 102 (.call (.fn 141) false [.lend (.t 104)]), Xu 106 102 (.un .not (.t 105)), Xq 107 (.pick (.t 102) .tb (.t 106)), Xm 108 107, Xu 109 108 (.mov (.t 0)), Xu 110 108 (.nilchk (.t 109)), Xu 111 108 (.fad 4 (.t 110)), Xu 112 108 (.load false 1 (.t 111)), Xu 113 108 (.mov (.t 6)), Xu 114 108 (.slc false 2 (.t 112) none (some (.t
 113))), Xu 115 108 (.load true 2 (.t 7)), XU 116 108 (.call (.fn 146) false [.lend (.t 114), .lend (.t 115)]), Xq 117 (.pick (.t 108) .tb (.t 116))]) (.cond (.t 117) (.seq (.reg [Xb 2 (.asg .fb)]) .ret) .skip)))) (.reg [Xq 118 (.bin false .add (.t 89) (.i 1)), Xm 89 118]))))))) (.seq (.reg [Xm 119 3, Xb 120 (.call (.fn 142) false [.lend (.t 119)]), Xa 2 120]) .ret))))))
set_option maxHeartbeats 4000000 in
set_option maxRecDepth 100000 in
theorem d77 (s : Scope) (hs : s.sm) : Does Go.Proofs.Tryz.prog 77 [.fptr s.z] false (.v (.bool (scOk s))) [.dead] := by
  have hs' := hs
  unfold Scope.sm at hs'
  obtain ⟨z1, z2, z3, z4, z5⟩ := hs'
  have ecl : List.map Str.z (⟨s.name⟩ :: s.imports) = [AV.v (.string s.name)] :: List.map Str.z s.imports := rfl
  refine does_intro (mc := m77) (N := 121) (rs := [2]) (fx := []) 1 rfl (by decide +kernel) ?_
  simp only [m77, EV, Nat.reduceEqDiff, Nat.reduceBEq, Nat.reduceLT, Nat.reduceLeDiff, Nat.reduceAdd, Nat.reduceSub, reduceIte]
  refine awp_join (fun _ : Unit => unl (⟨s.name⟩ :: s.imports) = true ∧ tabOk s.types = true ∧ s.imports.length ≤ 4 ∧ s.objects.length ≤ 16 ∧ s.uses.length ≤ 40) (fun _ => stl [(0, .fptr s.z)]) ?_ ?_
  · simp only [evP, Scope.z, EV, Nat.reduceEqDiff, Nat.reduceBEq, Nat.reduceLT, Nat.reduceLeDiff, Nat.reduceAdd, Nat.reduceSub, reduceIte]
    refine callK_i (d141 s.name (by omega)) ?_
    simp only [EV, Nat.reduceEqDiff, Nat.reduceBEq, Nat.reduceLT, Nat.reduceLeDiff, Nat.reduceAdd, Nat.reduceSub, reduceIte]
    rcases e1 : nameOk s.name with _ | _
    · have e : scOk s = false := scOk_no fun P => by have := (ScP_iff.1 P).1.1.1.1.1; rw [e1] at this; cases this
      simp only [Bool.not_false, EV, Nat.reduceEqDiff, Nat.reduceBEq, Nat.reduceLT, Nat.reduceLeDiff, Nat.reduceAdd, Nat.reduceSub, reduceIte]
      simp only [e, EV, Nat.reduceEqDiff, Nat.reduceBEq, Nat.reduceLT, Nat.reduceLeDiff, Nat.reduceAdd, Nat.reduceSub, reduceIte, evRE, retVC, cellV', evR, nfz, nfzs, nfzss, List.contains_nil, List.contains_cons, Bool.or_false, or_true]
    simp only [evP, Bool.not_true, Scope.z, EV, Nat.reduceEqDiff, Nat.reduceBEq, Nat.reduceLT, Nat.reduceLeDiff, Nat.reduceAdd, Nat.reduceSub, reduceIte]
    rcases e2 : decide (4 < (s.imports.length : Int)) with _ | _
    rotate_left
    · have e : scOk s = false := scOk_no fun P => by have := P.few1; simp at e2; omega
      simp only [EV, Nat.reduceEqDiff, Nat.reduceBEq, Nat.reduceLT, Nat.reduceLeDiff, Nat.reduceAdd, Nat.reduceSub, reduceIte]
      simp only [e, EV, Nat.reduceEqDiff, Nat.reduceBEq, Nat.reduceLT, Nat.reduceLeDiff, Nat.reduceAdd, Nat.reduceSub, reduceIte, evRE, retVC, cellV', evR, nfz, nfzs, nfzss, List.contains_nil, List.contains_cons, Bool.or_false, or_true]
    simp only [evP, Scope.z, EV, Nat.reduceEqDiff, Nat.reduceBEq, Nat.reduceLT, Nat.reduceLeDiff, Nat.reduceAdd, Nat.reduceSub, reduceIte]
    refine ⟨⟨?_, ?_⟩, ?_⟩
    all_goals
      refine ⟨.inl trivial, by omega, by omega, ?_⟩
      rw [strz_frz, ← ecl]
      refine callK_i (d142 (⟨s.name⟩ :: s.imports) (by simp; omega) (by intro x hx; rcases List.mem_cons.1 hx with rfl | hx; exact z1; exact z2.2 x hx)) ?_
      simp only [evP, Scope.z, EV, Nat.reduceEqDiff, Nat.reduceBEq, Nat.reduceLT, Nat.reduceLeDiff, Nat.reduceAdd, Nat.reduceSub, reduceIte]
      rcases e3 : unl (⟨s.name⟩ :: s.imports) with _ | _
      · have e : scOk s = false := scOk_no fun P => by have := P.unl1; rw [e3] at this; cases this
        simp only [Bool.not_false, EV, Nat.reduceEqDiff, Nat.reduceBEq, Nat.reduceLT, Nat.reduceLeDiff, Nat.reduceAdd, Nat.reduceSub, reduceIte]
        simp only [e, EV, Nat.reduceEqDiff, Nat.reduceBEq, Nat.reduceLT, Nat.reduceLeDiff, Nat.reduceAdd, Nat.reduceSub, reduceIte, evRE, retVC, cellV', evR, nfz, nfzs, nfzss, List.contains_nil, List.contains_cons, Bool.or_false, or_true]
      simp only [evP, Bool.not_true, Scope.z, EV, Nat.reduceEqDiff, Nat.reduceBEq, Nat.reduceLT, Nat.reduceLeDiff, Nat.reduceAdd, Nat.reduceSub, reduceIte]
      refine callK_i (d55 s.types z3.1 z3.2) ?_
      simp only [evP, Scope.z, EV, Nat.reduceEqDiff, Nat.reduceBEq, Nat.reduceLT, Nat.reduceLeDiff, Nat.reduceAdd, Nat.reduceSub, reduceIte]
      rcases e4 : tabOk s.types with _ | _
      · have e : scOk s = false := scOk_no fun P => by have := P.tab; rw [e4] at this; cases this
        simp only [Bool.not_false, EV, Nat.reduceEqDiff, Nat.reduceBEq, Nat.reduceLT, Nat.reduceLeDiff, Nat.reduceAdd, Nat.reduceSub, reduceIte]
        simp only [e, EV, Nat.reduceEqDiff, Nat.reduceBEq, Nat.reduceLT, Nat.reduceLeDiff, Nat.reduceAdd, Nat.reduceSub, reduceIte, evRE, retVC, cellV', evR, nfz, nfzs, nfzss, List.contains_nil, List.contains_cons, Bool.or_false, or_true]
      simp only [evP, Bool.not_true, Scope.z, EV, Nat.reduceEqDiff, Nat.reduceBEq, Nat.reduceLT, Nat.reduceLeDiff, Nat.reduceAdd, Nat.reduceSub, reduceIte]
      rcases e5 : decide (16 < (s.objects.length : Int)) with _ | _
      rotate_left
      · have e : scOk s = false := scOk_no fun P => by have := P.few2; simp at e5; omega
        simp only [EV, Nat.reduceEqDiff, Nat.reduceBEq, Nat.reduceLT, Nat.reduceLeDiff, Nat.reduceAdd, Nat.reduceSub, reduceIte]
        simp only [e, EV, Nat.reduceEqDiff, Nat.reduceBEq, Nat.reduceLT, Nat.reduceLeDiff, Nat.reduceAdd, Nat.reduceSub, reduceIte, evRE, retVC, cellV', evR, nfz, nfzs, nfzss, List.contains_nil, List.contains_cons, Bool.or_false, or_true]
      simp only [evP, Scope.z, EV, Nat.reduceEqDiff, Nat.reduceBEq, Nat.reduceLT, Nat.reduceLeDiff, Nat.reduceAdd, Nat.reduceSub, reduceIte]
      rcases e6 : decide (40 < (s.uses.length : Int)) with _ | _
      rotate_left
      · have e : scOk s = false := scOk_no fun P => by have := P.few3; simp at e6; omega
        simp only [EV, Nat.reduceEqDiff, Nat.reduceBEq, Nat.reduceLT, Nat.reduceLeDiff, Nat.reduceAdd, Nat.reduceSub, reduceIte]
        simp only [e, EV, Nat.reduceEqDiff, Nat.reduceBEq, Nat.reduceLT, Nat.reduceLeDiff, Nat.reduceAdd, Nat.reduceSub, reduceIte, evRE, retVC, cellV', evR, nfz, nfzs, nfzss, List.contains_nil, List.contains_cons, Bool.or_false, or_true]
      simp only [evP, Scope.z, EV, Nat.reduceEqDiff, Nat.reduceBEq, Nat.reduceLT, Nat.reduceLeDiff, Nat.reduceAdd, Nat.reduceSub, reduceIte]
      refine ⟨(), ?_⟩
      simp only [decide_eq_false_iff_not] at e2 e5 e6
      first | exact ⟨by omega, by omega, by omega⟩ | exact ⟨⟨by omega, by omega, by omega⟩, rfl⟩
  rintro _ ⟨g1, g2, g3, g4, g5⟩
  simp only [evP, Scope.z, EV, Nat.reduceEqDiff, Nat.reduceBEq, Nat.reduceLT, Nat.reduceLeDiff, Nat.reduceAdd, Nat.reduceSub, reduceIte]
  refine callK_i (d143 s.imports z2.1) ?_
  simp only [evP, Scope.z, EV, Nat.reduceEqDiff, Nat.reduceBEq, Nat.reduceLT, Nat.reduceLeDiff, Nat.reduceAdd, Nat.reduceSub, reduceIte]
  refine awp_loop (fun i : Nat => i ≤ s.objects.length ∧ obTo s i) (fun i => stl [(0, .fptr s.z), (3, .usl 9 1 ((s.imports ++ (s.objects.take i).map nmS).map Str.o)), (64, .dead), (65, .fptr s.z), (66, .fptr s.z), (67, .fptr [.fsl 6 (s.objects.map Ob.z), .fsl 2 (s.uses.map Us.z)]), (68, .fsl 6 (s.objects.map Ob.z)), (69, .v (.int .i64 (s.objects.length : Int))), (70, .v (.int .i64 (i : Int))), (82, .dead)]) (fun i => s.objects.length - i) 0 ⟨Nat.zero_le _, fun j hj h => absurd h (by omega)⟩ ?_ ?_
  · simp only [List.take_zero, List.map_nil, List.append_nil, Scope.z, EV, Nat.reduceEqDiff, Nat.reduceBEq, Nat.reduceLT, Nat.reduceLeDiff, Nat.reduceAdd, Nat.reduceSub, reduceIte]
    rfl
  rintro i ⟨hi, hok⟩
  rcases h : decide ((i : Int) < (s.objects.length : Int)) with _ | _
  rotate_left
  · have h1 : i < s.objects.length := by simpa using h
    have h2 : (i : Int) < (s.objects.length : Int) := by omega
    have hno : obOk s.types s.objects[i] = false → scOk s = false := fun e => scOk_no fun P => by have := P.obs i h1 h1; rw [e] at this; cases this
    have dob := d144 s s.objects[i] hs (z4.2 _ (List.getElem_mem h1))
    simp only [Ob.z, Scope.z] at dob
    simp only [h, Scope.z, EV, Nat.reduceEqDiff, Nat.reduceBEq, Nat.reduceLT, Nat.reduceLeDiff, Nat.reduceAdd, Nat.reduceSub, reduceIte]
    simp only [ObE, nth_map h1, h2, Ob.z, Scope.z, EV, Nat.reduceEqDiff, Nat.reduceBEq, Nat.reduceLT, Nat.reduceLeDiff, Nat.reduceAdd, Nat.reduceSub, reduceIte]
    refine callK_i dob ?_
    simp only [EV, Nat.reduceEqDiff, Nat.reduceBEq, Nat.reduceLT, Nat.reduceLeDiff, Nat.reduceAdd, Nat.reduceSub, reduceIte]
    rcases e1 : obOk s.types s.objects[i] with _ | _
    · simp only [Bool.not_false, EV, Nat.reduceEqDiff, Nat.reduceBEq, Nat.reduceLT, Nat.reduceLeDiff, Nat.reduceAdd, Nat.reduceSub, reduceIte]
      simp only [hno e1, EV, Nat.reduceEqDiff, Nat.reduceBEq, Nat.reduceLT, Nat.reduceLeDiff, Nat.reduceAdd, Nat.reduceSub, reduceIte, evRE, retVC, cellV', evR, nfz, nfzs, nfzss, List.contains_nil, List.contains_cons, Bool.or_false, or_true]
    simp only [Bool.not_true, Ob.z, Scope.z, EV, Nat.reduceEqDiff, Nat.reduceBEq, Nat.reduceLT, Nat.reduceLeDiff, Nat.reduceAdd, Nat.reduceSub, reduceIte]
    have e9 : List.map Str.o (s.imports ++ (s.objects.take (i + 1)).map nmS) = List.map Str.o (s.imports ++ (s.objects.take i).map nmS) ++ [[AV.v (.string s.objects[i].name)]] := by
      rw [List.take_succ_eq_append_getElem h1]; simp only [List.map_append, List.append_assoc]; rfl
    rw [w64 _ (by omega)]
    exact ⟨by simp; omega, by simp; omega, i + 1, ⟨h1, obTo_succ h1 hok e1⟩, by omega, by rw [e9]; rfl⟩
  have h1 : i = s.objects.length := by have : ¬ (i : Int) < s.objects.length := by simpa using h
                                       omega
  subst h1
  have hO := hok
  rw [List.take_length]
  simp only [h, evP, Scope.z, EV, Nat.reduceEqDiff, Nat.reduceBEq, Nat.reduceLT, Nat.reduceLeDiff, Nat.reduceAdd, Nat.reduceSub, reduceIte]
  refine awp_loop (fun i : Nat => i ≤ s.uses.length ∧ usTo s i) (fun i => stl [(0, .fptr s.z), (3, .usl 9 1 ((s.imports ++ s.objects.map nmS).map Str.o)), (64, .dead), (82, .dead), (84, .fptr s.z), (85, .fptr s.z), (86, .fptr [.fsl 2 (s.uses.map Us.z)]), (87, .fsl 2 (s.uses.map Us.z)), (88, .v (.int .i64 (s.uses.length : Int))), (89, .v (.int .i64 (i : Int)))]) (fun i => s.uses.length - i) 0 ⟨Nat.zero_le _, fun j hj h => absurd h (by omega)⟩ ?_ ?_
  · simp only [Scope.z, EV, Nat.reduceEqDiff, Nat.reduceBEq, Nat.reduceLT, Nat.reduceLeDiff, Nat.reduceAdd, Nat.reduceSub, reduceIte]
    rfl
  clear h
  rintro i ⟨hi, hok⟩
  rcases h : decide ((i : Int) < (s.uses.length : Int)) with _ | _
  rotate_left
  · have h1 : i < s.uses.length := by simpa using h
    have h2 : (i : Int) < (s.uses.length : Int) := by omega
    have hno : ¬ usAt s i h1 → scOk s = false := fun e => scOk_no fun P => e (P.uses i h1 h1)
    have hsm := z5.2 _ (List.getElem_mem h1)
    unfold Us.sm at hsm
    simp only [h, Scope.z, EV, Nat.reduceEqDiff, Nat.reduceBEq, Nat.reduceLT, Nat.reduceLeDiff, Nat.reduceAdd, Nat.reduceSub, reduceIte]
    simp only [UsE, nth_map h1, h2, Us.z, evP, Scope.z, EV, Nat.reduceEqDiff, Nat.reduceBEq, Nat.reduceLT, Nat.reduceLeDiff, Nat.reduceAdd, Nat.reduceSub, reduceIte]
    refine callD_i (d145 s.imports s.uses[i].mod (by omega)) rfl ?_
    simp only [EV, Nat.reduceEqDiff, Nat.reduceBEq, Nat.reduceLT, Nat.reduceLeDiff, Nat.reduceAdd, Nat.reduceSub, reduceIte]
    rcases e1 : s.imports.any (eqSt s.uses[i].mod) with _ | _
    · have e : scOk s = false := hno (by rintro ⟨g, _⟩; rw [e1] at g; cases g)
      simp only [Bool.not_false, EV, Nat.reduceEqDiff, Nat.reduceBEq, Nat.reduceLT, Nat.reduceLeDiff, Nat.reduceAdd, Nat.reduceSub, reduceIte]
      simp only [e, EV, Nat.reduceEqDiff, Nat.reduceBEq, Nat.reduceLT, Nat.reduceLeDiff, Nat.reduceAdd, Nat.reduceSub, reduceIte, evRE, retVC, cellV', evR, nfz, nfzs, nfzss, List.contains_nil, List.contains_cons, Bool.or_false, or_true]
    simp only [Bool.not_true, evP, Us.z, Scope.z, EV, Nat.reduceEqDiff, Nat.reduceBEq, Nat.reduceLT, Nat.reduceLeDiff, Nat.reduceAdd, Nat.reduceSub, reduceIte]
    refine callD_i (d141 s.uses[i].name (by omega)) rfl ?_
    simp only [EV, Nat.reduceEqDiff, Nat.reduceBEq, Nat.reduceLT, Nat.reduceLeDiff, Nat.reduceAdd, Nat.reduceSub, reduceIte]
    rcases e2 : nameOk s.uses[i].name with _ | _
    · have e : scOk s = false := hno (by rintro ⟨_, g, _⟩; rw [e2] at g; cases g)
      simp only [Bool.not_false, EV, Nat.reduceEqDiff, Nat.reduceBEq, Nat.reduceLT, Nat.reduceLeDiff, Nat.reduceAdd, Nat.reduceSub, reduceIte]
      simp only [e, EV, Nat.reduceEqDiff, Nat.reduceBEq, Nat.reduceLT, Nat.reduceLeDiff, Nat.reduceAdd, Nat.reduceSub, reduceIte, evRE, retVC, cellV', evR, nfz, nfzs, nfzss, List.contains_nil, List.contains_cons, Bool.or_false, or_true]
    simp only [Bool.not_true, evP, Us.z, Scope.z, EV, Nat.reduceEqDiff, Nat.reduceBEq, Nat.reduceLT, Nat.reduceLeDiff, Nat.reduceAdd, Nat.reduceSub, reduceIte]
    refine ⟨by omega, by omega, ?_⟩
    rw [← List.map_take]
    have dc := d146 (s.uses.take i) s.uses[i] (by simp; omega)
    simp only [Us.z] at dc
    refine callD_i dc rfl ?_
    simp only [EV, Nat.reduceEqDiff, Nat.reduceBEq, Nat.reduceLT, Nat.reduceLeDiff, Nat.reduceAdd, Nat.reduceSub, reduceIte]
    rcases e3 : (s.uses.take i).any (qUs s.uses[i]) with _ | _
    · simp only [evP, Us.z, Scope.z, EV, Nat.reduceEqDiff, Nat.reduceBEq, Nat.reduceLT, Nat.reduceLeDiff, Nat.reduceAdd, Nat.reduceSub, reduceIte]
      rw [w64 _ (by omega)]
      exact ⟨i + 1, ⟨h1, usTo_succ h1 hok ⟨e1, e2, e3⟩⟩, by omega, rfl⟩
    · have e : scOk s = false := hno (by rintro ⟨_, _, g⟩; rw [e3] at g; cases g)
      simp only [EV, Nat.reduceEqDiff, Nat.reduceBEq, Nat.reduceLT, Nat.reduceLeDiff, Nat.reduceAdd, Nat.reduceSub, reduceIte]
      simp only [e, EV, Nat.reduceEqDiff, Nat.reduceBEq, Nat.reduceLT, Nat.reduceLeDiff, Nat.reduceAdd, Nat.reduceSub, reduceIte, evRE, retVC, cellV', evR, nfz, nfzs, nfzss, List.contains_nil, List.contains_cons, Bool.or_false, or_true]
  have h1 : i = s.uses.length := by have : ¬ (i : Int) < s.uses.length := by simpa using h
                                    omega
  subst h1
  have hU := hok
  have hfin : scOk s = unl (s.imports ++ s.objects.map nmS) := by
    rw [Bool.eq_iff_iff, scOk_iff]
    exact ⟨fun P => P.unl2, fun u => ⟨g3, g1, g2, g4, g5, hO, hU, u⟩⟩
  have hstr : ∀ l : List Str, frzRows (l.map Str.o) = l.map Str.z := Str.frz
  simp only [h, hstr, Scope.z, EV, Nat.reduceEqDiff, Nat.reduceBEq, Nat.reduceLT, Nat.reduceLeDiff, Nat.reduceAdd, Nat.reduceSub, reduceIte]
  refine callK_i (d142 (s.imports ++ s.objects.map nmS) (by simp; omega) ?_) ?_
  · intro x hx
    rcases List.mem_append.1 hx with hx | hx
    · exact z2.2 x hx
    · obtain ⟨o, ho, rfl⟩ := List.mem_map.1 hx
      exact (z4.2 o ho).1
  simp only [EV, Nat.reduceEqDiff, Nat.reduceBEq, Nat.reduceLT, Nat.reduceLeDiff, Nat.reduceAdd, Nat.reduceSub, reduceIte]
  simp only [hfin, EV, Nat.reduceEqDiff, Nat.reduceBEq, Nat.reduceLT, Nat.reduceLeDiff, Nat.reduceAdd, Nat.reduceSub, reduceIte, evRE, retVC, cellV', evR, nfz, nfzs, nfzss, List.contains_nil, List.contains_cons, Bool.or_false, or_true]
end Go.AM
namespace Go.AM
set_option linter.unusedVariables false
set_option linter.unusedSimpArgs false
def baseAt (l : List Ty) (n : Int) : Int := match l[n.toNat]? with
  | some t => t.base
  | none => -1
theorem baseAt_eq {l : List Ty} {n : Int} (h : n.toNat < l.length) : baseAt l n = l[n.toNat].base := by simp [baseAt, h]
def chainF (l : List Ty) : Nat → Int → List Int
  | 0, _ => []
  | f + 1, n => if n < 0 then [] else n :: chainF l f (baseAt l n)
def lineL (l : List Ty) (n : Int) : List Int := chainF l (l.length + 1) n
def isL (l : List Ty) (n : Int) : Prop := n < 0 ∨ isRec l n = true
theorem isRec_in {l : List Ty} {n : Int} (h : isRec l n = true) : 0 ≤ n ∧ n < (l.length : Int) ∧ ∃ hn : n.toNat < l.length, l[n.toNat].kind = 5 := by
  simp only [isRec, Bool.and_eq_true, beq_iff_eq] at h
  obtain ⟨h0, h1, hn, hk⟩ := isNum_lt h.1
  exact ⟨h0, h1, hn, by rw [← hk]; exact h.2⟩
theorem isRec_base {l : List Ty} (ht : tysOk l = true) {n : Int} (h : isRec l n = true) : isL l (baseAt l n) ∧ (0 ≤ baseAt l n → baseAt l n ∈ kids l false n) := by
  obtain ⟨h0, h1, hn, hk⟩ := isRec_in h
  have G := tysOk_good ht hn
  rw [baseAt_eq hn]
  refine ⟨(G.rec5 hk).elim (fun e => .inl (by omega)) .inr, fun hb => ?_⟩
  rw [kids_at hn]
  have e6 : (l[n.toNat].kind == 6) = false := by rw [hk]; rfl
  simp only [prt, e6, hb, decide_true, Bool.not_false, Bool.or_true, Bool.and_self, if_true, List.mem_append, List.mem_singleton, true_or]
theorem rk_le (l : List Ty) (n : Int) : rk l n ≤ l.length := by
  unfold rk reachL
  refine Nat.le_trans (List.length_filter_le _ _) ?_
  simp
theorem chainF_irr {l : List Ty} (ht : tabOk l = true) : ∀ (f f' : Nat) (n : Int), isL l n → rk l n < f → rk l n < f' → chainF l f n = chainF l f' n
  | 0, _, n, _, h, _ => absurd h (by omega)
  | f + 1, 0, n, _, _, h => absurd h (by omega)
  | f + 1, f' + 1, n, hn, h, h' => by
    unfold chainF
    by_cases h0 : n < 0
    · rw [if_pos h0, if_pos h0]
    · rw [if_neg h0, if_neg h0]
      have hr : isRec l n = true := hn.resolve_left h0
      obtain ⟨b1, b2⟩ := isRec_base (tabOk_tys ht) hr
      obtain ⟨g0, g1, _⟩ := isRec_in hr
      by_cases hb : baseAt l n < 0
      · have e : ∀ g, chainF l g (baseAt l n) = [] := by
          intro g; cases g with
          | zero => rfl
          | succ g => unfold chainF; rw [if_pos hb]
        rw [e, e]
      · have hlt := rk_lt ht g0 g1 (b2 (by omega))
        rw [chainF_irr ht f f' (baseAt l n) b1 (by omega) (by omega)]
theorem lineL_neg {l : List Ty} {n : Int} (h : n < 0) : lineL l n = [] := by unfold lineL chainF; rw [if_pos h]
theorem lineL_rec {l : List Ty} (ht : tabOk l = true) {n : Int} (h : isRec l n = true) : lineL l n = n :: lineL l (baseAt l n) := by
  obtain ⟨b1, b2⟩ := isRec_base (tabOk_tys ht) h
  obtain ⟨g0, g1, _⟩ := isRec_in h
  unfold lineL
  rw [chainF]
  rw [if_neg (by omega)]
  by_cases hb : baseAt l n < 0
  · have e : ∀ g, chainF l g (baseAt l n) = [] := by
      intro g; cases g with
      | zero => rfl
      | succ g => unfold chainF; rw [if_pos hb]
    rw [e, e]
  · have hlt := rk_lt ht g0 g1 (b2 (by omega))
    have := rk_le l n
    rw [chainF_irr ht l.length (l.length + 1) _ b1 (by omega) (by omega)]
theorem tabOk_len {l : List Ty} (h : tabOk l = true) : l.length ≤ 24 := (tysOk_len (tabOk_tys h)).2
end Go.AM
namespace Go.AM
set_option linter.unusedVariables false
set_option linter.unusedSimpArgs false
def m29 : MC :=
 (.seq (.reg [Xb 2 (.asg (.nils 3 1))]) (.seq (.reg [Xm 5 0, Xn 6 5, Xb 7 (.mks 3 1 8 [.i] (.t 6) (.t 6)), Xa 3 7]) (.seq (.seq (.reg [Xb 4 (.asg (.i 0))]) (.block 0 (.loop [0, 3, 4, 7] (.seq (.seq (.reg [Xm 8 4, Xm 9 0, Xn 10 9, Xq 11 (.bin false .lss (.t 8) (.t 10))]) (.cond (.t 11) .skip (.exit 0))) (.seq (.block 1 (.reg [Xm 14 3, Xm 15 4, Xm 16 0, Xm 17 4, Xi 18 1 16 17, Xl 19 1 18, Xi 20 1 14
 15, Xz (.store 1 (.t 20) (.t 19))])) (.reg [Xm 12 4, Xq 13 (.bin false .add (.t 12) (.i 1)), Xa 4 13])))))) (.seq (.reg [Xm 21 3, Xa 2 21]) .ret))))
theorem d29 (l : List Int) (hl : (l.length : Int) ≤ 1048576) : Does Go.Proofs.Tryz.prog 29 [.fsl 1 (l.map iv)] false (.usl 3 1 (l.map iv)) [.dead] := by
  refine does_intro (mc := m29) (N := 22) (rs := [2]) (fx := []) 1 rfl (by decide +kernel) ?_
  simp only [m29, EV, Nat.reduceEqDiff, Nat.reduceBEq, Nat.reduceLT, Nat.reduceLeDiff, Nat.reduceAdd, Nat.reduceSub, reduceIte]
  refine ⟨by omega, by omega, ?_⟩
  refine awp_loop (fun i : Nat => i ≤ l.length) (fun i => stl [(0, .fsl 1 (l.map iv)), (3, .usl 3 1 ((l.take i).map iv ++ List.replicate (l.length - i) [.v (.int .i64 0)])), (4, .v (.int .i64 (i : Int))), (7, .dead)]) (fun i => l.length - i) 0 (Nat.zero_le _) ?_ ?_
  · simp only [EV, Nat.reduceEqDiff, Nat.reduceBEq, Nat.reduceLT, Nat.reduceLeDiff, Nat.reduceAdd, Nat.reduceSub, reduceIte]
    rfl
  · intro i hi
    simp only [EV, Nat.reduceEqDiff, Nat.reduceBEq, Nat.reduceLT, Nat.reduceLeDiff, Nat.reduceAdd, Nat.reduceSub, reduceIte]
    refine cK_cut (fun h => ?_) (fun h => ?_)
    · have h1 : i < l.length := by simpa using h
      have h2 : (i : Int) < (l.length : Int) := by omega
      have h3 : ((l.take i).map iv ++ List.replicate (l.length - i) [AV.v (.int .i64 0)]).length = l.length := by simp; omega
      have ei : iv l[i] = [.v (.int .i64 l[i])] := rfl
      simp only [nth_map h1, ei, h1, h2, h3, EV, Nat.reduceEqDiff, Nat.reduceBEq, Nat.reduceLT, Nat.reduceLeDiff, Nat.reduceAdd, Nat.reduceSub, reduceIte]
      try refine ⟨h1, ?_⟩
      refine ⟨i + 1, by omega, by omega, ?_⟩
      have ef := fill_set (g := iv) (l := l) (z := [AV.v (.int .i64 0)]) h1
      rw [fill_nth h1, w64 _ (by omega)]
      rw [← ef]
      rfl
    · have h1 : i = l.length := by have : ¬ (i : Int) < l.length := by simpa using h
                                   omega
      subst h1
      simp only [EV, Nat.reduceEqDiff, Nat.reduceBEq, Nat.reduceLT, Nat.reduceLeDiff, Nat.reduceAdd, Nat.reduceSub, reduceIte]
      simp only [Nat.sub_self, List.replicate_zero, iv_nfz, EV, Nat.reduceEqDiff, Nat.reduceBEq, Nat.reduceLT, Nat.reduceLeDiff, Nat.reduceAdd, Nat.reduceSub, reduceIte, evRE, retVC, cellV', evR, nfz, nfzs, nfzss, List.contains_nil, List.contains_cons, Bool.or_false, or_true]
def m31 : MC :=
 (.seq (.reg [Xb 4 (.asg .fb)]) (.seq (.seq (.reg [Xm 6 0, Xn 7 6, Xm 8 1, Xn 9 8, Xq 10 (.bin false .neq (.t 7) (.t 9))]) (.cond (.t 10) (.seq (.reg [Xb 4 (.asg .fb)]) .ret) .skip)) (.seq (.seq (.reg [Xb 5 (.asg (.i 0))]) (.block 0 (.loop [0, 1, 5] (.seq (.seq (.reg [Xm 11 5, Xm 12 0, Xn 13 12, Xq 14 (.bin false .lss (.t 11) (.t 13))]) (.cond (.t 14) .skip (.exit 0))) (.seq (.block 1 (.seq (.dreg
 [Xm 17 0, Xm 18 5, Xi 19 1 17 18, Xl 20 1 19, Xm 21 1, Xm 22 5, Xi 23 1 21 22, Xl 24 1 23, Xq 25 (.bin false .neq (.t 20) (.t 24))]) (.cond (.t 25) (.seq (.reg [Xb 4 (.asg .fb)]) .ret) .skip))) (.reg [Xm 15 5, Xq 16 (.bin false .add (.t 15) (.i 1)), Xa 5 16])))))) (.seq (.reg [Xb 4 (.asg .tb)]) .ret))))
theorem d31 (l : List Int) (hl : (l.length : Int) ≤ 1048576) : Does Go.Proofs.Tryz.prog 31 [.fsl 1 (l.map iv), .fsl 1 (l.map iv)] false (.v (.bool true)) [.dead, .dead] := by
  refine does_intro (mc := m31) (N := 26) (rs := [4]) (fx := []) 2 rfl (by decide +kernel) ?_
  simp only [m31, EV, Nat.reduceEqDiff, Nat.reduceBEq, Nat.reduceLT, Nat.reduceLeDiff, Nat.reduceAdd, Nat.reduceSub, reduceIte]
  refine awp_loop (fun i : Nat => i ≤ l.length) (fun i => stl [(0, .fsl 1 (l.map iv)), (1, .fsl 1 (l.map iv)), (5, .v (.int .i64 (i : Int)))]) (fun i => l.length - i) 0 (Nat.zero_le _) ?_ ?_
  · simp only [EV, Nat.reduceEqDiff, Nat.reduceBEq, Nat.reduceLT, Nat.reduceLeDiff, Nat.reduceAdd, Nat.reduceSub, reduceIte]
    rfl
  · intro i hi
    simp only [EV, Nat.reduceEqDiff, Nat.reduceBEq, Nat.reduceLT, Nat.reduceLeDiff, Nat.reduceAdd, Nat.reduceSub, reduceIte]
    refine cK_cut (fun h => ?_) (fun h => ?_)
    · have h1 : i < l.length := by simpa using h
      have h2 : (i : Int) < (l.length : Int) := by omega
      have ei : iv l[i] = [.v (.int .i64 l[i])] := rfl
      simp only [nth_map h1, ei, h2, EV, Nat.reduceEqDiff, Nat.reduceBEq, Nat.reduceLT, Nat.reduceLeDiff, Nat.reduceAdd, Nat.reduceSub, reduceIte]
      rw [w64 _ (by omega)]
      exact ⟨i + 1, by omega, by omega, rfl⟩
    · have h1 : i = l.length := by have : ¬ (i : Int) < l.length := by simpa using h
                                   omega
      simp only [EV, Nat.reduceEqDiff, Nat.reduceBEq, Nat.reduceLT, Nat.reduceLeDiff, Nat.reduceAdd, Nat.reduceSub, reduceIte]
      simp only [EV, Nat.reduceEqDiff, Nat.reduceBEq, Nat.reduceLT, Nat.reduceLeDiff, Nat.reduceAdd, Nat.reduceSub, reduceIte, evRE, retVC, cellV', evR, nfz, nfzs, nfzss, List.contains_nil, List.contains_cons, Bool.or_false, or_true]
end Go.AM
namespace Go.AM
set_option linter.unusedVariables false
set_option linter.unusedSimpArgs false
def m147 : MC :=
 (.seq (.reg [Xb 4 (.asg (.i 0))]) (.seq (.seq (.reg [Xm 6 0, Xn 7 6, Xq 8 (.mov (.i 0))]) (.block 0 (.loop [0, 1, 7, 8] (.seq (.reg [Xq 9 (.bin false .lss (.t 8) (.t 7))]) (.seq (.cond (.t 9) .skip (.exit 0)) (.seq (.block 1 (.seq (.reg [Xm 10 8, Xa 5 10]) (.seq (.reg [Xm 11 1, Xm 12 0, Xm 13 5, Xi 14 1 12 13, Xl 15 1 14, Xb 16 (.call (.t 11) false [.lend (.t 15)])]) (.cond (.t 16) (.seq (.reg [Xm
 17 5, Xa 4 17]) .ret) .skip)))) (.reg [Xq 18 (.bin false .add (.t 8) (.i 1)), Xm 8 18]))))))) (.seq (.reg [Xb 4 (.asg (.i (-1)))]) .ret)))
theorem d147 (l : List Int) (hl : l.length < 9223372036854775807) (f : Nat) (caps : List AV) (q : Int → Bool) (hp : plains caps = true) (hb : bares caps = true) (hk : ∀ K, killVs K caps = caps) (hf : ∀ (st : St), frzBs st caps = caps)
    (hq : ∀ s ∈ l, Does Go.Proofs.Tryz.prog f (.v (.int .i64 s) :: caps) false (.v (.bool (q s))) (.dead :: caps.map fun _ => .dead)) :
    Does Go.Proofs.Tryz.prog 147 [.fsl 1 (l.map iv), .clo f caps] false (.v (.int .i64 (findI q l))) [.dead, .dead] := by
  refine does_intro (mc := m147) (N := 19) (rs := [4]) (fx := []) 2 rfl (by decide +kernel) ?_
  simp only [m147, EV, Nat.reduceEqDiff, Nat.reduceBEq, Nat.reduceLT, Nat.reduceLeDiff, Nat.reduceAdd, Nat.reduceSub, reduceIte]
  refine awp_loop (fun i : Nat => i ≤ l.length ∧ ∀ j (hj : j < l.length), j < i → q l[j] = false) (fun i => stl [(0, .fsl 1 (l.map iv)), (1, .clo f caps), (7, .v (.int .i64 (l.length : Int))), (8, .v (.int .i64 (i : Int)))]) (fun i => l.length - i) 0 ⟨Nat.zero_le _, fun j hj h => absurd h (by omega)⟩ ?_ ?_
  · simp only [hp, hb, hk, EV, Nat.reduceEqDiff, Nat.reduceBEq, Nat.reduceLT, Nat.reduceLeDiff, Nat.reduceAdd, Nat.reduceSub, reduceIte]
    rfl
  · rintro i ⟨hi, hno⟩
    simp only [EV, Nat.reduceEqDiff, Nat.reduceBEq, Nat.reduceLT, Nat.reduceLeDiff, Nat.reduceAdd, Nat.reduceSub, reduceIte]
    refine cK_cut (fun h => ?_) (fun h => ?_)
    · have h1 : i < l.length := by simpa using h
      have h2 : (i : Int) < (l.length : Int) := by omega
      simp only [nth_map h1, h2, iv, hp, hb, EV, Nat.reduceEqDiff, Nat.reduceBEq, Nat.reduceLT, Nat.reduceLeDiff, Nat.reduceAdd, Nat.reduceSub, reduceIte]
      refine callK_i (hq l[i] (List.getElem_mem h1)) ?_
      simp only [EV, Nat.reduceEqDiff, Nat.reduceBEq, Nat.reduceLT, Nat.reduceLeDiff, Nat.reduceAdd, Nat.reduceSub, reduceIte]
      refine cK_cut (fun h => ?_) (fun h => ?_)
      · simp only [EV, Nat.reduceEqDiff, Nat.reduceBEq, Nat.reduceLT, Nat.reduceLeDiff, Nat.reduceAdd, Nat.reduceSub, reduceIte]
        simp only [findI_at h1 h hno, EV, Nat.reduceEqDiff, Nat.reduceBEq, Nat.reduceLT, Nat.reduceLeDiff, Nat.reduceAdd, Nat.reduceSub, reduceIte, evRE, retVC, cellV', evR, nfz, nfzs, nfzss, List.contains_nil, List.contains_cons, Bool.or_false, or_true]
      · simp only [hp, hb, hk, EV, Nat.reduceEqDiff, Nat.reduceBEq, Nat.reduceLT, Nat.reduceLeDiff, Nat.reduceAdd, Nat.reduceSub, reduceIte]
        rw [w64 _ (by omega)]
        refine ⟨i + 1, ⟨by omega, ?_⟩, by omega, rfl⟩
        intro j hj hji
        by_cases e : j = i
        · subst e; exact h
        · exact hno j hj (by omega)
    · have h1 : i = l.length := by have : ¬ (i : Int) < l.length := by simpa using h
                                   omega
      subst h1
      simp only [EV, Nat.reduceEqDiff, Nat.reduceBEq, Nat.reduceLT, Nat.reduceLeDiff, Nat.reduceAdd, Nat.reduceSub, reduceIte]
      simp only [findI_no (fun j hj => hno j hj hj), EV, Nat.reduceEqDiff, Nat.reduceBEq, Nat.reduceLT, Nat.reduceLeDiff, Nat.reduceAdd, Nat.reduceSub, reduceIte, evRE, retVC, cellV', evR, nfz, nfzs, nfzss, List.contains_nil, List.contains_cons, Bool.or_false, or_true]
def m79 : MC :=
 (.seq (.reg [Xb 4 (.asg .fb)]) (.seq (.reg [Xm 5 0, Xm 6 1, Xb 7 (.call (.fn 147) false [.lend (.t 5), .lend (.t 6)]), Xq 8 (.bin false .geq (.t 7) (.i 0)), Xa 4 8]) .ret))
theorem d79 (l : List Int) (hl : l.length < 9223372036854775807) (f : Nat) (caps : List AV) (q : Int → Bool) (hp : plains caps = true) (hb : bares caps = true) (hk : ∀ K, killVs K caps = caps) (hf : ∀ (st : St), frzBs st caps = caps)
    (hq : ∀ s ∈ l, Does Go.Proofs.Tryz.prog f (.v (.int .i64 s) :: caps) false (.v (.bool (q s))) (.dead :: caps.map fun _ => .dead)) :
    Does Go.Proofs.Tryz.prog 79 [.fsl 1 (l.map iv), .clo f caps] false (.v (.bool (l.any q))) [.dead, .dead] := by
  refine does_intro (mc := m79) (N := 9) (rs := [4]) (fx := []) 2 rfl (by decide +kernel) ?_
  simp only [m79, hp, hb, hk, hf, EV, Nat.reduceEqDiff, Nat.reduceBEq, Nat.reduceLT, Nat.reduceLeDiff, Nat.reduceAdd, Nat.reduceSub, reduceIte]
  refine callK_i (d147 l hl f caps q hp hb hk hf hq) ?_
  simp only [EV, Nat.reduceEqDiff, Nat.reduceBEq, Nat.reduceLT, Nat.reduceLeDiff, Nat.reduceAdd, Nat.reduceSub, reduceIte]
  simp only [findI_any, EV, Nat.reduceEqDiff, Nat.reduceBEq, Nat.reduceLT, Nat.reduceLeDiff, Nat.reduceAdd, Nat.reduceSub, reduceIte, evRE, retVC, cellV', evR, nfz, nfzs, nfzss, List.contains_nil, List.contains_cons, Bool.or_false, or_true]
end Go.AM
namespace Go.AM
set_option linter.unusedVariables false
set_option linter.unusedSimpArgs false
theorem line_contains_rec {l : List Ty} (ht : tabOk l = true) {n b : Int} (h : isRec l n = true) : (lineL l n).contains b = ((n == b) || (lineL l (baseAt l n)).contains b) := by
  rw [lineL_rec ht h, List.contains_cons, Bool.beq_comm]
def m57 : MC :=
 (.seq (.reg [Xb 6 (.asg .fb)]) (.seq (.block 0 (.loop [0, 1, 2] (.seq (.seq (.reg [Xm 7 1, Xq 8 (.bin false .geq (.t 7) (.i 0)), Xm 9 8, Xt 10 9 (.mov (.t 1)), Xt 11 9 (.mov (.t 2)), Xt 12 9 (.bin false .neq (.t 10) (.t 11)), Xq 13 (.pick (.t 9) (.t 12) .fb)]) (.cond (.t 13) .skip (.exit 0))) (.block 1 (.reg [Xm 14 0, Xm 15 1, Xi 16 6 14 15, Xf 17 2 16, Xl 18 1 17, Xa 1 18]))))) (.seq (.reg [Xm 19
 1, Xm 20 2, Xq 21 (.bin false .eql (.t 19) (.t 20)), Xa 6 21]) .ret)))
set_option maxRecDepth 100000 in
theorem d57 (l : List Ty) (a0 b : Int) (hl : (l.length : Int) ≤ 1048576) (ht : tabOk l = true) (h0 : isL l a0) (hb : 0 ≤ b) : Does Go.Proofs.Tryz.prog 57 [.fsl 6 (l.map Ty.z), .v (.int .i64 a0), .v (.int .i64 b)] false (.v (.bool ((lineL l a0).contains b))) [.dead, .dead, .dead] := by
  refine does_intro (mc := m57) (N := 22) (rs := [6]) (fx := []) 3 rfl (by decide +kernel) ?_
  simp only [m57, EV, Nat.reduceEqDiff, Nat.reduceBEq, Nat.reduceLT, Nat.reduceLeDiff, Nat.reduceAdd, Nat.reduceSub, reduceIte]
  refine awp_loop (fun a : Int => isL l a ∧ (lineL l a0).contains b = (lineL l a).contains b) (fun a => stl [(0, .fsl 6 (l.map Ty.z)), (1, .v (.int .i64 a)), (2, .v (.int .i64 b))]) (fun a => (lineL l a).length) a0 ⟨h0, rfl⟩ ?_ ?_
  · simp only [EV, Nat.reduceEqDiff, Nat.reduceBEq, Nat.reduceLT, Nat.reduceLeDiff, Nat.reduceAdd, Nat.reduceSub, reduceIte]
  · rintro a ⟨ha, he⟩
    simp only [EV, Nat.reduceEqDiff, Nat.reduceBEq, Nat.reduceLT, Nat.reduceLeDiff, Nat.reduceAdd, Nat.reduceSub, reduceIte]
    refine gK_cut (fun h => ?_) (fun h => ?_)
    · have hr : isRec l a = true := ha.resolve_left (by have : 0 ≤ a := by simpa using h
                                                        omega)
      obtain ⟨g0, g1, gn, _⟩ := isRec_in hr
      have hlr := lineL_rec ht hr
      have hbs := (isRec_base (tabOk_tys ht) hr).1
      have hc := line_contains_rec (b := b) ht hr
      simp only [h, bne, EV, Nat.reduceEqDiff, Nat.reduceBEq, Nat.reduceLT, Nat.reduceLeDiff, Nat.reduceAdd, Nat.reduceSub, reduceIte]
      rcases e : (a == b) with _ | _
      · simp only [Bool.not_false, g0, g1, nth_map gn, Ty.z, EV, Nat.reduceEqDiff, Nat.reduceBEq, Nat.reduceLT, Nat.reduceLeDiff, Nat.reduceAdd, Nat.reduceSub, reduceIte]
        refine ⟨baseAt l a, ⟨hbs, ?_⟩, by rw [hlr]; simp, ?_⟩
        · rw [he, hc, e, Bool.false_or]
        · rw [baseAt_eq gn]
      · have e2 : (lineL l a0).contains b = true := by rw [he, hc, e, Bool.true_or]
        simp only [Bool.not_true, e, EV, Nat.reduceEqDiff, Nat.reduceBEq, Nat.reduceLT, Nat.reduceLeDiff, Nat.reduceAdd, Nat.reduceSub, reduceIte]
        simp only [e2, EV, Nat.reduceEqDiff, Nat.reduceBEq, Nat.reduceLT, Nat.reduceLeDiff, Nat.reduceAdd, Nat.reduceSub, reduceIte, evRE, retVC, cellV', evR, nfz, nfzs, nfzss, List.contains_nil, List.contains_cons, Bool.or_false, or_true]
    · have hn : a < 0 := by have : ¬ 0 ≤ a := by simpa using h
                            omega
      have e1 : (a == b) = false := by simp; omega
      have e2 : (lineL l a0).contains b = false := by rw [he, lineL_neg hn]; rfl
      simp only [h, EV, Nat.reduceEqDiff, Nat.reduceBEq, Nat.reduceLT, Nat.reduceLeDiff, Nat.reduceAdd, Nat.reduceSub, reduceIte]
      simp only [e1, e2, EV, Nat.reduceEqDiff, Nat.reduceBEq, Nat.reduceLT, Nat.reduceLeDiff, Nat.reduceAdd, Nat.reduceSub, reduceIte, evRE, retVC, cellV', evR, nfz, nfzs, nfzss, List.contains_nil, List.contains_cons, Bool.or_false, or_true]
def m60 : MC :=
 (.seq (.reg [Xb 6 (.asg .fb)]) (.seq (.block 0 (.loop [0, 1, 2] (.seq (.seq (.reg [Xm 7 1, Xq 8 (.bin false .geq (.t 7) (.i 0))]) (.cond (.t 8) .skip (.exit 0))) (.seq (.block 1 (.seq (.reg [Xm 14 1, Xm 15 2, Xq 16 (.bin false .eql (.t 14) (.t 15))]) (.cond (.t 16) (.seq (.reg [Xb 6 (.asg .tb)]) .ret) .skip))) (.reg [Xm 9 0, Xm 10 1, Xi 11 6 9 10, Xf 12 2 11, Xl 13 1 12, Xa 1 13]))))) (.seq (.reg
 [Xb 6 (.asg .fb)]) .ret)))
set_option maxRecDepth 100000 in
theorem d60 (l : List Ty) (a0 b : Int) (hl : (l.length : Int) ≤ 1048576) (ht : tabOk l = true) (h0 : isL l a0) : Does Go.Proofs.Tryz.prog 60 [.fsl 6 (l.map Ty.z), .v (.int .i64 a0), .v (.int .i64 b)] false (.v (.bool ((lineL l a0).contains b))) [.dead, .dead, .dead] := by
  refine does_intro (mc := m60) (N := 17) (rs := [6]) (fx := []) 3 rfl (by decide +kernel) ?_
  simp only [m60, EV, Nat.reduceEqDiff, Nat.reduceBEq, Nat.reduceLT, Nat.reduceLeDiff, Nat.reduceAdd, Nat.reduceSub, reduceIte]
  refine awp_loop (fun a : Int => isL l a ∧ (lineL l a0).contains b = (lineL l a).contains b) (fun a => stl [(0, .fsl 6 (l.map Ty.z)), (1, .v (.int .i64 a)), (2, .v (.int .i64 b))]) (fun a => (lineL l a).length) a0 ⟨h0, rfl⟩ ?_ ?_
  · simp only [EV, Nat.reduceEqDiff, Nat.reduceBEq, Nat.reduceLT, Nat.reduceLeDiff, Nat.reduceAdd, Nat.reduceSub, reduceIte]
  · rintro a ⟨ha, he⟩
    simp only [EV, Nat.reduceEqDiff, Nat.reduceBEq, Nat.reduceLT, Nat.reduceLeDiff, Nat.reduceAdd, Nat.reduceSub, reduceIte]
    refine cK_cut (fun h => ?_) (fun h => ?_)
    · have hr : isRec l a = true := ha.resolve_left (by have : 0 ≤ a := by simpa using h
                                                        omega)
      obtain ⟨g0, g1, gn, _⟩ := isRec_in hr
      have hlr := lineL_rec ht hr
      have hbs := (isRec_base (tabOk_tys ht) hr).1
      have hc := line_contains_rec (b := b) ht hr
      simp only [h, EV, Nat.reduceEqDiff, Nat.reduceBEq, Nat.reduceLT, Nat.reduceLeDiff, Nat.reduceAdd, Nat.reduceSub, reduceIte]
      rcases e : (a == b) with _ | _
      · simp only [g0, g1, nth_map gn, Ty.z, EV, Nat.reduceEqDiff, Nat.reduceBEq, Nat.reduceLT, Nat.reduceLeDiff, Nat.reduceAdd, Nat.reduceSub, reduceIte]
        refine ⟨baseAt l a, ⟨hbs, ?_⟩, by rw [hlr]; simp, ?_⟩
        · rw [he, hc, e, Bool.false_or]
        · rw [baseAt_eq gn]
      · have e2 : (lineL l a0).contains b = true := by rw [he, hc, e, Bool.true_or]
        simp only [EV, Nat.reduceEqDiff, Nat.reduceBEq, Nat.reduceLT, Nat.reduceLeDiff, Nat.reduceAdd, Nat.reduceSub, reduceIte]
        simp only [e2, EV, Nat.reduceEqDiff, Nat.reduceBEq, Nat.reduceLT, Nat.reduceLeDiff, Nat.reduceAdd, Nat.reduceSub, reduceIte, evRE, retVC, cellV', evR, nfz, nfzs, nfzss, List.contains_nil, List.contains_cons, Bool.or_false, or_true]
    · have hn : a < 0 := by have : ¬ 0 ≤ a := by simpa using h
                            omega
      have e2 : (lineL l a0).contains b = false := by rw [he, lineL_neg hn]; rfl
      simp only [h, EV, Nat.reduceEqDiff, Nat.reduceBEq, Nat.reduceLT, Nat.reduceLeDiff, Nat.reduceAdd, Nat.reduceSub, reduceIte]
      simp only [e2, EV, Nat.reduceEqDiff, Nat.reduceBEq, Nat.reduceLT, Nat.reduceLeDiff, Nat.reduceAdd, Nat.reduceSub, reduceIte, evRE, retVC, cellV', evR, nfz, nfzs, nfzss, List.contains_nil, List.contains_cons, Bool.or_false, or_true]
noncomputable def mayT (l : List Ty) (x y : Int) (a b : Ty) : Bool :=
  if (x == y) = true then true else if (a.kind == b.kind) = false then false
  else if (a.kind == 5) = true then (lineL l y).contains x
  else if (a.kind == 6) = true then (a.base == b.base) || (isRec l a.base && (isRec l b.base && (lineL l b.base).contains a.base))
  else if (a.kind == 4) = true then (a.long == b.long) && (a.base == b.base) else false
noncomputable def mayL (l : List Ty) (x y : Int) : Bool := match l[x.toNat]?, l[y.toNat]? with
  | some a, some b => mayT l x y a b
  | _, _ => false
def m66 : MC :=
 (.seq (.reg [Xb 6 (.asg .fb)]) (.join [0, 1, 2, 7, 8] (.mixt [0, 1, 2] [0, 1, 2, 7, 8] [] [0, 1, 2] [0, 1, 2, 3, 4, 5, 6, 7] [Xm 9 0, Xm 10 1, Xi 11 6 9 10, XL 12 6 11, Xm 13 0, Xm 14 2, Xi 15 6 13 14, XL 16 6 15] (.alt (.step 8 (Xb 7 (.alloc 40 [.i, .i, .i, .s 97 3, .z, .z])) (.step 9 (Xb 8 (.alloc 40 [.i, .i, .i, .s 97 3, .z, .z])) (.step 10 (Xz (.store 6 (.t 7) (.t 12))) (.step 11 (Xz (.store 6
 (.t 8) (.t 16))) .nil)))) (.step 9 (Xb 8 (.alloc 40 [.i, .i, .i, .s 97 3, .z, .z])) (.step 8 (Xb 7 (.alloc 40 [.i, .i, .i, .s 97 3, .z, .z])) (.step 10 (Xz (.store 6 (.t 7) (.t 12))) (.step 11 (Xz (.store 6 (.t 8) (.t 16))) .nil)))))) (.seq (.block 0 (.seq (.reg [Xm 18 1, Xm 19 2, Xq 20 (.bin false .eql (.t 18) (.t 19)), Xa 17 20]) (.cond (.t 17) (.seq (.reg [Xb 6 (.asg .tb)]) .ret) (.seq (.reg
 [Xf 22 0 7, Xl 23 1 22, Xf 24 0 8, Xl 25 1 24, Xq 26 (.bin false .neq (.t 23) (.t 25)), Xa 21 26]) (.cond (.t 21) (.seq (.reg [Xb 6 (.asg .fb)]) .ret) .skip))))) (.seq (.seq (.reg [Xf 27 0 7, Xl 28 1 27]) (.block 1 (.seq (.reg [Xq 30 (.bin false .eql (.t 28) (.i 5)), Xa 29 30]) (.cond (.t 29) (.seq (.reg [Xm 31 0, Xm 32 2, Xm 33 1, Xb 34 (.call (.fn 57) false [.lend (.t 31), .lend (.t 32), .lend
 (.t 33)]), Xa 6 34]) .ret) (.seq (.reg [Xq 36 (.bin false .eql (.t 28) (.i 6)), Xa 35 36]) (.cond (.t 35) (.seq (.reg [Xf 37 2 7, Xl 38 1 37, Xf 39 2 8, Xl 40 1 39, Xq 41 (.bin false .eql (.t 38) (.t 40)), Xm 42 41, Xu 43 42 (.mov (.t 0)), Xu 44 42 (.fad 2 (.t 7)), Xu 45 42 (.load false 1 (.t 44)), XU 46 42 (.call (.fn 56) false [.lend (.t 43), .lend (.t 45)]), Xu 47 42 (.mov (.t 46)), Xt 48 47
 (.mov (.t 0)), Xt 49 47 (.fad 2 (.t 8)), Xt 50 47 (.load false 1 (.t 49)), XT 51 47 (.call (.fn 56) false [.lend (.t 48), .lend (.t 50)]), Xu 52 42 (.pick (.t 47) (.t 51) .fb), Xu 53 42 (.mov (.t 52)), Xt 54 53 (.mov (.t 0)), Xt 55 53 (.fad 2 (.t 8)), Xt 56 53 (.load false 1 (.t 55)), Xt 57 53 (.fad 2 (.t 7)), Xt 58 53 (.load false 1 (.t 57)), XT 59 53 (.call (.fn 57) false [.lend (.t 54), .lend
 (.t 56), .lend (.t 58)]), Xu 60 42 (.pick (.t 53) (.t 59) .fb), Xq 61 (.pick (.t 42) .tb (.t 60)), Xa 6 61]) .ret) (.seq (.reg [Xq 63 (.bin false .eql (.t 28) (.i 4)), Xa 62 63]) (.cond (.t 62) (.seq (.reg [Xf 64 1 7, Xl 65 1 64, Xf 66 1 8, Xl 67 1 66, Xq 68 (.bin false .eql (.t 65) (.t 67)), Xm 69 68, Xt 70 69 (.fad 2 (.t 7)), Xt 71 69 (.load false 1 (.t 70)), Xt 72 69 (.fad 2 (.t 8)), Xt 73 69
 (.load false 1 (.t 72)), Xt 74 69 (.bin false .eql (.t 71) (.t 73)), Xq 75 (.pick (.t 69) (.t 74) .fb), Xa 6 75]) .ret) .skip)))))))) (.seq (.reg [Xb 6 (.asg .fb)]) .ret)))))
set_option maxHeartbeats 1000000 in
set_option maxRecDepth 100000 in
theorem d66 (l : List Ty) (x y : Int) (hl : (l.length : Int) ≤ 1048576) (ht : tabOk l = true) (hx : 0 ≤ x ∧ x < (l.length : Int)) (hy : 0 ≤ y ∧ y < (l.length : Int)) :
    Does Go.Proofs.Tryz.prog 66 [.fsl 6 (l.map Ty.z), .v (.int .i64 x), .v (.int .i64 y)] false (.v (.bool (mayL l x y))) [.dead, .dead, .dead] := by
  have hxn : x.toNat < l.length := by omega
  have hyn : y.toNat < l.length := by omega
  have em : mayL l x y = mayT l x y l[x.toNat] l[y.toNat] := by simp [mayL, hxn, hyn]
  rw [em]
  refine does_intro (mc := m66) (N := 76) (rs := [6]) (fx := []) 3 rfl (by decide +kernel) ?_
  simp only [m66, EV, Nat.reduceEqDiff, Nat.reduceBEq, Nat.reduceLT, Nat.reduceLeDiff, Nat.reduceAdd, Nat.reduceSub, reduceIte]
  refine awp_join (fun _ : Unit => True) (fun _ => stl [(0, .fsl 6 (l.map Ty.z)), (1, .v (.int .i64 x)), (2, .v (.int .i64 y)), (7, .box 40 l[x.toNat].z), (8, .box 40 l[y.toNat].z)]) ?_ ?_
  · simp only [hx.1, hx.2, hy.1, hy.2, nth_map hxn, nth_map hyn, Ty.z, EV, Nat.reduceEqDiff, Nat.reduceBEq, Nat.reduceLT, Nat.reduceLeDiff, Nat.reduceAdd, Nat.reduceSub, reduceIte]
    exact ⟨(), trivial⟩
  rintro _ _
  have Gx := tysOk_good (tabOk_tys ht) hxn
  have Gy := tysOk_good (tabOk_tys ht) hyn
  have hkx : l[x.toNat].kind = kd l x := by simp [kd, hxn]
  have hky : l[y.toNat].kind = kd l y := by simp [kd, hyn]
  have hnx : isNum l x = true := isNum_in.2 hx
  have hny : isNum l y = true := isNum_in.2 hy
  rcases e1 : (x == y) with _ | _
  rotate_left
  · have e : mayT l x y l[x.toNat] l[y.toNat] = true := by unfold mayT; rw [if_pos e1]
    simp only [e1, Ty.z, EV, Nat.reduceEqDiff, Nat.reduceBEq, Nat.reduceLT, Nat.reduceLeDiff, Nat.reduceAdd, Nat.reduceSub, reduceIte]
    simp only [e, EV, Nat.reduceEqDiff, Nat.reduceBEq, Nat.reduceLT, Nat.reduceLeDiff, Nat.reduceAdd, Nat.reduceSub, reduceIte, evRE, retVC, cellV', evR, nfz, nfzs, nfzss, List.contains_nil, List.contains_cons, Bool.or_false, or_true]
  rcases e2 : (l[x.toNat].kind == l[y.toNat].kind) with _ | _
  · have e : mayT l x y l[x.toNat] l[y.toNat] = false := by unfold mayT; rw [e1, e2]; rfl
    simp only [e1, e2, bne, Bool.not_false, Ty.z, EV, Nat.reduceEqDiff, Nat.reduceBEq, Nat.reduceLT, Nat.reduceLeDiff, Nat.reduceAdd, Nat.reduceSub, reduceIte]
    simp only [e, EV, Nat.reduceEqDiff, Nat.reduceBEq, Nat.reduceLT, Nat.reduceLeDiff, Nat.reduceAdd, Nat.reduceSub, reduceIte, evRE, retVC, cellV', evR, nfz, nfzs, nfzss, List.contains_nil, List.contains_cons, Bool.or_false, or_true]
  rcases e5 : (l[x.toNat].kind == 5) with _ | _
  rotate_left
  · have e : mayT l x y l[x.toNat] l[y.toNat] = (lineL l y).contains x := by unfold mayT; rw [e1, e2, e5]; rfl
    have k5 : l[x.toNat].kind = 5 := by simpa using e5
    have k2 : l[x.toNat].kind = l[y.toNat].kind := by simpa using e2
    have hr : isRec l y = true := by
      simp only [isRec, hny, Bool.true_and, beq_iff_eq]; omega
    simp only [e1, e2, e5, bne, Bool.not_true, Ty.z, EV, Nat.reduceEqDiff, Nat.reduceBEq, Nat.reduceLT, Nat.reduceLeDiff, Nat.reduceAdd, Nat.reduceSub, reduceIte]
    refine callK_i (d57 l y x hl ht (.inr hr) hx.1) ?_
    simp only [EV, Nat.reduceEqDiff, Nat.reduceBEq, Nat.reduceLT, Nat.reduceLeDiff, Nat.reduceAdd, Nat.reduceSub, reduceIte]
    simp only [e, EV, Nat.reduceEqDiff, Nat.reduceBEq, Nat.reduceLT, Nat.reduceLeDiff, Nat.reduceAdd, Nat.reduceSub, reduceIte, evRE, retVC, cellV', evR, nfz, nfzs, nfzss, List.contains_nil, List.contains_cons, Bool.or_false, or_true]
  rcases e6 : (l[x.toNat].kind == 6) with _ | _
  rotate_left
  · have e : mayT l x y l[x.toNat] l[y.toNat] = ((l[x.toNat].base == l[y.toNat].base) || (isRec l l[x.toNat].base && (isRec l l[y.toNat].base && (lineL l l[y.toNat].base).contains l[x.toNat].base))) := by unfold mayT; rw [e1, e2, e5, e6]; rfl
    rw [e]
    simp only [e1, e2, e5, e6, bne, Bool.not_true, Ty.z, EV, Nat.reduceEqDiff, Nat.reduceBEq, Nat.reduceLT, Nat.reduceLeDiff, Nat.reduceAdd, Nat.reduceSub, reduceIte]
    rcases b1 : (l[x.toNat].base == l[y.toNat].base) with _ | _
    rotate_left
    · simp only [b1, EV, Nat.reduceEqDiff, Nat.reduceBEq, Nat.reduceLT, Nat.reduceLeDiff, Nat.reduceAdd, Nat.reduceSub, reduceIte]
      simp only [b1, Bool.true_or, EV, Nat.reduceEqDiff, Nat.reduceBEq, Nat.reduceLT, Nat.reduceLeDiff, Nat.reduceAdd, Nat.reduceSub, reduceIte, evRE, retVC, cellV', evR, nfz, nfzs, nfzss, List.contains_nil, List.contains_cons, Bool.or_false, or_true]
    simp only [b1, Ty.z, EV, Nat.reduceEqDiff, Nat.reduceBEq, Nat.reduceLT, Nat.reduceLeDiff, Nat.reduceAdd, Nat.reduceSub, reduceIte]
    refine callK_i (d56 l _ hl) ?_
    simp only [Ty.z, EV, Nat.reduceEqDiff, Nat.reduceBEq, Nat.reduceLT, Nat.reduceLeDiff, Nat.reduceAdd, Nat.reduceSub, reduceIte]
    rcases b2 : isRec l l[x.toNat].base with _ | _
    · simp only [EV, Nat.reduceEqDiff, Nat.reduceBEq, Nat.reduceLT, Nat.reduceLeDiff, Nat.reduceAdd, Nat.reduceSub, reduceIte]
      simp only [b1, b2, Bool.false_or, Bool.false_and, EV, Nat.reduceEqDiff, Nat.reduceBEq, Nat.reduceLT, Nat.reduceLeDiff, Nat.reduceAdd, Nat.reduceSub, reduceIte, evRE, retVC, cellV', evR, nfz, nfzs, nfzss, List.contains_nil, List.contains_cons, Bool.or_false, or_true]
    simp only [Ty.z, EV, Nat.reduceEqDiff, Nat.reduceBEq, Nat.reduceLT, Nat.reduceLeDiff, Nat.reduceAdd, Nat.reduceSub, reduceIte]
    refine callK_i (d56 l _ hl) ?_
    simp only [Ty.z, EV, Nat.reduceEqDiff, Nat.reduceBEq, Nat.reduceLT, Nat.reduceLeDiff, Nat.reduceAdd, Nat.reduceSub, reduceIte]
    rcases b3 : isRec l l[y.toNat].base with _ | _
    · simp only [EV, Nat.reduceEqDiff, Nat.reduceBEq, Nat.reduceLT, Nat.reduceLeDiff, Nat.reduceAdd, Nat.reduceSub, reduceIte]
      simp only [b1, b2, b3, Bool.false_or, Bool.false_and, Bool.true_and, EV, Nat.reduceEqDiff, Nat.reduceBEq, Nat.reduceLT, Nat.reduceLeDiff, Nat.reduceAdd, Nat.reduceSub, reduceIte, evRE, retVC, cellV', evR, nfz, nfzs, nfzss, List.contains_nil, List.contains_cons, Bool.or_false, or_true]
    simp only [Ty.z, EV, Nat.reduceEqDiff, Nat.reduceBEq, Nat.reduceLT, Nat.reduceLeDiff, Nat.reduceAdd, Nat.reduceSub, reduceIte]
    refine callK_i (d57 l _ _ hl ht (.inr b3) (isRec_in b2).1) ?_
    simp only [EV, Nat.reduceEqDiff, Nat.reduceBEq, Nat.reduceLT, Nat.reduceLeDiff, Nat.reduceAdd, Nat.reduceSub, reduceIte]
    simp only [b1, b2, b3, Bool.false_or, Bool.true_and, EV, Nat.reduceEqDiff, Nat.reduceBEq, Nat.reduceLT, Nat.reduceLeDiff, Nat.reduceAdd, Nat.reduceSub, reduceIte, evRE, retVC, cellV', evR, nfz, nfzs, nfzss, List.contains_nil, List.contains_cons, Bool.or_false, or_true]
  rcases e4 : (l[x.toNat].kind == 4) with _ | _
  · have e : mayT l x y l[x.toNat] l[y.toNat] = false := by unfold mayT; rw [e1, e2, e5, e6, e4]; rfl
    simp only [e1, e2, e5, e6, e4, bne, Bool.not_true, Ty.z, EV, Nat.reduceEqDiff, Nat.reduceBEq, Nat.reduceLT, Nat.reduceLeDiff, Nat.reduceAdd, Nat.reduceSub, reduceIte]
    simp only [e, EV, Nat.reduceEqDiff, Nat.reduceBEq, Nat.reduceLT, Nat.reduceLeDiff, Nat.reduceAdd, Nat.reduceSub, reduceIte, evRE, retVC, cellV', evR, nfz, nfzs, nfzss, List.contains_nil, List.contains_cons, Bool.or_false, or_true]
  · have e : mayT l x y l[x.toNat] l[y.toNat] = ((l[x.toNat].long == l[y.toNat].long) && (l[x.toNat].base == l[y.toNat].base)) := by unfold mayT; rw [e1, e2, e5, e6, e4]; rfl
    rw [e]
    simp only [e1, e2, e5, e6, e4, bne, Bool.not_true, Ty.z, EV, Nat.reduceEqDiff, Nat.reduceBEq, Nat.reduceLT, Nat.reduceLeDiff, Nat.reduceAdd, Nat.reduceSub, reduceIte]
    rcases b1 : (l[x.toNat].long == l[y.toNat].long) with _ | _
    · simp only [EV, Nat.reduceEqDiff, Nat.reduceBEq, Nat.reduceLT, Nat.reduceLeDiff, Nat.reduceAdd, Nat.reduceSub, reduceIte]
      simp only [b1, Bool.false_and, EV, Nat.reduceEqDiff, Nat.reduceBEq, Nat.reduceLT, Nat.reduceLeDiff, Nat.reduceAdd, Nat.reduceSub, reduceIte, evRE, retVC, cellV', evR, nfz, nfzs, nfzss, List.contains_nil, List.contains_cons, Bool.or_false, or_true]
    · simp only [EV, Nat.reduceEqDiff, Nat.reduceBEq, Nat.reduceLT, Nat.reduceLeDiff, Nat.reduceAdd, Nat.reduceSub, reduceIte]
      simp only [b1, Bool.true_and, EV, Nat.reduceEqDiff, Nat.reduceBEq, Nat.reduceLT, Nat.reduceLeDiff, Nat.reduceAdd, Nat.reduceSub, reduceIte, evRE, retVC, cellV', evR, nfz, nfzs, nfzss, List.contains_nil, List.contains_cons, Bool.or_false, or_true]
def m73 : MC :=
 (.seq (.reg [Xb 6 (.asg .fb)]) (.join [0, 1, 2, 7, 8] (.mixt [0, 1, 2] [0, 1, 2, 7, 8] [] [0, 1, 2] [0, 1, 2, 3, 4, 5, 6, 7] [Xm 9 0, Xm 10 1, Xi 11 6 9 10, XL 12 6 11, Xm 13 0, Xm 14 2, Xi 15 6 13 14, XL 16 6 15] (.alt (.step 8 (Xb 7 (.alloc 40 [.i, .i, .i, .s 97 3, .z, .z])) (.step 9 (Xb 8 (.alloc 40 [.i, .i, .i, .s 97 3, .z, .z])) (.step 10 (Xz (.store 6 (.t 7) (.t 12))) (.step 11 (Xz (.store 6
 (.t 8) (.t 16))) .nil)))) (.step 9 (Xb 8 (.alloc 40 [.i, .i, .i, .s 97 3, .z, .z])) (.step 8 (Xb 7 (.alloc 40 [.i, .i, .i, .s 97 3, .z, .z])) (.step 10 (Xz (.store 6 (.t 7) (.t 12))) (.step 11 (Xz (.store 6 (.t 8) (.t 16))) .nil)))))) (.seq (.block 0 (.seq (.reg [Xm 18 1, Xm 19 2, Xq 20 (.bin false .eql (.t 18) (.t 19)), Xa 17 20]) (.cond (.t 17) (.seq (.reg [Xb 6 (.asg .tb)]) .ret) (.seq (.reg
 [Xf 22 0 7, Xl 23 1 22, Xf 24 0 8, Xl 25 1 24, Xq 26 (.bin false .neq (.t 23) (.t 25)), Xa 21 26]) (.cond (.t 21) (.seq (.reg [Xb 6 (.asg .fb)]) .ret) (.seq (.reg [Xf 28 0 7, Xl 29 1 28, Xq 30 (.bin false .eql (.t 29) (.i 5)), Xa 27 30]) (.cond (.t 27) (.seq (.reg [Xm 31 0, Xm 32 2, Xm 33 1, Xb 34 (.call (.fn 60) false [.lend (.t 31), .lend (.t 32), .lend (.t 33)]), Xa 6 34]) .ret) (.seq (.reg [Xf
 36 0 7, Xl 37 1 36, Xq 38 (.bin false .eql (.t 37) (.i 6)), Xa 35 38]) (.cond (.t 35) (.seq (.reg [Xf 39 2 7, Xl 40 1 39, Xf 41 2 8, Xl 42 1 41, Xq 43 (.bin false .eql (.t 40) (.t 42)), Xm 44 43, Xu 45 44 (.mov (.t 0)), Xu 46 44 (.fad 2 (.t 7)), Xu 47 44 (.load false 1 (.t 46)), Xu 48 44 (.iad 6 (.t 45) (.t 47)), Xu 49 44 (.fad 0 (.t 48)), Xu 50 44 (.load false 1 (.t 49)), Xu 51 44 (.bin false
 .eql (.t 50) (.i 5)), Xu 52 44 (.mov (.t 51)), Xt 53 52 (.mov (.t 0)), Xt 54 52 (.fad 2 (.t 8)), Xt 55 52 (.load false 1 (.t 54)), Xt 56 52 (.iad 6 (.t 53) (.t 55)), Xt 57 52 (.fad 0 (.t 56)), Xt 58 52 (.load false 1 (.t 57)), Xt 59 52 (.bin false .eql (.t 58) (.i 5)), Xu 60 44 (.pick (.t 52) (.t 59) .fb), Xu 61 44 (.mov (.t 60)), Xt 62 61 (.mov (.t 0)), Xt 63 61 (.fad 2 (.t 8)), Xt 64 61 (.load
 false 1 (.t 63)), Xt 65 61 (.fad 2 (.t 7)), Xt 66 61 (.load false 1 (.t 65)), XT 67 61 (.call (.fn 60) false [.lend (.t 62), .lend (.t 64), .lend (.t 66)]), Xu 68 44 (.pick (.t 61) (.t 67) .fb), Xq 69 (.pick (.t 44) .tb (.t 68)), Xa 6 69]) .ret) (.seq (.reg [Xf 71 0 7, Xl 72 1 71, Xq 73 (.bin false .eql (.t 72) (.i 4)), Xa 70 73]) (.cond (.t 70) (.seq (.reg [Xf 74 1 7, Xl 75 1 74, Xf 76 1 8, Xl 77
 1 76, Xq 78 (.bin false .eql (.t 75) (.t 77)), Xm 79 78, Xt 80 79 (.fad 2 (.t 7)), Xt 81 79 (.load false 1 (.t 80)), Xt 82 79 (.fad 2 (.t 8)), Xt 83 79 (.load false 1 (.t 82)), Xt 84 79 (.bin false .eql (.t 81) (.t 83)), Xq 85 (.pick (.t 79) (.t 84) .fb), Xa 6 85]) .ret) .skip))))))))))) (.seq (.reg [Xb 6 (.asg .fb)]) .ret))))
set_option maxHeartbeats 1000000 in
set_option maxRecDepth 100000 in
theorem d73 (l : List Ty) (x y : Int) (hl : (l.length : Int) ≤ 1048576) (ht : tabOk l = true) (hx : 0 ≤ x ∧ x < (l.length : Int)) (hy : 0 ≤ y ∧ y < (l.length : Int)) :
    Does Go.Proofs.Tryz.prog 73 [.fsl 6 (l.map Ty.z), .v (.int .i64 x), .v (.int .i64 y)] false (.v (.bool (mayL l x y))) [.dead, .dead, .dead] := by
  have hxn : x.toNat < l.length := by omega
  have hyn : y.toNat < l.length := by omega
  have em : mayL l x y = mayT l x y l[x.toNat] l[y.toNat] := by simp [mayL, hxn, hyn]
  rw [em]
  refine does_intro (mc := m73) (N := 86) (rs := [6]) (fx := []) 3 rfl (by decide +kernel) ?_
  simp only [m73, EV, Nat.reduceEqDiff, Nat.reduceBEq, Nat.reduceLT, Nat.reduceLeDiff, Nat.reduceAdd, Nat.reduceSub, reduceIte]
  refine awp_join (fun _ : Unit => True) (fun _ => stl [(0, .fsl 6 (l.map Ty.z)), (1, .v (.int .i64 x)), (2, .v (.int .i64 y)), (7, .box 40 l[x.toNat].z), (8, .box 40 l[y.toNat].z)]) ?_ ?_
  · simp only [hx.1, hx.2, hy.1, hy.2, nth_map hxn, nth_map hyn, Ty.z, EV, Nat.reduceEqDiff, Nat.reduceBEq, Nat.reduceLT, Nat.reduceLeDiff, Nat.reduceAdd, Nat.reduceSub, reduceIte]
    exact ⟨(), trivial⟩
  rintro _ _
  have Gx := tysOk_good (tabOk_tys ht) hxn
  have Gy := tysOk_good (tabOk_tys ht) hyn
  have hkx : l[x.toNat].kind = kd l x := by simp [kd, hxn]
  have hky : l[y.toNat].kind = kd l y := by simp [kd, hyn]
  have hnx : isNum l x = true := isNum_in.2 hx
  have hny : isNum l y = true := isNum_in.2 hy
  rcases e1 : (x == y) with _ | _
  rotate_left
  · have e : mayT l x y l[x.toNat] l[y.toNat] = true := by unfold mayT; rw [if_pos e1]
    simp only [e1, Ty.z, EV, Nat.reduceEqDiff, Nat.reduceBEq, Nat.reduceLT, Nat.reduceLeDiff, Nat.reduceAdd, Nat.reduceSub, reduceIte]
    simp only [e, EV, Nat.reduceEqDiff, Nat.reduceBEq, Nat.reduceLT, Nat.reduceLeDiff, Nat.reduceAdd, Nat.reduceSub, reduceIte, evRE, retVC, cellV', evR, nfz, nfzs, nfzss, List.contains_nil, List.contains_cons, Bool.or_false, or_true]
  rcases e2 : (l[x.toNat].kind == l[y.toNat].kind) with _ | _
  · have e : mayT l x y l[x.toNat] l[y.toNat] = false := by unfold mayT; rw [e1, e2]; rfl
    simp only [e1, e2, bne, Bool.not_false, Ty.z, EV, Nat.reduceEqDiff, Nat.reduceBEq, Nat.reduceLT, Nat.reduceLeDiff, Nat.reduceAdd, Nat.reduceSub, reduceIte]
    simp only [e, EV, Nat.reduceEqDiff, Nat.reduceBEq, Nat.reduceLT, Nat.reduceLeDiff, Nat.reduceAdd, Nat.reduceSub, reduceIte, evRE, retVC, cellV', evR, nfz, nfzs, nfzss, List.contains_nil, List.contains_cons, Bool.or_false, or_true]
  rcases e5 : (l[x.toNat].kind == 5) with _ | _
  rotate_left
  · have e : mayT l x y l[x.toNat] l[y.toNat] = (lineL l y).contains x := by unfold mayT; rw [e1, e2, e5]; rfl
    have k5 : l[x.toNat].kind = 5 := by simpa using e5
    have k2 : l[x.toNat].kind = l[y.toNat].kind := by simpa using e2
    have hr : isRec l y = true := by
      simp only [isRec, hny, Bool.true_and, beq_iff_eq]; omega
    simp only [e1, e2, e5, bne, Bool.not_true, Ty.z, EV, Nat.reduceEqDiff, Nat.reduceBEq, Nat.reduceLT, Nat.reduceLeDiff, Nat.reduceAdd, Nat.reduceSub, reduceIte]
    refine callK_i (d60 l y x hl ht (.inr hr)) ?_
    simp only [EV, Nat.reduceEqDiff, Nat.reduceBEq, Nat.reduceLT, Nat.reduceLeDiff, Nat.reduceAdd, Nat.reduceSub, reduceIte]
    simp only [e, EV, Nat.reduceEqDiff, Nat.reduceBEq, Nat.reduceLT, Nat.reduceLeDiff, Nat.reduceAdd, Nat.reduceSub, reduceIte, evRE, retVC, cellV', evR, nfz, nfzs, nfzss, List.contains_nil, List.contains_cons, Bool.or_false, or_true]
  rcases e6 : (l[x.toNat].kind == 6) with _ | _
  rotate_left
  · have e : mayT l x y l[x.toNat] l[y.toNat] = ((l[x.toNat].base == l[y.toNat].base) || (isRec l l[x.toNat].base && (isRec l l[y.toNat].base && (lineL l l[y.toNat].base).contains l[x.toNat].base))) := by unfold mayT; rw [e1, e2, e5, e6]; rfl
    have k6 : l[x.toNat].kind = 6 := by simpa using e6
    have k2 : l[x.toNat].kind = l[y.toNat].kind := by simpa using e2
    have px := (Gx.ptr k6).1
    have py := (Gy.ptr (by omega)).1
    obtain ⟨p0, p1, pn, pk⟩ := isNum_lt px
    obtain ⟨r0, r1, rn, rk'⟩ := isNum_lt py
    have ix : isRec l l[x.toNat].base = (l[l[x.toNat].base.toNat].kind == 5) := by simp only [isRec, px, pk, Bool.true_and]
    have iy : isRec l l[y.toNat].base = (l[l[y.toNat].base.toNat].kind == 5) := by simp only [isRec, py, rk', Bool.true_and]
    rw [e]
    simp only [e1, e2, e5, e6, bne, Bool.not_true, Ty.z, EV, Nat.reduceEqDiff, Nat.reduceBEq, Nat.reduceLT, Nat.reduceLeDiff, Nat.reduceAdd, Nat.reduceSub, reduceIte]
    rcases b1 : (l[x.toNat].base == l[y.toNat].base) with _ | _
    rotate_left
    · simp only [b1, EV, Nat.reduceEqDiff, Nat.reduceBEq, Nat.reduceLT, Nat.reduceLeDiff, Nat.reduceAdd, Nat.reduceSub, reduceIte]
      simp only [b1, Bool.true_or, EV, Nat.reduceEqDiff, Nat.reduceBEq, Nat.reduceLT, Nat.reduceLeDiff, Nat.reduceAdd, Nat.reduceSub, reduceIte, evRE, retVC, cellV', evR, nfz, nfzs, nfzss, List.contains_nil, List.contains_cons, Bool.or_false, or_true]
    simp only [b1, p0, p1, nth_map pn, Ty.z, EV, Nat.reduceEqDiff, Nat.reduceBEq, Nat.reduceLT, Nat.reduceLeDiff, Nat.reduceAdd, Nat.reduceSub, reduceIte]
    rw [← ix]
    rcases b2 : isRec l l[x.toNat].base with _ | _
    · simp only [EV, Nat.reduceEqDiff, Nat.reduceBEq, Nat.reduceLT, Nat.reduceLeDiff, Nat.reduceAdd, Nat.reduceSub, reduceIte]
      simp only [b1, b2, Bool.false_or, Bool.false_and, EV, Nat.reduceEqDiff, Nat.reduceBEq, Nat.reduceLT, Nat.reduceLeDiff, Nat.reduceAdd, Nat.reduceSub, reduceIte, evRE, retVC, cellV', evR, nfz, nfzs, nfzss, List.contains_nil, List.contains_cons, Bool.or_false, or_true]
    simp only [r0, r1, nth_map rn, Ty.z, EV, Nat.reduceEqDiff, Nat.reduceBEq, Nat.reduceLT, Nat.reduceLeDiff, Nat.reduceAdd, Nat.reduceSub, reduceIte]
    rw [← iy]
    rcases b3 : isRec l l[y.toNat].base with _ | _
    · simp only [EV, Nat.reduceEqDiff, Nat.reduceBEq, Nat.reduceLT, Nat.reduceLeDiff, Nat.reduceAdd, Nat.reduceSub, reduceIte]
      simp only [b1, b2, b3, Bool.false_or, Bool.false_and, Bool.true_and, EV, Nat.reduceEqDiff, Nat.reduceBEq, Nat.reduceLT, Nat.reduceLeDiff, Nat.reduceAdd, Nat.reduceSub, reduceIte, evRE, retVC, cellV', evR, nfz, nfzs, nfzss, List.contains_nil, List.contains_cons, Bool.or_false, or_true]
    simp only [Ty.z, EV, Nat.reduceEqDiff, Nat.reduceBEq, Nat.reduceLT, Nat.reduceLeDiff, Nat.reduceAdd, Nat.reduceSub, reduceIte]
    refine callK_i (d60 l _ _ hl ht (.inr b3)) ?_
    simp only [EV, Nat.reduceEqDiff, Nat.reduceBEq, Nat.reduceLT, Nat.reduceLeDiff, Nat.reduceAdd, Nat.reduceSub, reduceIte]
    simp only [b1, b2, b3, Bool.false_or, Bool.true_and, EV, Nat.reduceEqDiff, Nat.reduceBEq, Nat.reduceLT, Nat.reduceLeDiff, Nat.reduceAdd, Nat.reduceSub, reduceIte, evRE, retVC, cellV', evR, nfz, nfzs, nfzss, List.contains_nil, List.contains_cons, Bool.or_false, or_true]
  rcases e4 : (l[x.toNat].kind == 4) with _ | _
  · have e : mayT l x y l[x.toNat] l[y.toNat] = false := by unfold mayT; rw [e1, e2, e5, e6, e4]; rfl
    simp only [e1, e2, e5, e6, e4, bne, Bool.not_true, Ty.z, EV, Nat.reduceEqDiff, Nat.reduceBEq, Nat.reduceLT, Nat.reduceLeDiff, Nat.reduceAdd, Nat.reduceSub, reduceIte]
    simp only [e, EV, Nat.reduceEqDiff, Nat.reduceBEq, Nat.reduceLT, Nat.reduceLeDiff, Nat.reduceAdd, Nat.reduceSub, reduceIte, evRE, retVC, cellV', evR, nfz, nfzs, nfzss, List.contains_nil, List.contains_cons, Bool.or_false, or_true]
  · have e : mayT l x y l[x.toNat] l[y.toNat] = ((l[x.toNat].long == l[y.toNat].long) && (l[x.toNat].base == l[y.toNat].base)) := by unfold mayT; rw [e1, e2, e5, e6, e4]; rfl
    rw [e]
    simp only [e1, e2, e5, e6, e4, bne, Bool.not_true, Ty.z, EV, Nat.reduceEqDiff, Nat.reduceBEq, Nat.reduceLT, Nat.reduceLeDiff, Nat.reduceAdd, Nat.reduceSub, reduceIte]
    rcases b1 : (l[x.toNat].long == l[y.toNat].long) with _ | _
    · simp only [EV, Nat.reduceEqDiff, Nat.reduceBEq, Nat.reduceLT, Nat.reduceLeDiff, Nat.reduceAdd, Nat.reduceSub, reduceIte]
      simp only [b1, Bool.false_and, EV, Nat.reduceEqDiff, Nat.reduceBEq, Nat.reduceLT, Nat.reduceLeDiff, Nat.reduceAdd, Nat.reduceSub, reduceIte, evRE, retVC, cellV', evR, nfz, nfzs, nfzss, List.contains_nil, List.contains_cons, Bool.or_false, or_true]
    · simp only [EV, Nat.reduceEqDiff, Nat.reduceBEq, Nat.reduceLT, Nat.reduceLeDiff, Nat.reduceAdd, Nat.reduceSub, reduceIte]
      simp only [b1, Bool.true_and, EV, Nat.reduceEqDiff, Nat.reduceBEq, Nat.reduceLT, Nat.reduceLeDiff, Nat.reduceAdd, Nat.reduceSub, reduceIte, evRE, retVC, cellV', evR, nfz, nfzs, nfzss, List.contains_nil, List.contains_cons, Bool.or_false, or_true]
end Go.AM
namespace Go.AM
set_option linter.unusedVariables false
set_option linter.unusedSimpArgs false
noncomputable def parFit (l : List Ty) (p : Par) (k : Int) : Bool := p.typ == k || (!p.byvar && mayL l p.typ k)
noncomputable def fitTo (l : List Ty) (ps : List Par) (ks : List Int) (n : Nat) : Prop := ∀ i (h : i < ps.length) (g : i < ks.length), i < n → parFit l ps[i] ks[i] = true
open Classical in
noncomputable def fitL (l : List Ty) (ps : List Par) (ks : List Int) : Bool := decide (ps.length = ks.length ∧ fitTo l ps ks ps.length)
theorem fitTo_succ {l : List Ty} {ps : List Par} {ks : List Int} {i : Nat} (h : i < ps.length) (g : i < ks.length) (h1 : fitTo l ps ks i) (h2 : parFit l ps[i] ks[i] = true) : fitTo l ps ks (i + 1) := by
  intro j hj gj hji
  by_cases e : j = i
  · subst e; exact h2
  · exact h1 j hj gj (by omega)
theorem fitL_no {l : List Ty} {ps : List Par} {ks : List Int} {i : Nat} (h : i < ps.length) (g : i < ks.length) (h2 : parFit l ps[i] ks[i] = false) : fitL l ps ks = false := by
  simp only [fitL, decide_eq_false_iff_not]
  rintro ⟨_, h1⟩
  have := h1 i h g h
  rw [h2] at this; cases this
theorem fitL_ne {l : List Ty} {ps : List Par} {ks : List Int} (h : ¬ ps.length = ks.length) : fitL l ps ks = false := by simp [fitL, h]
theorem fitL_yes {l : List Ty} {ps : List Par} {ks : List Int} (h : ps.length = ks.length) (h1 : fitTo l ps ks ps.length) : fitL l ps ks = true := by simp [fitL, h]; rw [← h]; exact h1
def m81 : MC :=
 (.seq (.reg [Xb 6 (.asg .fb)]) (.seq (.seq (.reg [Xm 10 0, Xn 11 10, Xm 12 1, Xn 13 12, Xq 14 (.bin false .neq (.t 11) (.t 13))]) (.cond (.t 14) (.seq (.reg [Xb 6 (.asg .fb)]) .ret) .skip)) (.seq (.seq (.reg [Xm 15 0, Xn 16 15, Xq 17 (.mov (.i 0))]) (.block 0 (.loop [0, 1, 2, 15, 16, 17] (.seq (.reg [Xq 18 (.bin false .lss (.t 17) (.t 16))]) (.seq (.cond (.t 18) .skip (.exit 0)) (.seq (.block 1
 (.seq (.reg [Xm 19 17, Xi 20 3 15 17, XL 21 3 20, Xb 8 (.alloc 54 [.z, .b, .i]), Xa 7 19, Xz (.store 3 (.t 8) (.t 21))]) (.seq (.reg [Xm 22 1, Xm 23 7, Xi 24 1 22 23, Xl 25 1 24, Xa 9 25]) (.seq (.reg [Xm 26 2, XL 27 3 8, Xm 28 9, Xb 29 (.call (.t 26) false [.lend (.t 27), .lend (.t 28)]), Xq 30 (.un .not (.t 29))]) (.cond (.t 30) (.seq (.reg [Xb 6 (.asg .fb)]) .ret) .skip))))) (.reg [Xq 31 (.bin
 false .add (.t 17) (.i 1)), Xm 17 31]))))))) (.seq (.reg [Xb 6 (.asg .tb)]) .ret))))
set_option maxRecDepth 100000 in
theorem d81 (l : List Ty) (ps : List Par) (ks : List Int) (hp : (ps.length : Int) ≤ 1048576) (hk : (ks.length : Int) ≤ 1048576) (f : Nat) (caps : List AV) (hp' : plains caps = true) (hb : bares caps = true) (hkk : ∀ K, killVs K caps = caps) (hf : ∀ (st : St), frzBs st caps = caps)
    (hq : ∀ p ∈ ps, ∀ k ∈ ks, Does Go.Proofs.Tryz.prog f (.agg p.z :: .v (.int .i64 k) :: caps) false (.v (.bool (parFit l p k))) (.dead :: .dead :: caps.map fun _ => .dead)) :
    Does Go.Proofs.Tryz.prog 81 [.fsl 3 (ps.map Par.z), .fsl 1 (ks.map iv), .clo f caps] false (.v (.bool (fitL l ps ks))) [.dead, .dead, .dead] := by
  refine does_intro (mc := m81) (N := 32) (rs := [6]) (fx := []) 3 rfl (by decide +kernel) ?_
  simp only [m81, EV, Nat.reduceEqDiff, Nat.reduceBEq, Nat.reduceLT, Nat.reduceLeDiff, Nat.reduceAdd, Nat.reduceSub, reduceIte]
  refine cK_cut (fun h => ?_) (fun h => ?_)
  · have h1 : ¬ ps.length = ks.length := by intro e; simp [e] at h
    simp only [EV, Nat.reduceEqDiff, Nat.reduceBEq, Nat.reduceLT, Nat.reduceLeDiff, Nat.reduceAdd, Nat.reduceSub, reduceIte]
    simp only [fitL_ne h1, EV, Nat.reduceEqDiff, Nat.reduceBEq, Nat.reduceLT, Nat.reduceLeDiff, Nat.reduceAdd, Nat.reduceSub, reduceIte, evRE, retVC, cellV', evR, nfz, nfzs, nfzss, List.contains_nil, List.contains_cons, Bool.or_false, or_true]
  have hl : ps.length = ks.length := by have : ((ps.length : Int) = ks.length) := by simpa using h
                                        omega
  clear h
  simp only [EV, Nat.reduceEqDiff, Nat.reduceBEq, Nat.reduceLT, Nat.reduceLeDiff, Nat.reduceAdd, Nat.reduceSub, reduceIte]
  refine awp_loop (fun i : Nat => i ≤ ps.length ∧ fitTo l ps ks i) (fun i => stl [(0, .fsl 3 (ps.map Par.z)), (1, .fsl 1 (ks.map iv)), (2, .clo f caps), (15, .fsl 3 (ps.map Par.z)), (16, .v (.int .i64 (ps.length : Int))), (17, .v (.int .i64 (i : Int)))]) (fun i => ps.length - i) 0 ⟨Nat.zero_le _, fun j hj _ h => absurd h (by omega)⟩ ?_ ?_
  · simp only [hp', hb, hkk, EV, Nat.reduceEqDiff, Nat.reduceBEq, Nat.reduceLT, Nat.reduceLeDiff, Nat.reduceAdd, Nat.reduceSub, reduceIte]
    rfl
  rintro i ⟨hi, hok⟩
  rcases h : decide ((i : Int) < (ps.length : Int)) with _ | _
  rotate_left
  · have h1 : i < ps.length := by simpa using h
    have h2 : (i : Int) < (ps.length : Int) := by omega
    have g1 : i < ks.length := by omega
    have g2 : (i : Int) < (ks.length : Int) := by omega
    have dq := hq _ (List.getElem_mem h1) _ (List.getElem_mem g1)
    simp only [Par.z] at dq
    simp only [h, EV, Nat.reduceEqDiff, Nat.reduceBEq, Nat.reduceLT, Nat.reduceLeDiff, Nat.reduceAdd, Nat.reduceSub, reduceIte]
    simp only [ParE, nth_map h1, h2, nth_map g1, g2, iv, hp', hb, hkk, Par.z, EV, Nat.reduceEqDiff, Nat.reduceBEq, Nat.reduceLT, Nat.reduceLeDiff, Nat.reduceAdd, Nat.reduceSub, reduceIte]
    refine callK_i dq ?_
    simp only [EV, Nat.reduceEqDiff, Nat.reduceBEq, Nat.reduceLT, Nat.reduceLeDiff, Nat.reduceAdd, Nat.reduceSub, reduceIte]
    rcases e1 : parFit l ps[i] ks[i] with _ | _
    · simp only [Bool.not_false, EV, Nat.reduceEqDiff, Nat.reduceBEq, Nat.reduceLT, Nat.reduceLeDiff, Nat.reduceAdd, Nat.reduceSub, reduceIte]
      simp only [fitL_no h1 g1 e1, EV, Nat.reduceEqDiff, Nat.reduceBEq, Nat.reduceLT, Nat.reduceLeDiff, Nat.reduceAdd, Nat.reduceSub, reduceIte, evRE, retVC, cellV', evR, nfz, nfzs, nfzss, List.contains_nil, List.contains_cons, Bool.or_false, or_true]
    · simp only [Bool.not_true, hp', hb, hkk, EV, Nat.reduceEqDiff, Nat.reduceBEq, Nat.reduceLT, Nat.reduceLeDiff, Nat.reduceAdd, Nat.reduceSub, reduceIte]
      rw [w64 _ (by omega)]
      exact ⟨i + 1, ⟨h1, fitTo_succ h1 g1 hok e1⟩, by omega, rfl⟩
  have h1 : i = ps.length := by have : ¬ (i : Int) < ps.length := by simpa using h
                                omega
  subst h1
  simp only [h, EV, Nat.reduceEqDiff, Nat.reduceBEq, Nat.reduceLT, Nat.reduceLeDiff, Nat.reduceAdd, Nat.reduceSub, reduceIte]
  simp only [fitL_yes hl hok, EV, Nat.reduceEqDiff, Nat.reduceBEq, Nat.reduceLT, Nat.reduceLeDiff, Nat.reduceAdd, Nat.reduceSub, reduceIte, evRE, retVC, cellV', evR, nfz, nfzs, nfzss, List.contains_nil, List.contains_cons, Bool.or_false, or_true]
def m84 : MC :=
 (.seq (.reg [Xb 6 (.asg .fb)]) (.seq (.seq (.reg [Xm 9 0, Xn 10 9, Xq 11 (.mov (.i 0))]) (.block 0 (.loop [0, 1, 2, 9, 10, 11] (.seq (.reg [Xq 12 (.bin false .lss (.t 11) (.t 10))]) (.seq (.cond (.t 12) .skip (.exit 0)) (.seq (.block 1 (.seq (.reg [Xi 13 1 9 11, Xl 14 1 13, Xa 8 14]) (.seq (.reg [Xm 15 8, Xm 16 1, Xm 17 2, Xb 18 (.call (.fn 72) false [.lend (.t 15), .lend (.t 16), .lend (.t 17)]),
 Xq 19 (.un .not (.t 18))]) (.cond (.t 19) (.seq (.reg [Xb 6 (.asg .fb)]) .ret) .skip)))) (.reg [Xq 20 (.bin false .add (.t 11) (.i 1)), Xm 11 20]))))))) (.seq (.reg [Xb 6 (.asg .tb)]) .ret)))
theorem d84 (l : List Int) (a b : Int) (hl : (l.length : Int) ≤ 1048576) : Does Go.Proofs.Tryz.prog 84 [.fsl 1 (l.map iv), .v (.int .i64 a), .v (.int .i64 b)] false (.v (.bool (!(l.any fun k => !(decide (a ≤ k) && decide (k ≤ b)))))) [.dead, .dead, .dead] := by
  refine does_intro (mc := m84) (N := 21) (rs := [6]) (fx := []) 3 rfl (by decide +kernel) ?_
  simp only [m84, EV, Nat.reduceEqDiff, Nat.reduceBEq, Nat.reduceLT, Nat.reduceLeDiff, Nat.reduceAdd, Nat.reduceSub, reduceIte]
  refine awp_loop (fun i : Nat => i ≤ l.length ∧ ((l.take i).any fun k => !(decide (a ≤ k) && decide (k ≤ b))) = false) (fun i => stl [(0, .fsl 1 (l.map iv)), (1, .v (.int .i64 a)), (2, .v (.int .i64 b)), (9, .fsl 1 (l.map iv)), (10, .v (.int .i64 (l.length : Int))), (11, .v (.int .i64 (i : Int)))]) (fun i => l.length - i) 0 ⟨Nat.zero_le _, by simp⟩ ?_ ?_
  · simp only [EV, Nat.reduceEqDiff, Nat.reduceBEq, Nat.reduceLT, Nat.reduceLeDiff, Nat.reduceAdd, Nat.reduceSub, reduceIte]
    rfl
  rintro i ⟨hi, hno⟩
  rcases h : decide ((i : Int) < (l.length : Int)) with _ | _
  rotate_left
  · have h1 : i < l.length := by simpa using h
    have h2 : (i : Int) < (l.length : Int) := by omega
    simp only [h, EV, Nat.reduceEqDiff, Nat.reduceBEq, Nat.reduceLT, Nat.reduceLeDiff, Nat.reduceAdd, Nat.reduceSub, reduceIte]
    simp only [nth_map h1, h2, iv, EV, Nat.reduceEqDiff, Nat.reduceBEq, Nat.reduceLT, Nat.reduceLeDiff, Nat.reduceAdd, Nat.reduceSub, reduceIte]
    refine callK_i (d72 l[i] a b) ?_
    simp only [EV, Nat.reduceEqDiff, Nat.reduceBEq, Nat.reduceLT, Nat.reduceLeDiff, Nat.reduceAdd, Nat.reduceSub, reduceIte]
    rcases e1 : (decide (a ≤ l[i]) && decide (l[i] ≤ b)) with _ | _
    · have e2 : (l.any fun k => !(decide (a ≤ k) && decide (k ≤ b))) = true := List.any_eq_true.2 ⟨_, List.getElem_mem h1, by rw [e1]; rfl⟩
      simp only [Bool.not_false, EV, Nat.reduceEqDiff, Nat.reduceBEq, Nat.reduceLT, Nat.reduceLeDiff, Nat.reduceAdd, Nat.reduceSub, reduceIte]
      simp only [e2, Bool.not_true, EV, Nat.reduceEqDiff, Nat.reduceBEq, Nat.reduceLT, Nat.reduceLeDiff, Nat.reduceAdd, Nat.reduceSub, reduceIte, evRE, retVC, cellV', evR, nfz, nfzs, nfzss, List.contains_nil, List.contains_cons, Bool.or_false, or_true]
    · simp only [Bool.not_true, EV, Nat.reduceEqDiff, Nat.reduceBEq, Nat.reduceLT, Nat.reduceLeDiff, Nat.reduceAdd, Nat.reduceSub, reduceIte]
      rw [w64 _ (by omega)]
      exact ⟨i + 1, ⟨h1, by rw [List.take_succ_eq_append_getElem h1, List.any_append, hno]; simp only [List.any_cons, List.any_nil, e1, Bool.not_true, Bool.or_self]⟩, by omega, rfl⟩
  have h1 : i = l.length := by have : ¬ (i : Int) < l.length := by simpa using h
                               omega
  subst h1
  rw [List.take_length] at hno
  simp only [h, EV, Nat.reduceEqDiff, Nat.reduceBEq, Nat.reduceLT, Nat.reduceLeDiff, Nat.reduceAdd, Nat.reduceSub, reduceIte]
  simp only [hno, Bool.not_false, EV, Nat.reduceEqDiff, Nat.reduceBEq, Nat.reduceLT, Nat.reduceLeDiff, Nat.reduceAdd, Nat.reduceSub, reduceIte, evRE, retVC, cellV', evR, nfz, nfzs, nfzss, List.contains_nil, List.contains_cons, Bool.or_false, or_true]
def m80 : MC :=
 (.seq (.reg [Xb 3 (.asg .fb)]) (.seq (.reg [Xf 4 2 1, Xl 5 1 4, Xm 6 0, Xb 7 (.call (.fn 61) false [.lend (.t 5), .lend (.t 6)]), Xq 8 (.un .not (.t 7)), Xa 3 8]) .ret))
theorem d80 (s : Scope) (n : Int) (hl : (s.types.length : Int) ≤ 1048576) : Does Go.Proofs.Tryz.prog 80 [.v (.int .i64 n), .fptr s.z] false (.v (.bool (!isNum s.types n))) [.dead, .dead] := by
  refine does_intro (mc := m80) (N := 9) (rs := [3]) (fx := []) 2 rfl (by decide +kernel) ?_
  simp only [m80, Scope.z, EV, Nat.reduceEqDiff, Nat.reduceBEq, Nat.reduceLT, Nat.reduceLeDiff, Nat.reduceAdd, Nat.reduceSub, reduceIte]
  refine callK_i (d61 s.types n hl) ?_
  simp only [EV, Nat.reduceEqDiff, Nat.reduceBEq, Nat.reduceLT, Nat.reduceLeDiff, Nat.reduceAdd, Nat.reduceSub, reduceIte]
  simp only [EV, Nat.reduceEqDiff, Nat.reduceBEq, Nat.reduceLT, Nat.reduceLeDiff, Nat.reduceAdd, Nat.reduceSub, reduceIte, evRE, retVC, cellV', evR, nfz, nfzs, nfzss, List.contains_nil, List.contains_cons, Bool.or_false, or_true]
def m82 : MC :=
 (.seq (.reg [Xb 3 (.box 54 (.t 0)), Xb 5 (.asg .fb)]) (.seq (.reg [Xf 6 2 3, Xl 7 1 6, Xm 8 1, Xq 9 (.bin false .eql (.t 7) (.t 8)), Xm 10 9, Xu 11 10 (.fad 1 (.t 3)), Xu 12 10 (.load false 1 (.t 11)), Xu 13 10 (.un .not (.t 12)), Xu 14 10 (.mov (.t 13)), Xt 15 14 (.fad 2 (.t 2)), Xt 16 14 (.load false 1 (.t 15)), Xt 17 14 (.fad 2 (.t 3)), Xt 18 14 (.load false 1 (.t 17)), Xt 19 14 (.mov (.t 1)),
 XT 20 14 (.call (.fn 66) false [.lend (.t 16), .lend (.t 18), .lend (.t 19)]), Xu 21 10 (.pick (.t 14) (.t 20) .fb), Xq 22 (.pick (.t 10) .tb (.t 21)), Xa 5 22]) .ret))
set_option maxRecDepth 100000 in
theorem d82 (s : Scope) (p : Par) (n : Int) (hl : (s.types.length : Int) ≤ 1048576) (ht : tabOk s.types = true) (hx : isNum s.types p.typ = true) (hy : isNum s.types n = true) : Does Go.Proofs.Tryz.prog 82 [.agg p.z, .v (.int .i64 n), .fptr s.z] false (.v (.bool (parFit s.types p n))) [.dead, .dead, .dead] := by
  refine does_intro (mc := m82) (N := 23) (rs := [5]) (fx := []) 3 rfl (by decide +kernel) ?_
  simp only [m82, Par.z, Scope.z, EV, Nat.reduceEqDiff, Nat.reduceBEq, Nat.reduceLT, Nat.reduceLeDiff, Nat.reduceAdd, Nat.reduceSub, reduceIte]
  rcases e1 : (p.typ == n) with _ | _
  · simp only [Par.z, Scope.z, EV, Nat.reduceEqDiff, Nat.reduceBEq, Nat.reduceLT, Nat.reduceLeDiff, Nat.reduceAdd, Nat.reduceSub, reduceIte]
    rcases e2 : p.byvar with _ | _
    · simp only [Bool.not_false, Par.z, Scope.z, EV, Nat.reduceEqDiff, Nat.reduceBEq, Nat.reduceLT, Nat.reduceLeDiff, Nat.reduceAdd, Nat.reduceSub, reduceIte]
      refine callK_i (d66 s.types p.typ n hl ht (isNum_in.1 hx) (isNum_in.1 hy)) ?_
      simp only [EV, Nat.reduceEqDiff, Nat.reduceBEq, Nat.reduceLT, Nat.reduceLeDiff, Nat.reduceAdd, Nat.reduceSub, reduceIte]
      simp only [parFit, e1, e2, Bool.not_false, Bool.false_or, Bool.true_and, EV, Nat.reduceEqDiff, Nat.reduceBEq, Nat.reduceLT, Nat.reduceLeDiff, Nat.reduceAdd, Nat.reduceSub, reduceIte, evRE, retVC, cellV', evR, nfz, nfzs, nfzss, List.contains_nil, List.contains_cons, Bool.or_false, or_true]
    · simp only [Bool.not_true, Par.z, Scope.z, EV, Nat.reduceEqDiff, Nat.reduceBEq, Nat.reduceLT, Nat.reduceLeDiff, Nat.reduceAdd, Nat.reduceSub, reduceIte]
      simp only [parFit, e1, e2, Bool.not_true, Bool.false_or, Bool.false_and, EV, Nat.reduceEqDiff, Nat.reduceBEq, Nat.reduceLT, Nat.reduceLeDiff, Nat.reduceAdd, Nat.reduceSub, reduceIte, evRE, retVC, cellV', evR, nfz, nfzs, nfzss, List.contains_nil, List.contains_cons, Bool.or_false, or_true]
  · simp only [Par.z, Scope.z, EV, Nat.reduceEqDiff, Nat.reduceBEq, Nat.reduceLT, Nat.reduceLeDiff, Nat.reduceAdd, Nat.reduceSub, reduceIte]
    simp only [parFit, e1, Bool.true_or, EV, Nat.reduceEqDiff, Nat.reduceBEq, Nat.reduceLT, Nat.reduceLeDiff, Nat.reduceAdd, Nat.reduceSub, reduceIte, evRE, retVC, cellV', evR, nfz, nfzs, nfzss, List.contains_nil, List.contains_cons, Bool.or_false, or_true]
end Go.AM
namespace Go.AM
set_option linter.unusedVariables false
set_option linter.unusedSimpArgs false
def kdAt (s : Scope) (n : Int) : Int := match s.objects[n.toNat]? with
  | some o => o.kind
  | none => 0
def psAt (s : Scope) (n : Int) : List Par := match s.objects[n.toNat]? with
  | some o => o.params
  | none => []
noncomputable def mcOk (s : Scope) (n : Int) (ks : List Int) : Bool :=
  scOk s && ((decide (0 ≤ n) && decide (n ≤ (s.objects.length : Int) - 1)) && (kdAt s n == 4 && (!(decide (4 < (ks.length : Int))) && !(ks.any fun k => !isNum s.types k))))
theorem pars_num {l : List Ty} {ps : List Par} (h : parsOk l ps = true) : ∀ p ∈ ps, isNum l p.typ = true := by
  intro p hp
  obtain ⟨i, hi, rfl⟩ := List.mem_iff_getElem.1 hp
  simp only [parsOk, decide_eq_true_eq] at h
  have := h i hi hi
  simp only [parAt, Bool.and_eq_true] at this
  exact this.2.1
theorem may_self {l : List Ty} {x : Int} (h : isNum l x = true) : mayL l x x = true := by
  obtain ⟨h0, h1⟩ := isNum_in.1 h
  have hn : x.toNat < l.length := by omega
  simp [mayL, mayT, hn]
def m25 : MC :=
 (.seq (.reg [Xb 3 (.box 45 (.t 0)), Xb 6 (.asg .fb), Xb 7 (.asg .fb)]) (.seq (.seq (.reg [Xb 8 (.call (.fn 77) false [.lend (.t 3)]), Xq 9 (.un .not (.t 8)), Xm 10 9, Xu 11 10 (.mov (.t 1)), Xu 12 10 (.fad 3 (.t 3)), Xu 13 10 (.load false 1 (.t 12)), Xu 14 10 (.len false (.t 13)), Xu 15 10 (.bin false .sub (.t 14) (.i 1)), XU 16 10 (.call (.fn 78) false [.lend (.t 11), .lend (.i 0), .lend (.t
 15)]), Xu 17 10 (.un .not (.t 16)), Xq 18 (.pick (.t 10) .tb (.t 17)), Xm 19 18, Xu 20 19 (.fad 3 (.t 3)), Xu 21 19 (.load false 1 (.t 20)), Xu 22 19 (.mov (.t 1)), Xu 23 19 (.iad 6 (.t 21) (.t 22)), Xu 24 19 (.fad 1 (.t 23)), Xu 25 19 (.load false 1 (.t 24)), Xu 26 19 (.bin false .neq (.t 25) (.i 4)), Xq 27 (.pick (.t 19) .tb (.t 26)), Xm 28 27, Xu 29 28 (.mov (.t 2)), Xu 30 28 (.len false (.t
 29)), Xu 31 28 (.bin false .gtr (.t 30) (.i 4)), Xq 32 (.pick (.t 28) .tb (.t 31)), Xm 33 32, Xu 34 33 (.mov (.t 2)), Xu 35 33 (.mkf 80 [.t 3]), XU 36 33 (.call (.fn 79) false [.lend (.t 34), .lend (.t 35)]), Xq 37 (.pick (.t 33) .tb (.t 36))]) (.cond (.t 37) (.seq (.reg [Xb 6 (.asg .fb), Xb 7 (.asg .fb)]) .ret) .skip)) (.seq (.reg [Xf 38 3 3, Xl 39 1 38, Xm 40 1, Xi 41 6 39 40, Xf 42 5 41, Xl 43
 1 42, Xm 44 2, Xq 45 (.mkf 82 [.t 3]), Xb 46 (.call (.fn 81) false [.lend (.t 43), .lend (.t 44), .lend (.t 45)]), Xa 6 46, Xb 7 (.asg .tb)]) .ret)))
set_option maxHeartbeats 1000000 in
set_option maxRecDepth 100000 in
theorem d25 (s : Scope) (n : Int) (ks : List Int) (hs : s.sm) (hk : (ks.length : Int) ≤ 1048576) :
    Does Go.Proofs.Tryz.prog 25 [.agg s.z, .v (.int .i64 n), .fsl 1 (ks.map iv)] false (.tup [.v (.bool (mcOk s n ks && fitL s.types (psAt s n) ks)), .v (.bool (mcOk s n ks))]) [.dead, .dead, .dead] := by
  have hs' := hs
  unfold Scope.sm at hs'
  obtain ⟨z1, z2, z3, z4, z5⟩ := hs'
  have wl := w64 ((s.objects.length : Int) - 1) (by omega)
  have dis := d77 s hs
  simp only [Scope.z] at dis
  refine does_intro (mc := m25) (N := 47) (rs := [6, 7]) (fx := []) 3 rfl (by decide +kernel) ?_
  simp only [m25, Scope.z, EV, Nat.reduceEqDiff, Nat.reduceBEq, Nat.reduceLT, Nat.reduceLeDiff, Nat.reduceAdd, Nat.reduceSub, reduceIte]
  refine callK_i dis ?_
  simp only [EV, Nat.reduceEqDiff, Nat.reduceBEq, Nat.reduceLT, Nat.reduceLeDiff, Nat.reduceAdd, Nat.reduceSub, reduceIte]
  rcases e1 : scOk s with _ | _
  · simp only [Bool.not_false, EV, Nat.reduceEqDiff, Nat.reduceBEq, Nat.reduceLT, Nat.reduceLeDiff, Nat.reduceAdd, Nat.reduceSub, reduceIte]
    simp only [mcOk, e1, Bool.false_and, EV, Nat.reduceEqDiff, Nat.reduceBEq, Nat.reduceLT, Nat.reduceLeDiff, Nat.reduceAdd, Nat.reduceSub, reduceIte, evRE, retVC, cellV', evR, nfz, nfzs, nfzss, List.contains_nil, List.contains_cons, Bool.or_false, or_true]
  simp only [Bool.not_true, wl, Scope.z, EV, Nat.reduceEqDiff, Nat.reduceBEq, Nat.reduceLT, Nat.reduceLeDiff, Nat.reduceAdd, Nat.reduceSub, reduceIte]
  refine callK_i (d78 n 0 ((s.objects.length : Int) - 1)) ?_
  simp only [EV, Nat.reduceEqDiff, Nat.reduceBEq, Nat.reduceLT, Nat.reduceLeDiff, Nat.reduceAdd, Nat.reduceSub, reduceIte]
  rcases e2 : (decide (0 ≤ n) && decide (n ≤ (s.objects.length : Int) - 1)) with _ | _
  · simp only [Bool.not_false, EV, Nat.reduceEqDiff, Nat.reduceBEq, Nat.reduceLT, Nat.reduceLeDiff, Nat.reduceAdd, Nat.reduceSub, reduceIte]
    simp only [mcOk, e2, Bool.false_and, Bool.and_false, EV, Nat.reduceEqDiff, Nat.reduceBEq, Nat.reduceLT, Nat.reduceLeDiff, Nat.reduceAdd, Nat.reduceSub, reduceIte, evRE, retVC, cellV', evR, nfz, nfzs, nfzss, List.contains_nil, List.contains_cons, Bool.or_false, or_true]
  have e2' := e2
  simp only [Bool.and_eq_true, decide_eq_true_eq] at e2'
  have n0 : 0 ≤ n := e2'.1
  have n1 : n.toNat < s.objects.length := by omega
  have n2 : n < (s.objects.length : Int) := by omega
  have hkd : kdAt s n = s.objects[n.toNat].kind := by simp [kdAt, n1]
  have hps : psAt s n = s.objects[n.toNat].params := by simp [psAt, n1]
  simp only [Bool.not_true, n0, n2, n1, nth_map n1, Ob.z, Scope.z, EV, Nat.reduceEqDiff, Nat.reduceBEq, Nat.reduceLT, Nat.reduceLeDiff, Nat.reduceAdd, Nat.reduceSub, reduceIte]
  have hne : (s.objects[n.toNat].kind != 4) = !(s.objects[n.toNat].kind == 4) := rfl
  rw [hne]
  rcases e3 : (s.objects[n.toNat].kind == 4) with _ | _
  · simp only [Bool.not_false, EV, Nat.reduceEqDiff, Nat.reduceBEq, Nat.reduceLT, Nat.reduceLeDiff, Nat.reduceAdd, Nat.reduceSub, reduceIte]
    simp only [mcOk, hkd, e3, Bool.false_and, Bool.and_false, EV, Nat.reduceEqDiff, Nat.reduceBEq, Nat.reduceLT, Nat.reduceLeDiff, Nat.reduceAdd, Nat.reduceSub, reduceIte, evRE, retVC, cellV', evR, nfz, nfzs, nfzss, List.contains_nil, List.contains_cons, Bool.or_false, or_true]
  simp only [Bool.not_true, EV, Nat.reduceEqDiff, Nat.reduceBEq, Nat.reduceLT, Nat.reduceLeDiff, Nat.reduceAdd, Nat.reduceSub, reduceIte]
  rcases e4 : decide (4 < (ks.length : Int)) with _ | _
  rotate_left
  · simp only [EV, Nat.reduceEqDiff, Nat.reduceBEq, Nat.reduceLT, Nat.reduceLeDiff, Nat.reduceAdd, Nat.reduceSub, reduceIte]
    simp only [mcOk, e4, Bool.not_true, Bool.false_and, Bool.and_false, EV, Nat.reduceEqDiff, Nat.reduceBEq, Nat.reduceLT, Nat.reduceLeDiff, Nat.reduceAdd, Nat.reduceSub, reduceIte, evRE, retVC, cellV', evR, nfz, nfzs, nfzss, List.contains_nil, List.contains_cons, Bool.or_false, or_true]
  simp only [Scope.z, EV, Nat.reduceEqDiff, Nat.reduceBEq, Nat.reduceLT, Nat.reduceLeDiff, Nat.reduceAdd, Nat.reduceSub, reduceIte]
  have dcf := d79 ks (by omega) 80 [.fptr s.z] (fun k => !isNum s.types k) rfl rfl (fun _ => rfl) (fun _ => rfl) (fun k _ => d80 s k z3.1)
  simp only [Scope.z] at dcf
  refine callK_i dcf ?_
  simp only [EV, Nat.reduceEqDiff, Nat.reduceBEq, Nat.reduceLT, Nat.reduceLeDiff, Nat.reduceAdd, Nat.reduceSub, reduceIte]
  rcases e5 : (ks.any fun k => !isNum s.types k) with _ | _
  rotate_left
  · simp only [EV, Nat.reduceEqDiff, Nat.reduceBEq, Nat.reduceLT, Nat.reduceLeDiff, Nat.reduceAdd, Nat.reduceSub, reduceIte]
    simp only [mcOk, e5, Bool.not_true, Bool.and_false, Bool.false_and, EV, Nat.reduceEqDiff, Nat.reduceBEq, Nat.reduceLT, Nat.reduceLeDiff, Nat.reduceAdd, Nat.reduceSub, reduceIte, evRE, retVC, cellV', evR, nfz, nfzs, nfzss, List.contains_nil, List.contains_cons, Bool.or_false, or_true]
  have hok : mcOk s n ks = true := by simp only [mcOk, e1, e2, hkd, e3, e4, e5, Bool.not_false, Bool.and_self]
  have P := scOk_iff.1 e1
  have hnum : ∀ k ∈ ks, isNum s.types k = true := by
    intro k hk'
    rw [List.any_eq_false] at e5
    simpa using e5 k hk'
  have hob := P.obs n.toNat n1 n1
  simp only [obOk, Bool.and_eq_true] at hob
  have hpn := pars_num hob.2.1
  have hpl := (z4.2 _ (List.getElem_mem n1)).2.2.2.2.2.1
  have deq := d81 s.types s.objects[n.toNat].params ks hpl hk 82 [.fptr s.z] rfl rfl (fun _ => rfl) (fun _ => rfl) (fun p hp k hk => d82 s p k z3.1 P.tab (hpn p hp) (hnum k hk))
  simp only [Scope.z] at deq
  simp only [n0, n2, n1, nth_map n1, Ob.z, Scope.z, EV, Nat.reduceEqDiff, Nat.reduceBEq, Nat.reduceLT, Nat.reduceLeDiff, Nat.reduceAdd, Nat.reduceSub, reduceIte]
  refine callK_i deq ?_
  simp only [EV, Nat.reduceEqDiff, Nat.reduceBEq, Nat.reduceLT, Nat.reduceLeDiff, Nat.reduceAdd, Nat.reduceSub, reduceIte]
  simp only [hok, hps, Bool.true_and, EV, Nat.reduceEqDiff, Nat.reduceBEq, Nat.reduceLT, Nat.reduceLeDiff, Nat.reduceAdd, Nat.reduceSub, reduceIte, evRE, retVC, cellV', evR, nfz, nfzs, nfzss, List.contains_nil, List.contains_cons, Bool.or_false, or_true]
def m26 : MC :=
 (.seq (.reg [Xb 3 (.box 45 (.t 0)), Xb 6 (.asg .fb), Xb 7 (.asg .fb)]) (.seq (.seq (.reg [XL 11 5 3, Xb 12 (.call (.fn 83) false [.lend (.t 11)]), Xq 13 (.un .not (.t 12)), Xm 14 13, Xu 15 14 (.mov (.t 1)), Xu 16 14 (.fad 3 (.t 3)), Xu 17 14 (.load false 1 (.t 16)), Xu 18 14 (.len false (.t 17)), Xu 19 14 (.bin false .sub (.t 18) (.i 1)), XU 20 14 (.call (.fn 72) false [.lend (.t 15), .lend (.i
 0), .lend (.t 19)]), Xu 21 14 (.un .not (.t 20)), Xq 22 (.pick (.t 14) .tb (.t 21)), Xm 23 22, Xu 24 23 (.fad 3 (.t 3)), Xu 25 23 (.load false 1 (.t 24)), Xu 26 23 (.mov (.t 1)), Xu 27 23 (.iad 6 (.t 25) (.t 26)), Xu 28 23 (.fad 1 (.t 27)), Xu 29 23 (.load false 1 (.t 28)), Xu 30 23 (.bin false .neq (.t 29) (.i 4)), Xq 31 (.pick (.t 23) .tb (.t 30)), Xm 32 31, Xu 33 32 (.mov (.t 2)), Xu 34 32
 (.len false (.t 33)), Xu 35 32 (.bin false .gtr (.t 34) (.i 4)), Xq 36 (.pick (.t 32) .tb (.t 35)), Xm 37 36, Xu 38 37 (.mov (.t 2)), Xu 39 37 (.fad 2 (.t 3)), Xu 40 37 (.load false 1 (.t 39)), Xu 41 37 (.len false (.t 40)), Xu 42 37 (.bin false .sub (.t 41) (.i 1)), XU 43 37 (.call (.fn 84) false [.lend (.t 38), .lend (.i 0), .lend (.t 42)]), Xu 44 37 (.un .not (.t 43)), Xq 45 (.pick (.t 37) .tb
 (.t 44))]) (.cond (.t 45) (.seq (.reg [Xb 6 (.asg .fb), Xb 7 (.asg .fb)]) .ret) .skip)) (.seq (.reg [Xf 46 3 3, Xl 47 1 46, Xm 48 1, Xi 49 6 47 48, Xf 50 5 49, Xl 51 1 50, Xa 8 51]) (.seq (.seq (.reg [Xm 52 8, Xn 53 52, Xm 54 2, Xn 55 54, Xq 56 (.bin false .neq (.t 53) (.t 55))]) (.cond (.t 56) (.seq (.reg [Xb 6 (.asg .fb), Xb 7 (.asg .tb)]) .ret) .skip)) (.seq (.seq (.reg [Xm 57 8, Xn 58 57, Xq
 59 (.mov (.i 0))]) (.block 0 (.loop [2, 3, 8, 46, 47, 48, 49, 50, 51, 57, 58, 59] (.seq (.reg [Xq 60 (.bin false .lss (.t 59) (.t 58))]) (.seq (.cond (.t 60) .skip (.exit 0)) (.seq (.block 1 (.seq (.reg [Xm 61 59, Xi 62 3 57 59, XL 63 3 62, Xb 10 (.alloc 54 [.z, .b, .i]), Xa 9 61, Xz (.store 3 (.t 10) (.t 63))]) (.seq (.dreg [Xf 64 1 10, Xl 65 1 64, Xm 66 65, Xt 67 66 (.fad 2 (.t 10)), Xt 68 66
 (.load false 1 (.t 67)), Xt 69 66 (.mov (.t 2)), Xt 70 66 (.mov (.t 9)), Xt 71 66 (.iad 1 (.t 69) (.t 70)), Xt 72 66 (.load false 1 (.t 71)), Xt 73 66 (.bin false .neq (.t 68) (.t 72)), Xq 74 (.pick (.t 66) (.t 73) .fb), Xm 75 74, Xu 76 75 (.fad 1 (.t 10)), Xu 77 75 (.load false 1 (.t 76)), Xu 78 75 (.un .not (.t 77)), Xu 79 75 (.mov (.t 78)), Xt 80 79 (.fad 2 (.t 3)), Xt 81 79 (.load false 1 (.t
 80)), Xt 82 79 (.fad 2 (.t 10)), Xt 83 79 (.load false 1 (.t 82)), Xt 84 79 (.mov (.t 2)), Xt 85 79 (.mov (.t 9)), Xt 86 79 (.iad 1 (.t 84) (.t 85)), Xt 87 79 (.load false 1 (.t 86)), XT 88 79 (.call (.fn 73) false [.lend (.t 81), .lend (.t 83), .lend (.t 87)]), Xt 89 79 (.un .not (.t 88)), Xu 90 75 (.pick (.t 79) (.t 89) .fb), Xq 91 (.pick (.t 75) .tb (.t 90))]) (.cond (.t 91) (.seq (.reg [Xb 6
 (.asg .fb), Xb 7 (.asg .tb)]) .ret) .skip)))) (.reg [Xq 92 (.bin false .add (.t 59) (.i 1)), Xm 59 92]))))))) (.seq (.reg [Xb 6 (.asg .tb), Xb 7 (.asg .tb)]) .ret))))))
set_option maxHeartbeats 2000000 in
set_option maxRecDepth 100000 in
theorem d26 (s : Scope) (n : Int) (ks : List Int) (hs : s.sm) (hk : (ks.length : Int) ≤ 1048576) :
    Does Go.Proofs.Tryz.prog 26 [.agg s.z, .v (.int .i64 n), .fsl 1 (ks.map iv)] false (.tup [.v (.bool (mcOk s n ks && fitL s.types (psAt s n) ks)), .v (.bool (mcOk s n ks))]) [.dead, .dead, .dead] := by
  have hs' := hs
  unfold Scope.sm at hs'
  obtain ⟨z1, z2, z3, z4, z5⟩ := hs'
  have wl := w64 ((s.objects.length : Int) - 1) (by omega)
  have wt := w64 ((s.types.length : Int) - 1) (by omega)
  have dis := d83 s hs
  simp only [Scope.z] at dis
  refine does_intro (mc := m26) (N := 93) (rs := [6, 7]) (fx := []) 3 rfl (by decide +kernel) ?_
  simp only [m26, Scope.z, EV, Nat.reduceEqDiff, Nat.reduceBEq, Nat.reduceLT, Nat.reduceLeDiff, Nat.reduceAdd, Nat.reduceSub, reduceIte]
  refine callK_i dis ?_
  simp only [EV, Nat.reduceEqDiff, Nat.reduceBEq, Nat.reduceLT, Nat.reduceLeDiff, Nat.reduceAdd, Nat.reduceSub, reduceIte]
  rcases e1 : scOk s with _ | _
  · simp only [Bool.not_false, EV, Nat.reduceEqDiff, Nat.reduceBEq, Nat.reduceLT, Nat.reduceLeDiff, Nat.reduceAdd, Nat.reduceSub, reduceIte]
    simp only [mcOk, e1, Bool.false_and, EV, Nat.reduceEqDiff, Nat.reduceBEq, Nat.reduceLT, Nat.reduceLeDiff, Nat.reduceAdd, Nat.reduceSub, reduceIte, evRE, retVC, cellV', evR, nfz, nfzs, nfzss, List.contains_nil, List.contains_cons, Bool.or_false, or_true]
  simp only [Bool.not_true, wl, Scope.z, EV, Nat.reduceEqDiff, Nat.reduceBEq, Nat.reduceLT, Nat.reduceLeDiff, Nat.reduceAdd, Nat.reduceSub, reduceIte]
  refine callK_i (d72 n 0 ((s.objects.length : Int) - 1)) ?_
  simp only [EV, Nat.reduceEqDiff, Nat.reduceBEq, Nat.reduceLT, Nat.reduceLeDiff, Nat.reduceAdd, Nat.reduceSub, reduceIte]
  rcases e2 : (decide (0 ≤ n) && decide (n ≤ (s.objects.length : Int) - 1)) with _ | _
  · simp only [Bool.not_false, EV, Nat.reduceEqDiff, Nat.reduceBEq, Nat.reduceLT, Nat.reduceLeDiff, Nat.reduceAdd, Nat.reduceSub, reduceIte]
    simp only [mcOk, e2, Bool.false_and, Bool.and_false, EV, Nat.reduceEqDiff, Nat.reduceBEq, Nat.reduceLT, Nat.reduceLeDiff, Nat.reduceAdd, Nat.reduceSub, reduceIte, evRE, retVC, cellV', evR, nfz, nfzs, nfzss, List.contains_nil, List.contains_cons, Bool.or_false, or_true]
  have e2' := e2
  simp only [Bool.and_eq_true, decide_eq_true_eq] at e2'
  have n0 : 0 ≤ n := e2'.1
  have n1 : n.toNat < s.objects.length := by omega
  have n2 : n < (s.objects.length : Int) := by omega
  have hkd : kdAt s n = s.objects[n.toNat].kind := by simp [kdAt, n1]
  have hps : psAt s n = s.objects[n.toNat].params := by simp [psAt, n1]
  simp only [Bool.not_true, n0, n2, n1, nth_map n1, Ob.z, Scope.z, EV, Nat.reduceEqDiff, Nat.reduceBEq, Nat.reduceLT, Nat.reduceLeDiff, Nat.reduceAdd, Nat.reduceSub, reduceIte]
  have hne : (s.objects[n.toNat].kind != 4) = !(s.objects[n.toNat].kind == 4) := rfl
  rw [hne]
  rcases e3 : (s.objects[n.toNat].kind == 4) with _ | _
  · simp only [Bool.not_false, EV, Nat.reduceEqDiff, Nat.reduceBEq, Nat.reduceLT, Nat.reduceLeDiff, Nat.reduceAdd, Nat.reduceSub, reduceIte]
    simp only [mcOk, hkd, e3, Bool.false_and, Bool.and_false, EV, Nat.reduceEqDiff, Nat.reduceBEq, Nat.reduceLT, Nat.reduceLeDiff, Nat.reduceAdd, Nat.reduceSub, reduceIte, evRE, retVC, cellV', evR, nfz, nfzs, nfzss, List.contains_nil, List.contains_cons, Bool.or_false, or_true]
  simp only [Bool.not_true, EV, Nat.reduceEqDiff, Nat.reduceBEq, Nat.reduceLT, Nat.reduceLeDiff, Nat.reduceAdd, Nat.reduceSub, reduceIte]
  rcases e4 : decide (4 < (ks.length : Int)) with _ | _
  rotate_left
  · simp only [EV, Nat.reduceEqDiff, Nat.reduceBEq, Nat.reduceLT, Nat.reduceLeDiff, Nat.reduceAdd, Nat.reduceSub, reduceIte]
    simp only [mcOk, e4, Bool.not_true, Bool.false_and, Bool.and_false, EV, Nat.reduceEqDiff, Nat.reduceBEq, Nat.reduceLT, Nat.reduceLeDiff, Nat.reduceAdd, Nat.reduceSub, reduceIte, evRE, retVC, cellV', evR, nfz, nfzs, nfzss, List.contains_nil, List.contains_cons, Bool.or_false, or_true]
  simp only [wt, Scope.z, EV, Nat.reduceEqDiff, Nat.reduceBEq, Nat.reduceLT, Nat.reduceLeDiff, Nat.reduceAdd, Nat.reduceSub, reduceIte]
  have dal := d84 ks 0 ((s.types.length : Int) - 1) hk
  have eal : (ks.any fun k => !(decide (0 ≤ k) && decide (k ≤ (s.types.length : Int) - 1))) = (ks.any fun k => !isNum s.types k) := rfl
  rw [eal] at dal
  refine callK_i dal ?_
  simp only [EV, Nat.reduceEqDiff, Nat.reduceBEq, Nat.reduceLT, Nat.reduceLeDiff, Nat.reduceAdd, Nat.reduceSub, reduceIte]
  rcases e5 : (ks.any fun k => !isNum s.types k) with _ | _
  rotate_left
  · simp only [Bool.not_true, Bool.not_false, EV, Nat.reduceEqDiff, Nat.reduceBEq, Nat.reduceLT, Nat.reduceLeDiff, Nat.reduceAdd, Nat.reduceSub, reduceIte]
    simp only [mcOk, e5, Bool.not_true, Bool.and_false, Bool.false_and, EV, Nat.reduceEqDiff, Nat.reduceBEq, Nat.reduceLT, Nat.reduceLeDiff, Nat.reduceAdd, Nat.reduceSub, reduceIte, evRE, retVC, cellV', evR, nfz, nfzs, nfzss, List.contains_nil, List.contains_cons, Bool.or_false, or_true]
  have hok : mcOk s n ks = true := by simp only [mcOk, e1, e2, hkd, e3, e4, e5, Bool.not_false, Bool.and_self]
  have P := scOk_iff.1 e1
  have hnum : ∀ k ∈ ks, isNum s.types k = true := by
    intro k hk'
    rw [List.any_eq_false] at e5
    simpa using e5 k hk'
  have hob := P.obs n.toNat n1 n1
  simp only [obOk, Bool.and_eq_true] at hob
  have hpn := pars_num hob.2.1
  have hpl := (z4.2 _ (List.getElem_mem n1)).2.2.2.2.2.1
  rw [hok, hps]
  simp only [Bool.not_false, Bool.not_true, Scope.z, EV, Nat.reduceEqDiff, Nat.reduceBEq, Nat.reduceLT, Nat.reduceLeDiff, Nat.reduceAdd, Nat.reduceSub, reduceIte]
  simp only [n0, n2, n1, nth_map n1, Ob.z, Scope.z, EV, Nat.reduceEqDiff, Nat.reduceBEq, Nat.reduceLT, Nat.reduceLeDiff, Nat.reduceAdd, Nat.reduceSub, reduceIte]
  refine cK_cut (fun h => ?_) (fun h => ?_)
  · have h1 : ¬ s.objects[n.toNat].params.length = ks.length := by intro e; simp [e] at h
    simp only [EV, Nat.reduceEqDiff, Nat.reduceBEq, Nat.reduceLT, Nat.reduceLeDiff, Nat.reduceAdd, Nat.reduceSub, reduceIte]
    simp only [fitL_ne h1, Bool.true_and, EV, Nat.reduceEqDiff, Nat.reduceBEq, Nat.reduceLT, Nat.reduceLeDiff, Nat.reduceAdd, Nat.reduceSub, reduceIte, evRE, retVC, cellV', evR, nfz, nfzs, nfzss, List.contains_nil, List.contains_cons, Bool.or_false, or_true]
  have hlen : s.objects[n.toNat].params.length = ks.length := by
    have : ((s.objects[n.toNat].params.length : Int) = ks.length) := by simpa using h
    omega
  clear h
  simp only [Scope.z, EV, Nat.reduceEqDiff, Nat.reduceBEq, Nat.reduceLT, Nat.reduceLeDiff, Nat.reduceAdd, Nat.reduceSub, reduceIte]
  refine awp_loop (fun i : Nat => i ≤ s.objects[n.toNat].params.length ∧ fitTo s.types s.objects[n.toNat].params ks i) (fun i => stl [(2, .fsl 1 (ks.map iv)), (3, .box 45 s.z), (8, .fsl 3 (s.objects[n.toNat].params.map Par.z)), (46, .ref 3 [] 0 3), (47, .fsl 6 (s.objects.map Ob.z)), (48, .v (.int .i64 n)), (49, .fptr s.objects[n.toNat].z), (50, .fptr [.fsl 3 (s.objects[n.toNat].params.map Par.z)]), (51, .fsl 3 (s.objects[n.toNat].params.map Par.z)), (57, .fsl 3 (s.objects[n.toNat].params.map Par.z)), (58, .v (.int .i64 (s.objects[n.toNat].params.length : Int))), (59, .v (.int .i64 (i : Int)))]) (fun i => s.objects[n.toNat].params.length - i) 0 ⟨Nat.zero_le _, fun j hj _ h => absurd h (by omega)⟩ ?_ ?_
  · simp only [Ob.z, Scope.z, EV, Nat.reduceEqDiff, Nat.reduceBEq, Nat.reduceLT, Nat.reduceLeDiff, Nat.reduceAdd, Nat.reduceSub, reduceIte]
    rfl
  rintro i ⟨hi, hok'⟩
  rcases h : decide ((i : Int) < (s.objects[n.toNat].params.length : Int)) with _ | _
  rotate_left
  · have h1 : i < s.objects[n.toNat].params.length := by simpa using h
    have h2 : (i : Int) < (s.objects[n.toNat].params.length : Int) := by omega
    have g1 : i < ks.length := by omega
    have g2 : (i : Int) < (ks.length : Int) := by omega
    have hno : parFit s.types s.objects[n.toNat].params[i] ks[i] = false → fitL s.types s.objects[n.toNat].params ks = false := fitL_no h1 g1
    have hpt := hpn _ (List.getElem_mem h1)
    have hkt := hnum _ (List.getElem_mem g1)
    have hself := may_self hpt
    have hst : fitTo s.types s.objects[n.toNat].params ks i → parFit s.types s.objects[n.toNat].params[i] ks[i] = true → fitTo s.types s.objects[n.toNat].params ks (i + 1) := fitTo_succ h1 g1
    simp only [h, Ob.z, Scope.z, EV, Nat.reduceEqDiff, Nat.reduceBEq, Nat.reduceLT, Nat.reduceLeDiff, Nat.reduceAdd, Nat.reduceSub, reduceIte]
    generalize hpe : s.objects[n.toNat].params[i] = p at hno hpt hself hst
    simp only [ParE, nth_map h1, h2, nth_map g1, g1, g2, hpe, iv, Par.z, Scope.z, EV, Nat.reduceEqDiff, Nat.reduceBEq, Nat.reduceLT, Nat.reduceLeDiff, Nat.reduceAdd, Nat.reduceSub, reduceIte]
    rcases eb : p.byvar with _ | _
    · simp only [nth_map g1, g1, g2, iv, eb, Bool.not_false, Par.z, Scope.z, EV, Nat.reduceEqDiff, Nat.reduceBEq, Nat.reduceLT, Nat.reduceLeDiff, Nat.reduceAdd, Nat.reduceSub, reduceIte]
      refine callD_i (d73 s.types p.typ ks[i] z3.1 P.tab (isNum_in.1 hpt) (isNum_in.1 hkt)) rfl ?_
      simp only [EV, Nat.reduceEqDiff, Nat.reduceBEq, Nat.reduceLT, Nat.reduceLeDiff, Nat.reduceAdd, Nat.reduceSub, reduceIte]
      rcases e7 : mayL s.types p.typ ks[i] with _ | _
      · have e8 : (p.typ == ks[i]) = false := by
          by_cases h8 : p.typ = ks[i]
          · rw [← h8, hself] at e7; cases e7
          · simpa using h8
        have e9 : fitL s.types s.objects[n.toNat].params ks = false := hno (by simp only [parFit, eb, e7, e8, Bool.not_false, Bool.and_false, Bool.or_false])
        simp only [Bool.not_false, EV, Nat.reduceEqDiff, Nat.reduceBEq, Nat.reduceLT, Nat.reduceLeDiff, Nat.reduceAdd, Nat.reduceSub, reduceIte]
        simp only [e9, Bool.and_false, EV, Nat.reduceEqDiff, Nat.reduceBEq, Nat.reduceLT, Nat.reduceLeDiff, Nat.reduceAdd, Nat.reduceSub, reduceIte, evRE, retVC, cellV', evR, nfz, nfzs, nfzss, List.contains_nil, List.contains_cons, Bool.or_false, or_true]
      · simp only [Bool.not_true, Ob.z, Scope.z, EV, Nat.reduceEqDiff, Nat.reduceBEq, Nat.reduceLT, Nat.reduceLeDiff, Nat.reduceAdd, Nat.reduceSub, reduceIte]
        rw [w64 _ (by omega)]
        exact ⟨i + 1, ⟨h1, hst hok' (by simp only [parFit, eb, e7, Bool.not_false, Bool.and_self, Bool.or_true])⟩, by omega, rfl⟩
    · simp only [nth_map g1, g1, g2, iv, eb, Bool.not_true, Par.z, Scope.z, EV, Nat.reduceEqDiff, Nat.reduceBEq, Nat.reduceLT, Nat.reduceLeDiff, Nat.reduceAdd, Nat.reduceSub, reduceIte]
      have ebn : (p.typ != ks[i]) = !(p.typ == ks[i]) := rfl
      rw [ebn]
      rcases e7 : (p.typ == ks[i]) with _ | _
      · have e9 : fitL s.types s.objects[n.toNat].params ks = false := hno (by simp only [parFit, eb, e7, Bool.not_true, Bool.false_and, Bool.or_false])
        simp only [Bool.not_false, EV, Nat.reduceEqDiff, Nat.reduceBEq, Nat.reduceLT, Nat.reduceLeDiff, Nat.reduceAdd, Nat.reduceSub, reduceIte]
        simp only [e9, Bool.and_false, EV, Nat.reduceEqDiff, Nat.reduceBEq, Nat.reduceLT, Nat.reduceLeDiff, Nat.reduceAdd, Nat.reduceSub, reduceIte, evRE, retVC, cellV', evR, nfz, nfzs, nfzss, List.contains_nil, List.contains_cons, Bool.or_false, or_true]
      · simp only [Bool.not_true, eb, Par.z, Ob.z, Scope.z, EV, Nat.reduceEqDiff, Nat.reduceBEq, Nat.reduceLT, Nat.reduceLeDiff, Nat.reduceAdd, Nat.reduceSub, reduceIte]
        rw [w64 _ (by omega)]
        exact ⟨i + 1, ⟨h1, hst hok' (by simp only [parFit, e7, Bool.true_or])⟩, by omega, rfl⟩
  have h1 : i = s.objects[n.toNat].params.length := by have : ¬ (i : Int) < s.objects[n.toNat].params.length := by simpa using h
                                                       omega
  subst h1
  simp only [h, EV, Nat.reduceEqDiff, Nat.reduceBEq, Nat.reduceLT, Nat.reduceLeDiff, Nat.reduceAdd, Nat.reduceSub, reduceIte]
  simp only [fitL_yes hlen hok', Bool.true_and, EV, Nat.reduceEqDiff, Nat.reduceBEq, Nat.reduceLT, Nat.reduceLeDiff, Nat.reduceAdd, Nat.reduceSub, reduceIte, evRE, retVC, cellV', evR, nfz, nfzs, nfzss, List.contains_nil, List.contains_cons, Bool.or_false, or_true]
def m6 : MC :=
 (.seq (.reg [Xb 3 (.box 59 (.t 0)), Xb 6 (.asg .fb)]) (.keep [1, 2, 3] (.seq (.seq (.reg [Xm 14 2, Xn 15 14, Xq 16 (.bin false .gtr (.t 15) (.i 1048576))]) (.keep [1, 2, 3, 16] (.cond (.t 16) (.seq (.reg [Xb 6 (.asg .tb)]) .ret) .skip))) (.keep [1, 2, 3] (.seq (.reg [Xb 7 (.asg (.i 1048576))]) (.keep [1, 2, 3, 7] (.seq (.reg [XL 17 5 3, Xm 18 7, Xb 19 (.call (.fn 27) false [.lend (.t 17), .lend
 (.t 18)]), Xa 7 19]) (.keep [1, 2, 3, 7] (.seq (.seq (.reg [Xm 20 7, Xq 21 (.bin false .lss (.t 20) (.i 0))]) (.keep [1, 2, 3, 21] (.cond (.t 21) (.seq (.reg [Xb 6 (.asg .tb)]) .ret) .skip))) (.keep [1, 2, 3] (.seq (.reg [XL 23 5 3, Xb 24 (.call (.fn 28) false [.lend (.t 23)]), Xm 25 1, Xm 26 2, Xb 27 (.call (.fn 29) false [.lend (.t 26)]), Xb 28 (.call (.fn 26) false [.lend (.t 24), .lend (.t
 25), .lend (.t 27)]), Xm 22 28, Xq 29 (.ext 22 0), Xq 30 (.ext 22 1), Xa 8 29, Xa 9 30]) (.keep [1, 2, 3, 8, 9] (.seq (.reg [XL 31 5 3, Xb 32 (.call (.fn 28) false [.lend (.t 31)]), Xb 10 (.alloc 45 [.z, .s 9 1, .s 40 6, .s 52 6, .s 155 2]), Xz (.store 5 (.t 10) (.t 32))]) (.keep [1, 2, 3, 8, 9, 10] (.seq (.reg [Xm 33 2, Xb 34 (.call (.fn 29) false [.lend (.t 33)]), Xa 11 34]) (.keep [1, 2, 3, 8,
 9, 10, 11, 34] (.seq (.reg [XL 36 5 10, Xm 37 1, Xm 38 11, Xb 39 (.call (.fn 25) false [.lend (.t 36), .lend (.t 37), .lend (.t 38)]), Xm 35 39, Xq 40 (.ext 35 0), Xq 41 (.ext 35 1), Xa 12 40, Xa 13 41]) (.keep [2, 3, 8, 9, 10, 11, 12, 13, 34] (.seq (.seq (.reg [Xm 42 12, Xm 43 8, Xq 44 (.bin true .neq (.t 42) (.t 43)), Xm 45 44, Xu 46 45 (.mov (.t 13)), Xu 47 45 (.mov (.t 9)), Xu 48 45 (.bin true
 .neq (.t 46) (.t 47)), Xq 49 (.pick (.t 45) .tb (.t 48))]) (.keep [2, 3, 10, 11, 34, 49] (.cond (.t 49) (.seq (.reg [Xb 6 (.asg .fb)]) .ret) .skip))) (.keep [2, 3, 10, 11, 34] (.seq (.seq (.mixt [] [2, 3, 10, 11, 34, 54] [] [] [] [] (.alt (.step 0 (XL 50 5 10) (.step 1 (XL 51 5 3) (.step 2 (Xb 52 (.call (.fn 28) false [.lend (.t 51)])) (.step 3 (Xb 53 (.call (.fn 30) false [.lend (.t 50), .lend
 (.t 52)])) (.step 4 (Xq 54 (.un .not (.t 53))) .nil))))) (.step 1 (XL 51 5 3) (.alt (.step 0 (XL 50 5 10) (.step 2 (Xb 52 (.call (.fn 28) false [.lend (.t 51)])) (.step 3 (Xb 53 (.call (.fn 30) false [.lend (.t 50), .lend (.t 52)])) (.step 4 (Xq 54 (.un .not (.t 53))) .nil)))) (.step 2 (Xb 52 (.call (.fn 28) false [.lend (.t 51)])) (.step 0 (XL 50 5 10) (.step 3 (Xb 53 (.call (.fn 30) false [.lend
 (.t 50), .lend (.t 52)])) (.step 4 (Xq 54 (.un .not (.t 53))) .nil)))))))) (.keep [2, 11, 34, 54] (.cond (.t 54) (.seq (.reg [Xb 6 (.asg .fb)]) .ret) .skip))) (.keep [2, 11, 34] (.seq (.seq (.reg [Xm 55 11, Xm 56 2, Xb 57 (.call (.fn 29) false [.lend (.t 56)]), Xb 58 (.call (.fn 31) false [.lend (.t 55), .lend (.t 57)]), Xq 59 (.un .not (.t 58))]) (.keep [59] (.cond (.t 59) (.seq (.reg [Xb 6 (.asg
 .fb)]) .ret) .skip))) (.keep [] (.seq (.reg [Xb 6 (.asg .tb)]) .ret)))))))))))))))))))))))))
set_option maxHeartbeats 1000000 in
set_option maxRecDepth 100000 in
theorem d6 (a : Scope) (n : Int) (ks : List Int) (hoa : a.ok) (hk0 : (ks.length : Int) ≤ 9223372036854775807) :
    Does Go.Proofs.Tryz.prog 6 [.agg a.z, .v (.int .i64 n), .fsl 1 (ks.map iv)] false (.v (.bool true)) [.dead, .dead, .dead] := by
  have dsz := d27 a 1048576 (by omega) (by omega) hoa
  simp only [Scope.z] at dsz
  have bs : ∀ b : Bool, (b != b) = false := fun b => by cases b <;> rfl
  refine does_intro (mc := m6) (N := 60) (rs := [6]) (fx := []) 3 rfl (by decide +kernel) ?_
  simp only [m6, Scope.z, EV, Nat.reduceEqDiff, Nat.reduceBEq, Nat.reduceLT, Nat.reduceLeDiff, Nat.reduceAdd, Nat.reduceSub, reduceIte]
  refine cK_cut (fun h => ?_) (fun h => ?_)
  · simp only [EV, Nat.reduceEqDiff, Nat.reduceBEq, Nat.reduceLT, Nat.reduceLeDiff, Nat.reduceAdd, Nat.reduceSub, reduceIte]
    simp only [EV, Nat.reduceEqDiff, Nat.reduceBEq, Nat.reduceLT, Nat.reduceLeDiff, Nat.reduceAdd, Nat.reduceSub, reduceIte, evRE, retVC, cellV', evR, nfz, nfzs, nfzss, List.contains_nil, List.contains_cons, Bool.or_false, or_true]
  have hk : (ks.length : Int) ≤ 1048576 := by have : ¬ 1048576 < (ks.length : Int) := by simpa using h
                                              omega
  clear h
  simp only [Scope.z, EV, Nat.reduceEqDiff, Nat.reduceBEq, Nat.reduceLT, Nat.reduceLeDiff, Nat.reduceAdd, Nat.reduceSub, reduceIte]
  refine callK_i dsz ?_
  simp only [EV, Nat.reduceEqDiff, Nat.reduceBEq, Nat.reduceLT, Nat.reduceLeDiff, Nat.reduceAdd, Nat.reduceSub, reduceIte]
  refine cK_cut (fun h => ?_) (fun h => ?_)
  · simp only [EV, Nat.reduceEqDiff, Nat.reduceBEq, Nat.reduceLT, Nat.reduceLeDiff, Nat.reduceAdd, Nat.reduceSub, reduceIte]
    simp only [EV, Nat.reduceEqDiff, Nat.reduceBEq, Nat.reduceLT, Nat.reduceLeDiff, Nat.reduceAdd, Nat.reduceSub, reduceIte, evRE, retVC, cellV', evR, nfz, nfzs, nfzss, List.contains_nil, List.contains_cons, Bool.or_false, or_true]
  have h0 : 0 ≤ szScope a 1048576 := by simpa using h
  have h1 := szScope_tot a _ h0
  have hx : a.sm := a.sm_of (by omega)
  clear h dsz
  have dto := d28 a hx
  have dsp := d26 a n ks hx hk
  have dim := d25 a n ks hx hk
  have deq := d30 a hx
  generalize (mcOk a n ks && fitL a.types (psAt a n) ks) = R1 at dsp dim
  generalize mcOk a n ks = R2 at dsp dim
  simp only [Scope.z, Scope.o] at dto dsp dim deq
  simp only [Scope.z, EV, Nat.reduceEqDiff, Nat.reduceBEq, Nat.reduceLT, Nat.reduceLeDiff, Nat.reduceAdd, Nat.reduceSub, reduceIte]
  refine callK_i dto ?_
  simp only [Str.frz, Ty.frz, Ob.frz, Us.frz, iv_frz, bs, pbeq, Scope.z, Scope.o, EV, Nat.reduceEqDiff, Nat.reduceBEq, Nat.reduceLT, Nat.reduceLeDiff, Nat.reduceAdd, Nat.reduceSub, reduceIte]
  refine callK_i (d29 ks hk) ?_
  simp only [Str.frz, Ty.frz, Ob.frz, Us.frz, iv_frz, bs, pbeq, Scope.z, Scope.o, EV, Nat.reduceEqDiff, Nat.reduceBEq, Nat.reduceLT, Nat.reduceLeDiff, Nat.reduceAdd, Nat.reduceSub, reduceIte]
  refine callK_i dsp ?_
  simp only [Str.frz, Ty.frz, Ob.frz, Us.frz, iv_frz, bs, pbeq, Scope.z, Scope.o, EV, Nat.reduceEqDiff, Nat.reduceBEq, Nat.reduceLT, Nat.reduceLeDiff, Nat.reduceAdd, Nat.reduceSub, reduceIte]
  refine callK_i dto ?_
  simp only [Str.frz, Ty.frz, Ob.frz, Us.frz, iv_frz, bs, pbeq, Scope.z, Scope.o, EV, Nat.reduceEqDiff, Nat.reduceBEq, Nat.reduceLT, Nat.reduceLeDiff, Nat.reduceAdd, Nat.reduceSub, reduceIte]
  refine callK_i (d29 ks hk) ?_
  simp only [Str.frz, Ty.frz, Ob.frz, Us.frz, iv_frz, bs, pbeq, Scope.z, Scope.o, EV, Nat.reduceEqDiff, Nat.reduceBEq, Nat.reduceLT, Nat.reduceLeDiff, Nat.reduceAdd, Nat.reduceSub, reduceIte]
  refine callK_i dim ?_
  simp only [Str.frz, Ty.frz, Ob.frz, Us.frz, iv_frz, bs, pbeq, Scope.z, Scope.o, EV, Nat.reduceEqDiff, Nat.reduceBEq, Nat.reduceLT, Nat.reduceLeDiff, Nat.reduceAdd, Nat.reduceSub, reduceIte]
  refine ⟨?_, ?_, ?_⟩
  all_goals
    refine callK_i dto ?_
    simp only [Str.frz, Ty.frz, Ob.frz, Us.frz, iv_frz, bs, pbeq, Scope.z, Scope.o, EV, Nat.reduceEqDiff, Nat.reduceBEq, Nat.reduceLT, Nat.reduceLeDiff, Nat.reduceAdd, Nat.reduceSub, reduceIte]
    refine callK_i deq ?_
    simp only [Str.frz, Ty.frz, Ob.frz, Us.frz, iv_frz, bs, pbeq, Scope.z, Scope.o, EV, Nat.reduceEqDiff, Nat.reduceBEq, Nat.reduceLT, Nat.reduceLeDiff, Nat.reduceAdd, Nat.reduceSub, reduceIte]
    refine callK_i (d29 ks hk) ?_
    simp only [Str.frz, Ty.frz, Ob.frz, Us.frz, iv_frz, bs, pbeq, Scope.z, Scope.o, EV, Nat.reduceEqDiff, Nat.reduceBEq, Nat.reduceLT, Nat.reduceLeDiff, Nat.reduceAdd, Nat.reduceSub, reduceIte]
    refine callK_i (d31 ks hk) ?_
    simp only [Str.frz, Ty.frz, Ob.frz, Us.frz, iv_frz, bs, pbeq, Scope.z, Scope.o, EV, Nat.reduceEqDiff, Nat.reduceBEq, Nat.reduceLT, Nat.reduceLeDiff, Nat.reduceAdd, Nat.reduceSub, reduceIte]
    simp only [EV, Nat.reduceEqDiff, Nat.reduceBEq, Nat.reduceLT, Nat.reduceLeDiff, Nat.reduceAdd, Nat.reduceSub, reduceIte, evRE, retVC, cellV', evR, nfz, nfzs, nfzss, List.contains_nil, List.contains_cons, Bool.or_false, or_true]
end Go.AM
namespace Go.AM
set_option linter.unusedVariables false
set_option linter.unusedSimpArgs false
def andK (kd : IntKind) (a b : Int) : Int := kd.wrap (BitVec.ofInt kd.bits a &&& BitVec.ofInt kd.bits b).toNat
def shrK (kd : IntKind) (a b : Int) : Int := a.fdiv (2 ^ (min b.toNat kd.bits))
theorem evB2 :
    (∀ (kd ky : IntKind) (a b : Int) (K : AV → Prop), (binV .shr (.v (.int kd a)) (.v (.int ky b)) K = (0 ≤ b ∧ K (.v (.int kd (shrK kd a b)))))) ∧
    (∀ (kd : IntKind) (a b : Int) (K : AV → Prop), (binV .and (.v (.int kd a)) (.v (.int kd b)) K = K (.v (.int kd (andK kd a b))))) := by
  refine ⟨?_, ?_⟩ <;> intros <;> simp [binV, binC, binR, andK, shrK]
end Go.AM
namespace Go.AM
set_option linter.unusedVariables false
set_option linter.unusedSimpArgs false
def xorK (kd : IntKind) (a b : Int) : Int := kd.wrap (BitVec.ofInt kd.bits a ^^^ BitVec.ofInt kd.bits b).toNat
theorem evB3 : ∀ (kd : IntKind) (a b : Int) (K : AV → Prop), (binV .xor (.v (.int kd a)) (.v (.int kd b)) K = K (.v (.int kd (xorK kd a b)))) := by
  intros; simp [binV, binC, binR, xorK]
def mix1 (a b : Int) : Int := IntKind.u64.wrap (IntKind.u64.wrap (IntKind.u64.wrap (IntKind.u64.wrap a * 31) + IntKind.u64.wrap (IntKind.u64.wrap b * 131)) + 17)
def mix2 (z : Int) : Int := IntKind.u64.wrap (xorK .u64 z (shrK .u64 z 29) * 1000003)
def mix3 (z : Int) : Int := IntKind.i64.wrap (andK .u64 (xorK .u64 z (shrK .u64 z 32)) 4611686018427387903)
def mixN (a b : Int) : Int := mix3 (mix2 (mix1 a b))
def mixL (l : List Int) : Int := l.foldl mixN (l.length : Int)
def byI (s : ByteArray) : List Int := (List.range s.size).map fun i : Nat => IntKind.i64.wrap (sAt s (i : Int))
theorem byI_len (s : ByteArray) : (byI s).length = s.size := by simp [byI]
def textN (s : ByteArray) : Int := mixL (byI s)
theorem fold_take {l : List Int} {i : Nat} (h : i < l.length) (a : Int) : (l.take (i + 1)).foldl mixN a = mixN ((l.take i).foldl mixN a) l[i] := by
  rw [List.take_succ_eq_append_getElem h, List.foldl_append]; rfl
def m170 : MC :=
 (.seq (.reg [Xb 4 (.asg (.i 0))]) (.seq (.reg [Xm 6 0, Xq 7 (.conv .u64 (.t 6)), Xq 8 (.bin false .mul (.t 7) (.c (.int .u64 31))), Xm 9 1, Xq 10 (.conv .u64 (.t 9)), Xq 11 (.bin false .mul (.t 10) (.c (.int .u64 131))), Xq 12 (.bin false .add (.t 8) (.t 11)), Xq 13 (.bin false .add (.t 12) (.c (.int .u64 17))), Xa 5 13]) (.seq (.reg [Xm 14 5, Xm 15 5, Xq 16 (.bin false .shr (.t 15) (.c (.int .u64
 29))), Xq 17 (.bin false .xor (.t 14) (.t 16)), Xa 5 17]) (.seq (.reg [Xm 18 5, Xq 19 (.bin false .mul (.t 18) (.c (.int .u64 1000003))), Xa 5 19]) (.seq (.reg [Xm 20 5, Xm 21 5, Xq 22 (.bin false .shr (.t 21) (.c (.int .u64 32))), Xq 23 (.bin false .xor (.t 20) (.t 22)), Xa 5 23]) (.seq (.reg [Xm 24 5, Xq 25 (.bin false .and (.t 24) (.c (.int .u64 4611686018427387903))), Xq 26 (.conv .i64 (.t
 25)), Xa 4 26]) .ret))))))
theorem d170 (a b : Int) : Does Go.Proofs.Tryz.prog 170 [.v (.int .i64 a), .v (.int .i64 b)] false (.v (.int .i64 (mixN a b))) [.dead, .dead] := by
  refine does_intro (mc := m170) (N := 27) (rs := [4]) (fx := []) 2 rfl (by decide +kernel) ?_
  simp only [m170, evB2, evB3, EV, Nat.reduceEqDiff, Nat.reduceBEq, Nat.reduceLT, Nat.reduceLeDiff, Nat.reduceAdd, Nat.reduceSub, reduceIte]
  refine ⟨by decide, by decide, ?_⟩
  simp only [mixN, mix1, mix2, mix3, EV, Nat.reduceEqDiff, Nat.reduceBEq, Nat.reduceLT, Nat.reduceLeDiff, Nat.reduceAdd, Nat.reduceSub, reduceIte, evRE, retVC, cellV', evR, nfz, nfzs, nfzss, List.contains_nil, List.contains_cons, Bool.or_false, or_true]
def m164 : MC :=
 (.seq (.reg [Xb 4 (.asg (.i 0))]) (.seq (.reg [Xm 6 0, Xq 7 (.conv .u64 (.t 6)), Xq 8 (.bin false .mul (.t 7) (.c (.int .u64 31))), Xm 9 1, Xq 10 (.conv .u64 (.t 9)), Xq 11 (.bin false .mul (.t 10) (.c (.int .u64 131))), Xq 12 (.bin false .add (.t 8) (.t 11)), Xq 13 (.bin false .add (.t 12) (.c (.int .u64 17))), Xa 5 13]) (.seq (.reg [Xm 14 5, Xm 15 5, Xq 16 (.bin false .shr (.t 15) (.c (.int .u64
 29))), Xq 17 (.bin false .xor (.t 14) (.t 16)), Xq 18 (.bin false .mul (.t 17) (.c (.int .u64 1000003))), Xa 5 18]) (.seq (.reg [Xm 19 5, Xm 20 5, Xq 21 (.bin false .shr (.t 20) (.c (.int .u64 32))), Xq 22 (.bin false .xor (.t 19) (.t 21)), Xa 5 22]) (.seq (.reg [Xm 23 5, Xq 24 (.bin false .and (.t 23) (.c (.int .u64 4611686018427387903))), Xq 25 (.conv .i64 (.t 24)), Xa 4 25]) .ret)))))
theorem d164 (a b : Int) : Does Go.Proofs.Tryz.prog 164 [.v (.int .i64 a), .v (.int .i64 b)] false (.v (.int .i64 (mixN a b))) [.dead, .dead] := by
  refine does_intro (mc := m164) (N := 26) (rs := [4]) (fx := []) 2 rfl (by decide +kernel) ?_
  simp only [m164, evB2, evB3, EV, Nat.reduceEqDiff, Nat.reduceBEq, Nat.reduceLT, Nat.reduceLeDiff, Nat.reduceAdd, Nat.reduceSub, reduceIte]
  refine ⟨by decide, by decide, ?_⟩
  simp only [mixN, mix1, mix2, mix3, EV, Nat.reduceEqDiff, Nat.reduceBEq, Nat.reduceLT, Nat.reduceLeDiff, Nat.reduceAdd, Nat.reduceSub, reduceIte, evRE, retVC, cellV', evR, nfz, nfzs, nfzss, List.contains_nil, List.contains_cons, Bool.or_false, or_true]
def m109 : MC :=
 (.seq (.reg [Xb 2 (.asg (.i 0))]) (.seq (.reg [Xm 6 0, Xn 7 6, Xa 3 7]) (.seq (.seq (.reg [Xm 8 0, Xn 9 8, Xq 10 (.mov (.i 0))]) (.block 0 (.loop [0, 3, 8, 9, 10] (.seq (.reg [Xq 11 (.bin false .lss (.t 10) (.t 9))]) (.seq (.cond (.t 11) .skip (.exit 0)) (.seq (.block 1 (.seq (.reg [Xi 12 1 8 10, Xl 13 1 12, Xa 5 13]) (.reg [Xm 14 3, Xm 15 5, Xb 16 (.call (.fn 170) false [.lend (.t 14), .lend (.t
 15)]), Xa 3 16]))) (.reg [Xq 17 (.bin false .add (.t 10) (.i 1)), Xm 10 17]))))))) (.seq (.reg [Xm 18 3, Xa 2 18]) .ret))))
theorem d109 (l : List Int) (hl : (l.length : Int) ≤ 4611686018427387904) : Does Go.Proofs.Tryz.prog 109 [.fsl 1 (l.map iv)] false (.v (.int .i64 (mixL l))) [.dead] := by
  refine does_intro (mc := m109) (N := 19) (rs := [2]) (fx := []) 1 rfl (by decide +kernel) ?_
  simp only [m109, EV, Nat.reduceEqDiff, Nat.reduceBEq, Nat.reduceLT, Nat.reduceLeDiff, Nat.reduceAdd, Nat.reduceSub, reduceIte]
  refine awp_loop (fun i : Nat => i ≤ l.length) (fun i => stl [(0, .fsl 1 (l.map iv)), (3, .v (.int .i64 ((l.take i).foldl mixN (l.length : Int)))), (8, .fsl 1 (l.map iv)), (9, .v (.int .i64 (l.length : Int))), (10, .v (.int .i64 (i : Int)))]) (fun i => l.length - i) 0 (Nat.zero_le _) ?_ ?_
  · simp only [List.take_zero, List.foldl_nil, EV, Nat.reduceEqDiff, Nat.reduceBEq, Nat.reduceLT, Nat.reduceLeDiff, Nat.reduceAdd, Nat.reduceSub, reduceIte]
    rfl
  · intro i hi
    simp only [EV, Nat.reduceEqDiff, Nat.reduceBEq, Nat.reduceLT, Nat.reduceLeDiff, Nat.reduceAdd, Nat.reduceSub, reduceIte]
    refine cK_cut (fun h => ?_) (fun h => ?_)
    · have h1 : i < l.length := by simpa using h
      have h2 : (i : Int) < (l.length : Int) := by omega
      simp only [h2, nth_map h1, iv, EV, Nat.reduceEqDiff, Nat.reduceBEq, Nat.reduceLT, Nat.reduceLeDiff, Nat.reduceAdd, Nat.reduceSub, reduceIte]
      refine callK_i (d170 _ _) ?_
      simp only [EV, Nat.reduceEqDiff, Nat.reduceBEq, Nat.reduceLT, Nat.reduceLeDiff, Nat.reduceAdd, Nat.reduceSub, reduceIte]
      rw [w64 _ (by omega)]
      exact ⟨i + 1, h1, by omega, by rw [fold_take h1]; rfl⟩
    · have h1 : i = l.length := by have : ¬ (i : Int) < l.length := by simpa using h
                                   omega
      subst h1
      simp only [EV, Nat.reduceEqDiff, Nat.reduceBEq, Nat.reduceLT, Nat.reduceLeDiff, Nat.reduceAdd, Nat.reduceSub, reduceIte]
      simp only [mixL, List.take_length, EV, Nat.reduceEqDiff, Nat.reduceBEq, Nat.reduceLT, Nat.reduceLeDiff, Nat.reduceAdd, Nat.reduceSub, reduceIte, evRE, retVC, cellV', evR, nfz, nfzs, nfzss, List.contains_nil, List.contains_cons, Bool.or_false, or_true]
def m106 : MC :=
 (.seq (.reg [Xb 2 (.asg (.i 0))]) (.seq (.reg [Xm 6 0, Xn 7 6, Xa 3 7]) (.seq (.seq (.reg [Xm 8 0, Xn 9 8, Xq 10 (.mov (.i 0))]) (.block 0 (.loop [0, 3, 8, 9, 10] (.seq (.reg [Xq 11 (.bin false .lss (.t 10) (.t 9))]) (.seq (.cond (.t 11) .skip (.exit 0)) (.seq (.block 1 (.seq (.reg [Xi 12 1 8 10, Xl 13 1 12, Xa 5 13]) (.reg [Xm 14 3, Xm 15 5, Xb 16 (.call (.fn 164) false [.lend (.t 14), .lend (.t
 15)]), Xa 3 16]))) (.reg [Xq 17 (.bin false .add (.t 10) (.i 1)), Xm 10 17]))))))) (.seq (.reg [Xm 18 3, Xa 2 18]) .ret))))
theorem d106 (l : List Int) (hl : (l.length : Int) ≤ 4611686018427387904) : Does Go.Proofs.Tryz.prog 106 [.fsl 1 (l.map iv)] false (.v (.int .i64 (mixL l))) [.dead] := by
  refine does_intro (mc := m106) (N := 19) (rs := [2]) (fx := []) 1 rfl (by decide +kernel) ?_
  simp only [m106, EV, Nat.reduceEqDiff, Nat.reduceBEq, Nat.reduceLT, Nat.reduceLeDiff, Nat.reduceAdd, Nat.reduceSub, reduceIte]
  refine awp_loop (fun i : Nat => i ≤ l.length) (fun i => stl [(0, .fsl 1 (l.map iv)), (3, .v (.int .i64 ((l.take i).foldl mixN (l.length : Int)))), (8, .fsl 1 (l.map iv)), (9, .v (.int .i64 (l.length : Int))), (10, .v (.int .i64 (i : Int)))]) (fun i => l.length - i) 0 (Nat.zero_le _) ?_ ?_
  · simp only [List.take_zero, List.foldl_nil, EV, Nat.reduceEqDiff, Nat.reduceBEq, Nat.reduceLT, Nat.reduceLeDiff, Nat.reduceAdd, Nat.reduceSub, reduceIte]
    rfl
  · intro i hi
    simp only [EV, Nat.reduceEqDiff, Nat.reduceBEq, Nat.reduceLT, Nat.reduceLeDiff, Nat.reduceAdd, Nat.reduceSub, reduceIte]
    refine cK_cut (fun h => ?_) (fun h => ?_)
    · have h1 : i < l.length := by simpa using h
      have h2 : (i : Int) < (l.length : Int) := by omega
      simp only [h2, nth_map h1, iv, EV, Nat.reduceEqDiff, Nat.reduceBEq, Nat.reduceLT, Nat.reduceLeDiff, Nat.reduceAdd, Nat.reduceSub, reduceIte]
      refine callK_i (d164 _ _) ?_
      simp only [EV, Nat.reduceEqDiff, Nat.reduceBEq, Nat.reduceLT, Nat.reduceLeDiff, Nat.reduceAdd, Nat.reduceSub, reduceIte]
      rw [w64 _ (by omega)]
      exact ⟨i + 1, h1, by omega, by rw [fold_take h1]; rfl⟩
    · have h1 : i = l.length := by have : ¬ (i : Int) < l.length := by simpa using h
                                   omega
      subst h1
      simp only [EV, Nat.reduceEqDiff, Nat.reduceBEq, Nat.reduceLT, Nat.reduceLeDiff, Nat.reduceAdd, Nat.reduceSub, reduceIte]
      simp only [mixL, List.take_length, EV, Nat.reduceEqDiff, Nat.reduceBEq, Nat.reduceLT, Nat.reduceLeDiff, Nat.reduceAdd, Nat.reduceSub, reduceIte, evRE, retVC, cellV', evR, nfz, nfzs, nfzss, List.contains_nil, List.contains_cons, Bool.or_false, or_true]
theorem byI_take {s : ByteArray} {i : Nat} (h : i < s.size) : (byI s).take (i + 1) = (byI s).take i ++ [IntKind.i64.wrap (sAt s (i : Int))] := by
  have h1 : i < (byI s).length := by rw [byI_len]; exact h
  rw [List.take_succ_eq_append_getElem h1]
  simp [byI]
def m165 : MC :=
 (.seq (.reg [Xb 2 (.asg (.nils 3 1))]) (.seq (.reg [Xb 5 (.bsl 3 1 []), Xa 3 5]) (.seq (.seq (.reg [Xm 6 0, Xq 7 (.len true (.t 6)), Xq 8 (.mov (.i 0))]) (.block 0 (.loop [0, 3, 5, 7, 8, 17] (.seq (.reg [Xq 9 (.bin false .lss (.t 8) (.t 7))]) (.seq (.cond (.t 9) .skip (.exit 0)) (.seq (.block 1 (.seq (.reg [Xm 10 8, Xa 4 10]) (.reg [Xm 11 3, Xm 12 0, Xm 13 4, Xq 14 (.idx (.t 12) (.t 13)), Xq 15
 (.conv .i64 (.t 14)), Xb 16 (.bsl 3 1 [.t 15]), Xb 17 (.app true 3 1 8 (.t 11) (.t 16)), Xa 3 17]))) (.reg [Xq 18 (.bin false .add (.t 8) (.i 1)), Xm 8 18]))))))) (.seq (.reg [Xm 19 3, Xa 2 19]) .ret))))
theorem d165 (s : ByteArray) (hs : (s.size : Int) ≤ 1048576) : Does Go.Proofs.Tryz.prog 165 [.v (.string s)] false (.usl 3 1 ((byI s).map iv)) [.dead] := by
  refine does_intro (mc := m165) (N := 20) (rs := [2]) (fx := []) 1 rfl (by decide +kernel) ?_
  simp only [m165, EV, Nat.reduceEqDiff, Nat.reduceBEq, Nat.reduceLT, Nat.reduceLeDiff, Nat.reduceAdd, Nat.reduceSub, reduceIte]
  refine awp_loop (fun i : Nat => i ≤ s.size) (fun i => stl [(0, .v (.string s)), (3, .usl 3 1 (((byI s).take i).map iv)), (5, .dead), (7, .v (.int .i64 (s.size : Int))), (8, .v (.int .i64 (i : Int))), (17, .dead)]) (fun i => s.size - i) 0 (Nat.zero_le _) ?_ ?_
  · simp only [List.take_zero, List.map_nil, EV, Nat.reduceEqDiff, Nat.reduceBEq, Nat.reduceLT, Nat.reduceLeDiff, Nat.reduceAdd, Nat.reduceSub, reduceIte]
    rfl
  · intro i hi
    simp only [EV, Nat.reduceEqDiff, Nat.reduceBEq, Nat.reduceLT, Nat.reduceLeDiff, Nat.reduceAdd, Nat.reduceSub, reduceIte]
    refine cK_cut (fun h => ?_) (fun h => ?_)
    · have h2 : (i : Int) < s.size := by simpa using h
      have h1 : i < s.size := by omega
      have hb := byI_len s
      simp only [h2, EV, Nat.reduceEqDiff, Nat.reduceBEq, Nat.reduceLT, Nat.reduceLeDiff, Nat.reduceAdd, Nat.reduceSub, reduceIte]
      refine ⟨by simp; omega, by simp; omega, ?_⟩
      rw [w64 ((i : Int) + 1) (by omega)]
      exact ⟨i + 1, h1, by omega, by rw [byI_take h1, List.map_append]; rfl⟩
    · have h1 : i = s.size := by have : ¬ (i : Int) < s.size := by simpa using h
                                 omega
      subst h1
      have e : (byI s).take s.size = byI s := by rw [List.take_of_length_le]; rw [byI_len]; exact Nat.le_refl _
      simp only [EV, Nat.reduceEqDiff, Nat.reduceBEq, Nat.reduceLT, Nat.reduceLeDiff, Nat.reduceAdd, Nat.reduceSub, reduceIte]
      simp only [e, iv_nfz, EV, Nat.reduceEqDiff, Nat.reduceBEq, Nat.reduceLT, Nat.reduceLeDiff, Nat.reduceAdd, Nat.reduceSub, reduceIte, evRE, retVC, cellV', evR, nfz, nfzs, nfzss, List.contains_nil, List.contains_cons, Bool.or_false, or_true]
def m107 : MC :=
 (.seq (.reg [Xb 2 (.asg (.i 0))]) (.seq (.reg [Xm 3 0, Xb 4 (.call (.fn 165) false [.lend (.t 3)]), Xb 5 (.call (.fn 109) false [.lend (.t 4)]), Xa 2 5]) .ret))
theorem d107 (s : ByteArray) (hs : (s.size : Int) ≤ 1048576) : Does Go.Proofs.Tryz.prog 107 [.v (.string s)] false (.v (.int .i64 (textN s))) [.dead] := by
  have hb := byI_len s
  refine does_intro (mc := m107) (N := 6) (rs := [2]) (fx := []) 1 rfl (by decide +kernel) ?_
  simp only [m107, EV, Nat.reduceEqDiff, Nat.reduceBEq, Nat.reduceLT, Nat.reduceLeDiff, Nat.reduceAdd, Nat.reduceSub, reduceIte]
  refine callK_i (d165 s hs) ?_
  simp only [iv_frz, EV, Nat.reduceEqDiff, Nat.reduceBEq, Nat.reduceLT, Nat.reduceLeDiff, Nat.reduceAdd, Nat.reduceSub, reduceIte]
  refine callK_i (d109 (byI s) (by omega)) ?_
  simp only [EV, Nat.reduceEqDiff, Nat.reduceBEq, Nat.reduceLT, Nat.reduceLeDiff, Nat.reduceAdd, Nat.reduceSub, reduceIte]
  simp only [textN, EV, Nat.reduceEqDiff, Nat.reduceBEq, Nat.reduceLT, Nat.reduceLeDiff, Nat.reduceAdd, Nat.reduceSub, reduceIte, evRE, retVC, cellV', evR, nfz, nfzs, nfzss, List.contains_nil, List.contains_cons, Bool.or_false, or_true]
def m104 : MC :=
 (.seq (.reg [Xb 2 (.asg (.i 0))]) (.seq (.reg [Xb 3 (.asg (.nils 3 1))]) (.seq (.seq (.reg [Xb 4 (.asg (.i 0))]) (.block 0 (.loop [0, 3, 4, 17] (.seq (.seq (.reg [Xm 5 4, Xm 6 0, Xq 7 (.len true (.t 6)), Xq 8 (.bin false .lss (.t 5) (.t 7))]) (.cond (.t 8) .skip (.exit 0))) (.seq (.block 1 (.reg [Xm 11 3, Xm 12 0, Xm 13 4, Xq 14 (.idx (.t 12) (.t 13)), Xq 15 (.conv .i64 (.t 14)), Xb 16 (.bsl 3 1
 [.t 15]), Xb 17 (.app true 3 1 8 (.t 11) (.t 16)), Xa 3 17])) (.reg [Xm 9 4, Xq 10 (.bin false .add (.t 9) (.i 1)), Xa 4 10])))))) (.seq (.reg [Xm 18 3, Xb 19 (.call (.fn 106) false [.lend (.t 18)]), Xa 2 19]) .ret))))
theorem d104 (s : ByteArray) (hs : (s.size : Int) ≤ 1048576) : Does Go.Proofs.Tryz.prog 104 [.v (.string s)] false (.v (.int .i64 (textN s))) [.dead] := by
  have hb := byI_len s
  refine does_intro (mc := m104) (N := 20) (rs := [2]) (fx := []) 1 rfl (by decide +kernel) ?_
  simp only [m104, EV, Nat.reduceEqDiff, Nat.reduceBEq, Nat.reduceLT, Nat.reduceLeDiff, Nat.reduceAdd, Nat.reduceSub, reduceIte]
  refine awp_loop (fun i : Nat => i ≤ s.size) (fun i => stl [(0, .v (.string s)), (3, .usl 3 1 (((byI s).take i).map iv)), (4, .v (.int .i64 (i : Int))), (17, .dead)]) (fun i => s.size - i) 0 (Nat.zero_le _) ?_ ?_
  · simp only [List.take_zero, List.map_nil, EV, Nat.reduceEqDiff, Nat.reduceBEq, Nat.reduceLT, Nat.reduceLeDiff, Nat.reduceAdd, Nat.reduceSub, reduceIte]
    rfl
  · intro i hi
    simp only [EV, Nat.reduceEqDiff, Nat.reduceBEq, Nat.reduceLT, Nat.reduceLeDiff, Nat.reduceAdd, Nat.reduceSub, reduceIte]
    refine cK_cut (fun h => ?_) (fun h => ?_)
    · have h2 : (i : Int) < s.size := by simpa using h
      have h1 : i < s.size := by omega
      simp only [h2, EV, Nat.reduceEqDiff, Nat.reduceBEq, Nat.reduceLT, Nat.reduceLeDiff, Nat.reduceAdd, Nat.reduceSub, reduceIte]
      refine ⟨by simp; omega, by simp; omega, ?_⟩
      rw [w64 ((i : Int) + 1) (by omega)]
      exact ⟨i + 1, h1, by omega, by rw [byI_take h1, List.map_append]; rfl⟩
    · have h1 : i = s.size := by have : ¬ (i : Int) < s.size := by simpa using h
                                 omega
      subst h1
      have e : (byI s).take s.size = byI s := by rw [List.take_of_length_le]; rw [byI_len]; exact Nat.le_refl _
      simp only [EV, Nat.reduceEqDiff, Nat.reduceBEq, Nat.reduceLT, Nat.reduceLeDiff, Nat.reduceAdd, Nat.reduceSub, reduceIte]
      simp only [e, iv_frz, EV, Nat.reduceEqDiff, Nat.reduceBEq, Nat.reduceLT, Nat.reduceLeDiff, Nat.reduceAdd, Nat.reduceSub, reduceIte]
      refine callK_i (d106 (byI s) (by omega)) ?_
      simp only [EV, Nat.reduceEqDiff, Nat.reduceBEq, Nat.reduceLT, Nat.reduceLeDiff, Nat.reduceAdd, Nat.reduceSub, reduceIte]
      simp only [textN, EV, Nat.reduceEqDiff, Nat.reduceBEq, Nat.reduceLT, Nat.reduceLeDiff, Nat.reduceAdd, Nat.reduceSub, reduceIte, evRE, retVC, cellV', evR, nfz, nfzs, nfzss, List.contains_nil, List.contains_cons, Bool.or_false, or_true]
end Go.AM
namespace Go.AM
set_option linter.unusedVariables false
set_option linter.unusedSimpArgs false
def capS (t : Ty) (s : Int) : Int := min 1000000001 (if (t.kind == 4) = true then s * t.long else s)
def sumZ (g : Int → Int) : List Int → Int
  | [] => 0
  | k :: ks => g k + sumZ g ks
def oneT (t : Ty) (g : Int → Int) : Int :=
  if (t.kind == 1) = true then 4 else if (t.kind == 2 || t.kind == 3) = true then 1 else if (t.kind == 6) = true then 8 else capS t (sumZ g (prt false t))
def szN (l : List Ty) : Nat → Int → Int
  | 0, _ => 0
  | f + 1, n => match l[n.toNat]? with
    | some t => oneT t (szN l f)
    | none => 0
def sz (l : List Ty) (n : Int) : Int := szN l (l.length + 1) n
def getS (s : List Int) (k : Int) : Int := s[k.toNat]?.getD 0
end Go.AM
namespace Go.AM
set_option linter.unusedVariables false
set_option linter.unusedSimpArgs false
def head1 (t : Ty) : Int := mixL [t.kind, t.long, textN t.owner, textN t.name, (t.fields.length : Int)]
def fstL (l : List Ty) : List Int := l.map head1
def baseN (now : List Int) (t : Ty) : Int := if decide (0 ≤ t.base) = true then getS now t.base else 7
def fldN (now : List Int) (f : Fd) : List Int := [textN f.name, f.mark, getS now f.typ]
def fldsN (now : List Int) (fs : List Fd) : List Int := fs.flatMap (fldN now)
def prtN (fst now : List Int) (k : Nat) (t : Ty) : List Int := [getS fst (k : Int), baseN now t] ++ fldsN now t.fields
def rowN (fst now : List Int) (l : List Ty) : List Int := l.mapIdx fun k t => mixL (prtN fst now k t)
def rnd (l : List Ty) : Nat → List Int
  | 0 => fstL l
  | k + 1 => rowN (fstL l) (rnd l k) l
theorem fstL_len (l : List Ty) : (fstL l).length = l.length := by simp [fstL]
theorem rowN_len (fst now : List Int) (l : List Ty) : (rowN fst now l).length = l.length := by simp [rowN]
theorem rnd_len (l : List Ty) : ∀ k, (rnd l k).length = l.length
  | 0 => fstL_len l
  | k + 1 => rowN_len _ _ l
theorem fstL_take {l : List Ty} {i : Nat} (h : i < l.length) : (fstL l).take (i + 1) = (fstL l).take i ++ [head1 l[i]] := by
  have h1 : i < (fstL l).length := by rw [fstL_len]; exact h
  rw [List.take_succ_eq_append_getElem h1]; simp [fstL]
theorem rowN_take {fst now : List Int} {l : List Ty} {i : Nat} (h : i < l.length) : (rowN fst now l).take (i + 1) = (rowN fst now l).take i ++ [mixL (prtN fst now i l[i])] := by
  have h1 : i < (rowN fst now l).length := by rw [rowN_len]; exact h
  rw [List.take_succ_eq_append_getElem h1]; simp [rowN]
theorem fldsN_take {now : List Int} {fs : List Fd} {i : Nat} (h : i < fs.length) : fldsN now (fs.take (i + 1)) = fldsN now (fs.take i) ++ fldN now fs[i] := by
  unfold fldsN; rw [List.take_succ_eq_append_getElem h, List.flatMap_append, List.flatMap_singleton]
theorem fldsN_len (now : List Int) : ∀ fs : List Fd, (fldsN now fs).length = 3 * fs.length
  | [] => rfl
  | f :: fs => by
    have := fldsN_len now fs
    simp only [fldsN, List.flatMap_cons, List.length_append, List.length_cons] at this ⊢
    rw [this]; simp [fldN]; omega
theorem getS_nat {s : List Int} {k : Int} (h : k.toNat < s.length) : s[k.toNat] = getS s k := by simp [getS, h]
theorem tys_base {l : List Ty} (ht : tysOk l = true) {i : Nat} (h : i < l.length) (hb : 0 ≤ l[i].base) : l[i].base < (l.length : Int) := by
  rcases (tysOk_good ht h).base with h1 | h1
  · omega
  · exact (isNum_in.1 h1).2
theorem tys_fld {l : List Ty} (ht : tysOk l = true) {i : Nat} (h : i < l.length) {j : Nat} (hj : j < l[i].fields.length) : 0 ≤ l[i].fields[j].typ ∧ l[i].fields[j].typ < (l.length : Int) :=
  isNum_in.1 ((tysOk_good ht h).flds _ (List.getElem_mem hj))
def m103 : MC :=
 (.seq (.reg [Xb 4 (.asg (.nils 3 1))]) (.seq (.reg [Xb 5 (.asg (.nils 3 1))]) (.seq (.seq (.reg [Xm 15 0, Xn 16 15, Xq 17 (.mov (.i 0))]) (.block 0 (.loop [0, 1, 5, 15, 16, 17, 38] (.seq (.reg [Xq 18 (.bin false .lss (.t 17) (.t 16))]) (.seq (.cond (.t 18) .skip (.exit 0)) (.seq (.block 1 (.seq (.reg [Xi 19 6 15 17, XL 20 6 19, Xb 7 (.alloc 40 [.i, .i, .i, .s 97 3, .z, .z]), Xz (.store 6 (.t 7)
 (.t 20))]) (.mix [7] [0, 1, 5, 15, 16, 17, 38] [] [] [1, 2, 3, 4, 5, 6, 8, 9, 11, 12, 13] [0, 7, 10, 14, 15, 16, 17, 18] [Xf 22 0 7, Xl 23 1 22, Xf 24 1 7, Xl 25 1 24, Xf 26 4 7, Xl 27 1 26, Xf 29 5 7, Xl 30 1 29, Xf 32 3 7, Xl 33 1 32, Xn 34 33] [Xm 21 5, Xb 28 (.call (.fn 104) false [.lend (.t 27)]), Xb 31 (.call (.fn 104) false [.lend (.t 30)]), Xb 35 (.bsl 3 1 [.t 23, .t 25, .t 28, .t 31, .t
 34]), Xb 36 (.call (.fn 106) false [.lend (.t 35)]), Xb 37 (.bsl 3 1 [.t 36]), Xb 38 (.app true 3 1 8 (.t 21) (.t 37)), Xa 5 38]))) (.reg [Xq 39 (.bin false .add (.t 17) (.i 1)), Xm 17 39]))))))) (.seq (.reg [Xm 40 5, Xb 41 (.call (.fn 162) false [.lend (.t 40)]), Xa 8 41]) (.seq (.block 2 (.loop [0, 1, 5, 8, 9, 38, 41, 93, 95] (.seq (.seq (.reg [Xm 42 1, Xq 43 (.bin false .gtr (.t 42) (.i 0))])
 (.cond (.t 43) .skip (.exit 2))) (.seq (.block 3 (.seq (.reg [Xb 9 (.asg (.nils 3 1))]) (.seq (.seq (.reg [Xm 46 0, Xn 47 46, Xq 48 (.mov (.i 0))]) (.block 4 (.loop [0, 1, 5, 8, 9, 38, 41, 46, 47, 48, 93, 95] (.seq (.reg [Xq 49 (.bin false .lss (.t 48) (.t 47))]) (.seq (.cond (.t 49) .skip (.exit 4)) (.join [0, 1, 5, 8, 9, 38, 41, 46, 47, 48, 93, 95] (.block 5 (.seq (.reg [Xm 50 48, Xi 51 6 46 48,
 XL 52 6 51, Xb 11 (.alloc 40 [.i, .i, .i, .s 97 3, .z, .z]), Xa 10 50, Xz (.store 6 (.t 11) (.t 52))]) (.seq (.reg [Xm 53 5, Xm 54 10, Xi 55 1 53 54, Xl 56 1 55, Xb 57 (.bsl 3 1 [.t 56, .i 7]), Xa 12 57]) (.join [0, 1, 5, 8, 9, 11, 12, 38, 41, 46, 47, 48, 57, 87, 93, 95] (.seq (.reg [Xf 58 2 11, Xl 59 1 58, Xq 60 (.bin false .geq (.t 59) (.i 0))]) (.cond (.t 60) (.reg [Xm 61 12, Xm 62 8, Xf 63 2
 11, Xl 64 1 63, Xi 65 1 62 64, Xl 66 1 65, Xq 67 (.iad 1 (.t 61) (.i 1)), Xz (.store 1 (.t 67) (.t 66))]) .skip)) (.seq (.seq (.reg [Xf 68 3 11, Xl 69 1 68, Xn 70 69, Xq 71 (.mov (.i 0))]) (.block 6 (.loop [0, 1, 5, 8, 9, 11, 12, 38, 41, 46, 47, 48, 57, 68, 69, 70, 71, 87, 93, 95] (.seq (.reg [Xq 72 (.bin false .lss (.t 71) (.t 70))]) (.seq (.cond (.t 72) .skip (.exit 6)) (.seq (.block 7 (.seq
 (.reg [Xi 73 3 69 71, XL 74 3 73, Xb 14 (.alloc 97 [.z, .i, .i]), Xz (.store 3 (.t 14) (.t 74))]) (.mixt [14] [0, 1, 5, 8, 9, 11, 12, 38, 41, 46, 47, 48, 57, 68, 69, 70, 71, 87, 93, 95] [] [] [1, 2, 4, 5, 7, 8] [Xf 76 0 14, Xl 77 1 76, Xf 79 1 14, Xl 80 1 79, Xf 82 2 14, Xl 83 1 82] (.step 0 (Xm 75 12) (.step 6 (Xm 81 8) (.step 9 (Xi 84 1 81 83) (.alt (.step 3 (Xb 78 (.call (.fn 104) false [.lend
 (.t 77)])) (.step 10 (Xl 85 1 84) (.step 11 (Xb 86 (.bsl 3 1 [.t 78, .t 80, .t 85])) (.step 12 (Xb 87 (.app true 3 1 8 (.t 75) (.t 86))) (.step 13 (Xa 12 87) .nil))))) (.step 10 (Xl 85 1 84) (.step 3 (Xb 78 (.call (.fn 104) false [.lend (.t 77)])) (.step 11 (Xb 86 (.bsl 3 1 [.t 78, .t 80, .t 85])) (.step 12 (Xb 87 (.app true 3 1 8 (.t 75) (.t 86))) (.step 13 (Xa 12 87) .nil)))))))))))) (.reg [Xq
 88 (.bin false .add (.t 71) (.i 1)), Xm 71 88]))))))) (.reg [Xm 89 9, Xm 90 12, Xb 91 (.call (.fn 106) false [.lend (.t 90)]), Xb 92 (.bsl 3 1 [.t 91]), Xb 93 (.app true 3 1 8 (.t 89) (.t 92)), Xa 9 93])))))) (.reg [Xq 94 (.bin false .add (.t 48) (.i 1)), Xm 48 94]))))))) (.reg [Xm 95 9, Xa 8 95])))) (.reg [Xm 44 1, Xq 45 (.bin false .sub (.t 44) (.i 1)), Xa 1 45]))))) (.seq (.reg [Xm 96 8, Xa 4
 96]) .ret))))))
set_option maxHeartbeats 4000000 in
set_option maxRecDepth 100000 in
theorem d103 (l : List Ty) (r : Int) (h24 : l.length ≤ 24) (hs : ∀ s ∈ l, s.sm) (ht : tysOk l = true) (h0 : 0 ≤ r) (h1 : r ≤ 25) :
    Does Go.Proofs.Tryz.prog 103 [.fsl 6 (l.map Ty.z), .v (.int .i64 r)] false (.usl 3 1 ((rnd l r.toNat).map iv)) [.dead, .dead] := by
  have hfl := fstL_len l
  refine does_intro (mc := m103) (N := 97) (rs := [4]) (fx := []) 2 rfl (by decide +kernel) ?_
  simp only [m103, EV, Nat.reduceEqDiff, Nat.reduceBEq, Nat.reduceLT, Nat.reduceLeDiff, Nat.reduceAdd, Nat.reduceSub, reduceIte]
  refine awp_loop (fun i : Nat => i ≤ l.length) (fun i => stl [(0, .fsl 6 (l.map Ty.z)), (1, .v (.int .i64 r)), (5, .usl 3 1 (((fstL l).take i).map iv)), (15, .fsl 6 (l.map Ty.z)), (16, .v (.int .i64 (l.length : Int))), (17, .v (.int .i64 (i : Int))), (38, .dead)]) (fun i => l.length - i) 0 (Nat.zero_le _) ?_ ?_
  · simp only [List.take_zero, List.map_nil, EV, Nat.reduceEqDiff, Nat.reduceBEq, Nat.reduceLT, Nat.reduceLeDiff, Nat.reduceAdd, Nat.reduceSub, reduceIte]
    rfl
  intro i hi
  simp only [EV, Nat.reduceEqDiff, Nat.reduceBEq, Nat.reduceLT, Nat.reduceLeDiff, Nat.reduceAdd, Nat.reduceSub, reduceIte]
  refine cK_cut (fun h => ?_) (fun h => ?_)
  · have q1 : i < l.length := by simpa using h
    have q2 : (i : Int) < (l.length : Int) := by omega
    have hsm := hs _ (List.getElem_mem q1)
    have hsm' := hsm
    unfold Ty.sm at hsm'
    clear h
    simp only [q1, q2, nth_map q1, Ty.z, EV, Nat.reduceEqDiff, Nat.reduceBEq, Nat.reduceLT, Nat.reduceLeDiff, Nat.reduceAdd, Nat.reduceSub, reduceIte]
    refine callK_i (d104 l[i].owner hsm'.2.2.2.2.1) ?_
    simp only [EV, Nat.reduceEqDiff, Nat.reduceBEq, Nat.reduceLT, Nat.reduceLeDiff, Nat.reduceAdd, Nat.reduceSub, reduceIte]
    refine callK_i (d104 l[i].name hsm'.2.2.2.2.2) ?_
    simp only [EV, Nat.reduceEqDiff, Nat.reduceBEq, Nat.reduceLT, Nat.reduceLeDiff, Nat.reduceAdd, Nat.reduceSub, reduceIte]
    refine callK_i (d106 [l[i].kind, l[i].long, textN l[i].owner, textN l[i].name, (l[i].fields.length : Int)] (by simp)) ?_
    simp only [EV, Nat.reduceEqDiff, Nat.reduceBEq, Nat.reduceLT, Nat.reduceLeDiff, Nat.reduceAdd, Nat.reduceSub, reduceIte]
    refine ⟨by simp; omega, by simp; omega, ?_⟩
    rw [w64 _ (by omega)]
    exact ⟨i + 1, q1, by omega, by rw [fstL_take q1, List.map_append]; rfl⟩
  have q1 : i = l.length := by have : ¬ (i : Int) < l.length := by simpa using h
                               omega
  subst q1
  have e : (fstL l).take l.length = fstL l := by rw [List.take_of_length_le]; omega
  rw [e]
  clear h hi e
  simp only [iv_frz, EV, Nat.reduceEqDiff, Nat.reduceBEq, Nat.reduceLT, Nat.reduceLeDiff, Nat.reduceAdd, Nat.reduceSub, reduceIte]
  refine callK_i (d162 (fstL l) (by omega)) ?_
  simp only [EV, Nat.reduceEqDiff, Nat.reduceBEq, Nat.reduceLT, Nat.reduceLeDiff, Nat.reduceAdd, Nat.reduceSub, reduceIte]
  refine awp_loop (fun k : Nat => (k : Int) ≤ r) (fun k => stl [(0, .fsl 6 (l.map Ty.z)), (1, .v (.int .i64 (r - (k : Int)))), (5, .usl 3 1 ((fstL l).map iv)), (8, .usl 3 1 ((rnd l k).map iv)), (9, .dead), (38, .dead), (41, .dead), (93, .dead), (95, .dead)]) (fun k => r.toNat - k) 0 (by omega) ?_ ?_
  · simp only [rnd, Int.natCast_zero, Int.sub_zero, EV, Nat.reduceEqDiff, Nat.reduceBEq, Nat.reduceLT, Nat.reduceLeDiff, Nat.reduceAdd, Nat.reduceSub, reduceIte]
  intro k hk
  simp only [EV, Nat.reduceEqDiff, Nat.reduceBEq, Nat.reduceLT, Nat.reduceLeDiff, Nat.reduceAdd, Nat.reduceSub, reduceIte]
  refine cK_cut (fun h => ?_) (fun h => ?_)
  rotate_left
  · have q1 : r.toNat = k := by have : ¬ 0 < r - (k : Int) := by simpa using h
                                omega
    simp only [EV, Nat.reduceEqDiff, Nat.reduceBEq, Nat.reduceLT, Nat.reduceLeDiff, Nat.reduceAdd, Nat.reduceSub, reduceIte]
    simp only [q1, iv_nfz, EV, Nat.reduceEqDiff, Nat.reduceBEq, Nat.reduceLT, Nat.reduceLeDiff, Nat.reduceAdd, Nat.reduceSub, reduceIte, evRE, retVC, cellV', evR, nfz, nfzs, nfzss, List.contains_nil, List.contains_cons, Bool.or_false, or_true]
  have q1 : (k : Int) < r := by have : 0 < r - (k : Int) := by simpa using h
                                omega
  clear h
  have hnl := rnd_len l k
  simp only [EV, Nat.reduceEqDiff, Nat.reduceBEq, Nat.reduceLT, Nat.reduceLeDiff, Nat.reduceAdd, Nat.reduceSub, reduceIte]
  refine awp_loop (fun i : Nat => i ≤ l.length) (fun i => stl [(0, .fsl 6 (l.map Ty.z)), (1, .v (.int .i64 (r - (k : Int)))), (5, .usl 3 1 ((fstL l).map iv)), (8, .usl 3 1 ((rnd l k).map iv)), (9, .usl 3 1 (((rowN (fstL l) (rnd l k) l).take i).map iv)), (38, .dead), (41, .dead), (46, .fsl 6 (l.map Ty.z)), (47, .v (.int .i64 (l.length : Int))), (48, .v (.int .i64 (i : Int))), (93, .dead), (95, .dead)]) (fun i => l.length - i) 0 (Nat.zero_le _) ?_ ?_
  · simp only [List.take_zero, List.map_nil, EV, Nat.reduceEqDiff, Nat.reduceBEq, Nat.reduceLT, Nat.reduceLeDiff, Nat.reduceAdd, Nat.reduceSub, reduceIte]
    rfl
  intro i hi
  simp only [EV, Nat.reduceEqDiff, Nat.reduceBEq, Nat.reduceLT, Nat.reduceLeDiff, Nat.reduceAdd, Nat.reduceSub, reduceIte]
  refine cK_cut (fun h => ?_) (fun h => ?_)
  rotate_left
  · have p1 : i = l.length := by have : ¬ (i : Int) < l.length := by simpa using h
                                 omega
    subst p1
    have e : (rowN (fstL l) (rnd l k) l).take l.length = rnd l (k + 1) := by rw [List.take_of_length_le]; rfl; rw [rowN_len]; exact Nat.le_refl _
    rw [e]
    simp only [EV, Nat.reduceEqDiff, Nat.reduceBEq, Nat.reduceLT, Nat.reduceLeDiff, Nat.reduceAdd, Nat.reduceSub, reduceIte]
    rw [w64 _ (by omega)]
    have e2 : r - (k : Int) - 1 = r - ((k + 1 : Nat) : Int) := by omega
    rw [e2]
    exact ⟨k + 1, by omega, by omega, rfl⟩
  have p1 : i < l.length := by simpa using h
  have p2 : (i : Int) < (l.length : Int) := by omega
  have p3 : i < (fstL l).length := by omega
  have p4 : (i : Int) < ((fstL l).length : Int) := by omega
  have hsm := hs _ (List.getElem_mem p1)
  have hsm' := hsm
  unfold Ty.sm at hsm'
  clear h
  have e0 : (fstL l)[i] = getS (fstL l) (i : Int) := by simp [getS, p3]
  refine awp_join (fun _ : Unit => True) (fun _ => stl [(0, .fsl 6 (l.map Ty.z)), (1, .v (.int .i64 (r - (k : Int)))), (5, .usl 3 1 ((fstL l).map iv)), (8, .usl 3 1 ((rnd l k).map iv)), (9, .usl 3 1 (((rowN (fstL l) (rnd l k) l).take (i + 1)).map iv)), (38, .dead), (41, .dead), (46, .fsl 6 (l.map Ty.z)), (47, .v (.int .i64 (l.length : Int))), (48, .v (.int .i64 (i : Int))), (93, .dead), (95, .dead)]) ?_ ?_
  · simp only [p1, p2, p3, p4, nth_map p1, nth_map p3, iv, e0, Ty.z, decide_true, EV, Nat.reduceEqDiff, Nat.reduceBEq, Nat.reduceLT, Nat.reduceLeDiff, Nat.reduceAdd, Nat.reduceSub, reduceIte]
    refine awp_join (fun _ : Unit => True) (fun _ => stl [(0, .fsl 6 (l.map Ty.z)), (1, .v (.int .i64 (r - (k : Int)))), (5, .usl 3 1 ((fstL l).map iv)), (8, .usl 3 1 ((rnd l k).map iv)), (9, .usl 3 1 (((rowN (fstL l) (rnd l k) l).take i).map iv)), (11, .box 40 l[i].z), (12, .usl 3 1 ([getS (fstL l) (i : Int), baseN (rnd l k) l[i]].map iv)), (38, .dead), (41, .dead), (46, .fsl 6 (l.map Ty.z)), (47, .v (.int .i64 (l.length : Int))), (48, .v (.int .i64 (i : Int))), (57, .dead), (87, .dead), (93, .dead), (95, .dead)]) ?_ ?_
    · simp only [Ty.z, EV, Nat.reduceEqDiff, Nat.reduceBEq, Nat.reduceLT, Nat.reduceLeDiff, Nat.reduceAdd, Nat.reduceSub, reduceIte]
      rcases eb : decide (0 ≤ l[i].base) with _ | _
      · simp only [EV, Nat.reduceEqDiff, Nat.reduceBEq, Nat.reduceLT, Nat.reduceLeDiff, Nat.reduceAdd, Nat.reduceSub, reduceIte]
        refine ⟨(), ?_⟩
        simp only [baseN, eb, if_false, Bool.false_eq_true, iv, List.map_cons, List.map_nil]
      · have b0 : 0 ≤ l[i].base := by simpa using eb
        have b1 := tys_base ht p1 b0
        have b2 : l[i].base.toNat < (rnd l k).length := by omega
        have b3 : l[i].base < ((rnd l k).length : Int) := by omega
        have e1 := getS_nat b2
        simp only [b0, b2, b3, nth_map b2, e1, iv, Ty.z, EV, Nat.reduceEqDiff, Nat.reduceBEq, Nat.reduceLT, Nat.reduceLeDiff, Nat.reduceAdd, Nat.reduceSub, reduceIte]
        refine ⟨by decide, by decide, by decide, (), ?_⟩
        simp only [baseN, eb, if_true, iv, List.map_cons, List.map_nil]
        rfl
    rintro _ _
    simp only [Ty.z, EV, Nat.reduceEqDiff, Nat.reduceBEq, Nat.reduceLT, Nat.reduceLeDiff, Nat.reduceAdd, Nat.reduceSub, reduceIte]
    refine awp_loop (fun j : Nat => j ≤ l[i].fields.length) (fun j => stl [(0, .fsl 6 (l.map Ty.z)), (1, .v (.int .i64 (r - (k : Int)))), (5, .usl 3 1 ((fstL l).map iv)), (8, .usl 3 1 ((rnd l k).map iv)), (9, .usl 3 1 (((rowN (fstL l) (rnd l k) l).take i).map iv)), (11, .box 40 l[i].z), (12, .usl 3 1 (([getS (fstL l) (i : Int), baseN (rnd l k) l[i]] ++ fldsN (rnd l k) (l[i].fields.take j)).map iv)), (38, .dead), (41, .dead), (46, .fsl 6 (l.map Ty.z)), (47, .v (.int .i64 (l.length : Int))), (48, .v (.int .i64 (i : Int))), (57, .dead), (68, .ref 11 [] 0 3), (69, .fsl 3 (l[i].fields.map Fd.z)), (70, .v (.int .i64 (l[i].fields.length : Int))), (71, .v (.int .i64 (j : Int))), (87, .dead), (93, .dead), (95, .dead)]) (fun j => l[i].fields.length - j) 0 (Nat.zero_le _) ?_ ?_
    · simp only [List.take_zero, fldsN, List.flatMap_nil, List.append_nil, Ty.z, EV, Nat.reduceEqDiff, Nat.reduceBEq, Nat.reduceLT, Nat.reduceLeDiff, Nat.reduceAdd, Nat.reduceSub, reduceIte]
      rfl
    intro j hj
    have f6 := (tysOk_good ht p1).few
    have hln := fldsN_len (rnd l k) (l[i].fields.take j)
    rw [List.length_take] at hln
    simp only [Ty.z, EV, Nat.reduceEqDiff, Nat.reduceBEq, Nat.reduceLT, Nat.reduceLeDiff, Nat.reduceAdd, Nat.reduceSub, reduceIte]
    refine cK_cut (fun h => ?_) (fun h => ?_)
    · have j1 : j < l[i].fields.length := by simpa using h
      have j2 : (j : Int) < (l[i].fields.length : Int) := by omega
      obtain ⟨t0, t1⟩ := tys_fld ht p1 j1
      have t2 : l[i].fields[j].typ.toNat < (rnd l k).length := by omega
      have t3 : l[i].fields[j].typ < ((rnd l k).length : Int) := by omega
      have et := getS_nat t2
      have hnm := (hsm'.2.2.2.1.2 _ (List.getElem_mem j1)).1
      clear h
      simp only [FdE, j1, j2, nth_map j1, Fd.z, t0, t2, t3, nth_map t2, et, iv, EV, Nat.reduceEqDiff, Nat.reduceBEq, Nat.reduceLT, Nat.reduceLeDiff, Nat.reduceAdd, Nat.reduceSub, reduceIte]
      have w1 := w64 ((j : Int) + 1) (by omega)
      refine ⟨?_, ?_⟩
      all_goals
        refine callK_i (d104 l[i].fields[j].name hnm) ?_
        simp only [FdE, j1, j2, nth_map j1, Fd.z, t0, t2, t3, nth_map t2, et, iv, w1, EV, Nat.reduceEqDiff, Nat.reduceBEq, Nat.reduceLT, Nat.reduceLeDiff, Nat.reduceAdd, Nat.reduceSub, reduceIte]
        exact ⟨by omega, by omega, j + 1, j1, by omega, by rw [fldsN_take j1, List.map_append]; rfl⟩
    · have j1 : j = l[i].fields.length := by have : ¬ (j : Int) < (l[i].fields.length : Int) := by simpa using h
                                             omega
      subst j1
      rw [List.take_length] at hln ⊢
      clear h
      simp only [iv_frz, EV, Nat.reduceEqDiff, Nat.reduceBEq, Nat.reduceLT, Nat.reduceLeDiff, Nat.reduceAdd, Nat.reduceSub, reduceIte]
      refine callK_i (d106 (prtN (fstL l) (rnd l k) i l[i]) (by simp [prtN]; omega)) ?_
      simp only [EV, Nat.reduceEqDiff, Nat.reduceBEq, Nat.reduceLT, Nat.reduceLeDiff, Nat.reduceAdd, Nat.reduceSub, reduceIte]
      refine ⟨by simp; omega, by simp; omega, (), ?_⟩
      rw [rowN_take p1, List.map_append]
      rfl
  · rintro _ _
    simp only [EV, Nat.reduceEqDiff, Nat.reduceBEq, Nat.reduceLT, Nat.reduceLeDiff, Nat.reduceAdd, Nat.reduceSub, reduceIte]
    rw [w64 _ (by omega)]
    exact ⟨i + 1, p1, by omega, rfl⟩
end Go.AM
namespace Go.AM
set_option linter.unusedVariables false
set_option linter.unusedSimpArgs false
def m101 : MC :=
 (.seq (.reg [Xb 4 (.asg (.nils 3 1))]) (.seq (.reg [Xb 15 (.bsl 3 1 []), Xa 5 15]) (.seq (.seq (.reg [Xm 16 0, Xn 17 16, Xq 18 (.mov (.i 0))]) (.block 0 (.loop [0, 1, 5, 15, 16, 17, 18, 39] (.seq (.reg [Xq 19 (.bin false .lss (.t 18) (.t 17))]) (.seq (.cond (.t 19) .skip (.exit 0)) (.seq (.block 1 (.seq (.reg [Xi 20 6 16 18, XL 21 6 20, Xb 7 (.alloc 40 [.i, .i, .i, .s 97 3, .z, .z]), Xz (.store 6
 (.t 7) (.t 21))]) (.mix [7] [0, 1, 5, 15, 16, 17, 18, 39] [] [] [1, 2, 3, 4, 5, 6, 8, 9, 11, 12, 13] [0, 7, 10, 14, 15, 16, 17, 18] [Xf 23 0 7, Xl 24 1 23, Xf 25 1 7, Xl 26 1 25, Xf 27 4 7, Xl 28 1 27, Xf 30 5 7, Xl 31 1 30, Xf 33 3 7, Xl 34 1 33, Xn 35 34] [Xm 22 5, Xb 29 (.call (.fn 107) false [.lend (.t 28)]), Xb 32 (.call (.fn 107) false [.lend (.t 31)]), Xb 36 (.bsl 3 1 [.t 24, .t 26, .t 29,
 .t 32, .t 35]), Xb 37 (.call (.fn 109) false [.lend (.t 36)]), Xb 38 (.bsl 3 1 [.t 37]), Xb 39 (.app true 3 1 8 (.t 22) (.t 38)), Xa 5 39]))) (.reg [Xq 40 (.bin false .add (.t 18) (.i 1)), Xm 18 40]))))))) (.seq (.frz 5 (.reg [Xm 41 5, Xa 8 41])) (.seq (.seq (.reg [Xm 42 1, Xq 43 (.mov (.i 0))]) (.block 2 (.loop [0, 5, 8, 9, 15, 39, 41, 42, 43, 45, 93, 95] (.seq (.reg [Xq 44 (.bin false .lss (.t
 43) (.t 42))]) (.seq (.cond (.t 44) .skip (.exit 2)) (.seq (.block 3 (.seq (.reg [Xb 45 (.bsl 3 1 []), Xa 9 45]) (.seq (.seq (.reg [Xm 46 0, Xn 47 46, Xq 48 (.mov (.i 0))]) (.block 4 (.loop [0, 5, 8, 9, 15, 39, 41, 42, 43, 45, 46, 47, 48, 93, 95] (.seq (.reg [Xq 49 (.bin false .lss (.t 48) (.t 47))]) (.seq (.cond (.t 49) .skip (.exit 4)) (.join [0, 5, 8, 9, 15, 39, 41, 42, 43, 45, 46, 47, 48, 93,
 95] (.block 5 (.seq (.reg [Xm 50 48, Xi 51 6 46 48, XL 52 6 51, Xb 11 (.alloc 40 [.i, .i, .i, .s 97 3, .z, .z]), Xa 10 50, Xz (.store 6 (.t 11) (.t 52))]) (.seq (.reg [Xm 53 5, Xm 54 10, Xi 55 1 53 54, Xl 56 1 55, Xb 57 (.bsl 3 1 [.t 56, .i 7]), Xa 12 57]) (.join [0, 5, 8, 9, 11, 12, 15, 39, 41, 42, 43, 45, 46, 47, 48, 57, 87, 93, 95] (.seq (.reg [Xf 58 2 11, Xl 59 1 58, Xq 60 (.bin false .geq (.t
 59) (.i 0))]) (.cond (.t 60) (.reg [Xm 61 12, Xm 62 8, Xf 63 2 11, Xl 64 1 63, Xi 65 1 62 64, Xl 66 1 65, Xq 67 (.iad 1 (.t 61) (.i 1)), Xz (.store 1 (.t 67) (.t 66))]) .skip)) (.seq (.seq (.reg [Xf 68 3 11, Xl 69 1 68, Xn 70 69, Xq 71 (.mov (.i 0))]) (.block 6 (.loop [0, 5, 8, 9, 11, 12, 15, 39, 41, 42, 43, 45, 46, 47, 48, 57, 68, 69, 70, 71, 87, 93, 95] (.seq (.reg [Xq 72 (.bin false .lss (.t
 71) (.t 70))]) (.seq (.cond (.t 72) .skip (.exit 6)) (.seq (.block 7 (.seq (.reg [Xi 73 3 69 71, XL 74 3 73, Xb 14 (.alloc 97 [.z, .i, .i]), Xz (.store 3 (.t 14) (.t 74))]) (.mixt [14] [0, 5, 8, 9, 11, 12, 15, 39, 41, 42, 43, 45, 46, 47, 48, 57, 68, 69, 70, 71, 87, 93, 95] [] [] [1, 2, 4, 5, 7, 8] [Xf 76 0 14, Xl 77 1 76, Xf 79 1 14, Xl 80 1 79, Xf 82 2 14, Xl 83 1 82] (.step 0 (Xm 75 12) (.step 6
 (Xm 81 8) (.step 9 (Xi 84 1 81 83) (.alt (.step 3 (Xb 78 (.call (.fn 107) false [.lend (.t 77)])) (.step 10 (Xl 85 1 84) (.step 11 (Xb 86 (.bsl 3 1 [.t 78, .t 80, .t 85])) (.step 12 (Xb 87 (.app true 3 1 8 (.t 75) (.t 86))) (.step 13 (Xa 12 87) .nil))))) (.step 10 (Xl 85 1 84) (.step 3 (Xb 78 (.call (.fn 107) false [.lend (.t 77)])) (.step 11 (Xb 86 (.bsl 3 1 [.t 78, .t 80, .t 85])) (.step 12 (Xb
 87 (.app true 3 1 8 (.t 75) (.t 86))) (.step 13 (Xa 12 87) .nil)))))))))))) (.reg [Xq 88 (.bin false .add (.t 71) (.i 1)), Xm 71 88]))))))) (.reg [Xm 89 9, Xm 90 12, Xb 91 (.call (.fn 109) false [.lend (.t 90)]), Xb 92 (.bsl 3 1 [.t 91]), Xb 93 (.app true 3 1 8 (.t 89) (.t 92)), Xa 9 93])))))) (.reg [Xq 94 (.bin false .add (.t 48) (.i 1)), Xm 48 94]))))))) (.reg [Xm 95 9, Xa 8 95])))) (.frz 8
 (.reg [Xq 96 (.bin false .add (.t 43) (.i 1)), Xm 43 96])))))))) (.seq (.reg [Xm 97 8, Xa 4 97]) .ret))))))
set_option maxHeartbeats 4000000 in
set_option maxRecDepth 100000 in
theorem d101 (l : List Ty) (r : Int) (h24 : l.length ≤ 24) (hs : ∀ s ∈ l, s.sm) (ht : tysOk l = true) (h0 : 0 ≤ r) (h1 : r ≤ 25) :
    Does Go.Proofs.Tryz.prog 101 [.fsl 6 (l.map Ty.z), .v (.int .i64 r)] false (.usl 3 1 ((rnd l r.toNat).map iv)) [.dead, .dead] := by
  have hfl := fstL_len l
  refine does_intro (mc := m101) (N := 98) (rs := [4]) (fx := []) 2 rfl (by decide +kernel) ?_
  simp only [m101, EV, Nat.reduceEqDiff, Nat.reduceBEq, Nat.reduceLT, Nat.reduceLeDiff, Nat.reduceAdd, Nat.reduceSub, reduceIte]
  refine awp_loop (fun i : Nat => i ≤ l.length) (fun i => stl [(0, .fsl 6 (l.map Ty.z)), (1, .v (.int .i64 r)), (5, .usl 3 1 (((fstL l).take i).map iv)), (15, .dead), (16, .fsl 6 (l.map Ty.z)), (17, .v (.int .i64 (l.length : Int))), (18, .v (.int .i64 (i : Int))), (39, .dead)]) (fun i => l.length - i) 0 (Nat.zero_le _) ?_ ?_
  · simp only [List.take_zero, List.map_nil, EV, Nat.reduceEqDiff, Nat.reduceBEq, Nat.reduceLT, Nat.reduceLeDiff, Nat.reduceAdd, Nat.reduceSub, reduceIte]
    rfl
  intro i hi
  simp only [EV, Nat.reduceEqDiff, Nat.reduceBEq, Nat.reduceLT, Nat.reduceLeDiff, Nat.reduceAdd, Nat.reduceSub, reduceIte]
  refine cK_cut (fun h => ?_) (fun h => ?_)
  · have q1 : i < l.length := by simpa using h
    have q2 : (i : Int) < (l.length : Int) := by omega
    have hsm := hs _ (List.getElem_mem q1)
    have hsm' := hsm
    unfold Ty.sm at hsm'
    clear h
    simp only [q1, q2, nth_map q1, Ty.z, EV, Nat.reduceEqDiff, Nat.reduceBEq, Nat.reduceLT, Nat.reduceLeDiff, Nat.reduceAdd, Nat.reduceSub, reduceIte]
    refine callK_i (d107 l[i].owner hsm'.2.2.2.2.1) ?_
    simp only [EV, Nat.reduceEqDiff, Nat.reduceBEq, Nat.reduceLT, Nat.reduceLeDiff, Nat.reduceAdd, Nat.reduceSub, reduceIte]
    refine callK_i (d107 l[i].name hsm'.2.2.2.2.2) ?_
    simp only [EV, Nat.reduceEqDiff, Nat.reduceBEq, Nat.reduceLT, Nat.reduceLeDiff, Nat.reduceAdd, Nat.reduceSub, reduceIte]
    refine callK_i (d109 [l[i].kind, l[i].long, textN l[i].owner, textN l[i].name, (l[i].fields.length : Int)] (by simp)) ?_
    simp only [EV, Nat.reduceEqDiff, Nat.reduceBEq, Nat.reduceLT, Nat.reduceLeDiff, Nat.reduceAdd, Nat.reduceSub, reduceIte]
    refine ⟨by simp; omega, by simp; omega, ?_⟩
    rw [w64 _ (by omega)]
    exact ⟨i + 1, q1, by omega, by rw [fstL_take q1, List.map_append]; rfl⟩
  have q1 : i = l.length := by have : ¬ (i : Int) < l.length := by simpa using h
                               omega
  subst q1
  have e : (fstL l).take l.length = fstL l := by rw [List.take_of_length_le]; omega
  rw [e]
  clear h hi e
  by_cases r0 : r = 0
  · subst r0
    refine awp_frz_no ?_
    simp only [EV, Nat.reduceEqDiff, Nat.reduceBEq, Nat.reduceLT, Nat.reduceLeDiff, Nat.reduceAdd, Nat.reduceSub, reduceIte]
    refine awp_loop (fun _ : Unit => True) (fun _ => stl [(0, .fsl 6 (l.map Ty.z)), (5, .dead), (8, .usl 3 1 ((fstL l).map iv)), (9, .dead), (15, .dead), (39, .dead), (41, .dead), (42, .v (.int .i64 0)), (43, .v (.int .i64 0)), (45, .dead), (93, .dead), (95, .dead)]) (fun _ => 0) () trivial ?_ ?_
    · simp only [EV, Nat.reduceEqDiff, Nat.reduceBEq, Nat.reduceLT, Nat.reduceLeDiff, Nat.reduceAdd, Nat.reduceSub, reduceIte]
    · intro _ _
      simp only [EV, Nat.reduceEqDiff, Nat.reduceBEq, Nat.reduceLT, Nat.reduceLeDiff, Nat.reduceAdd, Nat.reduceSub, reduceIte]
      have e00 : decide ((0 : Int) < 0) = false := by decide
      simp only [e00, EV, Nat.reduceEqDiff, Nat.reduceBEq, Nat.reduceLT, Nat.reduceLeDiff, Nat.reduceAdd, Nat.reduceSub, reduceIte]
      simp only [Int.toNat_zero, rnd, iv_nfz, EV, Nat.reduceEqDiff, Nat.reduceBEq, Nat.reduceLT, Nat.reduceLeDiff, Nat.reduceAdd, Nat.reduceSub, reduceIte, evRE, retVC, cellV', evR, nfz, nfzs, nfzss, List.contains_nil, List.contains_cons, Bool.or_false, or_true]
  refine awp_frz (by rfl) ?_
  simp only [frzSE, iv_frz, EV, Nat.reduceEqDiff, Nat.reduceBEq, Nat.reduceLT, Nat.reduceLeDiff, Nat.reduceAdd, Nat.reduceSub, reduceIte]
  refine awp_loop (fun o : Option Nat => ∀ k ∈ o, (k : Int) < r) (fun o => o.elim (stl [(0, .fsl 6 (l.map Ty.z)), (5, .fsl 1 ((fstL l).map iv)), (8, .usl 3 1 ((rnd l r.toNat).map iv)), (9, .dead), (15, .dead), (39, .dead), (41, .fsl 1 ((fstL l).map iv)), (42, .v (.int .i64 r)), (43, .v (.int .i64 r)), (45, .dead), (93, .dead), (95, .dead)])
    (fun k => stl [(0, .fsl 6 (l.map Ty.z)), (5, .fsl 1 ((fstL l).map iv)), (8, .fsl 1 ((rnd l k).map iv)), (9, .dead), (15, .dead), (39, .dead), (41, .fsl 1 ((fstL l).map iv)), (42, .v (.int .i64 r)), (43, .v (.int .i64 (k : Int))), (45, .dead), (93, .dead), (95, .dead)])) (fun o => o.elim 0 (fun k => r.toNat - k + 1)) (some 0) (fun _ hk => by cases hk; omega) ?_ ?_
  · simp only [Option.elim_some, rnd, Int.natCast_zero, frzSE, iv_frz, EV, Nat.reduceEqDiff, Nat.reduceBEq, Nat.reduceLT, Nat.reduceLeDiff, Nat.reduceAdd, Nat.reduceSub, reduceIte]
  intro o ho
  cases o with
  | none =>
    have err : decide (r < r) = false := by simp
    simp only [Option.elim_none, err, EV, Nat.reduceEqDiff, Nat.reduceBEq, Nat.reduceLT, Nat.reduceLeDiff, Nat.reduceAdd, Nat.reduceSub, reduceIte]
    simp only [iv_nfz, EV, Nat.reduceEqDiff, Nat.reduceBEq, Nat.reduceLT, Nat.reduceLeDiff, Nat.reduceAdd, Nat.reduceSub, reduceIte, evRE, retVC, cellV', evR, nfz, nfzs, nfzss, List.contains_nil, List.contains_cons, Bool.or_false, or_true]
  | some k =>
  have q1 : (k : Int) < r := ho k rfl
  have q2 : decide ((k : Int) < r) = true := by simpa using q1
  simp only [Option.elim_some, q2, EV, Nat.reduceEqDiff, Nat.reduceBEq, Nat.reduceLT, Nat.reduceLeDiff, Nat.reduceAdd, Nat.reduceSub, reduceIte]
  have hnl := rnd_len l k
  refine awp_loop (fun i : Nat => i ≤ l.length) (fun i => stl [(0, .fsl 6 (l.map Ty.z)), (5, .fsl 1 ((fstL l).map iv)), (8, .fsl 1 ((rnd l k).map iv)), (9, .usl 3 1 (((rowN (fstL l) (rnd l k) l).take i).map iv)), (15, .dead), (39, .dead), (41, .fsl 1 ((fstL l).map iv)), (42, .v (.int .i64 r)), (43, .v (.int .i64 (k : Int))), (45, .dead), (46, .fsl 6 (l.map Ty.z)), (47, .v (.int .i64 (l.length : Int))), (48, .v (.int .i64 (i : Int))), (93, .dead), (95, .dead)]) (fun i => l.length - i) 0 (Nat.zero_le _) ?_ ?_
  · simp only [List.take_zero, List.map_nil, EV, Nat.reduceEqDiff, Nat.reduceBEq, Nat.reduceLT, Nat.reduceLeDiff, Nat.reduceAdd, Nat.reduceSub, reduceIte]
    rfl
  intro i hi
  simp only [EV, Nat.reduceEqDiff, Nat.reduceBEq, Nat.reduceLT, Nat.reduceLeDiff, Nat.reduceAdd, Nat.reduceSub, reduceIte]
  refine cK_cut (fun h => ?_) (fun h => ?_)
  rotate_left
  · have p1 : i = l.length := by have : ¬ (i : Int) < l.length := by simpa using h
                                 omega
    subst p1
    have e : (rowN (fstL l) (rnd l k) l).take l.length = rnd l (k + 1) := by rw [List.take_of_length_le]; rfl; rw [rowN_len]; exact Nat.le_refl _
    rw [e]
    have w1 := w64 ((k : Int) + 1) (by omega)
    simp only [w1, EV, Nat.reduceEqDiff, Nat.reduceBEq, Nat.reduceLT, Nat.reduceLeDiff, Nat.reduceAdd, Nat.reduceSub, reduceIte]
    by_cases hlast : ((k + 1 : Nat) : Int) = r
    · refine awp_frz_no ?_
      have e3 : (k : Int) + 1 = r := by omega
      have e4 : k + 1 = r.toNat := by omega
      simp only [w1, e3, e4, EV, Nat.reduceEqDiff, Nat.reduceBEq, Nat.reduceLT, Nat.reduceLeDiff, Nat.reduceAdd, Nat.reduceSub, reduceIte]
      have w2 := w64 r (by omega)
      rw [w2]
      exact ⟨none, (fun _ hk => by cases hk), by simp only [Option.elim_none]; omega, rfl⟩
    · refine awp_frz (by rfl) ?_
      simp only [w1, frzSE, iv_frz, EV, Nat.reduceEqDiff, Nat.reduceBEq, Nat.reduceLT, Nat.reduceLeDiff, Nat.reduceAdd, Nat.reduceSub, reduceIte]
      refine ⟨some (k + 1), (fun _ hk => by cases hk; omega), by simp only [Option.elim_some]; omega, ?_⟩
      simp only [Option.elim_some, Int.natCast_add, Int.natCast_one]
  have p1 : i < l.length := by simpa using h
  have p2 : (i : Int) < (l.length : Int) := by omega
  have p3 : i < (fstL l).length := by omega
  have p4 : (i : Int) < ((fstL l).length : Int) := by omega
  have hsm := hs _ (List.getElem_mem p1)
  have hsm' := hsm
  unfold Ty.sm at hsm'
  clear h
  have e0 : (fstL l)[i] = getS (fstL l) (i : Int) := by simp [getS, p3]
  refine awp_join (fun _ : Unit => True) (fun _ => stl [(0, .fsl 6 (l.map Ty.z)), (5, .fsl 1 ((fstL l).map iv)), (8, .fsl 1 ((rnd l k).map iv)), (9, .usl 3 1 (((rowN (fstL l) (rnd l k) l).take (i + 1)).map iv)), (15, .dead), (39, .dead), (41, .fsl 1 ((fstL l).map iv)), (42, .v (.int .i64 r)), (43, .v (.int .i64 (k : Int))), (45, .dead), (46, .fsl 6 (l.map Ty.z)), (47, .v (.int .i64 (l.length : Int))), (48, .v (.int .i64 (i : Int))), (93, .dead), (95, .dead)]) ?_ ?_
  · simp only [p1, p2, p3, p4, nth_map p1, nth_map p3, iv, e0, Ty.z, decide_true, EV, Nat.reduceEqDiff, Nat.reduceBEq, Nat.reduceLT, Nat.reduceLeDiff, Nat.reduceAdd, Nat.reduceSub, reduceIte]
    refine awp_join (fun _ : Unit => True) (fun _ => stl [(0, .fsl 6 (l.map Ty.z)), (5, .fsl 1 ((fstL l).map iv)), (8, .fsl 1 ((rnd l k).map iv)), (9, .usl 3 1 (((rowN (fstL l) (rnd l k) l).take i).map iv)), (11, .box 40 l[i].z), (12, .usl 3 1 ([getS (fstL l) (i : Int), baseN (rnd l k) l[i]].map iv)), (15, .dead), (39, .dead), (41, .fsl 1 ((fstL l).map iv)), (42, .v (.int .i64 r)), (43, .v (.int .i64 (k : Int))), (45, .dead), (46, .fsl 6 (l.map Ty.z)), (47, .v (.int .i64 (l.length : Int))), (48, .v (.int .i64 (i : Int))), (57, .dead), (87, .dead), (93, .dead), (95, .dead)]) ?_ ?_
    · simp only [Ty.z, EV, Nat.reduceEqDiff, Nat.reduceBEq, Nat.reduceLT, Nat.reduceLeDiff, Nat.reduceAdd, Nat.reduceSub, reduceIte]
      rcases eb : decide (0 ≤ l[i].base) with _ | _
      · simp only [EV, Nat.reduceEqDiff, Nat.reduceBEq, Nat.reduceLT, Nat.reduceLeDiff, Nat.reduceAdd, Nat.reduceSub, reduceIte]
        refine ⟨(), ?_⟩
        simp only [baseN, eb, if_false, Bool.false_eq_true, iv, List.map_cons, List.map_nil]
      · have b0 : 0 ≤ l[i].base := by simpa using eb
        have b1 := tys_base ht p1 b0
        have b2 : l[i].base.toNat < (rnd l k).length := by omega
        have b3 : l[i].base < ((rnd l k).length : Int) := by omega
        have e1 := getS_nat b2
        simp only [b0, b2, b3, nth_map b2, e1, iv, Ty.z, EV, Nat.reduceEqDiff, Nat.reduceBEq, Nat.reduceLT, Nat.reduceLeDiff, Nat.reduceAdd, Nat.reduceSub, reduceIte]
        refine ⟨by decide, by decide, by decide, (), ?_⟩
        simp only [baseN, eb, if_true, iv, List.map_cons, List.map_nil]
        rfl
    rintro _ _
    simp only [Ty.z, EV, Nat.reduceEqDiff, Nat.reduceBEq, Nat.reduceLT, Nat.reduceLeDiff, Nat.reduceAdd, Nat.reduceSub, reduceIte]
    refine awp_loop (fun j : Nat => j ≤ l[i].fields.length) (fun j => stl [(0, .fsl 6 (l.map Ty.z)), (5, .fsl 1 ((fstL l).map iv)), (8, .fsl 1 ((rnd l k).map iv)), (9, .usl 3 1 (((rowN (fstL l) (rnd l k) l).take i).map iv)), (11, .box 40 l[i].z), (12, .usl 3 1 (([getS (fstL l) (i : Int), baseN (rnd l k) l[i]] ++ fldsN (rnd l k) (l[i].fields.take j)).map iv)), (15, .dead), (39, .dead), (41, .fsl 1 ((fstL l).map iv)), (42, .v (.int .i64 r)), (43, .v (.int .i64 (k : Int))), (45, .dead), (46, .fsl 6 (l.map Ty.z)), (47, .v (.int .i64 (l.length : Int))), (48, .v (.int .i64 (i : Int))), (57, .dead), (68, .ref 11 [] 0 3), (69, .fsl 3 (l[i].fields.map Fd.z)), (70, .v (.int .i64 (l[i].fields.length : Int))), (71, .v (.int .i64 (j : Int))), (87, .dead), (93, .dead), (95, .dead)]) (fun j => l[i].fields.length - j) 0 (Nat.zero_le _) ?_ ?_
    · simp only [List.take_zero, fldsN, List.flatMap_nil, List.append_nil, Ty.z, EV, Nat.reduceEqDiff, Nat.reduceBEq, Nat.reduceLT, Nat.reduceLeDiff, Nat.reduceAdd, Nat.reduceSub, reduceIte]
      rfl
    intro j hj
    have f6 := (tysOk_good ht p1).few
    have hln := fldsN_len (rnd l k) (l[i].fields.take j)
    rw [List.length_take] at hln
    simp only [Ty.z, EV, Nat.reduceEqDiff, Nat.reduceBEq, Nat.reduceLT, Nat.reduceLeDiff, Nat.reduceAdd, Nat.reduceSub, reduceIte]
    refine cK_cut (fun h => ?_) (fun h => ?_)
    · have j1 : j < l[i].fields.length := by simpa using h
      have j2 : (j : Int) < (l[i].fields.length : Int) := by omega
      obtain ⟨t0, t1⟩ := tys_fld ht p1 j1
      have t2 : l[i].fields[j].typ.toNat < (rnd l k).length := by omega
      have t3 : l[i].fields[j].typ < ((rnd l k).length : Int) := by omega
      have et := getS_nat t2
      have hnm := (hsm'.2.2.2.1.2 _ (List.getElem_mem j1)).1
      clear h
      simp only [FdE, j1, j2, nth_map j1, Fd.z, t0, t2, t3, nth_map t2, et, iv, EV, Nat.reduceEqDiff, Nat.reduceBEq, Nat.reduceLT, Nat.reduceLeDiff, Nat.reduceAdd, Nat.reduceSub, reduceIte]
      have w1 := w64 ((j : Int) + 1) (by omega)
      refine ⟨?_, ?_⟩
      all_goals
        refine callK_i (d107 l[i].fields[j].name hnm) ?_
        simp only [FdE, j1, j2, nth_map j1, Fd.z, t0, t2, t3, nth_map t2, et, iv, w1, EV, Nat.reduceEqDiff, Nat.reduceBEq, Nat.reduceLT, Nat.reduceLeDiff, Nat.reduceAdd, Nat.reduceSub, reduceIte]
        exact ⟨by omega, by omega, j + 1, j1, by omega, by rw [fldsN_take j1, List.map_append]; rfl⟩
    · have j1 : j = l[i].fields.length := by have : ¬ (j : Int) < (l[i].fields.length : Int) := by simpa using h
                                             omega
      subst j1
      rw [List.take_length] at hln ⊢
      clear h
      simp only [iv_frz, EV, Nat.reduceEqDiff, Nat.reduceBEq, Nat.reduceLT, Nat.reduceLeDiff, Nat.reduceAdd, Nat.reduceSub, reduceIte]
      refine callK_i (d109 (prtN (fstL l) (rnd l k) i l[i]) (by simp [prtN]; omega)) ?_
      simp only [EV, Nat.reduceEqDiff, Nat.reduceBEq, Nat.reduceLT, Nat.reduceLeDiff, Nat.reduceAdd, Nat.reduceSub, reduceIte]
      refine ⟨by simp; omega, by simp; omega, (), ?_⟩
      rw [rowN_take p1, List.map_append]
      rfl
  · rintro _ _
    simp only [EV, Nat.reduceEqDiff, Nat.reduceBEq, Nat.reduceLT, Nat.reduceLeDiff, Nat.reduceAdd, Nat.reduceSub, reduceIte]
    rw [w64 _ (by omega)]
    exact ⟨i + 1, p1, by omega, rfl⟩
end Go.AM
