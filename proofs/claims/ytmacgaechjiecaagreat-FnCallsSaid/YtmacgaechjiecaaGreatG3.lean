/- Contracts of functions of the given program, for the law FnCalls: what they return and what they write, under the bounds that each theorem states. -/
import Derived.Test.YtmacgaechjiecaaGreatG2
namespace Go.AM
set_option linter.unusedVariables false
set_option linter.unusedSimpArgs false
def m22 : MC :=
 (.seq (.reg [Xb 2 (.asg (.nils 40 6)), Xb 3 (.asg (.i 0)), Xb 4 (.asg (.i 0))]) (.seq (.reg [Xm 7 0, Xb 8 (.build [0] [0] [1] [.s 5 1, .i, .v (.int .u64 0)] [.t 7]), Xb 9 (.box 87 (.t 8)), Xa 5 9]) (.seq (.reg [Xm 10 5, Xb 11 (.call (.fn 53) false [.io (.t 10)]), Xb 6 (.asgf (.t 11))]) (.seq (.reg [Xm 12 6, Xm 13 5, Xm 14 6, Xn 15 14, Xq 16 (.bin false .add (.t 15) (.i 1)), Xb 17 (.call (.fn 70)
 false [.io (.t 13), .lend (.t 16)]), Xm 18 5, Xm 19 6, Xn 20 19, Xq 21 (.bin false .add (.t 20) (.i 1)), Xb 22 (.call (.fn 70) false [.io (.t 18), .lend (.t 21)]), Xm 23 5, Xb 24 (.call (.fn 70) false [.io (.t 23), .lend (.i 20)]), Xq 25 (.bin false .quo (.t 24) (.i 19)), Xq 26 (.bin false .sub (.t 22) (.t 25)), Xa 2 12, Xa 3 17, Xa 4 26]) .ret))))
set_option maxRecDepth 100000 in
theorem p22 (code : List Int) (hl : (code.length : Int) ≤ 1048576) (hb : ∀ b ∈ code, 0 ≤ b ∧ b ≤ 255) :
    DoesE Go.Proofs.Tryz.prog 22 [.fsl 1 (code.map bv)] true fun r o => o = [.dead] ∧ ∃ (l : List Ty) (n m : Int), r = .tup [.fsl 6 (l.map Ty.z), .v (.int .i64 n), .v (.int .i64 m)] ∧ l.length ≤ 9 ∧ ∀ t ∈ l, t.dr := by
  have hc : Cur.ok ⟨code, 0, 0⟩ 0 := ⟨hl, hb, Int.le_refl _, Int.le_refl _⟩
  have pc := q53 ⟨code, 0, 0⟩ 0 hc (by omega)
  refine doesE_intro (mc := m22) (N := 27) (rs := [2, 3, 4]) (fx := []) 1 rfl (by decide +kernel) ?_
  simp only [m22, EV, Nat.reduceEqDiff, Nat.reduceBEq, Nat.reduceLT, Nat.reduceLeDiff, Nat.reduceAdd, Nat.reduceSub, reduceIte]
  refine pc.call (fun _ => rfl) ?_
  rintro _ c1 hc1 ⟨l, rfl, l9, hs⟩
  have wl := w64 ((l.length : Int) + 1) (by omega)
  simp only [Ty.frz, wl, EV, Nat.reduceEqDiff, Nat.reduceBEq, Nat.reduceLT, Nat.reduceLeDiff, Nat.reduceAdd, Nat.reduceSub, reduceIte]
  refine (p70 c1 _ ((l.length : Int) + 1) hc1 (by omega) (by omega)).call (fun _ => rfl) ?_
  rintro _ c2 hc2 ⟨x, rfl, _⟩
  simp only [wl, EV, Nat.reduceEqDiff, Nat.reduceBEq, Nat.reduceLT, Nat.reduceLeDiff, Nat.reduceAdd, Nat.reduceSub, reduceIte]
  refine (p70 c2 _ ((l.length : Int) + 1) hc2 (by omega) (by omega)).call (fun _ => rfl) ?_
  rintro _ c3 hc3 ⟨y, rfl, _⟩
  simp only [EV, Nat.reduceEqDiff, Nat.reduceBEq, Nat.reduceLT, Nat.reduceLeDiff, Nat.reduceAdd, Nat.reduceSub, reduceIte]
  refine (p70 c3 _ 20 hc3 (by omega) (by omega)).call (fun _ => rfl) ?_
  rintro _ c4 hc4 ⟨z, rfl, _⟩
  simp only [EV, Nat.reduceEqDiff, Nat.reduceBEq, Nat.reduceLT, Nat.reduceLeDiff, Nat.reduceAdd, Nat.reduceSub, reduceIte]
  refine ⟨by omega, ?_⟩
  simp only [EV, Nat.reduceEqDiff, Nat.reduceBEq, Nat.reduceLT, Nat.reduceLeDiff, Nat.reduceAdd, Nat.reduceSub, reduceIte, evRE, retVC, cellV', evR, nfz, nfzs, nfzss, List.contains_nil, List.contains_cons, Bool.or_false, or_true]
  first
    | exact ⟨⟨l, x, _, rfl, l9, hs⟩, Or.inl trivial⟩
    | exact ⟨l, x, _, rfl, l9, hs⟩
def m24 : MC :=
 (.seq (.reg [Xb 2 (.alloc 45 [.z, .s 9 1, .s 40 6, .s 52 6, .s 155 2]), Xb 3 (.asg (.i 0)), Xb 4 (.asg (.nils 3 1))]) (.seq (.reg [Xm 13 0, Xb 14 (.build [0] [0] [1] [.s 5 1, .i, .v (.int .u64 0)] [.t 13]), Xb 15 (.box 87 (.t 14)), Xa 5 15]) (.seq (.reg [Xm 16 5, Xb 17 (.call (.fn 74) false [.io (.t 16)]), Xb 6 (.alloc 45 [.z, .s 9 1, .s 40 6, .s 52 6, .s 155 2]), Xz (.store 5 (.t 6) (.t 17))])
 (.seq (.frz 6 (.reg [Xm 18 5, Xf 19 3 6, Xl 20 1 19, Xn 21 20, Xb 22 (.call (.fn 75) false [.lend (.i 1), .lend (.t 21)]), Xb 23 (.call (.fn 70) false [.io (.t 18), .lend (.t 22)]), Xa 7 23])) (.seq (.seq (.reg [Xf 24 3 6, Xl 25 1 24, Xn 26 25, Xq 27 (.mov (.i 0))]) (.block 0 (.loop [2, 5, 6, 7, 15, 24, 25, 26, 27] (.seq (.reg [Xq 28 (.bin false .lss (.t 27) (.t 26))]) (.seq (.cond (.t 28) .skip
 (.exit 0)) (.join [2, 5, 6, 7, 15, 24, 25, 26, 27] (.block 1 (.seq (.reg [Xm 29 27, Xi 30 6 25 27, XL 31 6 30, Xb 9 (.alloc 52 [.z, .i, .i, .i, .i, .s 54 3]), Xa 8 29, Xz (.store 6 (.t 9) (.t 31))]) (.seq (.reg [Xf 32 1 9, Xl 33 1 32, Xq 34 (.bin false .eql (.t 33) (.i 4)), Xm 35 34, Xt 36 35 (.mov (.t 5)), XT 37 35 (.call (.fn 76) false [.io (.t 36), .lend (.i 6)]), Xt 38 35 (.un .not (.t 37)),
 Xq 39 (.pick (.t 35) (.t 38) .fb)]) (.cond (.t 39) (.reg [Xm 40 8, Xa 7 40]) .skip)))) (.reg [Xq 41 (.bin false .add (.t 27) (.i 1)), Xm 27 41]))))))) (.seq (.reg [Xb 10 (.asg (.nils 3 1))]) (.join [2, 5, 6, 7, 10, 15, 62] (.seq (.reg [Xm 42 7, Xf 43 3 6, Xl 44 1 43, Xn 45 44, Xq 46 (.bin false .lss (.t 42) (.t 45))]) (.cond (.t 46) (.seq (.reg [Xf 47 3 6, Xl 48 1 47, Xm 49 7, Xi 50 6 48 49, Xf 51
 5 50, Xl 52 1 51, Xn 53 52, Xq 54 (.mov (.i 0))]) (.block 2 (.loop [2, 5, 6, 7, 10, 15, 47, 48, 49, 50, 51, 52, 53, 54, 62] (.seq (.reg [Xq 55 (.bin false .lss (.t 54) (.t 53))]) (.seq (.cond (.t 55) .skip (.exit 2)) (.seq (.block 3 (.seq (.reg [Xi 56 3 52 54, XL 57 3 56, Xb 12 (.alloc 54 [.z, .b, .i]), Xz (.store 3 (.t 12) (.t 57))]) (.reg [Xm 58 10, Xf 59 2 12, Xl 60 1 59, Xb 61 (.bsl 3 1 [.t
 60]), Xb 62 (.app true 3 1 8 (.t 58) (.t 61)), Xa 10 62]))) (.reg [Xq 63 (.bin false .add (.t 54) (.i 1)), Xm 54 63]))))))) .skip)) (.join [2, 6, 7, 10, 62] (.seq (.reg [Xm 64 10, Xn 65 64, Xq 66 (.bin false .gtr (.t 65) (.i 0)), Xm 67 66, Xt 68 67 (.mov (.t 5)), XT 69 67 (.call (.fn 76) false [.io (.t 68), .lend (.i 2)]), Xq 70 (.pick (.t 67) (.t 69) .fb)]) (.cond (.t 70) (.mixt [] [2, 5, 6, 7,
 10, 15, 62] [] [] [] [] (.step 0 (Xm 71 10) (.step 1 (Xm 72 5) (.step 2 (Xf 73 2 6) (.step 5 (Xm 76 5) (.alt (.step 3 (Xl 74 1 73) (.step 4 (Xn 75 74) (.step 6 (Xb 77 (.call (.fn 70) false [.io (.t 76), .lend (.i 20)])) (.step 7 (Xq 78 (.bin false .quo (.t 77) (.i 19))) (.step 8 (Xq 79 (.bin false .add (.t 75) (.t 78))) (.step 9 (Xb 80 (.call (.fn 70) false [.io (.t 72), .lend (.t 79)])) (.step 10
 (Xq 81 (.iad 1 (.t 71) (.i 0))) (.step 11 (Xz (.store 1 (.t 81) (.t 80))) .nil)))))))) (.step 6 (Xb 77 (.call (.fn 70) false [.io (.t 76), .lend (.i 20)])) (.step 7 (Xq 78 (.bin false .quo (.t 77) (.i 19))) (.step 3 (Xl 74 1 73) (.step 4 (Xn 75 74) (.step 8 (Xq 79 (.bin false .add (.t 75) (.t 78))) (.step 9 (Xb 80 (.call (.fn 70) false [.io (.t 72), .lend (.t 79)])) (.step 10 (Xq 81 (.iad 1 (.t
 71) (.i 0))) (.step 11 (Xz (.store 1 (.t 81) (.t 80))) .nil)))))))))))))) .skip)) (.seq (.reg [XL 82 5 6, Xm 83 7, Xm 84 10, Xz (.store 5 (.t 2) (.t 82)), Xa 3 83, Xa 4 84]) .ret)))))))))
set_option maxHeartbeats 4000000 in
set_option maxRecDepth 100000 in
theorem p24 (code : List Int) (hl : (code.length : Int) ≤ 1048576) (hb : ∀ b ∈ code, 0 ≤ b ∧ b ≤ 255) :
    DoesE Go.Proofs.Tryz.prog 24 [.fsl 1 (code.map bv)] true fun r o => o = [.dead] ∧ ∃ (s : Scope) (n : Int) (ks : List Int), r = .tup [.agg s.z, .v (.int .i64 n), .usl 3 1 (ks.map iv)] ∧ s.dr ∧ ks.length ≤ 3 := by
  have hc : Cur.ok ⟨code, 0, 0⟩ 0 := ⟨hl, hb, Int.le_refl _, Int.le_refl _⟩
  have pc := p74 ⟨code, 0, 0⟩ 0 hc (by omega)
  refine doesM_intro (mc := m24) (N := 85) (rs := [.c 2 45 true 5, .t 3, .t 4]) (fx := []) 1 rfl (by decide +kernel) ?_
  simp only [m24, EV, Nat.reduceEqDiff, Nat.reduceBEq, Nat.reduceLT, Nat.reduceLeDiff, Nat.reduceAdd, Nat.reduceSub, reduceIte]
  refine pc.call (fun _ => rfl) ?_
  rintro _ c1 hc1 ⟨s, rfl, hS⟩
  obtain ⟨s1, s2, s3, s4, s5⟩ := id hS
  simp only [Scope.o, EV, Nat.reduceEqDiff, Nat.reduceBEq, Nat.reduceLT, Nat.reduceLeDiff, Nat.reduceAdd, Nat.reduceSub, reduceIte]
  refine awp_frz rfl ?_
  simp only [Str.frz, Ty.frz, Ob.frz, Us.frz, frzSE, EV, Nat.reduceEqDiff, Nat.reduceBEq, Nat.reduceLT, Nat.reduceLeDiff, Nat.reduceAdd, Nat.reduceSub, reduceIte]
  refine callK_i (d75 1 s.objects.length) ?_
  simp only [frzSE, EV, Nat.reduceEqDiff, Nat.reduceBEq, Nat.reduceLT, Nat.reduceLeDiff, Nat.reduceAdd, Nat.reduceSub, reduceIte]
  refine (p70 c1 _ (max 1 (s.objects.length : Int)) hc1 (by omega) (by omega)).call (fun _ => rfl) ?_
  rintro _ c2 hc2 ⟨n, rfl, n0, n1, n2⟩
  simp only [frzSE, Str.frz, Ty.frz, Ob.frz, Us.frz, EV, Nat.reduceEqDiff, Nat.reduceBEq, Nat.reduceLT, Nat.reduceLeDiff, Nat.reduceAdd, Nat.reduceSub, reduceIte]
  refine awp_loop (fun p : Nat × Int × Cur => p.1 ≤ s.objects.length ∧ 0 ≤ p.2.1 ∧ p.2.2.ok (2002 + 6 * p.1)) (fun p => stl [(2, .box 45 Scope.zr), (5, .box 87 p.2.2.z), (6, .fptr s.z), (7, .v (.int .i64 p.2.1)), (15, .dead), (24, .fptr [.fsl 6 (s.objects.map Ob.z), .fsl 2 (s.uses.map Us.z)]), (25, .fsl 6 (s.objects.map Ob.z)), (26, .v (.int .i64 (s.objects.length : Int))), (27, .v (.int .i64 (p.1 : Int)))]) (fun p => s.objects.length - p.1) (0, n, c2) ⟨Nat.zero_le _, n0, hc2.up (by omega)⟩ ?_ ?_
  · simp only [frzSE, Str.frz, Ty.frz, Ob.frz, Us.frz, EV, Nat.reduceEqDiff, Nat.reduceBEq, Nat.reduceLT, Nat.reduceLeDiff, Nat.reduceAdd, Nat.reduceSub, reduceIte]
    rfl
  · rintro ⟨i, n, c3⟩ ⟨hi, n0, hc3⟩
    simp only at hi n0 hc3
    simp only [EV, Nat.reduceEqDiff, Nat.reduceBEq, Nat.reduceLT, Nat.reduceLeDiff, Nat.reduceAdd, Nat.reduceSub, reduceIte]
    refine cK_cut (fun h => ?_) (fun h => ?_)
    · have hi1 : i < s.objects.length := by have : (i : Int) < (s.objects.length : Int) := by simpa using h
                                            omega
      have hi2 : (i : Int) < (s.objects.length : Int) := by omega
      clear h
      have wi := w64 ((i : Int) + 1) (by omega)
      refine awp_join (fun p : Int × Cur => 0 ≤ p.1 ∧ p.2.ok (2002 + 6 * i + 6)) (fun p => stl [(2, .box 45 Scope.zr), (5, .box 87 p.2.z), (6, .fptr s.z), (7, .v (.int .i64 p.1)), (15, .dead), (24, .fptr [.fsl 6 (s.objects.map Ob.z), .fsl 2 (s.uses.map Us.z)]), (25, .fsl 6 (s.objects.map Ob.z)), (26, .v (.int .i64 (s.objects.length : Int))), (27, .v (.int .i64 (i : Int)))]) ?_ ?_
      · simp only [hi1, hi2, nth_map hi1, Ob.z, EV, Nat.reduceEqDiff, Nat.reduceBEq, Nat.reduceLT, Nat.reduceLeDiff, Nat.reduceAdd, Nat.reduceSub, reduceIte]
        rcases e4 : (s.objects[i].kind == 4) with _ | _
        · simp only [e4, EV, Nat.reduceEqDiff, Nat.reduceBEq, Nat.reduceLT, Nat.reduceLeDiff, Nat.reduceAdd, Nat.reduceSub, reduceIte]
          exact ⟨(n, c3), ⟨n0, hc3.up (by omega)⟩, rfl⟩
        · simp only [e4, EV, Nat.reduceEqDiff, Nat.reduceBEq, Nat.reduceLT, Nat.reduceLeDiff, Nat.reduceAdd, Nat.reduceSub, reduceIte]
          refine (p76 c3 _ 6 hc3 (by omega) (by omega)).call (fun _ => rfl) ?_
          rintro _ c4 hc4 ⟨b, rfl⟩
          cases b
          · simp only [Bool.not_false, EV, Nat.reduceEqDiff, Nat.reduceBEq, Nat.reduceLT, Nat.reduceLeDiff, Nat.reduceAdd, Nat.reduceSub, reduceIte]
            exact ⟨(i, c4), ⟨by simp only; omega, hc4.up (by omega)⟩, rfl⟩
          · simp only [Bool.not_true, EV, Nat.reduceEqDiff, Nat.reduceBEq, Nat.reduceLT, Nat.reduceLeDiff, Nat.reduceAdd, Nat.reduceSub, reduceIte]
            exact ⟨(n, c4), ⟨n0, hc4.up (by omega)⟩, rfl⟩
      rintro ⟨n, c4⟩ ⟨n0, hc4⟩
      simp only at n0 hc4
      simp only [wi, EV, Nat.reduceEqDiff, Nat.reduceBEq, Nat.reduceLT, Nat.reduceLeDiff, Nat.reduceAdd, Nat.reduceSub, reduceIte]
      exact ⟨(i + 1, n, c4), ⟨hi1, n0, hc4.up (by simp only; omega)⟩, by simp only; omega, rfl⟩
    · simp only [EV, Nat.reduceEqDiff, Nat.reduceBEq, Nat.reduceLT, Nat.reduceLeDiff, Nat.reduceAdd, Nat.reduceSub, reduceIte]
      have hc3' : c3.ok 2100 := hc3.up (by omega)
      clear h hc3
      refine awp_join (fun p : List Int => p.length ≤ 3) (fun p => stl [(2, .box 45 Scope.zr), (5, .box 87 c3.z), (6, .fptr s.z), (7, .v (.int .i64 n)), (10, .usl 3 1 (p.map iv)), (15, .dead), (62, .dead)]) ?_ ?_
      · simp only [Scope.z, EV, Nat.reduceEqDiff, Nat.reduceBEq, Nat.reduceLT, Nat.reduceLeDiff, Nat.reduceAdd, Nat.reduceSub, reduceIte]
        refine cK_cut (fun h => ?_) (fun h => ?_)
        · have hn2 : n < (s.objects.length : Int) := by simpa using h
          have hn1 : n.toNat < s.objects.length := by omega
          clear h
          have hps := (s4.2 _ (List.getElem_mem hn1)).2.1
          simp only [n0, hn2, hn1, nth_map hn1, Ob.z, Scope.z, EV, Nat.reduceEqDiff, Nat.reduceBEq, Nat.reduceLT, Nat.reduceLeDiff, Nat.reduceAdd, Nat.reduceSub, reduceIte]
          generalize hps2 : s.objects[n.toNat].params = ps at hps ⊢
          refine awp_loop (fun p : List Int => p.length ≤ ps.length) (fun p => stl [(2, .box 45 Scope.zr), (5, .box 87 c3.z), (6, .fptr s.z), (7, .v (.int .i64 n)), (10, .usl 3 1 (p.map iv)), (15, .dead), (47, .fptr [.fsl 6 (s.objects.map Ob.z), .fsl 2 (s.uses.map Us.z)]), (48, .fsl 6 (s.objects.map Ob.z)), (49, .v (.int .i64 n)), (50, .fptr [.v (.string s.objects[n.toNat].name), .v (.int .i64 s.objects[n.toNat].kind), .v (.int .i64 s.objects[n.toNat].mark), .v (.int .i64 s.objects[n.toNat].typ), .v (.int .i64 s.objects[n.toNat].value), .fsl 3 (ps.map Par.z)]), (51, .fptr [.fsl 3 (ps.map Par.z)]), (52, .fsl 3 (ps.map Par.z)), (53, .v (.int .i64 (ps.length : Int))), (54, .v (.int .i64 (p.length : Int))), (62, .dead)]) (fun p => ps.length - p.length) [] (Nat.zero_le _) ?_ ?_
          · simp only [Scope.z, EV, Nat.reduceEqDiff, Nat.reduceBEq, Nat.reduceLT, Nat.reduceLeDiff, Nat.reduceAdd, Nat.reduceSub, reduceIte]
            rfl
          · rintro ks hks
            simp only [Scope.z, EV, Nat.reduceEqDiff, Nat.reduceBEq, Nat.reduceLT, Nat.reduceLeDiff, Nat.reduceAdd, Nat.reduceSub, reduceIte]
            refine cK_cut (fun h => ?_) (fun h => ?_)
            · have hk1 : ks.length < ps.length := by have : (ks.length : Int) < (ps.length : Int) := by simpa using h
                                                     omega
              have hk2 : (ks.length : Int) < (ps.length : Int) := by omega
              clear h
              have wk := w64 ((ks.length : Int) + 1) (by omega)
              simp only [hk1, hk2, nth_map hk1, Par.z, wk, EV, Nat.reduceEqDiff, Nat.reduceBEq, Nat.reduceLT, Nat.reduceLeDiff, Nat.reduceAdd, Nat.reduceSub, reduceIte]
              refine ⟨by omega, by omega, ks ++ [ps[ks.length].typ], by simp; omega, by simp; omega, ?_⟩
              simp only [List.map_append, List.length_append, List.length_singleton, List.map_cons, List.map_nil, iv, Int.natCast_add]
              rfl
            · simp only [EV, Nat.reduceEqDiff, Nat.reduceBEq, Nat.reduceLT, Nat.reduceLeDiff, Nat.reduceAdd, Nat.reduceSub, reduceIte]
              exact ⟨ks, by omega, rfl⟩
        · simp only [EV, Nat.reduceEqDiff, Nat.reduceBEq, Nat.reduceLT, Nat.reduceLeDiff, Nat.reduceAdd, Nat.reduceSub, reduceIte]
          exact ⟨[], by simp, rfl⟩
      rintro ks hks
      refine awp_join (fun p : List Int => p.length ≤ 3) (fun p => stl [(2, .box 45 Scope.zr), (6, .fptr s.z), (7, .v (.int .i64 n)), (10, .usl 3 1 (p.map iv)), (62, .dead)]) ?_ ?_
      · simp only [EV, Nat.reduceEqDiff, Nat.reduceBEq, Nat.reduceLT, Nat.reduceLeDiff, Nat.reduceAdd, Nat.reduceSub, reduceIte]
        rcases f0 : decide (0 < (ks.length : Int)) with _ | _
        · simp only [f0, EV, Nat.reduceEqDiff, Nat.reduceBEq, Nat.reduceLT, Nat.reduceLeDiff, Nat.reduceAdd, Nat.reduceSub, reduceIte]
          exact ⟨ks, hks, rfl⟩
        have f1 : 0 < ks.length := by have : 0 < (ks.length : Int) := by simpa using f0
                                      omega
        have f2 : (0 : Int) < (ks.length : Int) := by omega
        have f4 : 0 < (ks.map iv).length := by simp; exact f1
        simp only [f0, EV, Nat.reduceEqDiff, Nat.reduceBEq, Nat.reduceLT, Nat.reduceLeDiff, Nat.reduceAdd, Nat.reduceSub, reduceIte]
        refine (p76 c3 _ 2 hc3' (by omega) (by omega)).call (fun _ => rfl) ?_
        rintro _ c4 hc4 ⟨b, rfl⟩
        cases b
        · simp only [EV, Nat.reduceEqDiff, Nat.reduceBEq, Nat.reduceLT, Nat.reduceLeDiff, Nat.reduceAdd, Nat.reduceSub, reduceIte]
          exact ⟨ks, hks, rfl⟩
        simp only [f1, f2, f4, Scope.z, EV, Nat.reduceEqDiff, Nat.reduceBEq, Nat.reduceLT, Nat.reduceLeDiff, Nat.reduceAdd, Nat.reduceSub, reduceIte]
        refine ⟨?_, ?_⟩
        all_goals refine (p70 c4 _ 20 hc4 (by omega) (by omega)).call (fun _ => rfl) ?_
        all_goals rintro _ c5 hc5 ⟨z, rfl, z0, z1, _⟩
        all_goals have z2 := z1 (by omega)
        all_goals have ed : z.tdiv 19 = z / 19 := Int.tdiv_eq_ediv_of_nonneg z0
        all_goals have wz := w64 (z / 19) (by omega)
        all_goals have wl := w64 ((s.types.length : Int) + z / 19) (by omega)
        all_goals simp only [ed, wz, wl, EV, Nat.reduceEqDiff, Nat.reduceBEq, Nat.reduceLT, Nat.reduceLeDiff, Nat.reduceAdd, Nat.reduceSub, reduceIte]
        all_goals refine ⟨by omega, ?_⟩
        all_goals refine (p70 c5 _ ((s.types.length : Int) + z / 19) hc5 (by omega) (by omega)).call (fun _ => rfl) ?_
        all_goals rintro _ c6 hc6 ⟨v, rfl, _⟩
        all_goals simp only [f1, f2, f4, List.getElem?_set_self f4, modify_set, nth_set f4, nth_map f1, iv, EV, Nat.reduceEqDiff, Nat.reduceBEq, Nat.reduceLT, Nat.reduceLeDiff, Nat.reduceAdd, Nat.reduceSub, reduceIte]
        all_goals refine ⟨by omega, ks.set 0 v, by rw [List.length_set]; exact hks, ?_⟩
        all_goals simp only [List.map_set, iv]
        all_goals rfl
      rintro ks hks
      simp only [Scope.z, EV, Nat.reduceEqDiff, Nat.reduceBEq, Nat.reduceLT, Nat.reduceLeDiff, Nat.reduceAdd, Nat.reduceSub, reduceIte]
      simp only [Str.nfz, Ty.nfz, Ob.nfz, Us.nfz, pbeq, evRM, EV, Nat.reduceEqDiff, Nat.reduceBEq, Nat.reduceLT, Nat.reduceLeDiff, Nat.reduceAdd, Nat.reduceSub, reduceIte, evRE, retVC, cellV', evR, nfz, nfzs, nfzss, List.contains_nil, List.contains_cons, Bool.or_false, or_true]
      exact ⟨by decide, by decide, ⟨s, n, ks, rfl, hS, hks⟩, Or.inl trivial⟩
end Go.AM
namespace Go.AM
set_option linter.unusedVariables false
set_option linter.unusedSimpArgs false
def nil' (s : ByteArray) : Bool := s.toList == (⟨#[]⟩ : ByteArray).toList
theorem loop_len (bs : ByteArray) : ∀ (n i : Nat) (r : List UInt8), bs.size - i ≤ n → r.length ≤ (ByteArray.toList.loop bs i r).length
  | 0, i, r, h => by
    rw [ByteArray.toList.loop.eq_1, if_neg (by omega)]
    simp
  | n + 1, i, r, h => by
    rw [ByteArray.toList.loop.eq_1]
    split
    · have := loop_len bs n (i + 1) (bs.get! i :: r) (by omega)
      simp only [List.length_cons] at this
      omega
    · simp
theorem nil_size {s : ByteArray} (h : nil' s = true) : s.size = 0 := by
  have e : s.toList = (⟨#[]⟩ : ByteArray).toList := by simpa [nil'] using h
  have e0 : (⟨#[]⟩ : ByteArray).toList = [] := ByteArray.toList_empty
  rw [e0, ByteArray.toList.eq_1, ByteArray.toList.loop.eq_1] at e
  split at e
  · have := loop_len s s.size (0 + 1) [s.get! 0] (by omega)
    rw [e] at this
    simp at this
  · omega
theorem nil_name {s : ByteArray} (h : nil' s = true) : nameOk s = false := by
  have := nil_size h
  simp only [nameOk, decide_eq_false_iff_not]
  rintro ⟨_, h1, _⟩
  omega
noncomputable def fdAt (l : List Ty) (fs : List Fd) (i : Nat) (h : i < fs.length) : Bool :=
  (decide (0 ≤ fs[i].mark) && decide (fs[i].mark ≤ 2)) && (isNum l fs[i].typ && (if nil' fs[i].name = true then fs[i].mark == 0 else nameOk fs[i].name && !((fs.take i).any (fdNm fs[i]))))
def fdTo (l : List Ty) (fs : List Fd) (n : Nat) : Prop := ∀ i (h : i < fs.length), i < n → fdAt l fs i h = true
open Classical in
noncomputable def fdsOk (l : List Ty) (fs : List Fd) : Bool := decide (fdTo l fs fs.length ∧ fs.length ≤ 6)
theorem fdTo_succ {l : List Ty} {fs : List Fd} {i : Nat} (h : i < fs.length) (h1 : fdTo l fs i) (h2 : fdAt l fs i h = true) : fdTo l fs (i + 1) := by
  intro j hj hji
  by_cases e : j = i
  · subst e; exact h2
  · exact h1 j hj (by omega)
theorem fdsOk_no {l : List Ty} {fs : List Fd} {i : Nat} (h : i < fs.length) (h2 : fdAt l fs i h = false) : fdsOk l fs = false := by
  simp only [fdsOk, decide_eq_false_iff_not]
  rintro ⟨h1, _⟩
  have := h1 i h h
  rw [h2] at this; cases this
theorem fdsOk_yes {l : List Ty} {fs : List Fd} (h : fdTo l fs fs.length) : fdsOk l fs = decide ((fs.length : Int) ≤ 6) := by
  have e2 : decide ((fs.length : Int) ≤ 6) = decide (fs.length ≤ 6) := by congr 1; apply propext; omega
  simp [fdsOk, h, e2]
def m229 : MC :=
 (.seq (.reg [Xb 4 (.asg .fb)]) (.seq (.seq (.reg [Xm 7 1, Xn 8 7, Xq 9 (.mov (.i 0))]) (.block 0 (.loop [0, 1, 7, 8, 9] (.seq (.reg [Xq 10 (.bin false .lss (.t 9) (.t 8))]) (.seq (.cond (.t 10) .skip (.exit 0)) (.join [0, 1, 7, 8, 9] (.block 1 (.seq (.reg [Xm 11 9, Xi 12 3 7 9, XL 13 3 12, Xb 6 (.alloc 97 [.z, .i, .i]), Xa 5 11, Xz (.store 3 (.t 6) (.t 13))]) (.seq (.seq (.reg [Xf 14 1 6, Xl 15 1
 14, Xb 16 (.call (.fn 78) false [.lend (.t 15), .lend (.i 0), .lend (.i 2)]), Xq 17 (.un .not (.t 16)), Xm 18 17, Xu 19 18 (.mov (.t 0)), Xu 20 18 (.fad 2 (.t 6)), Xu 21 18 (.load false 1 (.t 20)), XU 22 18 (.call (.fn 61) false [.lend (.t 19), .lend (.t 21)]), Xu 23 18 (.un .not (.t 22)), Xq 24 (.pick (.t 18) .tb (.t 23))]) (.cond (.t 24) (.seq (.reg [Xb 4 (.asg .fb)]) .ret) .skip)) (.seq (.seq
 (.reg [Xf 25 0 6, Xl 26 1 25, Xq 27 (.bin false .eql (.t 26) (.z #[]))]) (.cond (.t 27) (.seq (.seq (.reg [Xf 28 1 6, Xl 29 1 28, Xq 30 (.bin false .neq (.t 29) (.i 0))]) (.cond (.t 30) (.seq (.reg [Xb 4 (.asg .fb)]) .ret) .skip)) (.exit 1)) .skip)) (.seq (.reg [Xf 31 0 6, Xl 32 1 31, Xb 33 (.call (.fn 141) false [.lend (.t 32)]), Xq 34 (.un .not (.t 33)), Xm 35 34, Xu 36 35 (.mov (.t 1)), Xu 37
 35 (.mov (.t 5)), Xu 38 35 (.slc false 3 (.t 36) none (some (.t 37))), Xu 39 35 (.mkf 267 [.t 6]), XU 40 35 (.call (.fn 266) false [.lend (.t 38), .lend (.t 39)]), Xq 41 (.pick (.t 35) .tb (.t 40))]) (.cond (.t 41) (.seq (.reg [Xb 4 (.asg .fb)]) .ret) .skip)))))) (.reg [Xq 42 (.bin false .add (.t 9) (.i 1)), Xm 9 42]))))))) (.seq (.reg [Xm 43 1, Xn 44 43, Xq 45 (.bin false .leq (.t 44) (.i 6)), Xa
 4 45]) .ret)))
set_option maxHeartbeats 1000000 in
set_option maxRecDepth 100000 in
theorem d229 (l : List Ty) (fs : List Fd) (hl : (l.length : Int) ≤ 1048576) (hf : (fs.length : Int) ≤ 1048576) (hs : ∀ s ∈ fs, s.sm) :
    Does Go.Proofs.Tryz.prog 229 [.fsl 6 (l.map Ty.z), .fsl 3 (fs.map Fd.z)] false (.v (.bool (fdsOk l fs))) [.dead, .dead] := by
  refine does_intro (mc := m229) (N := 46) (rs := [4]) (fx := []) 2 rfl (by decide +kernel) ?_
  simp only [m229, EV, Nat.reduceEqDiff, Nat.reduceBEq, Nat.reduceLT, Nat.reduceLeDiff, Nat.reduceAdd, Nat.reduceSub, reduceIte]
  refine awp_loop (fun i : Nat => i ≤ fs.length ∧ fdTo l fs i) (fun i => stl [(0, .fsl 6 (l.map Ty.z)), (1, .fsl 3 (fs.map Fd.z)), (7, .fsl 3 (fs.map Fd.z)), (8, .v (.int .i64 (fs.length : Int))), (9, .v (.int .i64 (i : Int)))]) (fun i => fs.length - i) 0 ⟨Nat.zero_le _, fun j hj h => absurd h (by omega)⟩ ?_ ?_
  · simp only [EV, Nat.reduceEqDiff, Nat.reduceBEq, Nat.reduceLT, Nat.reduceLeDiff, Nat.reduceAdd, Nat.reduceSub, reduceIte]
    rfl
  · rintro i ⟨hi, hok⟩
    simp only [EV, Nat.reduceEqDiff, Nat.reduceBEq, Nat.reduceLT, Nat.reduceLeDiff, Nat.reduceAdd, Nat.reduceSub, reduceIte]
    refine cK_cut (fun h => ?_) (fun h => ?_)
    · have h1 : i < fs.length := by simpa using h
      have h2 : (i : Int) < (fs.length : Int) := by omega
      have hso := hs fs[i] (List.getElem_mem h1)
      simp only [Fd.sm] at hso
      clear h
      have p9 : fdAt l fs i h1 = false → fdsOk l fs = false := fdsOk_no h1
      refine awp_join (fun _ : Unit => fdAt l fs i h1 = true) (fun _ => stl [(0, .fsl 6 (l.map Ty.z)), (1, .fsl 3 (fs.map Fd.z)), (7, .fsl 3 (fs.map Fd.z)), (8, .v (.int .i64 (fs.length : Int))), (9, .v (.int .i64 (i : Int)))]) ?_ ?_
      · simp only [FdE, nth_map h1, h2, Fd.z, EV, Nat.reduceEqDiff, Nat.reduceBEq, Nat.reduceLT, Nat.reduceLeDiff, Nat.reduceAdd, Nat.reduceSub, reduceIte]
        refine callK_i (d78 _ _ _) ?_
        simp only [EV, Nat.reduceEqDiff, Nat.reduceBEq, Nat.reduceLT, Nat.reduceLeDiff, Nat.reduceAdd, Nat.reduceSub, reduceIte]
        rcases e1 : (decide (0 ≤ fs[i].mark) && decide (fs[i].mark ≤ 2)) with _ | _
        · have e : fdsOk l fs = false := p9 (by simp only [fdAt, e1, Bool.false_and])
          simp only [EV, Nat.reduceEqDiff, Nat.reduceBEq, Nat.reduceLT, Nat.reduceLeDiff, Nat.reduceAdd, Nat.reduceSub, reduceIte]
          simp only [e, EV, Nat.reduceEqDiff, Nat.reduceBEq, Nat.reduceLT, Nat.reduceLeDiff, Nat.reduceAdd, Nat.reduceSub, reduceIte, evRE, retVC, cellV', evR, nfz, nfzs, nfzss, List.contains_nil, List.contains_cons, Bool.or_false, or_true]
        simp only [EV, Nat.reduceEqDiff, Nat.reduceBEq, Nat.reduceLT, Nat.reduceLeDiff, Nat.reduceAdd, Nat.reduceSub, reduceIte]
        refine callK_i (d61 l _ hl) ?_
        simp only [EV, Nat.reduceEqDiff, Nat.reduceBEq, Nat.reduceLT, Nat.reduceLeDiff, Nat.reduceAdd, Nat.reduceSub, reduceIte]
        rcases e2 : isNum l fs[i].typ with _ | _
        · have e : fdsOk l fs = false := p9 (by simp only [fdAt, e1, e2, Bool.true_and, Bool.false_and])
          simp only [EV, Nat.reduceEqDiff, Nat.reduceBEq, Nat.reduceLT, Nat.reduceLeDiff, Nat.reduceAdd, Nat.reduceSub, reduceIte]
          simp only [e, EV, Nat.reduceEqDiff, Nat.reduceBEq, Nat.reduceLT, Nat.reduceLeDiff, Nat.reduceAdd, Nat.reduceSub, reduceIte, evRE, retVC, cellV', evR, nfz, nfzs, nfzss, List.contains_nil, List.contains_cons, Bool.or_false, or_true]
        simp only [EV, Nat.reduceEqDiff, Nat.reduceBEq, Nat.reduceLT, Nat.reduceLeDiff, Nat.reduceAdd, Nat.reduceSub, reduceIte]
        have en : (fs[i].name.toList == (⟨#[]⟩ : ByteArray).toList) = nil' fs[i].name := rfl
        rw [en]
        rcases e3 : nil' fs[i].name with _ | _
        · simp only [EV, Nat.reduceEqDiff, Nat.reduceBEq, Nat.reduceLT, Nat.reduceLeDiff, Nat.reduceAdd, Nat.reduceSub, reduceIte]
          refine callK_i (d141 _ (by omega)) ?_
          simp only [EV, Nat.reduceEqDiff, Nat.reduceBEq, Nat.reduceLT, Nat.reduceLeDiff, Nat.reduceAdd, Nat.reduceSub, reduceIte]
          rcases e4 : nameOk fs[i].name with _ | _
          · have e : fdsOk l fs = false := p9 (by simp only [fdAt, e1, e2, e3, e4, Bool.true_and, Bool.false_and, Bool.false_eq_true, if_false])
            simp only [EV, Nat.reduceEqDiff, Nat.reduceBEq, Nat.reduceLT, Nat.reduceLeDiff, Nat.reduceAdd, Nat.reduceSub, reduceIte]
            simp only [e, EV, Nat.reduceEqDiff, Nat.reduceBEq, Nat.reduceLT, Nat.reduceLeDiff, Nat.reduceAdd, Nat.reduceSub, reduceIte, evRE, retVC, cellV', evR, nfz, nfzs, nfzss, List.contains_nil, List.contains_cons, Bool.or_false, or_true]
          simp only [FdE, nth_map h1, h2, Fd.z, EV, Nat.reduceEqDiff, Nat.reduceBEq, Nat.reduceLT, Nat.reduceLeDiff, Nat.reduceAdd, Nat.reduceSub, reduceIte]
          refine ⟨by omega, by omega, ?_⟩
          rw [← List.map_take]
          refine callK_i (d266 (fs.take i) (by simp; omega) 267 [.fptr fs[i].z] (fdNm fs[i]) rfl rfl (fun _ => rfl) (fun _ => rfl) (fun s _ => d267 s fs[i])) ?_
          simp only [EV, Nat.reduceEqDiff, Nat.reduceBEq, Nat.reduceLT, Nat.reduceLeDiff, Nat.reduceAdd, Nat.reduceSub, reduceIte]
          rcases e5 : (fs.take i).any (fdNm fs[i]) with _ | _
          · simp only [EV, Nat.reduceEqDiff, Nat.reduceBEq, Nat.reduceLT, Nat.reduceLeDiff, Nat.reduceAdd, Nat.reduceSub, reduceIte]
            exact ⟨(), by simp only [fdAt, e1, e2, e3, e4, e5, Bool.true_and, Bool.false_eq_true, if_false, Bool.not_false]⟩
          · have e : fdsOk l fs = false := p9 (by simp only [fdAt, e1, e2, e3, e4, e5, Bool.true_and, Bool.false_eq_true, if_false, Bool.not_true])
            simp only [EV, Nat.reduceEqDiff, Nat.reduceBEq, Nat.reduceLT, Nat.reduceLeDiff, Nat.reduceAdd, Nat.reduceSub, reduceIte]
            simp only [e, EV, Nat.reduceEqDiff, Nat.reduceBEq, Nat.reduceLT, Nat.reduceLeDiff, Nat.reduceAdd, Nat.reduceSub, reduceIte, evRE, retVC, cellV', evR, nfz, nfzs, nfzss, List.contains_nil, List.contains_cons, Bool.or_false, or_true]
        · simp only [EV, Nat.reduceEqDiff, Nat.reduceBEq, Nat.reduceLT, Nat.reduceLeDiff, Nat.reduceAdd, Nat.reduceSub, reduceIte]
          rcases e4 : (fs[i].mark == 0) with _ | _
          · have e : fdsOk l fs = false := p9 (by simp only [fdAt, e1, e2, e3, e4, Bool.true_and, if_true])
            simp only [bne, e4, EV, Nat.reduceEqDiff, Nat.reduceBEq, Nat.reduceLT, Nat.reduceLeDiff, Nat.reduceAdd, Nat.reduceSub, reduceIte]
            simp only [e, EV, Nat.reduceEqDiff, Nat.reduceBEq, Nat.reduceLT, Nat.reduceLeDiff, Nat.reduceAdd, Nat.reduceSub, reduceIte, evRE, retVC, cellV', evR, nfz, nfzs, nfzss, List.contains_nil, List.contains_cons, Bool.or_false, or_true]
          · simp only [bne, e4, EV, Nat.reduceEqDiff, Nat.reduceBEq, Nat.reduceLT, Nat.reduceLeDiff, Nat.reduceAdd, Nat.reduceSub, reduceIte]
            exact ⟨(), by simp only [fdAt, e1, e2, e3, e4, Bool.true_and, if_true]⟩
      · rintro _ hq
        simp only [EV, Nat.reduceEqDiff, Nat.reduceBEq, Nat.reduceLT, Nat.reduceLeDiff, Nat.reduceAdd, Nat.reduceSub, reduceIte]
        rw [w64 _ (by omega)]
        exact ⟨i + 1, ⟨h1, fdTo_succ h1 hok hq⟩, by omega, rfl⟩
    · have h1 : i = fs.length := by have : ¬ (i : Int) < fs.length := by simpa using h
                                    omega
      subst h1
      simp only [EV, Nat.reduceEqDiff, Nat.reduceBEq, Nat.reduceLT, Nat.reduceLeDiff, Nat.reduceAdd, Nat.reduceSub, reduceIte]
      simp only [fdsOk_yes hok, EV, Nat.reduceEqDiff, Nat.reduceBEq, Nat.reduceLT, Nat.reduceLeDiff, Nat.reduceAdd, Nat.reduceSub, reduceIte, evRE, retVC, cellV', evR, nfz, nfzs, nfzss, List.contains_nil, List.contains_cons, Bool.or_false, or_true]
end Go.AM
namespace Go.AM
set_option linter.unusedVariables false
set_option linter.unusedSimpArgs false
def eqSt (v : ByteArray) (x : Str) : Bool := v.toList == x.s.toList
def m208 : MC :=
 (.seq (.reg [Xb 4 (.asg (.i 0))]) (.seq (.seq (.reg [Xm 6 0, Xn 7 6, Xq 8 (.mov (.i 0))]) (.block 0 (.loop [0, 1, 7, 8] (.seq (.reg [Xq 9 (.bin false .lss (.t 8) (.t 7))]) (.seq (.cond (.t 9) .skip (.exit 0)) (.seq (.block 1 (.seq (.reg [Xm 10 8, Xa 5 10]) (.seq (.reg [Xm 11 1, Xm 12 0, Xm 13 5, Xi 14 1 12 13, Xl 15 1 14, Xq 16 (.bin false .eql (.t 11) (.t 15))]) (.cond (.t 16) (.seq (.reg [Xm 17
 5, Xa 4 17]) .ret) .skip)))) (.reg [Xq 18 (.bin false .add (.t 8) (.i 1)), Xm 8 18]))))))) (.seq (.reg [Xb 4 (.asg (.i (-1)))]) .ret)))
theorem d208 (l : List Str) (v : ByteArray) (hl : l.length < 9223372036854775807) : Does Go.Proofs.Tryz.prog 208 [.fsl 1 (l.map Str.z), .v (.string v)] false (.v (.int .i64 (findI (eqSt v) l))) [.dead, .dead] := by
  refine does_intro (mc := m208) (N := 19) (rs := [4]) (fx := []) 2 rfl (by decide +kernel) ?_
  simp only [m208, EV, Nat.reduceEqDiff, Nat.reduceBEq, Nat.reduceLT, Nat.reduceLeDiff, Nat.reduceAdd, Nat.reduceSub, reduceIte]
  refine awp_loop (fun i : Nat => i ≤ l.length ∧ ∀ j (hj : j < l.length), j < i → eqSt v l[j] = false) (fun i => stl [(0, .fsl 1 (l.map Str.z)), (1, .v (.string v)), (7, .v (.int .i64 (l.length : Int))), (8, .v (.int .i64 (i : Int)))]) (fun i => l.length - i) 0 ⟨Nat.zero_le _, fun j hj h => absurd h (by omega)⟩ ?_ ?_
  · simp only [EV, Nat.reduceEqDiff, Nat.reduceBEq, Nat.reduceLT, Nat.reduceLeDiff, Nat.reduceAdd, Nat.reduceSub, reduceIte]
    rfl
  · rintro i ⟨hi, hno⟩
    simp only [EV, Nat.reduceEqDiff, Nat.reduceBEq, Nat.reduceLT, Nat.reduceLeDiff, Nat.reduceAdd, Nat.reduceSub, reduceIte]
    refine cK_cut (fun h => ?_) (fun h => ?_)
    · have h1 : i < l.length := by simpa using h
      have h2 : (i : Int) < (l.length : Int) := by omega
      simp only [nth_map h1, h2, Str.z, Bool.true_xor, Bool.false_xor, EV, Nat.reduceEqDiff, Nat.reduceBEq, Nat.reduceLT, Nat.reduceLeDiff, Nat.reduceAdd, Nat.reduceSub, reduceIte]
      refine cK_cut (fun h => ?_) (fun h => ?_)
      · have hq : eqSt v l[i] = true := h
        simp only [EV, Nat.reduceEqDiff, Nat.reduceBEq, Nat.reduceLT, Nat.reduceLeDiff, Nat.reduceAdd, Nat.reduceSub, reduceIte]
        simp only [findI_at h1 hq hno, EV, Nat.reduceEqDiff, Nat.reduceBEq, Nat.reduceLT, Nat.reduceLeDiff, Nat.reduceAdd, Nat.reduceSub, reduceIte, evRE, retVC, cellV', evR, nfz, nfzs, nfzss, List.contains_nil, List.contains_cons, Bool.or_false, or_true]
      · have hq : eqSt v l[i] = false := h
        simp only [EV, Nat.reduceEqDiff, Nat.reduceBEq, Nat.reduceLT, Nat.reduceLeDiff, Nat.reduceAdd, Nat.reduceSub, reduceIte]
        rw [w64 _ (by omega)]
        refine ⟨i + 1, ⟨by omega, ?_⟩, by omega, rfl⟩
        intro j hj hji
        by_cases e : j = i
        · subst e; exact hq
        · exact hno j hj (by omega)
    · have h1 : i = l.length := by have : ¬ (i : Int) < l.length := by simpa using h
                                   omega
      subst h1
      simp only [EV, Nat.reduceEqDiff, Nat.reduceBEq, Nat.reduceLT, Nat.reduceLeDiff, Nat.reduceAdd, Nat.reduceSub, reduceIte]
      simp only [findI_no (fun j hj => hno j hj hj), EV, Nat.reduceEqDiff, Nat.reduceBEq, Nat.reduceLT, Nat.reduceLeDiff, Nat.reduceAdd, Nat.reduceSub, reduceIte, evRE, retVC, cellV', evR, nfz, nfzs, nfzss, List.contains_nil, List.contains_cons, Bool.or_false, or_true]
def m145 : MC :=
 (.seq (.reg [Xb 4 (.asg .fb)]) (.seq (.reg [Xm 5 0, Xm 6 1, Xb 7 (.call (.fn 208) false [.lend (.t 5), .lend (.t 6)]), Xq 8 (.bin false .geq (.t 7) (.i 0)), Xa 4 8]) .ret))
theorem d145 (l : List Str) (v : ByteArray) (hl : l.length < 9223372036854775807) : Does Go.Proofs.Tryz.prog 145 [.fsl 1 (l.map Str.z), .v (.string v)] false (.v (.bool (l.any (eqSt v)))) [.dead, .dead] := by
  refine does_intro (mc := m145) (N := 9) (rs := [4]) (fx := []) 2 rfl (by decide +kernel) ?_
  simp only [m145, EV, Nat.reduceEqDiff, Nat.reduceBEq, Nat.reduceLT, Nat.reduceLeDiff, Nat.reduceAdd, Nat.reduceSub, reduceIte]
  refine callK_i (d208 l v hl) ?_
  simp only [EV, Nat.reduceEqDiff, Nat.reduceBEq, Nat.reduceLT, Nat.reduceLeDiff, Nat.reduceAdd, Nat.reduceSub, reduceIte]
  simp only [findI_any, EV, Nat.reduceEqDiff, Nat.reduceBEq, Nat.reduceLT, Nat.reduceLeDiff, Nat.reduceAdd, Nat.reduceSub, reduceIte, evRE, retVC, cellV', evR, nfz, nfzs, nfzss, List.contains_nil, List.contains_cons, Bool.or_false, or_true]
def m143 : MC :=
 (.seq (.reg [Xb 2 (.asg (.nils 9 1))]) (.seq (.seq (.reg [Xm 3 0, Xq 4 (.isnil false (.t 3))]) (.cond (.t 4) (.seq (.reg [Xb 2 (.asg (.nils 9 1))]) .ret) .skip)) (.seq (.reg [Xb 5 (.bsl 9 1 []), Xm 6 0, Xb 7 (.app false 9 1 16 (.t 5) (.t 6)), Xa 2 7]) .ret)))
theorem d143 (l : List Str) (hl : (l.length : Int) ≤ 1048576) : Does Go.Proofs.Tryz.prog 143 [.fsl 1 (l.map Str.z)] false (.usl 9 1 (l.map Str.o)) [.dead] := by
  refine does_intro (mc := m143) (N := 8) (rs := [2]) (fx := []) 1 rfl (by decide +kernel) ?_
  simp only [m143, EV, Nat.reduceEqDiff, Nat.reduceBEq, Nat.reduceLT, Nat.reduceLeDiff, Nat.reduceAdd, Nat.reduceSub, reduceIte]
  refine ⟨fun h b => ?_, fun h => ⟨.inl trivial, by omega, by omega, ?_⟩⟩
  · have h0 : l = [] := by simpa using h
    subst h0
    cases b
    · simp only [List.map_nil, EV, Nat.reduceEqDiff, Nat.reduceBEq, Nat.reduceLT, Nat.reduceLeDiff, Nat.reduceAdd, Nat.reduceSub, reduceIte]
      refine ⟨.inl trivial, by omega, ?_⟩
      simp only [EV, Nat.reduceEqDiff, Nat.reduceBEq, Nat.reduceLT, Nat.reduceLeDiff, Nat.reduceAdd, Nat.reduceSub, reduceIte, evRE, retVC, cellV', evR, nfz, nfzs, nfzss, List.contains_nil, List.contains_cons, Bool.or_false, or_true]
    · simp only [List.map_nil, EV, Nat.reduceEqDiff, Nat.reduceBEq, Nat.reduceLT, Nat.reduceLeDiff, Nat.reduceAdd, Nat.reduceSub, reduceIte]
      simp only [EV, Nat.reduceEqDiff, Nat.reduceBEq, Nat.reduceLT, Nat.reduceLeDiff, Nat.reduceAdd, Nat.reduceSub, reduceIte, evRE, retVC, cellV', evR, nfz, nfzs, nfzss, List.contains_nil, List.contains_cons, Bool.or_false, or_true]
  · simp only [Str.nfz, EV, Nat.reduceEqDiff, Nat.reduceBEq, Nat.reduceLT, Nat.reduceLeDiff, Nat.reduceAdd, Nat.reduceSub, reduceIte, evRE, retVC, cellV', evR, nfz, nfzs, nfzss, List.contains_nil, List.contains_cons, Bool.or_false, or_true]
    rfl
def m209 : MC :=
 (.seq (.reg [Xb 3 (.box 155 (.t 1)), Xb 4 (.asg (.i 0))]) (.seq (.seq (.reg [Xm 6 0, Xn 7 6, Xq 8 (.mov (.i 0))]) (.block 0 (.loop [0, 3, 7, 8] (.seq (.reg [Xq 9 (.bin false .lss (.t 8) (.t 7))]) (.seq (.cond (.t 9) .skip (.exit 0)) (.seq (.block 1 (.seq (.reg [Xm 10 8, Xa 5 10]) (.seq (.dreg [XL 11 2 3, Xm 12 0, Xm 13 5, Xi 14 2 12 13, XL 15 2 14, Xq 16 (.eqa false [1, 1] (.t 11) (.t 15))])
 (.cond (.t 16) (.seq (.reg [Xm 17 5, Xa 4 17]) .ret) .skip)))) (.reg [Xq 18 (.bin false .add (.t 8) (.i 1)), Xm 8 18]))))))) (.seq (.reg [Xb 4 (.asg (.i (-1)))]) .ret)))
theorem d209 (l : List Us) (v : Us) (hl : l.length < 9223372036854775807) : Does Go.Proofs.Tryz.prog 209 [.fsl 2 (l.map Us.z), .agg v.z] false (.v (.int .i64 (findI (qUs v) l))) [.dead, .dead] := by
  refine does_intro (mc := m209) (N := 19) (rs := [4]) (fx := []) 2 rfl (by decide +kernel) ?_
  simp only [m209, UsE, EV, Nat.reduceEqDiff, Nat.reduceBEq, Nat.reduceLT, Nat.reduceLeDiff, Nat.reduceAdd, Nat.reduceSub, reduceIte]
  refine awp_loop (fun i : Nat => i ≤ l.length ∧ ∀ j (hj : j < l.length), j < i → qUs v l[j] = false) (fun i => stl [(0, .fsl 2 (l.map Us.z)), (3, .box 155 v.z), (7, .v (.int .i64 (l.length : Int))), (8, .v (.int .i64 (i : Int)))]) (fun i => l.length - i) 0 ⟨Nat.zero_le _, fun j hj h => absurd h (by omega)⟩ ?_ ?_
  · simp only [UsE, EV, Nat.reduceEqDiff, Nat.reduceBEq, Nat.reduceLT, Nat.reduceLeDiff, Nat.reduceAdd, Nat.reduceSub, reduceIte]
    rfl
  · rintro i ⟨hi, hno⟩
    simp only [EV, Nat.reduceEqDiff, Nat.reduceBEq, Nat.reduceLT, Nat.reduceLeDiff, Nat.reduceAdd, Nat.reduceSub, reduceIte]
    refine cK_cut (fun h => ?_) (fun h => ?_)
    · have h1 : i < l.length := by simpa using h
      have h2 : (i : Int) < (l.length : Int) := by omega
      simp only [nth_map h1, h2, Us.z, Bool.true_xor, Bool.false_xor, EV, Nat.reduceEqDiff, Nat.reduceBEq, Nat.reduceLT, Nat.reduceLeDiff, Nat.reduceAdd, Nat.reduceSub, reduceIte]
      refine cK_cut (fun h => ?_) (fun h => ?_)
      · have hq : qUs v l[i] = true := h
        simp only [EV, Nat.reduceEqDiff, Nat.reduceBEq, Nat.reduceLT, Nat.reduceLeDiff, Nat.reduceAdd, Nat.reduceSub, reduceIte]
        simp only [findI_at h1 hq hno, EV, Nat.reduceEqDiff, Nat.reduceBEq, Nat.reduceLT, Nat.reduceLeDiff, Nat.reduceAdd, Nat.reduceSub, reduceIte, evRE, retVC, cellV', evR, nfz, nfzs, nfzss, List.contains_nil, List.contains_cons, Bool.or_false, or_true]
      · have hq : qUs v l[i] = false := h
        simp only [EV, Nat.reduceEqDiff, Nat.reduceBEq, Nat.reduceLT, Nat.reduceLeDiff, Nat.reduceAdd, Nat.reduceSub, reduceIte]
        rw [w64 _ (by omega)]
        refine ⟨i + 1, ⟨by omega, ?_⟩, by omega, rfl⟩
        intro j hj hji
        by_cases e : j = i
        · subst e; exact hq
        · exact hno j hj (by omega)
    · have h1 : i = l.length := by have : ¬ (i : Int) < l.length := by simpa using h
                                   omega
      subst h1
      simp only [EV, Nat.reduceEqDiff, Nat.reduceBEq, Nat.reduceLT, Nat.reduceLeDiff, Nat.reduceAdd, Nat.reduceSub, reduceIte]
      simp only [findI_no (fun j hj => hno j hj hj), EV, Nat.reduceEqDiff, Nat.reduceBEq, Nat.reduceLT, Nat.reduceLeDiff, Nat.reduceAdd, Nat.reduceSub, reduceIte, evRE, retVC, cellV', evR, nfz, nfzs, nfzss, List.contains_nil, List.contains_cons, Bool.or_false, or_true]
def m146 : MC :=
 (.seq (.reg [Xb 3 (.box 155 (.t 1)), Xb 4 (.asg .fb)]) (.seq (.reg [Xm 5 0, XL 6 2 3, Xb 7 (.call (.fn 209) false [.lend (.t 5), .lend (.t 6)]), Xq 8 (.bin false .geq (.t 7) (.i 0)), Xa 4 8]) .ret))
theorem d146 (l : List Us) (v : Us) (hl : l.length < 9223372036854775807) : Does Go.Proofs.Tryz.prog 146 [.fsl 2 (l.map Us.z), .agg v.z] false (.v (.bool (l.any (qUs v)))) [.dead, .dead] := by
  refine does_intro (mc := m146) (N := 9) (rs := [4]) (fx := []) 2 rfl (by decide +kernel) ?_
  simp only [m146, UsE, EV, Nat.reduceEqDiff, Nat.reduceBEq, Nat.reduceLT, Nat.reduceLeDiff, Nat.reduceAdd, Nat.reduceSub, reduceIte]
  refine callK_i (d209 l v hl) ?_
  simp only [EV, Nat.reduceEqDiff, Nat.reduceBEq, Nat.reduceLT, Nat.reduceLeDiff, Nat.reduceAdd, Nat.reduceSub, reduceIte]
  simp only [findI_any, EV, Nat.reduceEqDiff, Nat.reduceBEq, Nat.reduceLT, Nat.reduceLeDiff, Nat.reduceAdd, Nat.reduceSub, reduceIte, evRE, retVC, cellV', evR, nfz, nfzs, nfzss, List.contains_nil, List.contains_cons, Bool.or_false, or_true]
def m237 : MC :=
 (.seq (.reg [Xb 4 (.asg (.i 0))]) (.seq (.seq (.reg [Xm 6 0, Xn 7 6, Xq 8 (.mov (.i 0))]) (.block 0 (.loop [0, 1, 7, 8] (.seq (.reg [Xq 9 (.bin false .lss (.t 8) (.t 7))]) (.seq (.cond (.t 9) .skip (.exit 0)) (.seq (.block 1 (.seq (.reg [Xm 10 8, Xa 5 10]) (.seq (.reg [Xm 11 1, Xm 12 0, Xm 13 5, Xi 14 3 12 13, XL 15 3 14, Xb 16 (.call (.t 11) false [.lend (.t 15)])]) (.cond (.t 16) (.seq (.reg [Xm
 17 5, Xa 4 17]) .ret) .skip)))) (.reg [Xq 18 (.bin false .add (.t 8) (.i 1)), Xm 8 18]))))))) (.seq (.reg [Xb 4 (.asg (.i (-1)))]) .ret)))
theorem d237 (l : List Par) (hl : l.length < 9223372036854775807) (f : Nat) (caps : List AV) (q : Par → Bool) (hp : plains caps = true) (hb : bares caps = true) (hk : ∀ K, killVs K caps = caps) (hf : ∀ (st : St), frzBs st caps = caps)
    (hq : ∀ s ∈ l, Does Go.Proofs.Tryz.prog f (.agg s.z :: caps) false (.v (.bool (q s))) (.dead :: caps.map fun _ => .dead)) :
    Does Go.Proofs.Tryz.prog 237 [.fsl 3 (l.map Par.z), .clo f caps] false (.v (.int .i64 (findI q l))) [.dead, .dead] := by
  refine does_intro (mc := m237) (N := 19) (rs := [4]) (fx := []) 2 rfl (by decide +kernel) ?_
  simp only [m237, EV, Nat.reduceEqDiff, Nat.reduceBEq, Nat.reduceLT, Nat.reduceLeDiff, Nat.reduceAdd, Nat.reduceSub, reduceIte]
  refine awp_loop (fun i : Nat => i ≤ l.length ∧ ∀ j (hj : j < l.length), j < i → q l[j] = false) (fun i => stl [(0, .fsl 3 (l.map Par.z)), (1, .clo f caps), (7, .v (.int .i64 (l.length : Int))), (8, .v (.int .i64 (i : Int)))]) (fun i => l.length - i) 0 ⟨Nat.zero_le _, fun j hj h => absurd h (by omega)⟩ ?_ ?_
  · simp only [hp, hb, hk, EV, Nat.reduceEqDiff, Nat.reduceBEq, Nat.reduceLT, Nat.reduceLeDiff, Nat.reduceAdd, Nat.reduceSub, reduceIte]
    rfl
  · rintro i ⟨hi, hno⟩
    simp only [EV, Nat.reduceEqDiff, Nat.reduceBEq, Nat.reduceLT, Nat.reduceLeDiff, Nat.reduceAdd, Nat.reduceSub, reduceIte]
    refine cK_cut (fun h => ?_) (fun h => ?_)
    · have h1 : i < l.length := by simpa using h
      have h2 : (i : Int) < (l.length : Int) := by omega
      simp only [ParE, nth_map h1, h2, hp, hb, EV, Nat.reduceEqDiff, Nat.reduceBEq, Nat.reduceLT, Nat.reduceLeDiff, Nat.reduceAdd, Nat.reduceSub, reduceIte]
      refine callK_i (hq l[i] (List.getElem_mem h1)) ?_
      simp only [EV, Nat.reduceEqDiff, Nat.reduceBEq, Nat.reduceLT, Nat.reduceLeDiff, Nat.reduceAdd, Nat.reduceSub, reduceIte]
      refine cK_cut (fun h => ?_) (fun h => ?_)
      · simp only [EV, Nat.reduceEqDiff, Nat.reduceBEq, Nat.reduceLT, Nat.reduceLeDiff, Nat.reduceAdd, Nat.reduceSub, reduceIte]
        simp only [findI_at h1 h hno, EV, Nat.reduceEqDiff, Nat.reduceBEq, Nat.reduceLT, Nat.reduceLeDiff, Nat.reduceAdd, Nat.reduceSub, reduceIte, evRE, retVC, cellV', evR, nfz, nfzs, nfzss, List.contains_nil, List.contains_cons, Bool.or_false, or_true]
      · simp only [hp, hb, hk, EV, Nat.reduceEqDiff, Nat.reduceBEq, Nat.reduceLT, Nat.reduceLeDiff, Nat.reduceAdd, Nat.reduceSub, reduceIte]
        rw [w64 _ (by omega)]
        refine ⟨i + 1, ⟨by omega, ?_⟩, by omega, rfl⟩
        intro j hj hji
        by_cases e : j = i
        · subst e; exact h
        · exact hno j hj (by omega)
    · have h1 : i = l.length := by have : ¬ (i : Int) < l.length := by simpa using h
                                   omega
      subst h1
      simp only [EV, Nat.reduceEqDiff, Nat.reduceBEq, Nat.reduceLT, Nat.reduceLeDiff, Nat.reduceAdd, Nat.reduceSub, reduceIte]
      simp only [findI_no (fun j hj => hno j hj hj), EV, Nat.reduceEqDiff, Nat.reduceBEq, Nat.reduceLT, Nat.reduceLeDiff, Nat.reduceAdd, Nat.reduceSub, reduceIte, evRE, retVC, cellV', evR, nfz, nfzs, nfzss, List.contains_nil, List.contains_cons, Bool.or_false, or_true]
def m205 : MC :=
 (.seq (.reg [Xb 4 (.asg .fb)]) (.seq (.reg [Xm 5 0, Xm 6 1, Xb 7 (.call (.fn 237) false [.lend (.t 5), .lend (.t 6)]), Xq 8 (.bin false .geq (.t 7) (.i 0)), Xa 4 8]) .ret))
theorem d205 (l : List Par) (hl : l.length < 9223372036854775807) (f : Nat) (caps : List AV) (q : Par → Bool) (hp : plains caps = true) (hb : bares caps = true) (hk : ∀ K, killVs K caps = caps) (hf : ∀ (st : St), frzBs st caps = caps)
    (hq : ∀ s ∈ l, Does Go.Proofs.Tryz.prog f (.agg s.z :: caps) false (.v (.bool (q s))) (.dead :: caps.map fun _ => .dead)) :
    Does Go.Proofs.Tryz.prog 205 [.fsl 3 (l.map Par.z), .clo f caps] false (.v (.bool (l.any q))) [.dead, .dead] := by
  refine does_intro (mc := m205) (N := 9) (rs := [4]) (fx := []) 2 rfl (by decide +kernel) ?_
  simp only [m205, hp, hb, hk, hf, EV, Nat.reduceEqDiff, Nat.reduceBEq, Nat.reduceLT, Nat.reduceLeDiff, Nat.reduceAdd, Nat.reduceSub, reduceIte]
  refine callK_i (d237 l hl f caps q hp hb hk hf hq) ?_
  simp only [EV, Nat.reduceEqDiff, Nat.reduceBEq, Nat.reduceLT, Nat.reduceLeDiff, Nat.reduceAdd, Nat.reduceSub, reduceIte]
  simp only [findI_any, EV, Nat.reduceEqDiff, Nat.reduceBEq, Nat.reduceLT, Nat.reduceLeDiff, Nat.reduceAdd, Nat.reduceSub, reduceIte, evRE, retVC, cellV', evR, nfz, nfzs, nfzss, List.contains_nil, List.contains_cons, Bool.or_false, or_true]
end Go.AM
namespace Go.AM
set_option linter.unusedVariables false
set_option linter.unusedSimpArgs false
theorem fdNm_comm (x o : Fd) : (x.name.toList == o.name.toList) = fdNm x o := by
  unfold fdNm
  rw [Bool.beq_comm]
theorem any_take {α : Type} {q : α → Bool} {l : List α} {k : Nat} (h : k < l.length) (h1 : (l.take k).any q = false) (h2 : q l[k] = false) : (l.take (k + 1)).any q = false := by
  rw [List.take_succ_eq_append_getElem h, List.any_append, h1]
  simp [h2]
theorem any_at {α : Type} {q : α → Bool} {l : List α} {k : Nat} (h : k < l.length) (h2 : q l[k] = true) : l.any q = true := by
  rw [List.any_eq_true]; exact ⟨l[k], List.getElem_mem h, h2⟩
theorem fdAt_no {l : List Ty} {fs : List Fd} {i : Nat} {h : i < fs.length} (g : (nameOk fs[i].name = false ∧ nil' fs[i].name = false) ∨ (nil' fs[i].name = true ∧ (fs[i].mark == 0) = false) ∨ (decide (0 ≤ fs[i].mark) && decide (fs[i].mark ≤ 2)) = false ∨ isNum l fs[i].typ = false) : fdAt l fs i h = false := by
  unfold fdAt
  rcases g with ⟨g, g2⟩ | ⟨g, g2⟩ | g | g
  · simp only [g, g2, Bool.false_eq_true, if_false, Bool.false_and, Bool.and_false]
  · simp only [g, g2, if_true, Bool.and_false]
  · simp only [g, Bool.false_and]
  · simp only [g, Bool.false_and, Bool.and_false]
def m233 : MC :=
 (.seq (.reg [Xb 4 (.asg .fb)]) (.seq (.seq (.reg [Xm 9 1, Xn 10 9, Xq 11 (.mov (.i 0))]) (.block 0 (.loop [0, 1, 9, 10, 11] (.seq (.reg [Xq 12 (.bin false .lss (.t 11) (.t 10))]) (.seq (.cond (.t 12) .skip (.exit 0)) (.seq (.block 1 (.seq (.reg [Xm 13 11, Xi 14 3 9 11, XL 15 3 14, Xb 6 (.alloc 97 [.z, .i, .i]), Xa 5 13, Xz (.store 3 (.t 6) (.t 15))]) (.seq (.seq (.reg [Xf 16 0 6, Xl 17 1 16, Xb 18
 (.call (.fn 148) false [.lend (.t 17)]), Xq 19 (.un .not (.t 18)), Xm 20 19, Xt 21 20 (.fad 0 (.t 6)), Xt 22 20 (.load false 1 (.t 21)), Xt 23 20 (.bin false .neq (.t 22) (.z #[])), Xt 24 20 (.mov (.t 23)), Xu 25 24 (.fad 1 (.t 6)), Xu 26 24 (.load false 1 (.t 25)), Xu 27 24 (.bin false .neq (.t 26) (.i 0)), Xt 28 20 (.pick (.t 24) .tb (.t 27)), Xq 29 (.pick (.t 20) (.t 28) .fb), Xm 30 29, Xu 31
 30 (.fad 1 (.t 6)), Xu 32 30 (.load false 1 (.t 31)), XU 33 30 (.call (.fn 72) false [.lend (.t 32), .lend (.i 0), .lend (.i 2)]), Xu 34 30 (.un .not (.t 33)), Xq 35 (.pick (.t 30) .tb (.t 34)), Xm 36 35, Xu 37 36 (.fad 2 (.t 6)), Xu 38 36 (.load false 1 (.t 37)), Xu 39 36 (.mov (.t 0)), Xu 40 36 (.len false (.t 39)), Xu 41 36 (.bin false .sub (.t 40) (.i 1)), XU 42 36 (.call (.fn 72) false [.lend
 (.t 38), .lend (.i 0), .lend (.t 41)]), Xu 43 36 (.un .not (.t 42)), Xq 44 (.pick (.t 36) .tb (.t 43))]) (.cond (.t 44) (.seq (.reg [Xb 4 (.asg .fb)]) .ret) .skip)) (.seq (.reg [Xm 45 1, Xm 46 5, Xq 47 (.slc false 3 (.t 45) none (some (.t 46))), Xn 48 47, Xq 49 (.mov (.i 0))]) (.block 2 (.loop [0, 1, 6, 9, 10, 11, 45, 46, 47, 48, 49] (.seq (.reg [Xq 50 (.bin false .lss (.t 49) (.t 48))]) (.seq
 (.cond (.t 50) .skip (.exit 2)) (.seq (.block 3 (.seq (.reg [Xi 51 3 47 49, XL 52 3 51, Xb 8 (.alloc 97 [.z, .i, .i]), Xz (.store 3 (.t 8) (.t 52))]) (.seq (.reg [Xf 53 0 6, Xl 54 1 53, Xq 55 (.bin false .neq (.t 54) (.z #[])), Xm 56 55, Xt 57 56 (.fad 0 (.t 6)), Xt 58 56 (.load false 1 (.t 57)), Xt 59 56 (.fad 0 (.t 8)), Xt 60 56 (.load false 1 (.t 59)), Xt 61 56 (.bin false .eql (.t 58) (.t
 60)), Xq 62 (.pick (.t 56) (.t 61) .fb)]) (.cond (.t 62) (.seq (.reg [Xb 4 (.asg .fb)]) .ret) .skip)))) (.reg [Xq 63 (.bin false .add (.t 49) (.i 1)), Xm 49 63])))))))))) (.reg [Xq 64 (.bin false .add (.t 11) (.i 1)), Xm 11 64]))))))) (.seq (.reg [Xm 65 1, Xn 66 65, Xq 67 (.bin false .leq (.t 66) (.i 6)), Xa 4 67]) .ret)))
set_option maxHeartbeats 1000000 in
set_option maxRecDepth 100000 in
theorem d233 (l : List Ty) (fs : List Fd) (hl : (l.length : Int) ≤ 1048576) (hf : (fs.length : Int) ≤ 1048576) (hs : ∀ s ∈ fs, s.sm) :
    Does Go.Proofs.Tryz.prog 233 [.fsl 6 (l.map Ty.z), .fsl 3 (fs.map Fd.z)] false (.v (.bool (fdsOk l fs))) [.dead, .dead] := by
  refine does_intro (mc := m233) (N := 68) (rs := [4]) (fx := []) 2 rfl (by decide +kernel) ?_
  simp only [m233, EV, Nat.reduceEqDiff, Nat.reduceBEq, Nat.reduceLT, Nat.reduceLeDiff, Nat.reduceAdd, Nat.reduceSub, reduceIte]
  refine awp_loop (fun i : Nat => i ≤ fs.length ∧ fdTo l fs i) (fun i => stl [(0, .fsl 6 (l.map Ty.z)), (1, .fsl 3 (fs.map Fd.z)), (9, .fsl 3 (fs.map Fd.z)), (10, .v (.int .i64 (fs.length : Int))), (11, .v (.int .i64 (i : Int)))]) (fun i => fs.length - i) 0 ⟨Nat.zero_le _, fun j hj h => absurd h (by omega)⟩ ?_ ?_
  · simp only [EV, Nat.reduceEqDiff, Nat.reduceBEq, Nat.reduceLT, Nat.reduceLeDiff, Nat.reduceAdd, Nat.reduceSub, reduceIte]
    rfl
  · rintro i ⟨hi, hok⟩
    simp only [EV, Nat.reduceEqDiff, Nat.reduceBEq, Nat.reduceLT, Nat.reduceLeDiff, Nat.reduceAdd, Nat.reduceSub, reduceIte]
    refine cK_cut (fun h => ?_) (fun h => ?_)
    · have h1 : i < fs.length := by simpa using h
      have h2 : (i : Int) < (fs.length : Int) := by omega
      have hso := hs fs[i] (List.getElem_mem h1)
      simp only [Fd.sm] at hso
      clear h
      have p9 : fdAt l fs i h1 = false → fdsOk l fs = false := fdsOk_no h1
      have ht : (fs.take i).length = i := by simp; omega
      have en : (fs[i].name.toList == (⟨#[]⟩ : ByteArray).toList) = nil' fs[i].name := rfl
      have eb : (fs[i].name.toList != (⟨#[]⟩ : ByteArray).toList) = !nil' fs[i].name := rfl
      have rest : nameOk fs[i].name = true ∨ (nil' fs[i].name = true ∧ (fs[i].mark == 0) = true) → (decide (0 ≤ fs[i].mark) && decide (fs[i].mark ≤ 2)) = true → isNum l fs[i].typ = true →
          (nil' fs[i].name = true ∨ (fs.take i).any (fdNm fs[i]) = false) → fdAt l fs i h1 = true := by
        intro q1 q2 q3 q4
        simp only [fdAt, q2, q3, Bool.true_and]
        rcases e3 : nil' fs[i].name with _ | _
        · rw [e3] at q1 q4
          simp only [Bool.false_eq_true, false_and, false_or, or_false] at q1 q4
          simp only [Bool.false_eq_true, if_false, q1, q4, Bool.not_false, Bool.and_self]
        · have := nil_name e3
          rw [this] at q1
          simp only [Bool.false_eq_true, false_or] at q1
          simp only [if_true, q1.2]
      simp only [FdE, nth_map h1, h2, Fd.z, EV, Nat.reduceEqDiff, Nat.reduceBEq, Nat.reduceLT, Nat.reduceLeDiff, Nat.reduceAdd, Nat.reduceSub, reduceIte]
      refine callK_i (d148 _ (by omega)) ?_
      simp only [eb, EV, Nat.reduceEqDiff, Nat.reduceBEq, Nat.reduceLT, Nat.reduceLeDiff, Nat.reduceAdd, Nat.reduceSub, reduceIte]
      have hw : IntKind.i64.wrap ((l.length : Int) - 1) = (l.length : Int) - 1 := w64 _ (by omega)
      repeat' (first
    | (refine gK_cut (fun h => ?_) (fun h => ?_) <;> simp only [h, eb, hw, EV, Nat.reduceEqDiff, Nat.reduceBEq, Nat.reduceLT, Nat.reduceLeDiff, Nat.reduceAdd, Nat.reduceSub, reduceIte])
    | (refine cK_cut (fun h => ?_) (fun h => ?_) <;> simp only [h, eb, hw, EV, Nat.reduceEqDiff, Nat.reduceBEq, Nat.reduceLT, Nat.reduceLeDiff, Nat.reduceAdd, Nat.reduceSub, reduceIte])
    | (refine callK_i (d72 _ _ _) ?_ <;> simp only [h, eb, hw, EV, Nat.reduceEqDiff, Nat.reduceBEq, Nat.reduceLT, Nat.reduceLeDiff, Nat.reduceAdd, Nat.reduceSub, reduceIte]))
      all_goals simp only [en, bne, Bool.not_eq_true', Bool.not_eq_false'] at *
      all_goals first
        | (have e : fdsOk l fs = false := p9 (fdAt_no (by
             first
               | (left; exact ⟨by assumption, by assumption⟩)
               | (right; left; exact ⟨by assumption, by assumption⟩)
               | (right; right; left; assumption)
               | (right; right; right; unfold isNum; assumption)))
           simp only [e, EV, Nat.reduceEqDiff, Nat.reduceBEq, Nat.reduceLT, Nat.reduceLeDiff, Nat.reduceAdd, Nat.reduceSub, reduceIte, evRE, retVC, cellV', evR, nfz, nfzs, nfzss, List.contains_nil, List.contains_cons, Bool.or_false, or_true]
           done)
        | skip
      all_goals refine ⟨by omega, by omega, ?_⟩
      all_goals have q1 : nameOk fs[i].name = true ∨ (nil' fs[i].name = true ∧ (fs[i].mark == 0) = true) := (by first | exact Or.inl (by assumption) | exact Or.inr ⟨by assumption, by assumption⟩)
      all_goals have q2 : (decide (0 ≤ fs[i].mark) && decide (fs[i].mark ≤ 2)) = true := by assumption
      all_goals have q3 : isNum l fs[i].typ = true := by unfold isNum; assumption
      all_goals have q9 := rest q1 q2 q3
      all_goals clear rest q1 q2 q3
      all_goals simp only [← List.map_take]
      all_goals refine awp_loop (fun k : Nat => k ≤ i ∧ (nil' fs[i].name = true ∨ ((fs.take i).take k).any (fdNm fs[i]) = false)) (fun k => stl [(0, .fsl 6 (l.map Ty.z)), (1, .fsl 3 (fs.map Fd.z)), (6, .box 97 fs[i].z), (9, .fsl 3 (fs.map Fd.z)), (10, .v (.int .i64 (fs.length : Int))), (11, .v (.int .i64 (i : Int))), (45, .fsl 3 (fs.map Fd.z)), (46, .v (.int .i64 (i : Int))), (47, .fsl 3 ((fs.take i).map Fd.z)), (48, .v (.int .i64 (i : Int))), (49, .v (.int .i64 (k : Int)))]) (fun k => i - k) 0 ⟨Nat.zero_le _, by simp⟩ ?_ ?_
      all_goals first
        | (simp only [Fd.z, EV, Nat.reduceEqDiff, Nat.reduceBEq, Nat.reduceLT, Nat.reduceLeDiff, Nat.reduceAdd, Nat.reduceSub, reduceIte]
           rw [ht]
           rfl)
        | skip
      all_goals rintro k ⟨hk, hno⟩
      all_goals simp only [Fd.z, EV, Nat.reduceEqDiff, Nat.reduceBEq, Nat.reduceLT, Nat.reduceLeDiff, Nat.reduceAdd, Nat.reduceSub, reduceIte]
      · refine cK_cut (fun h => ?_) (fun h => ?_)
        · have k3 : k < i := by have : (k : Int) < i := by simpa using h
                                omega
          have k1 : k < (fs.take i).length := by rw [ht]; exact k3
          have k2 : (k : Int) < i := by omega
          clear h
          simp only [FdE, nth_map k1, k2, k3, ht, Fd.z, EV, Nat.reduceEqDiff, Nat.reduceBEq, Nat.reduceLT, Nat.reduceLeDiff, Nat.reduceAdd, Nat.reduceSub, reduceIte]
          refine gK_cut (fun h => ?_) (fun h => ?_)
          · have e3 : nil' fs[i].name = false := by unfold nil'; simpa [bne] using h
            have hno' : ((fs.take i).take k).any (fdNm fs[i]) = false := by
              rcases hno with hno | hno
              · rw [e3] at hno; cases hno
              · exact hno
            simp only [h, FdE, nth_map k1, k2, k3, ht, Fd.z, EV, Nat.reduceEqDiff, Nat.reduceBEq, Nat.reduceLT, Nat.reduceLeDiff, Nat.reduceAdd, Nat.reduceSub, reduceIte]
            rw [fdNm_comm]
            rcases e5 : fdNm fs[i] (fs.take i)[k] with _ | _
            · simp only [EV, Nat.reduceEqDiff, Nat.reduceBEq, Nat.reduceLT, Nat.reduceLeDiff, Nat.reduceAdd, Nat.reduceSub, reduceIte]
              rw [w64 _ (by omega)]
              exact ⟨k + 1, ⟨k3, Or.inr (any_take k1 hno' e5)⟩, by omega, rfl⟩
            · have e4 := any_at k1 e5
              have e : fdsOk l fs = false := p9 (by
                unfold fdAt
                rw [e3, e4]
                simp only [Bool.false_eq_true, if_false, Bool.not_true, Bool.and_false])
              simp only [EV, Nat.reduceEqDiff, Nat.reduceBEq, Nat.reduceLT, Nat.reduceLeDiff, Nat.reduceAdd, Nat.reduceSub, reduceIte]
              simp only [e, EV, Nat.reduceEqDiff, Nat.reduceBEq, Nat.reduceLT, Nat.reduceLeDiff, Nat.reduceAdd, Nat.reduceSub, reduceIte, evRE, retVC, cellV', evR, nfz, nfzs, nfzss, List.contains_nil, List.contains_cons, Bool.or_false, or_true]
          · have e3 : nil' fs[i].name = true := by unfold nil'; simpa [bne] using h
            simp only [h, EV, Nat.reduceEqDiff, Nat.reduceBEq, Nat.reduceLT, Nat.reduceLeDiff, Nat.reduceAdd, Nat.reduceSub, reduceIte]
            rw [w64 _ (by omega)]
            exact ⟨k + 1, ⟨k3, Or.inl e3⟩, by omega, rfl⟩
        · have k1 : k = i := by have : ¬ (k : Int) < i := by simpa using h
                                omega
          subst k1
          have hq : fdAt l fs k h1 = true := q9 (by
            rcases hno with hno | hno
            · exact Or.inl hno
            · rw [List.take_take, Nat.min_self] at hno
              exact Or.inr hno)
          simp only [EV, Nat.reduceEqDiff, Nat.reduceBEq, Nat.reduceLT, Nat.reduceLeDiff, Nat.reduceAdd, Nat.reduceSub, reduceIte]
          rw [w64 _ (by omega)]
          exact ⟨k + 1, ⟨h1, fdTo_succ h1 hok hq⟩, by omega, rfl⟩
      · refine cK_cut (fun h => ?_) (fun h => ?_)
        · have k3 : k < i := by have : (k : Int) < i := by simpa using h
                                omega
          have k1 : k < (fs.take i).length := by rw [ht]; exact k3
          have k2 : (k : Int) < i := by omega
          clear h
          simp only [FdE, nth_map k1, k2, k3, ht, Fd.z, EV, Nat.reduceEqDiff, Nat.reduceBEq, Nat.reduceLT, Nat.reduceLeDiff, Nat.reduceAdd, Nat.reduceSub, reduceIte]
          refine gK_cut (fun h => ?_) (fun h => ?_)
          · have e3 : nil' fs[i].name = false := by unfold nil'; simpa [bne] using h
            have hno' : ((fs.take i).take k).any (fdNm fs[i]) = false := by
              rcases hno with hno | hno
              · rw [e3] at hno; cases hno
              · exact hno
            simp only [h, FdE, nth_map k1, k2, k3, ht, Fd.z, EV, Nat.reduceEqDiff, Nat.reduceBEq, Nat.reduceLT, Nat.reduceLeDiff, Nat.reduceAdd, Nat.reduceSub, reduceIte]
            rw [fdNm_comm]
            rcases e5 : fdNm fs[i] (fs.take i)[k] with _ | _
            · simp only [EV, Nat.reduceEqDiff, Nat.reduceBEq, Nat.reduceLT, Nat.reduceLeDiff, Nat.reduceAdd, Nat.reduceSub, reduceIte]
              rw [w64 _ (by omega)]
              exact ⟨k + 1, ⟨k3, Or.inr (any_take k1 hno' e5)⟩, by omega, rfl⟩
            · have e4 := any_at k1 e5
              have e : fdsOk l fs = false := p9 (by
                unfold fdAt
                rw [e3, e4]
                simp only [Bool.false_eq_true, if_false, Bool.not_true, Bool.and_false])
              simp only [EV, Nat.reduceEqDiff, Nat.reduceBEq, Nat.reduceLT, Nat.reduceLeDiff, Nat.reduceAdd, Nat.reduceSub, reduceIte]
              simp only [e, EV, Nat.reduceEqDiff, Nat.reduceBEq, Nat.reduceLT, Nat.reduceLeDiff, Nat.reduceAdd, Nat.reduceSub, reduceIte, evRE, retVC, cellV', evR, nfz, nfzs, nfzss, List.contains_nil, List.contains_cons, Bool.or_false, or_true]
          · have e3 : nil' fs[i].name = true := by unfold nil'; simpa [bne] using h
            simp only [h, EV, Nat.reduceEqDiff, Nat.reduceBEq, Nat.reduceLT, Nat.reduceLeDiff, Nat.reduceAdd, Nat.reduceSub, reduceIte]
            rw [w64 _ (by omega)]
            exact ⟨k + 1, ⟨k3, Or.inl e3⟩, by omega, rfl⟩
        · have k1 : k = i := by have : ¬ (k : Int) < i := by simpa using h
                                omega
          subst k1
          have hq : fdAt l fs k h1 = true := q9 (by
            rcases hno with hno | hno
            · exact Or.inl hno
            · rw [List.take_take, Nat.min_self] at hno
              exact Or.inr hno)
          simp only [EV, Nat.reduceEqDiff, Nat.reduceBEq, Nat.reduceLT, Nat.reduceLeDiff, Nat.reduceAdd, Nat.reduceSub, reduceIte]
          rw [w64 _ (by omega)]
          exact ⟨k + 1, ⟨h1, fdTo_succ h1 hok hq⟩, by omega, rfl⟩
    · have h1 : i = fs.length := by have : ¬ (i : Int) < fs.length := by simpa using h
                                    omega
      subst h1
      simp only [EV, Nat.reduceEqDiff, Nat.reduceBEq, Nat.reduceLT, Nat.reduceLeDiff, Nat.reduceAdd, Nat.reduceSub, reduceIte]
      simp only [fdsOk_yes hok, EV, Nat.reduceEqDiff, Nat.reduceBEq, Nat.reduceLT, Nat.reduceLeDiff, Nat.reduceAdd, Nat.reduceSub, reduceIte, evRE, retVC, cellV', evR, nfz, nfzs, nfzss, List.contains_nil, List.contains_cons, Bool.or_false, or_true]
end Go.AM
namespace Go.AM
set_option linter.unusedVariables false
set_option linter.unusedSimpArgs false
noncomputable def tyOk (l : List Ty) (t : Ty) : Bool :=
  named t && (!((!(t.kind == 5)) && decide (0 < (t.fields.length : Int))) &&
  (if (t.kind == 4) = true then (decide (1 ≤ t.long) && decide (t.long ≤ 1000)) && isNum l t.base
  else if (t.kind == 5) = true then ((t.long == 0) && ((t.base == -1) || isRec l t.base)) && fdsOk l t.fields
  else if (t.kind == 6) = true then (t.long == 0) && (isRec l t.base || (isNum l t.base && kd l t.base == 4))
  else false))
def m189 : MC :=
 (.seq (.reg [Xb 3 (.box 40 (.t 1)), Xb 4 (.asg .fb)]) (.seq (.seq (.reg [XL 5 6 3, Xb 6 (.call (.fn 228) false [.lend (.t 5)]), Xq 7 (.un .not (.t 6)), Xm 8 7, Xu 9 8 (.fad 0 (.t 3)), Xu 10 8 (.load false 1 (.t 9)), Xu 11 8 (.bin false .neq (.t 10) (.i 5)), Xu 12 8 (.mov (.t 11)), Xt 13 12 (.fad 3 (.t 3)), Xt 14 12 (.load false 1 (.t 13)), Xt 15 12 (.len false (.t 14)), Xt 16 12 (.bin false .gtr
 (.t 15) (.i 0)), Xu 17 8 (.pick (.t 12) (.t 16) .fb), Xq 18 (.pick (.t 8) .tb (.t 17))]) (.cond (.t 18) (.seq (.reg [Xb 4 (.asg .fb)]) .ret) .skip)) (.seq (.seq (.reg [Xf 19 0 3, Xl 20 1 19]) (.block 0 (.seq (.reg [Xq 22 (.bin false .eql (.t 20) (.i 4)), Xa 21 22]) (.cond (.t 21) (.seq (.reg [Xf 23 1 3, Xl 24 1 23, Xb 25 (.call (.fn 78) false [.lend (.t 24), .lend (.i 1), .lend (.i 1000)]), Xm 26
 25, Xt 27 26 (.mov (.t 0)), Xt 28 26 (.fad 2 (.t 3)), Xt 29 26 (.load false 1 (.t 28)), XT 30 26 (.call (.fn 61) false [.lend (.t 27), .lend (.t 29)]), Xq 31 (.pick (.t 26) (.t 30) .fb), Xa 4 31]) .ret) (.seq (.reg [Xq 33 (.bin false .eql (.t 20) (.i 5)), Xa 32 33]) (.cond (.t 32) (.seq (.reg [Xf 34 1 3, Xl 35 1 34, Xq 36 (.bin false .eql (.t 35) (.i 0)), Xm 37 36, Xt 38 37 (.fad 2 (.t 3)), Xt 39
 37 (.load false 1 (.t 38)), Xt 40 37 (.bin false .eql (.t 39) (.i (-1))), Xt 41 37 (.mov (.t 40)), Xu 42 41 (.mov (.t 0)), Xu 43 41 (.fad 2 (.t 3)), Xu 44 41 (.load false 1 (.t 43)), XU 45 41 (.call (.fn 56) false [.lend (.t 42), .lend (.t 44)]), Xt 46 37 (.pick (.t 41) .tb (.t 45)), Xq 47 (.pick (.t 37) (.t 46) .fb), Xm 48 47, Xt 49 48 (.mov (.t 0)), Xt 50 48 (.fad 3 (.t 3)), Xt 51 48 (.load
 false 1 (.t 50)), XT 52 48 (.call (.fn 229) false [.lend (.t 49), .lend (.t 51)]), Xq 53 (.pick (.t 48) (.t 52) .fb), Xa 4 53]) .ret) (.seq (.reg [Xq 55 (.bin false .eql (.t 20) (.i 6)), Xa 54 55]) (.cond (.t 54) (.seq (.reg [Xf 56 1 3, Xl 57 1 56, Xq 58 (.bin false .eql (.t 57) (.i 0)), Xm 59 58, Xt 60 59 (.mov (.t 0)), Xt 61 59 (.fad 2 (.t 3)), Xt 62 59 (.load false 1 (.t 61)), XT 63 59 (.call
 (.fn 56) false [.lend (.t 60), .lend (.t 62)]), Xt 64 59 (.mov (.t 63)), Xu 65 64 (.mov (.t 0)), Xu 66 64 (.fad 2 (.t 3)), Xu 67 64 (.load false 1 (.t 66)), XU 68 64 (.call (.fn 61) false [.lend (.t 65), .lend (.t 67)]), Xu 69 64 (.mov (.t 68)), Xt 70 69 (.mov (.t 0)), Xt 71 69 (.fad 2 (.t 3)), Xt 72 69 (.load false 1 (.t 71)), Xt 73 69 (.iad 6 (.t 70) (.t 72)), Xt 74 69 (.fad 0 (.t 73)), Xt 75 69
 (.load false 1 (.t 74)), Xt 76 69 (.bin false .eql (.t 75) (.i 4)), Xu 77 64 (.pick (.t 69) (.t 76) .fb), Xt 78 59 (.pick (.t 64) .tb (.t 77)), Xq 79 (.pick (.t 59) (.t 78) .fb), Xa 4 79]) .ret) .skip)))))))) (.seq (.reg [Xb 4 (.asg .fb)]) .ret))))
set_option maxHeartbeats 1000000 in
set_option maxRecDepth 100000 in
theorem d189 (l : List Ty) (t : Ty) (hl : (l.length : Int) ≤ 1048576) (ht : t.sm) :
    Does Go.Proofs.Tryz.prog 189 [.fsl 6 (l.map Ty.z), .agg t.z] false (.v (.bool (tyOk l t))) [.dead, .dead] := by
  have ht0 := ht
  unfold Ty.sm at ht
  have d7 := d229 l t.fields hl ht.2.2.2.1.1 ht.2.2.2.1.2
  have d6 := d228 t ht0
  have hz : t.z = [.v (.int .i64 t.kind), .v (.int .i64 t.long), .v (.int .i64 t.base), .fsl 3 (t.fields.map Fd.z), .v (.string t.owner), .v (.string t.name)] := rfl
  rw [hz] at d6
  refine does_intro (mc := m189) (N := 80) (rs := [4]) (fx := []) 2 rfl (by decide +kernel) ?_
  simp only [m189, hz, EV, Nat.reduceEqDiff, Nat.reduceBEq, Nat.reduceLT, Nat.reduceLeDiff, Nat.reduceAdd, Nat.reduceSub, reduceIte]
  refine callK_i d6 ?_
  simp only [EV, Nat.reduceEqDiff, Nat.reduceBEq, Nat.reduceLT, Nat.reduceLeDiff, Nat.reduceAdd, Nat.reduceSub, reduceIte]
  repeat' (first
    | (refine gK_cut (fun h => ?_) (fun h => ?_) <;> simp only [h, bne, EV, Nat.reduceEqDiff, Nat.reduceBEq, Nat.reduceLT, Nat.reduceLeDiff, Nat.reduceAdd, Nat.reduceSub, reduceIte])
    | (refine cK_cut (fun h => ?_) (fun h => ?_) <;> simp only [h, bne, EV, Nat.reduceEqDiff, Nat.reduceBEq, Nat.reduceLT, Nat.reduceLeDiff, Nat.reduceAdd, Nat.reduceSub, reduceIte])
    | (refine callK_i d7 ?_ <;> simp only [h, bne, EV, Nat.reduceEqDiff, Nat.reduceBEq, Nat.reduceLT, Nat.reduceLeDiff, Nat.reduceAdd, Nat.reduceSub, reduceIte])
    | (refine callK_i (d78 _ _ _) ?_ <;> simp only [h, bne, EV, Nat.reduceEqDiff, Nat.reduceBEq, Nat.reduceLT, Nat.reduceLeDiff, Nat.reduceAdd, Nat.reduceSub, reduceIte])
    | (refine callK_i (d61 l _ hl) ?_ <;> simp only [h, bne, EV, Nat.reduceEqDiff, Nat.reduceBEq, Nat.reduceLT, Nat.reduceLeDiff, Nat.reduceAdd, Nat.reduceSub, reduceIte])
    | (refine callK_i (d56 l _ hl) ?_ <;> simp only [h, bne, EV, Nat.reduceEqDiff, Nat.reduceBEq, Nat.reduceLT, Nat.reduceLeDiff, Nat.reduceAdd, Nat.reduceSub, reduceIte]))
  all_goals simp only [Bool.not_eq_true', Bool.not_eq_false'] at *
  all_goals first
    | exact absurd ((‹(t.kind == 5) = false›).symm.trans ‹(t.kind == 5) = true›) Bool.false_ne_true
    | (simp only [tyOk, *, Bool.not_true, Bool.not_false, Bool.true_and, Bool.false_and, Bool.and_true, Bool.and_false, Bool.true_or, Bool.false_or, Bool.or_false, Bool.or_true, Bool.false_eq_true, if_true, if_false, EV, Nat.reduceEqDiff, Nat.reduceBEq, Nat.reduceLT, Nat.reduceLeDiff, Nat.reduceAdd, Nat.reduceSub, reduceIte, evRE, retVC, cellV', evR, nfz, nfzs, nfzss, List.contains_nil, List.contains_cons, Bool.or_false, or_true]
       done)
    | (obtain ⟨h0, h1, hn, hk⟩ := isNum_lt ‹isNum l t.base = true›
       simp only [h0, h1, nth_map hn, Ty.z, EV, Nat.reduceEqDiff, Nat.reduceBEq, Nat.reduceLT, Nat.reduceLeDiff, Nat.reduceAdd, Nat.reduceSub, reduceIte]
       simp only [tyOk, *, Bool.not_true, Bool.not_false, Bool.true_and, Bool.false_and, Bool.and_true, Bool.and_false, Bool.true_or, Bool.false_or, Bool.or_false, Bool.or_true, Bool.false_eq_true, if_true, if_false, EV, Nat.reduceEqDiff, Nat.reduceBEq, Nat.reduceLT, Nat.reduceLeDiff, Nat.reduceAdd, Nat.reduceSub, reduceIte, evRE, retVC, cellV', evR, nfz, nfzs, nfzss, List.contains_nil, List.contains_cons, Bool.or_false, or_true]
       done)
end Go.AM
namespace Go.AM
set_option linter.unusedVariables false
set_option linter.unusedSimpArgs false
theorem kindIn_same (l : List Ty) (n a : Int) : kindIn l n a a = (isNum l n && kd l n == a) := by
  unfold kindIn; rw [Bool.or_self]
theorem kindIn_two (l : List Ty) (n a b : Int) : kindIn l n a b = ((isNum l n && kd l n == a) || (isNum l n && kd l n == b)) := by
  unfold kindIn; rw [Bool.and_or_distrib_left]
noncomputable def tyRest (l : List Ty) (t : Ty) : Bool :=
  if (t.kind == 4) = true then (decide (1 ≤ t.long) && decide (t.long ≤ 1000)) && isNum l t.base
  else if (t.kind == 5) = true then ((t.long == 0) && ((t.base == -1) || kindIn l t.base 5 5)) && fdsOk l t.fields
  else if (t.kind == 6) = true then (t.long == 0) && kindIn l t.base 5 4
  else false
noncomputable def tyHead (t : Ty) : Bool := named t && !((!(t.kind == 5)) && decide (0 < (t.fields.length : Int)))
theorem tyOk_eq (l : List Ty) (t : Ty) : tyOk l t = (tyHead t && tyRest l t) := by
  unfold tyOk tyHead tyRest
  rw [kindIn_same, kindIn_two]
  exact (Bool.and_assoc _ _ _).symm
def m195 : MC :=
 (.seq (.reg [Xb 3 (.box 40 (.t 1)), Xb 4 (.asg .fb)]) (.join [0, 3, 5] (.reg [Xf 6 5 3, Xl 7 1 6, Xb 8 (.call (.fn 148) false [.lend (.t 7)]), Xm 9 8, Xt 10 9 (.fad 4 (.t 3)), Xt 11 9 (.load false 1 (.t 10)), XT 12 9 (.call (.fn 148) false [.lend (.t 11)]), Xq 13 (.pick (.t 9) (.t 12) .fb), Xa 5 13]) (.seq (.join [0, 3, 36] (.reg [Xm 14 5, Xq 15 (.un .not (.t 14)), Xm 16 15, Xt 17 16 (.fad 5 (.t
 3)), Xt 18 16 (.load false 1 (.t 17)), Xt 19 16 (.bin false .neq (.t 18) (.z #[])), Xt 20 16 (.mov (.t 19)), Xu 21 20 (.fad 4 (.t 3)), Xu 22 20 (.load false 1 (.t 21)), Xu 23 20 (.bin false .neq (.t 22) (.z #[])), Xt 24 16 (.pick (.t 20) .tb (.t 23)), Xq 25 (.pick (.t 16) (.t 24) .fb), Xm 26 25, Xu 27 26 (.fad 0 (.t 3)), Xu 28 26 (.load false 1 (.t 27)), Xu 29 26 (.bin false .neq (.t 28) (.i 5)),
 Xu 30 26 (.mov (.t 29)), Xt 31 30 (.fad 3 (.t 3)), Xt 32 30 (.load false 1 (.t 31)), Xt 33 30 (.len false (.t 32)), Xt 34 30 (.bin false .gtr (.t 33) (.i 0)), Xu 35 26 (.pick (.t 30) (.t 34) .fb), Xq 36 (.pick (.t 26) .tb (.t 35))]) (.cond (.t 36) (.seq (.reg [Xb 4 (.asg .fb)]) .ret) .skip)) (.seq (.seq (.reg [Xf 37 0 3, Xl 38 1 37]) (.block 0 (.seq (.reg [Xq 40 (.bin false .eql (.t 38) (.i 4)),
 Xa 39 40]) (.cond (.t 39) (.seq (.reg [Xf 41 1 3, Xl 42 1 41, Xb 43 (.call (.fn 72) false [.lend (.t 42), .lend (.i 1), .lend (.i 1000)]), Xm 44 43, Xt 45 44 (.fad 2 (.t 3)), Xt 46 44 (.load false 1 (.t 45)), Xt 47 44 (.mov (.t 0)), Xt 48 44 (.len false (.t 47)), Xt 49 44 (.bin false .sub (.t 48) (.i 1)), XT 50 44 (.call (.fn 72) false [.lend (.t 46), .lend (.i 0), .lend (.t 49)]), Xq 51 (.pick
 (.t 44) (.t 50) .fb), Xa 4 51]) .ret) (.seq (.reg [Xq 53 (.bin false .eql (.t 38) (.i 5)), Xa 52 53]) (.cond (.t 52) (.seq (.reg [Xf 54 1 3, Xl 55 1 54, Xq 56 (.bin false .eql (.t 55) (.i 0)), Xm 57 56, Xt 58 57 (.fad 2 (.t 3)), Xt 59 57 (.load false 1 (.t 58)), Xt 60 57 (.bin false .eql (.t 59) (.i (-1))), Xt 61 57 (.mov (.t 60)), Xu 62 61 (.mov (.t 0)), Xu 63 61 (.fad 2 (.t 3)), Xu 64 61 (.load
 false 1 (.t 63)), XU 65 61 (.call (.fn 59) false [.lend (.t 62), .lend (.t 64), .lend (.i 5), .lend (.i 5)]), Xt 66 57 (.pick (.t 61) .tb (.t 65)), Xq 67 (.pick (.t 57) (.t 66) .fb), Xm 68 67, Xt 69 68 (.mov (.t 0)), Xt 70 68 (.fad 3 (.t 3)), Xt 71 68 (.load false 1 (.t 70)), XT 72 68 (.call (.fn 233) false [.lend (.t 69), .lend (.t 71)]), Xq 73 (.pick (.t 68) (.t 72) .fb), Xa 4 73]) .ret)
 .skip)))))) (.seq (.reg [Xf 74 0 3, Xl 75 1 74, Xq 76 (.bin false .eql (.t 75) (.i 6)), Xm 77 76, Xt 78 77 (.fad 1 (.t 3)), Xt 79 77 (.load false 1 (.t 78)), Xt 80 77 (.bin false .eql (.t 79) (.i 0)), Xq 81 (.pick (.t 77) (.t 80) .fb), Xm 82 81, Xt 83 82 (.mov (.t 0)), Xt 84 82 (.fad 2 (.t 3)), Xt 85 82 (.load false 1 (.t 84)), XT 86 82 (.call (.fn 59) false [.lend (.t 83), .lend (.t 85), .lend
 (.i 5), .lend (.i 4)]), Xq 87 (.pick (.t 82) (.t 86) .fb), Xa 4 87]) .ret)))))
set_option maxHeartbeats 1000000 in
set_option maxRecDepth 100000 in
theorem d195 (l : List Ty) (t : Ty) (hl : (l.length : Int) ≤ 1048576) (ht : t.sm) :
    Does Go.Proofs.Tryz.prog 195 [.fsl 6 (l.map Ty.z), .agg t.z] false (.v (.bool (tyOk l t))) [.dead, .dead] := by
  have ht0 := ht
  unfold Ty.sm at ht
  have d7 := d233 l t.fields hl ht.2.2.2.1.1 ht.2.2.2.1.2
  have hw : IntKind.i64.wrap ((l.length : Int) - 1) = (l.length : Int) - 1 := w64 _ (by omega)
  refine does_intro (mc := m195) (N := 88) (rs := [4]) (fx := []) 2 rfl (by decide +kernel) ?_
  simp only [m195, Ty.z, EV, Nat.reduceEqDiff, Nat.reduceBEq, Nat.reduceLT, Nat.reduceLeDiff, Nat.reduceAdd, Nat.reduceSub, reduceIte]
  refine awp_join (fun _ : Unit => True) (fun _ => stl [(0, .fsl 6 (l.map Ty.z)), (3, .box 40 t.z), (5, .v (.bool (nameOk t.name && nameOk t.owner)))]) ?_ ?_
  · simp only [EV, Nat.reduceEqDiff, Nat.reduceBEq, Nat.reduceLT, Nat.reduceLeDiff, Nat.reduceAdd, Nat.reduceSub, reduceIte]
    refine callK_i (d148 _ (by omega)) ?_
    simp only [EV, Nat.reduceEqDiff, Nat.reduceBEq, Nat.reduceLT, Nat.reduceLeDiff, Nat.reduceAdd, Nat.reduceSub, reduceIte]
    rcases e1 : nameOk t.name with _ | _
    · simp only [e1, Ty.z, EV, Nat.reduceEqDiff, Nat.reduceBEq, Nat.reduceLT, Nat.reduceLeDiff, Nat.reduceAdd, Nat.reduceSub, reduceIte]
      first | exact ⟨(), rfl⟩ | exact ⟨(), trivial⟩
    · simp only [e1, Ty.z, EV, Nat.reduceEqDiff, Nat.reduceBEq, Nat.reduceLT, Nat.reduceLeDiff, Nat.reduceAdd, Nat.reduceSub, reduceIte]
      refine callK_i (d148 _ (by omega)) ?_
      simp only [e1, Ty.z, EV, Nat.reduceEqDiff, Nat.reduceBEq, Nat.reduceLT, Nat.reduceLeDiff, Nat.reduceAdd, Nat.reduceSub, reduceIte]
      first | exact ⟨(), rfl⟩ | exact ⟨(), trivial⟩
  rintro _ _
  simp only [Ty.z, EV, Nat.reduceEqDiff, Nat.reduceBEq, Nat.reduceLT, Nat.reduceLeDiff, Nat.reduceAdd, Nat.reduceSub, reduceIte]
  refine awp_join (fun _ : Unit => True) (fun _ => stl [(0, .fsl 6 (l.map Ty.z)), (3, .box 40 t.z), (36, .v (.bool (!tyHead t)))]) ?_ ?_
  · simp only [EV, Nat.reduceEqDiff, Nat.reduceBEq, Nat.reduceLT, Nat.reduceLeDiff, Nat.reduceAdd, Nat.reduceSub, reduceIte]
    rcases q : (nameOk t.name && nameOk t.owner) with _ | _ <;> rcases e5 : (t.kind == 5) with _ | _ <;> rcases e0 : decide (0 < (t.fields.length : Int)) with _ | _ <;> rcases en : (t.name.toList == (⟨#[]⟩ : ByteArray).toList) with _ | _ <;> rcases eo : (t.owner.toList == (⟨#[]⟩ : ByteArray).toList) with _ | _
    all_goals simp only [q, e5, e0, en, eo, bne, tyHead, named, Bool.not_not, Bool.not_true, Bool.not_false, Bool.true_and, Bool.false_and, Bool.and_true, Bool.and_false, Bool.true_or, Bool.false_or, Bool.or_false, Bool.or_true, Bool.and_self, Ty.z, EV, Nat.reduceEqDiff, Nat.reduceBEq, Nat.reduceLT, Nat.reduceLeDiff, Nat.reduceAdd, Nat.reduceSub, reduceIte]
    all_goals first | exact ⟨(), rfl⟩ | exact ⟨(), trivial⟩
  rintro _ _
  simp only [Ty.z, EV, Nat.reduceEqDiff, Nat.reduceBEq, Nat.reduceLT, Nat.reduceLeDiff, Nat.reduceAdd, Nat.reduceSub, reduceIte]
  rcases q : tyHead t with _ | _
  · have e : tyOk l t = false := by rw [tyOk_eq, q, Bool.false_and]
    simp only [Bool.not_false, EV, Nat.reduceEqDiff, Nat.reduceBEq, Nat.reduceLT, Nat.reduceLeDiff, Nat.reduceAdd, Nat.reduceSub, reduceIte]
    simp only [e, EV, Nat.reduceEqDiff, Nat.reduceBEq, Nat.reduceLT, Nat.reduceLeDiff, Nat.reduceAdd, Nat.reduceSub, reduceIte, evRE, retVC, cellV', evR, nfz, nfzs, nfzss, List.contains_nil, List.contains_cons, Bool.or_false, or_true]
  have e : tyOk l t = tyRest l t := by rw [tyOk_eq, q, Bool.true_and]
  have hnum : (decide (0 ≤ t.base) && decide (t.base ≤ (l.length : Int) - 1)) = isNum l t.base := rfl
  simp only [Bool.not_true, EV, Nat.reduceEqDiff, Nat.reduceBEq, Nat.reduceLT, Nat.reduceLeDiff, Nat.reduceAdd, Nat.reduceSub, reduceIte]
  repeat' (first
    | (refine gK_cut (fun h => ?_) (fun h => ?_) <;> simp only [h, bne, hw, EV, Nat.reduceEqDiff, Nat.reduceBEq, Nat.reduceLT, Nat.reduceLeDiff, Nat.reduceAdd, Nat.reduceSub, reduceIte])
    | (refine cK_cut (fun h => ?_) (fun h => ?_) <;> simp only [h, bne, hw, EV, Nat.reduceEqDiff, Nat.reduceBEq, Nat.reduceLT, Nat.reduceLeDiff, Nat.reduceAdd, Nat.reduceSub, reduceIte])
    | (refine callK_i d7 ?_ <;> simp only [h, bne, hw, EV, Nat.reduceEqDiff, Nat.reduceBEq, Nat.reduceLT, Nat.reduceLeDiff, Nat.reduceAdd, Nat.reduceSub, reduceIte])
    | (refine callK_i (d72 _ _ _) ?_ <;> simp only [h, bne, hw, EV, Nat.reduceEqDiff, Nat.reduceBEq, Nat.reduceLT, Nat.reduceLeDiff, Nat.reduceAdd, Nat.reduceSub, reduceIte])
    | (refine callK_i (d59 l _ _ _ hl) ?_ <;> simp only [h, bne, hw, EV, Nat.reduceEqDiff, Nat.reduceBEq, Nat.reduceLT, Nat.reduceLeDiff, Nat.reduceAdd, Nat.reduceSub, reduceIte]))
  all_goals (try simp only [Bool.not_eq_true', Bool.not_eq_false'] at *)
  all_goals first
    | exact absurd ((‹(t.kind == 5) = false›).symm.trans ‹(t.kind == 5) = true›) Bool.false_ne_true
    | (simp only [e, tyRest, *, Bool.not_true, Bool.not_false, Bool.true_and, Bool.false_and, Bool.and_true, Bool.and_false, Bool.true_or, Bool.false_or, Bool.or_false, Bool.or_true, Bool.false_eq_true, if_true, if_false, EV, Nat.reduceEqDiff, Nat.reduceBEq, Nat.reduceLT, Nat.reduceLeDiff, Nat.reduceAdd, Nat.reduceSub, reduceIte, evRE, retVC, cellV', evR, nfz, nfzs, nfzss, List.contains_nil, List.contains_cons, Bool.or_false, or_true]
       done)
end Go.AM
namespace Go.AM
set_option linter.unusedVariables false
set_option linter.unusedSimpArgs false
def unlAt (l : List Str) (i : Nat) (h : i < l.length) : Prop := nameOk l[i].s = true ∧ (l.take i).any (eqSt l[i].s) = false
def unlTo (l : List Str) (n : Nat) : Prop := ∀ i (h : i < l.length), i < n → unlAt l i h
open Classical in
noncomputable def unl (l : List Str) : Bool := decide (unlTo l l.length)
theorem unlTo_succ {l : List Str} {i : Nat} (h : i < l.length) (h1 : unlTo l i) (h2 : unlAt l i h) : unlTo l (i + 1) := by
  intro j hj hji
  by_cases e : j = i
  · subst e; exact h2
  · exact h1 j hj (by omega)
theorem unl_no {l : List Str} {i : Nat} (h : i < l.length) (h2 : ¬ unlAt l i h) : unl l = false := by
  simp only [unl, decide_eq_false_iff_not]
  exact fun h1 => h2 (h1 i h h)
theorem unl_yes {l : List Str} (h : unlTo l l.length) : unl l = true := by simp [unl, h]
theorem unl_iff {l : List Str} : unl l = true ↔ unlTo l l.length := by simp [unl]
def m142 : MC :=
 (.seq (.reg [Xb 2 (.asg .fb)]) (.seq (.seq (.reg [Xm 5 0, Xn 6 5, Xq 7 (.mov (.i 0))]) (.block 0 (.loop [0, 5, 6, 7] (.seq (.reg [Xq 8 (.bin false .lss (.t 7) (.t 6))]) (.seq (.cond (.t 8) .skip (.exit 0)) (.seq (.block 1 (.seq (.reg [Xm 9 7, Xi 10 1 5 7, Xl 11 1 10, Xa 3 9, Xa 4 11]) (.seq (.reg [Xm 12 4, Xb 13 (.call (.fn 141) false [.lend (.t 12)]), Xq 14 (.un .not (.t 13)), Xm 15 14, Xu 16 15
 (.mov (.t 0)), Xu 17 15 (.mov (.t 3)), Xu 18 15 (.slc false 1 (.t 16) none (some (.t 17))), Xu 19 15 (.mov (.t 4)), XU 20 15 (.call (.fn 145) false [.lend (.t 18), .lend (.t 19)]), Xq 21 (.pick (.t 15) .tb (.t 20))]) (.cond (.t 21) (.seq (.reg [Xb 2 (.asg .fb)]) .ret) .skip)))) (.reg [Xq 22 (.bin false .add (.t 7) (.i 1)), Xm 7 22]))))))) (.seq (.reg [Xb 2 (.asg .tb)]) .ret)))
set_option maxRecDepth 100000 in
theorem d142 (l : List Str) (hl : (l.length : Int) ≤ 1048576000) (hs : ∀ s ∈ l, (s.s.size : Int) ≤ 1048576) : Does Go.Proofs.Tryz.prog 142 [.fsl 1 (l.map Str.z)] false (.v (.bool (unl l))) [.dead] := by
  refine does_intro (mc := m142) (N := 23) (rs := [2]) (fx := []) 1 rfl (by decide +kernel) ?_
  simp only [m142, EV, Nat.reduceEqDiff, Nat.reduceBEq, Nat.reduceLT, Nat.reduceLeDiff, Nat.reduceAdd, Nat.reduceSub, reduceIte]
  refine awp_loop (fun i : Nat => i ≤ l.length ∧ unlTo l i) (fun i => stl [(0, .fsl 1 (l.map Str.z)), (5, .fsl 1 (l.map Str.z)), (6, .v (.int .i64 (l.length : Int))), (7, .v (.int .i64 (i : Int)))]) (fun i => l.length - i) 0 ⟨Nat.zero_le _, fun j hj h => absurd h (by omega)⟩ ?_ ?_
  · simp only [EV, Nat.reduceEqDiff, Nat.reduceBEq, Nat.reduceLT, Nat.reduceLeDiff, Nat.reduceAdd, Nat.reduceSub, reduceIte]
    rfl
  · rintro i ⟨hi, hok⟩
    simp only [EV, Nat.reduceEqDiff, Nat.reduceBEq, Nat.reduceLT, Nat.reduceLeDiff, Nat.reduceAdd, Nat.reduceSub, reduceIte]
    refine cK_cut (fun h => ?_) (fun h => ?_)
    · have h1 : i < l.length := by simpa using h
      have h2 : (i : Int) < (l.length : Int) := by omega
      have hsz := hs _ (List.getElem_mem h1)
      clear h
      simp only [nth_map h1, h2, Str.z, EV, Nat.reduceEqDiff, Nat.reduceBEq, Nat.reduceLT, Nat.reduceLeDiff, Nat.reduceAdd, Nat.reduceSub, reduceIte]
      refine callK_i (d141 l[i].s (by omega)) ?_
      simp only [EV, Nat.reduceEqDiff, Nat.reduceBEq, Nat.reduceLT, Nat.reduceLeDiff, Nat.reduceAdd, Nat.reduceSub, reduceIte]
      rcases e1 : nameOk l[i].s with _ | _
      · have e : unl l = false := unl_no h1 (by rintro ⟨g, _⟩; rw [e1] at g; cases g)
        simp only [Bool.not_false, EV, Nat.reduceEqDiff, Nat.reduceBEq, Nat.reduceLT, Nat.reduceLeDiff, Nat.reduceAdd, Nat.reduceSub, reduceIte]
        simp only [e, EV, Nat.reduceEqDiff, Nat.reduceBEq, Nat.reduceLT, Nat.reduceLeDiff, Nat.reduceAdd, Nat.reduceSub, reduceIte, evRE, retVC, cellV', evR, nfz, nfzs, nfzss, List.contains_nil, List.contains_cons, Bool.or_false, or_true]
      simp only [Bool.not_true, EV, Nat.reduceEqDiff, Nat.reduceBEq, Nat.reduceLT, Nat.reduceLeDiff, Nat.reduceAdd, Nat.reduceSub, reduceIte]
      refine ⟨by omega, by omega, ?_⟩
      have ht : List.take (i : Int).toNat (List.map Str.z l) = List.map Str.z (l.take i) := by rw [Int.toNat_natCast, List.map_take]
      simp only [Int.toNat_natCast] at ht
      rw [ht]
      refine callK_i (d145 (l.take i) l[i].s (by simp; omega)) ?_
      simp only [EV, Nat.reduceEqDiff, Nat.reduceBEq, Nat.reduceLT, Nat.reduceLeDiff, Nat.reduceAdd, Nat.reduceSub, reduceIte]
      rcases e2 : (l.take i).any (eqSt l[i].s) with _ | _
      · simp only [EV, Nat.reduceEqDiff, Nat.reduceBEq, Nat.reduceLT, Nat.reduceLeDiff, Nat.reduceAdd, Nat.reduceSub, reduceIte]
        rw [w64 _ (by omega)]
        exact ⟨i + 1, ⟨h1, unlTo_succ h1 hok ⟨e1, e2⟩⟩, by omega, rfl⟩
      · have e : unl l = false := unl_no h1 (by rintro ⟨_, g⟩; rw [e2] at g; cases g)
        simp only [EV, Nat.reduceEqDiff, Nat.reduceBEq, Nat.reduceLT, Nat.reduceLeDiff, Nat.reduceAdd, Nat.reduceSub, reduceIte]
        simp only [e, EV, Nat.reduceEqDiff, Nat.reduceBEq, Nat.reduceLT, Nat.reduceLeDiff, Nat.reduceAdd, Nat.reduceSub, reduceIte, evRE, retVC, cellV', evR, nfz, nfzs, nfzss, List.contains_nil, List.contains_cons, Bool.or_false, or_true]
    · have h1 : i = l.length := by have : ¬ (i : Int) < l.length := by simpa using h
                                   omega
      subst h1
      simp only [EV, Nat.reduceEqDiff, Nat.reduceBEq, Nat.reduceLT, Nat.reduceLeDiff, Nat.reduceAdd, Nat.reduceSub, reduceIte]
      simp only [unl_yes hok, EV, Nat.reduceEqDiff, Nat.reduceBEq, Nat.reduceLT, Nat.reduceLeDiff, Nat.reduceAdd, Nat.reduceSub, reduceIte, evRE, retVC, cellV', evR, nfz, nfzs, nfzss, List.contains_nil, List.contains_cons, Bool.or_false, or_true]
def m207 : MC :=
 (.seq (.reg [Xb 2 (.asg .fb)]) (.seq (.reg [Xm 3 0, Xb 4 (.call (.fn 78) false [.lend (.t 3), .lend (.i (-1000000000)), .lend (.i 1000000000)]), Xa 2 4]) .ret))
theorem d207 (n : Int) : Does Go.Proofs.Tryz.prog 207 [.v (.int .i64 n)] false (.v (.bool (decide (-1000000000 ≤ n) && decide (n ≤ 1000000000)))) [.dead] := by
  refine does_intro (mc := m207) (N := 5) (rs := [2]) (fx := []) 1 rfl (by decide +kernel) ?_
  simp only [m207, EV, Nat.reduceEqDiff, Nat.reduceBEq, Nat.reduceLT, Nat.reduceLeDiff, Nat.reduceAdd, Nat.reduceSub, reduceIte]
  refine callK_i (d78 n (-1000000000) 1000000000) ?_
  simp only [EV, Nat.reduceEqDiff, Nat.reduceBEq, Nat.reduceLT, Nat.reduceLeDiff, Nat.reduceAdd, Nat.reduceSub, reduceIte]
  simp only [EV, Nat.reduceEqDiff, Nat.reduceBEq, Nat.reduceLT, Nat.reduceLeDiff, Nat.reduceAdd, Nat.reduceSub, reduceIte, evRE, retVC, cellV', evR, nfz, nfzs, nfzss, List.contains_nil, List.contains_cons, Bool.or_false, or_true]
def m149 : MC :=
 (.seq (.reg [Xb 4 (.asg .fb)]) (.seq (.seq (.reg [Xm 7 0, Xn 8 7, Xq 9 (.mov (.i 0))]) (.block 0 (.loop [0, 1, 7, 8, 9] (.seq (.reg [Xq 10 (.bin false .lss (.t 9) (.t 8))]) (.seq (.cond (.t 10) .skip (.exit 0)) (.seq (.block 1 (.seq (.reg [Xi 11 1 7 9, Xl 12 1 11, Xa 6 12]) (.seq (.reg [Xm 13 6, Xm 14 1, Xq 15 (.bin false .eql (.t 13) (.t 14))]) (.cond (.t 15) (.seq (.reg [Xb 4 (.asg .tb)]) .ret)
 .skip)))) (.reg [Xq 16 (.bin false .add (.t 9) (.i 1)), Xm 9 16]))))))) (.seq (.reg [Xb 4 (.asg .fb)]) .ret)))
theorem d149 (l : List Str) (v : ByteArray) (hl : l.length < 9223372036854775807) : Does Go.Proofs.Tryz.prog 149 [.fsl 1 (l.map Str.z), .v (.string v)] false (.v (.bool (l.any (eqSt v)))) [.dead, .dead] := by
  refine does_intro (mc := m149) (N := 17) (rs := [4]) (fx := []) 2 rfl (by decide +kernel) ?_
  simp only [m149, EV, Nat.reduceEqDiff, Nat.reduceBEq, Nat.reduceLT, Nat.reduceLeDiff, Nat.reduceAdd, Nat.reduceSub, reduceIte]
  refine awp_loop (fun i : Nat => i ≤ l.length ∧ (l.take i).any (eqSt v) = false) (fun i => stl [(0, .fsl 1 (l.map Str.z)), (1, .v (.string v)), (7, .fsl 1 (l.map Str.z)), (8, .v (.int .i64 (l.length : Int))), (9, .v (.int .i64 (i : Int)))]) (fun i => l.length - i) 0 ⟨Nat.zero_le _, by simp⟩ ?_ ?_
  · simp only [EV, Nat.reduceEqDiff, Nat.reduceBEq, Nat.reduceLT, Nat.reduceLeDiff, Nat.reduceAdd, Nat.reduceSub, reduceIte]
    rfl
  · rintro i ⟨hi, hno⟩
    simp only [EV, Nat.reduceEqDiff, Nat.reduceBEq, Nat.reduceLT, Nat.reduceLeDiff, Nat.reduceAdd, Nat.reduceSub, reduceIte]
    refine cK_cut (fun h => ?_) (fun h => ?_)
    · have h1 : i < l.length := by simpa using h
      have h2 : (i : Int) < (l.length : Int) := by omega
      clear h
      simp only [nth_map h1, h2, Str.z, EV, Nat.reduceEqDiff, Nat.reduceBEq, Nat.reduceLT, Nat.reduceLeDiff, Nat.reduceAdd, Nat.reduceSub, reduceIte]
      have ec : (l[i].s.toList == v.toList) = eqSt v l[i] := Bool.beq_comm
      rw [ec]
      rcases e : eqSt v l[i] with _ | _
      · simp only [EV, Nat.reduceEqDiff, Nat.reduceBEq, Nat.reduceLT, Nat.reduceLeDiff, Nat.reduceAdd, Nat.reduceSub, reduceIte]
        rw [w64 _ (by omega)]
        exact ⟨i + 1, ⟨h1, by rw [List.take_succ_eq_append_getElem h1, List.any_append, hno]; simp [e]⟩, by omega, rfl⟩
      · have e2 : l.any (eqSt v) = true := List.any_eq_true.2 ⟨_, List.getElem_mem h1, e⟩
        simp only [EV, Nat.reduceEqDiff, Nat.reduceBEq, Nat.reduceLT, Nat.reduceLeDiff, Nat.reduceAdd, Nat.reduceSub, reduceIte]
        simp only [e2, EV, Nat.reduceEqDiff, Nat.reduceBEq, Nat.reduceLT, Nat.reduceLeDiff, Nat.reduceAdd, Nat.reduceSub, reduceIte, evRE, retVC, cellV', evR, nfz, nfzs, nfzss, List.contains_nil, List.contains_cons, Bool.or_false, or_true]
    · have h1 : i = l.length := by have : ¬ (i : Int) < l.length := by simpa using h
                                   omega
      subst h1
      rw [List.take_length] at hno
      simp only [EV, Nat.reduceEqDiff, Nat.reduceBEq, Nat.reduceLT, Nat.reduceLeDiff, Nat.reduceAdd, Nat.reduceSub, reduceIte]
      simp only [hno, EV, Nat.reduceEqDiff, Nat.reduceBEq, Nat.reduceLT, Nat.reduceLeDiff, Nat.reduceAdd, Nat.reduceSub, reduceIte, evRE, retVC, cellV', evR, nfz, nfzs, nfzss, List.contains_nil, List.contains_cons, Bool.or_false, or_true]
end Go.AM
namespace Go.AM
set_option linter.unusedVariables false
set_option linter.unusedSimpArgs false
def parNm (p q : Par) : Bool := q.name.toList == p.name.toList
noncomputable def parAt (l : List Ty) (ps : List Par) (i : Nat) (h : i < ps.length) : Bool := nameOk ps[i].name && (isNum l ps[i].typ && !((ps.take i).any (parNm ps[i])))
def parTo (l : List Ty) (ps : List Par) (n : Nat) : Prop := ∀ i (h : i < ps.length), i < n → parAt l ps i h = true
open Classical in
noncomputable def parsOk (l : List Ty) (ps : List Par) : Bool := decide (parTo l ps ps.length)
theorem parTo_succ {l : List Ty} {ps : List Par} {i : Nat} (h : i < ps.length) (h1 : parTo l ps i) (h2 : parAt l ps i h = true) : parTo l ps (i + 1) := by
  intro j hj hji
  by_cases e : j = i
  · subst e; exact h2
  · exact h1 j hj (by omega)
theorem parsOk_no {l : List Ty} {ps : List Par} {i : Nat} (h : i < ps.length) (h2 : parAt l ps i h = false) : parsOk l ps = false := by
  simp only [parsOk, decide_eq_false_iff_not]
  intro h1
  have := h1 i h h
  rw [h2] at this; cases this
theorem parsOk_yes {l : List Ty} {ps : List Par} (h : parTo l ps ps.length) : parsOk l ps = true := by simp [parsOk, h]
theorem parsOk_nil (l : List Ty) : parsOk l [] = true := parsOk_yes (fun i h _ => by simp at h)
def obPre (o : Ob) : Bool := (decide (0 ≤ o.mark) && decide (o.mark ≤ 2)) && (!(o.mark == 2) || o.kind == 3) && decide ((o.params.length : Int) ≤ 4) && (o.kind == 4 || !(decide (0 < (o.params.length : Int))))
def wholeB (n : Int) : Bool := decide (-1000000000 ≤ n) && decide (n ≤ 1000000000)
noncomputable def obKd (l : List Ty) (o : Ob) : Bool :=
  if (o.kind == 1) = true then o.typ == 0 && wholeB o.value
  else if (o.kind == 2 || o.kind == 3) = true then isNum l o.typ && o.value == 0
  else if (o.kind == 4) = true then (o.typ == -1 || isNum l o.typ) && o.value == 0 else false
theorem evP (c : List AV) (K : AV → Prop) : nilchkV (.fptr c) K = K (.fptr c) := rfl
noncomputable def obOk (l : List Ty) (o : Ob) : Bool := obPre o && (parsOk l o.params && obKd l o)
def m206 : MC :=
 (.seq (.reg [Xb 2 (.box 54 (.t 0)), Xb 3 (.asg .fb)]) (.seq (.reg [Xf 4 0 2, Xl 5 1 4, Xf 6 0 1, Xl 7 1 6, Xq 8 (.bin false .eql (.t 5) (.t 7)), Xa 3 8]) .ret))
theorem d206 (q p : Par) : Does Go.Proofs.Tryz.prog 206 [.agg q.z, .fptr p.z] false (.v (.bool (parNm p q))) [.dead, .dead] := by
  refine does_intro (mc := m206) (N := 9) (rs := [3]) (fx := []) 2 rfl (by decide +kernel) ?_
  simp only [m206, Par.z, EV, Nat.reduceEqDiff, Nat.reduceBEq, Nat.reduceLT, Nat.reduceLeDiff, Nat.reduceAdd, Nat.reduceSub, reduceIte]
  simp only [parNm, EV, Nat.reduceEqDiff, Nat.reduceBEq, Nat.reduceLT, Nat.reduceLeDiff, Nat.reduceAdd, Nat.reduceSub, reduceIte, evRE, retVC, cellV', evR, nfz, nfzs, nfzss, List.contains_nil, List.contains_cons, Bool.or_false, or_true]
def m144 : MC :=
 (.seq (.reg [Xb 3 (.box 52 (.t 1)), Xb 4 (.asg .fb)]) (.join [0, 3] (.seq (.reg [Xf 7 2 3, Xl 8 1 7, Xb 9 (.call (.fn 78) false [.lend (.t 8), .lend (.i 0), .lend (.i 2)]), Xq 10 (.un .not (.t 9)), Xm 11 10, Xu 12 11 (.fad 2 (.t 3)), Xu 13 11 (.load false 1 (.t 12)), Xu 14 11 (.bin false .eql (.t 13) (.i 2)), Xu 15 11 (.mov (.t 14)), Xt 16 15 (.fad 1 (.t 3)), Xt 17 15 (.load false 1 (.t 16)), Xt
 18 15 (.bin false .neq (.t 17) (.i 3)), Xu 19 11 (.pick (.t 15) (.t 18) .fb), Xq 20 (.pick (.t 11) .tb (.t 19)), Xm 21 20, Xu 22 21 (.fad 5 (.t 3)), Xu 23 21 (.load false 1 (.t 22)), Xu 24 21 (.len false (.t 23)), Xu 25 21 (.bin false .gtr (.t 24) (.i 4)), Xq 26 (.pick (.t 21) .tb (.t 25)), Xm 27 26, Xu 28 27 (.fad 1 (.t 3)), Xu 29 27 (.load false 1 (.t 28)), Xu 30 27 (.bin false .neq (.t 29) (.i
 4)), Xu 31 27 (.mov (.t 30)), Xt 32 31 (.fad 5 (.t 3)), Xt 33 31 (.load false 1 (.t 32)), Xt 34 31 (.len false (.t 33)), Xt 35 31 (.bin false .gtr (.t 34) (.i 0)), Xu 36 27 (.pick (.t 31) (.t 35) .fb), Xq 37 (.pick (.t 27) .tb (.t 36))]) (.cond (.t 37) (.seq (.reg [Xb 4 (.asg .fb)]) .ret) .skip)) (.seq (.seq (.reg [Xf 38 5 3, Xl 39 1 38, Xn 40 39, Xq 41 (.mov (.i 0))]) (.block 0 (.loop [0, 3, 38,
 39, 40, 41] (.seq (.reg [Xq 42 (.bin false .lss (.t 41) (.t 40))]) (.seq (.cond (.t 42) .skip (.exit 0)) (.seq (.block 1 (.seq (.reg [Xm 43 41, Xi 44 3 39 41, XL 45 3 44, Xb 6 (.alloc 54 [.z, .b, .i]), Xa 5 43, Xz (.store 3 (.t 6) (.t 45))]) (.seq (.dreg [Xf 46 0 6, Xl 47 1 46, Xb 48 (.call (.fn 141) false [.lend (.t 47)]), Xq 49 (.un .not (.t 48)), Xm 50 49, Xu 51 50 (.mov (.t 0)), Xu 52 50
 (.nilchk (.t 51)), Xu 53 50 (.fad 2 (.t 52)), Xu 54 50 (.load false 1 (.t 53)), Xu 55 50 (.fad 2 (.t 6)), Xu 56 50 (.load false 1 (.t 55)), XU 57 50 (.call (.fn 61) false [.lend (.t 54), .lend (.t 56)]), Xu 58 50 (.un .not (.t 57)), Xq 59 (.pick (.t 50) .tb (.t 58)), Xm 60 59, Xu 61 60 (.fad 5 (.t 3)), Xu 62 60 (.load false 1 (.t 61)), Xu 63 60 (.mov (.t 5)), Xu 64 60 (.slc false 3 (.t 62) none
 (some (.t 63))), Xu 65 60 (.mkf 206 [.t 6]), XU 66 60 (.call (.fn 205) false [.lend (.t 64), .lend (.t 65)]), Xq 67 (.pick (.t 60) .tb (.t 66))]) (.cond (.t 67) (.seq (.reg [Xb 4 (.asg .fb)]) .ret) .skip)))) (.reg [Xq 68 (.bin false .add (.t 41) (.i 1)), Xm 41 68]))))))) (.join [] (.seq (.reg [Xf 69 1 3, Xl 70 1 69]) (.block 2 (.seq (.reg [Xq 72 (.bin false .eql (.t 70) (.i 1)), Xa 71 72]) (.cond
 (.t 71) (.seq (.reg [Xf 73 3 3, Xl 74 1 73, Xq 75 (.bin false .eql (.t 74) (.i 0)), Xm 76 75, Xt 77 76 (.fad 4 (.t 3)), Xt 78 76 (.load false 1 (.t 77)), XT 79 76 (.call (.fn 207) false [.lend (.t 78)]), Xq 80 (.pick (.t 76) (.t 79) .fb), Xa 4 80]) .ret) (.join [0, 3, 70, 81] (.seq (.reg [Xq 82 (.bin false .eql (.t 70) (.i 2)), Xa 81 82]) (.cond (.t 81) .skip (.reg [Xq 83 (.bin false .eql (.t 70)
 (.i 3)), Xa 81 83]))) (.cond (.t 81) (.seq (.dreg [Xm 84 0, Xq 85 (.nilchk (.t 84)), Xf 86 2 85, Xl 87 1 86, Xf 88 3 3, Xl 89 1 88, Xb 90 (.call (.fn 61) false [.lend (.t 87), .lend (.t 89)]), Xm 91 90, Xt 92 91 (.fad 4 (.t 3)), Xt 93 91 (.load false 1 (.t 92)), Xt 94 91 (.bin false .eql (.t 93) (.i 0)), Xq 95 (.pick (.t 91) (.t 94) .fb), Xm 4 95]) .ret) (.seq (.reg [Xq 97 (.bin false .eql (.t 70)
 (.i 4)), Xa 96 97]) (.cond (.t 96) (.seq (.dreg [Xf 98 3 3, Xl 99 1 98, Xq 100 (.bin false .eql (.t 99) (.i (-1))), Xm 101 100, Xu 102 101 (.mov (.t 0)), Xu 103 101 (.nilchk (.t 102)), Xu 104 101 (.fad 2 (.t 103)), Xu 105 101 (.load false 1 (.t 104)), Xu 106 101 (.fad 3 (.t 3)), Xu 107 101 (.load false 1 (.t 106)), XU 108 101 (.call (.fn 61) false [.lend (.t 105), .lend (.t 107)]), Xq 109 (.pick
 (.t 101) .tb (.t 108)), Xm 110 109, Xt 111 110 (.fad 4 (.t 3)), Xt 112 110 (.load false 1 (.t 111)), Xt 113 110 (.bin false .eql (.t 112) (.i 0)), Xq 114 (.pick (.t 110) (.t 113) .fb), Xm 4 114]) .ret) .skip)))))))) (.seq (.reg [Xb 4 (.asg .fb)]) .ret)))))
set_option maxHeartbeats 4000000 in
set_option maxRecDepth 100000 in
theorem d144 (s : Scope) (o : Ob) (hs : s.sm) (ho : o.sm) : Does Go.Proofs.Tryz.prog 144 [.fptr s.z, .agg o.z] false (.v (.bool (obOk s.types o))) [.dead, .dead] := by
  refine does_intro (mc := m144) (N := 115) (rs := [4]) (fx := []) 2 rfl (by decide +kernel) ?_
  simp only [m144, Ob.z, EV, Nat.reduceEqDiff, Nat.reduceBEq, Nat.reduceLT, Nat.reduceLeDiff, Nat.reduceAdd, Nat.reduceSub, reduceIte]
  refine awp_join (fun _ : Unit => obPre o = true) (fun _ => stl [(0, .fptr s.z), (3, .box 52 o.z)]) ?_ ?_
  · simp only [EV, Nat.reduceEqDiff, Nat.reduceBEq, Nat.reduceLT, Nat.reduceLeDiff, Nat.reduceAdd, Nat.reduceSub, reduceIte]
    refine callK_i (d78 o.mark 0 2) ?_
    simp only [EV, Nat.reduceEqDiff, Nat.reduceBEq, Nat.reduceLT, Nat.reduceLeDiff, Nat.reduceAdd, Nat.reduceSub, reduceIte]
    repeat' (first
    | (refine gK_cut (fun h => ?_) (fun h => ?_) <;> simp only [h, EV, Nat.reduceEqDiff, Nat.reduceBEq, Nat.reduceLT, Nat.reduceLeDiff, Nat.reduceAdd, Nat.reduceSub, reduceIte])
    | (refine cK_cut (fun h => ?_) (fun h => ?_) <;> simp only [h, EV, Nat.reduceEqDiff, Nat.reduceBEq, Nat.reduceLT, Nat.reduceLeDiff, Nat.reduceAdd, Nat.reduceSub, reduceIte]))
    all_goals first
      | (have e : obPre o = false := by
           simp_all [obPre] <;> omega
         simp only [obOk, e, Bool.false_and, EV, Nat.reduceEqDiff, Nat.reduceBEq, Nat.reduceLT, Nat.reduceLeDiff, Nat.reduceAdd, Nat.reduceSub, reduceIte, evRE, retVC, cellV', evR, nfz, nfzs, nfzss, List.contains_nil, List.contains_cons, Bool.or_false, or_true]
         done)
      | (have e : obPre o = true := by
           simp_all [obPre] <;> omega
         exact ⟨(), e, rfl⟩)
  · rintro _ hpre
    have hpl : o.params.length ≤ 4 := by
      simp only [obPre, Bool.and_eq_true, decide_eq_true_eq] at hpre
      omega
    simp only [Ob.z, Scope.z, EV, Nat.reduceEqDiff, Nat.reduceBEq, Nat.reduceLT, Nat.reduceLeDiff, Nat.reduceAdd, Nat.reduceSub, reduceIte]
    refine awp_loop (fun i : Nat => i ≤ o.params.length ∧ parTo s.types o.params i) (fun i => stl [(0, .fptr s.z), (3, .box 52 o.z), (38, .ref 3 [] 0 5), (39, .fsl 3 (o.params.map Par.z)), (40, .v (.int .i64 (o.params.length : Int))), (41, .v (.int .i64 (i : Int)))]) (fun i => o.params.length - i) 0 ⟨Nat.zero_le _, fun j hj h => absurd h (by omega)⟩ ?_ ?_
    · simp only [Ob.z, Scope.z, EV, Nat.reduceEqDiff, Nat.reduceBEq, Nat.reduceLT, Nat.reduceLeDiff, Nat.reduceAdd, Nat.reduceSub, reduceIte]
      rfl
    rintro i ⟨hi, hok⟩
    simp only [Ob.z, Scope.z, EV, Nat.reduceEqDiff, Nat.reduceBEq, Nat.reduceLT, Nat.reduceLeDiff, Nat.reduceAdd, Nat.reduceSub, reduceIte]
    refine cK_cut (fun h => ?_) (fun h => ?_)
    · have h1 : i < o.params.length := by simpa using h
      have h2 : (i : Int) < (o.params.length : Int) := by omega
      have hno : parAt s.types o.params i h1 = false → obOk s.types o = false := fun e => by simp only [obOk, parsOk_no h1 e, Bool.false_and, Bool.and_false]
      unfold Ob.sm at ho
      unfold Scope.sm at hs
      have hps := ho.2.2.2.2.2.2 _ (List.getElem_mem h1)
      unfold Par.sm at hps
      clear h
      simp only [ParE, nth_map h1, h2, Par.z, Ob.z, Scope.z, EV, Nat.reduceEqDiff, Nat.reduceBEq, Nat.reduceLT, Nat.reduceLeDiff, Nat.reduceAdd, Nat.reduceSub, reduceIte]
      refine callD_i (d141 o.params[i].name (by omega)) rfl ?_
      simp only [EV, Nat.reduceEqDiff, Nat.reduceBEq, Nat.reduceLT, Nat.reduceLeDiff, Nat.reduceAdd, Nat.reduceSub, reduceIte]
      rcases e1 : nameOk o.params[i].name with _ | _
      · have e : obOk s.types o = false := hno (by simp only [parAt, e1, Bool.false_and])
        simp only [Bool.not_false, EV, Nat.reduceEqDiff, Nat.reduceBEq, Nat.reduceLT, Nat.reduceLeDiff, Nat.reduceAdd, Nat.reduceSub, reduceIte]
        simp only [e, EV, Nat.reduceEqDiff, Nat.reduceBEq, Nat.reduceLT, Nat.reduceLeDiff, Nat.reduceAdd, Nat.reduceSub, reduceIte, evRE, retVC, cellV', evR, nfz, nfzs, nfzss, List.contains_nil, List.contains_cons, Bool.or_false, or_true]
      simp only [evP, Bool.not_true, Par.z, Ob.z, Scope.z, EV, Nat.reduceEqDiff, Nat.reduceBEq, Nat.reduceLT, Nat.reduceLeDiff, Nat.reduceAdd, Nat.reduceSub, reduceIte]
      refine callD_i (d61 s.types o.params[i].typ hs.2.2.1.1) rfl ?_
      simp only [EV, Nat.reduceEqDiff, Nat.reduceBEq, Nat.reduceLT, Nat.reduceLeDiff, Nat.reduceAdd, Nat.reduceSub, reduceIte]
      rcases e2 : isNum s.types o.params[i].typ with _ | _
      · have e : obOk s.types o = false := hno (by simp only [parAt, e1, e2, Bool.true_and, Bool.false_and])
        simp only [Bool.not_false, EV, Nat.reduceEqDiff, Nat.reduceBEq, Nat.reduceLT, Nat.reduceLeDiff, Nat.reduceAdd, Nat.reduceSub, reduceIte]
        simp only [e, EV, Nat.reduceEqDiff, Nat.reduceBEq, Nat.reduceLT, Nat.reduceLeDiff, Nat.reduceAdd, Nat.reduceSub, reduceIte, evRE, retVC, cellV', evR, nfz, nfzs, nfzss, List.contains_nil, List.contains_cons, Bool.or_false, or_true]
      simp only [Bool.not_true, ParE, nth_map h1, h2, Par.z, Ob.z, Scope.z, EV, Nat.reduceEqDiff, Nat.reduceBEq, Nat.reduceLT, Nat.reduceLeDiff, Nat.reduceAdd, Nat.reduceSub, reduceIte]
      refine ⟨by omega, by omega, ?_⟩
      rw [← List.map_take]
      refine callD_i (d205 (o.params.take i) (by simp; omega) 206 [.fptr o.params[i].z] (parNm o.params[i]) rfl rfl (fun _ => rfl) (fun _ => rfl) (fun q _ => d206 q o.params[i])) rfl ?_
      simp only [EV, Nat.reduceEqDiff, Nat.reduceBEq, Nat.reduceLT, Nat.reduceLeDiff, Nat.reduceAdd, Nat.reduceSub, reduceIte]
      rcases e3 : (o.params.take i).any (parNm o.params[i]) with _ | _
      · simp only [EV, Nat.reduceEqDiff, Nat.reduceBEq, Nat.reduceLT, Nat.reduceLeDiff, Nat.reduceAdd, Nat.reduceSub, reduceIte]
        rw [w64 _ (by omega)]
        exact ⟨i + 1, ⟨h1, parTo_succ h1 hok (by simp only [parAt, e1, e2, e3, Bool.not_false, Bool.and_self])⟩, by omega, rfl⟩
      · have e : obOk s.types o = false := hno (by simp only [parAt, e1, e2, e3, Bool.not_true, Bool.and_false])
        simp only [EV, Nat.reduceEqDiff, Nat.reduceBEq, Nat.reduceLT, Nat.reduceLeDiff, Nat.reduceAdd, Nat.reduceSub, reduceIte]
        simp only [e, EV, Nat.reduceEqDiff, Nat.reduceBEq, Nat.reduceLT, Nat.reduceLeDiff, Nat.reduceAdd, Nat.reduceSub, reduceIte, evRE, retVC, cellV', evR, nfz, nfzs, nfzss, List.contains_nil, List.contains_cons, Bool.or_false, or_true]
    · have h1 : i = o.params.length := by have : ¬ (i : Int) < o.params.length := by simpa using h
                                          omega
      subst h1
      have hv : obOk s.types o = obKd s.types o := by simp only [obOk, hpre, parsOk_yes hok, Bool.true_and]
      unfold Scope.sm at hs
      clear h
      rw [hv]
      simp only [Ob.z, Scope.z, EV, Nat.reduceEqDiff, Nat.reduceBEq, Nat.reduceLT, Nat.reduceLeDiff, Nat.reduceAdd, Nat.reduceSub, reduceIte]
      refine awp_join (fun _ : Unit => obKd s.types o = false) (fun _ => stl []) ?_ ?_
      · simp only [Ob.z, Scope.z, EV, Nat.reduceEqDiff, Nat.reduceBEq, Nat.reduceLT, Nat.reduceLeDiff, Nat.reduceAdd, Nat.reduceSub, reduceIte]
        rcases k1 : (o.kind == 1) with _ | _
        rotate_left
        · simp only [k1, Ob.z, Scope.z, EV, Nat.reduceEqDiff, Nat.reduceBEq, Nat.reduceLT, Nat.reduceLeDiff, Nat.reduceAdd, Nat.reduceSub, reduceIte]
          rcases t0 : (o.typ == 0) with _ | _
          · simp only [Ob.z, Scope.z, EV, Nat.reduceEqDiff, Nat.reduceBEq, Nat.reduceLT, Nat.reduceLeDiff, Nat.reduceAdd, Nat.reduceSub, reduceIte]
            simp only [obKd, k1, t0, if_true, Bool.false_and, EV, Nat.reduceEqDiff, Nat.reduceBEq, Nat.reduceLT, Nat.reduceLeDiff, Nat.reduceAdd, Nat.reduceSub, reduceIte, evRE, retVC, cellV', evR, nfz, nfzs, nfzss, List.contains_nil, List.contains_cons, Bool.or_false, or_true]
          · simp only [Ob.z, Scope.z, EV, Nat.reduceEqDiff, Nat.reduceBEq, Nat.reduceLT, Nat.reduceLeDiff, Nat.reduceAdd, Nat.reduceSub, reduceIte]
            refine callK_i (d207 o.value) ?_
            simp only [EV, Nat.reduceEqDiff, Nat.reduceBEq, Nat.reduceLT, Nat.reduceLeDiff, Nat.reduceAdd, Nat.reduceSub, reduceIte]
            simp only [obKd, wholeB, k1, t0, if_true, Bool.true_and, EV, Nat.reduceEqDiff, Nat.reduceBEq, Nat.reduceLT, Nat.reduceLeDiff, Nat.reduceAdd, Nat.reduceSub, reduceIte, evRE, retVC, cellV', evR, nfz, nfzs, nfzss, List.contains_nil, List.contains_cons, Bool.or_false, or_true]
        simp only [k1, Ob.z, Scope.z, EV, Nat.reduceEqDiff, Nat.reduceBEq, Nat.reduceLT, Nat.reduceLeDiff, Nat.reduceAdd, Nat.reduceSub, reduceIte]
        refine awp_join (fun b : Bool => b = (o.kind == 2 || o.kind == 3)) (fun b => stl [(0, .fptr s.z), (3, .box 52 o.z), (70, .v (.int .i64 o.kind)), (81, .v (.bool b))]) ?_ ?_
        · simp only [Ob.z, Scope.z, EV, Nat.reduceEqDiff, Nat.reduceBEq, Nat.reduceLT, Nat.reduceLeDiff, Nat.reduceAdd, Nat.reduceSub, reduceIte]
          rcases k2 : (o.kind == 2) with _ | _
          · simp only [k2, EV, Nat.reduceEqDiff, Nat.reduceBEq, Nat.reduceLT, Nat.reduceLeDiff, Nat.reduceAdd, Nat.reduceSub, reduceIte]
            exact ⟨_, (Bool.false_or _).symm, rfl⟩
          · simp only [k2, EV, Nat.reduceEqDiff, Nat.reduceBEq, Nat.reduceLT, Nat.reduceLeDiff, Nat.reduceAdd, Nat.reduceSub, reduceIte]
            exact ⟨true, rfl, rfl⟩
        rintro b rfl
        rcases k2 : (o.kind == 2 || o.kind == 3) with _ | _
        rotate_left
        · simp only [evP, Ob.z, Scope.z, EV, Nat.reduceEqDiff, Nat.reduceBEq, Nat.reduceLT, Nat.reduceLeDiff, Nat.reduceAdd, Nat.reduceSub, reduceIte]
          refine callD_i (d61 s.types o.typ hs.2.2.1.1) rfl ?_
          simp only [EV, Nat.reduceEqDiff, Nat.reduceBEq, Nat.reduceLT, Nat.reduceLeDiff, Nat.reduceAdd, Nat.reduceSub, reduceIte]
          rcases e4 : isNum s.types o.typ with _ | _
          · simp only [Ob.z, Scope.z, EV, Nat.reduceEqDiff, Nat.reduceBEq, Nat.reduceLT, Nat.reduceLeDiff, Nat.reduceAdd, Nat.reduceSub, reduceIte]
            simp only [obKd, k1, k2, e4, if_true, Bool.false_eq_true, if_false, Bool.false_and, EV, Nat.reduceEqDiff, Nat.reduceBEq, Nat.reduceLT, Nat.reduceLeDiff, Nat.reduceAdd, Nat.reduceSub, reduceIte, evRE, retVC, cellV', evR, nfz, nfzs, nfzss, List.contains_nil, List.contains_cons, Bool.or_false, or_true]
          · simp only [Ob.z, Scope.z, EV, Nat.reduceEqDiff, Nat.reduceBEq, Nat.reduceLT, Nat.reduceLeDiff, Nat.reduceAdd, Nat.reduceSub, reduceIte]
            simp only [obKd, k1, k2, e4, if_true, Bool.false_eq_true, if_false, Bool.true_and, EV, Nat.reduceEqDiff, Nat.reduceBEq, Nat.reduceLT, Nat.reduceLeDiff, Nat.reduceAdd, Nat.reduceSub, reduceIte, evRE, retVC, cellV', evR, nfz, nfzs, nfzss, List.contains_nil, List.contains_cons, Bool.or_false, or_true]
        simp only [Ob.z, Scope.z, EV, Nat.reduceEqDiff, Nat.reduceBEq, Nat.reduceLT, Nat.reduceLeDiff, Nat.reduceAdd, Nat.reduceSub, reduceIte]
        rcases k4 : (o.kind == 4) with _ | _
        · have e5 : obKd s.types o = false := by simp only [obKd, k1, k2, k4, Bool.false_eq_true, if_false]
          simp only [Ob.z, Scope.z, EV, Nat.reduceEqDiff, Nat.reduceBEq, Nat.reduceLT, Nat.reduceLeDiff, Nat.reduceAdd, Nat.reduceSub, reduceIte]
          first | exact ⟨(), e5⟩ | exact ⟨(), e5, rfl⟩ | exact e5
        simp only [Ob.z, Scope.z, EV, Nat.reduceEqDiff, Nat.reduceBEq, Nat.reduceLT, Nat.reduceLeDiff, Nat.reduceAdd, Nat.reduceSub, reduceIte]
        rcases t1 : (o.typ == -1) with _ | _
        · simp only [evP, Ob.z, Scope.z, EV, Nat.reduceEqDiff, Nat.reduceBEq, Nat.reduceLT, Nat.reduceLeDiff, Nat.reduceAdd, Nat.reduceSub, reduceIte]
          refine callD_i (d61 s.types o.typ hs.2.2.1.1) rfl ?_
          simp only [EV, Nat.reduceEqDiff, Nat.reduceBEq, Nat.reduceLT, Nat.reduceLeDiff, Nat.reduceAdd, Nat.reduceSub, reduceIte]
          rcases e4 : isNum s.types o.typ with _ | _
          · simp only [Ob.z, Scope.z, EV, Nat.reduceEqDiff, Nat.reduceBEq, Nat.reduceLT, Nat.reduceLeDiff, Nat.reduceAdd, Nat.reduceSub, reduceIte]
            simp only [obKd, k1, k2, k4, t1, e4, if_true, Bool.false_eq_true, if_false, Bool.false_or, Bool.false_and, EV, Nat.reduceEqDiff, Nat.reduceBEq, Nat.reduceLT, Nat.reduceLeDiff, Nat.reduceAdd, Nat.reduceSub, reduceIte, evRE, retVC, cellV', evR, nfz, nfzs, nfzss, List.contains_nil, List.contains_cons, Bool.or_false, or_true]
          · simp only [Ob.z, Scope.z, EV, Nat.reduceEqDiff, Nat.reduceBEq, Nat.reduceLT, Nat.reduceLeDiff, Nat.reduceAdd, Nat.reduceSub, reduceIte]
            simp only [obKd, k1, k2, k4, t1, e4, if_true, Bool.false_eq_true, if_false, Bool.false_or, Bool.true_and, EV, Nat.reduceEqDiff, Nat.reduceBEq, Nat.reduceLT, Nat.reduceLeDiff, Nat.reduceAdd, Nat.reduceSub, reduceIte, evRE, retVC, cellV', evR, nfz, nfzs, nfzss, List.contains_nil, List.contains_cons, Bool.or_false, or_true]
        · simp only [evP, Ob.z, Scope.z, EV, Nat.reduceEqDiff, Nat.reduceBEq, Nat.reduceLT, Nat.reduceLeDiff, Nat.reduceAdd, Nat.reduceSub, reduceIte]
          simp only [obKd, k1, k2, k4, t1, if_true, Bool.false_eq_true, if_false, Bool.true_or, Bool.true_and, EV, Nat.reduceEqDiff, Nat.reduceBEq, Nat.reduceLT, Nat.reduceLeDiff, Nat.reduceAdd, Nat.reduceSub, reduceIte, evRE, retVC, cellV', evR, nfz, nfzs, nfzss, List.contains_nil, List.contains_cons, Bool.or_false, or_true]
      · rintro _ e5
        simp only [EV, Nat.reduceEqDiff, Nat.reduceBEq, Nat.reduceLT, Nat.reduceLeDiff, Nat.reduceAdd, Nat.reduceSub, reduceIte]
        simp only [e5, EV, Nat.reduceEqDiff, Nat.reduceBEq, Nat.reduceLT, Nat.reduceLeDiff, Nat.reduceAdd, Nat.reduceSub, reduceIte, evRE, retVC, cellV', evR, nfz, nfzs, nfzss, List.contains_nil, List.contains_cons, Bool.or_false, or_true]
end Go.AM
namespace Go.AM
set_option linter.unusedVariables false
set_option linter.unusedSimpArgs false
def m210 : MC :=
 (.seq (.reg [Xb 4 (.asg .fb)]) (.seq (.seq (.reg [Xm 9 1, Xn 10 9, Xq 11 (.mov (.i 0))]) (.block 0 (.loop [0, 1, 9, 10, 11] (.seq (.reg [Xq 12 (.bin false .lss (.t 11) (.t 10))]) (.seq (.cond (.t 12) .skip (.exit 0)) (.seq (.block 1 (.seq (.reg [Xm 13 11, Xi 14 3 9 11, XL 15 3 14, Xb 6 (.alloc 54 [.z, .b, .i]), Xa 5 13, Xz (.store 3 (.t 6) (.t 15))]) (.seq (.seq (.reg [Xf 16 0 6, Xl 17 1 16, Xb 18
 (.call (.fn 148) false [.lend (.t 17)]), Xq 19 (.un .not (.t 18)), Xm 20 19, Xu 21 20 (.fad 2 (.t 6)), Xu 22 20 (.load false 1 (.t 21)), Xu 23 20 (.mov (.t 0)), Xu 24 20 (.len false (.t 23)), Xu 25 20 (.bin false .sub (.t 24) (.i 1)), XU 26 20 (.call (.fn 72) false [.lend (.t 22), .lend (.i 0), .lend (.t 25)]), Xu 27 20 (.un .not (.t 26)), Xq 28 (.pick (.t 20) .tb (.t 27))]) (.cond (.t 28) (.seq
 (.reg [Xb 4 (.asg .fb)]) .ret) .skip)) (.seq (.reg [Xm 29 1, Xm 30 5, Xq 31 (.slc false 3 (.t 29) none (some (.t 30))), Xn 32 31, Xq 33 (.mov (.i 0))]) (.block 2 (.loop [0, 1, 6, 9, 10, 11, 29, 30, 31, 32, 33] (.seq (.reg [Xq 34 (.bin false .lss (.t 33) (.t 32))]) (.seq (.cond (.t 34) .skip (.exit 2)) (.seq (.block 3 (.seq (.reg [Xi 35 3 31 33, XL 36 3 35, Xb 8 (.alloc 54 [.z, .b, .i]), Xz (.store
 3 (.t 8) (.t 36))]) (.seq (.reg [Xf 37 0 6, Xl 38 1 37, Xf 39 0 8, Xl 40 1 39, Xq 41 (.bin false .eql (.t 38) (.t 40))]) (.cond (.t 41) (.seq (.reg [Xb 4 (.asg .fb)]) .ret) .skip)))) (.reg [Xq 42 (.bin false .add (.t 33) (.i 1)), Xm 33 42])))))))))) (.reg [Xq 43 (.bin false .add (.t 11) (.i 1)), Xm 11 43]))))))) (.seq (.reg [Xm 44 1, Xn 45 44, Xq 46 (.bin false .leq (.t 45) (.i 4)), Xa 4 46])
 .ret)))
set_option maxHeartbeats 1000000 in
set_option maxRecDepth 100000 in
theorem d210 (l : List Ty) (ps : List Par) (hl : (l.length : Int) ≤ 1048576) (hp : (ps.length : Int) ≤ 1048576) (hs : ∀ s ∈ ps, s.sm) :
    Does Go.Proofs.Tryz.prog 210 [.fsl 6 (l.map Ty.z), .fsl 3 (ps.map Par.z)] false (.v (.bool (parsOk l ps && decide ((ps.length : Int) ≤ 4)))) [.dead, .dead] := by
  refine does_intro (mc := m210) (N := 47) (rs := [4]) (fx := []) 2 rfl (by decide +kernel) ?_
  simp only [m210, EV, Nat.reduceEqDiff, Nat.reduceBEq, Nat.reduceLT, Nat.reduceLeDiff, Nat.reduceAdd, Nat.reduceSub, reduceIte]
  refine awp_loop (fun i : Nat => i ≤ ps.length ∧ parTo l ps i) (fun i => stl [(0, .fsl 6 (l.map Ty.z)), (1, .fsl 3 (ps.map Par.z)), (9, .fsl 3 (ps.map Par.z)), (10, .v (.int .i64 (ps.length : Int))), (11, .v (.int .i64 (i : Int)))]) (fun i => ps.length - i) 0 ⟨Nat.zero_le _, fun j hj h => absurd h (by omega)⟩ ?_ ?_
  · simp only [EV, Nat.reduceEqDiff, Nat.reduceBEq, Nat.reduceLT, Nat.reduceLeDiff, Nat.reduceAdd, Nat.reduceSub, reduceIte]
    rfl
  rintro i ⟨hi, hok⟩
  simp only [EV, Nat.reduceEqDiff, Nat.reduceBEq, Nat.reduceLT, Nat.reduceLeDiff, Nat.reduceAdd, Nat.reduceSub, reduceIte]
  refine cK_cut (fun h => ?_) (fun h => ?_)
  rotate_left
  · have h1 : i = ps.length := by have : ¬ (i : Int) < ps.length := by simpa using h
                                  omega
    subst h1
    simp only [EV, Nat.reduceEqDiff, Nat.reduceBEq, Nat.reduceLT, Nat.reduceLeDiff, Nat.reduceAdd, Nat.reduceSub, reduceIte]
    simp only [parsOk_yes hok, Bool.true_and, EV, Nat.reduceEqDiff, Nat.reduceBEq, Nat.reduceLT, Nat.reduceLeDiff, Nat.reduceAdd, Nat.reduceSub, reduceIte, evRE, retVC, cellV', evR, nfz, nfzs, nfzss, List.contains_nil, List.contains_cons, Bool.or_false, or_true]
  have h1 : i < ps.length := by simpa using h
  have h2 : (i : Int) < (ps.length : Int) := by omega
  have hno : parAt l ps i h1 = false → parsOk l ps = false := parsOk_no h1
  have hps := hs _ (List.getElem_mem h1)
  unfold Par.sm at hps
  have wl := w64 ((l.length : Int) - 1) (by omega)
  clear h
  simp only [ParE, nth_map h1, h2, Par.z, EV, Nat.reduceEqDiff, Nat.reduceBEq, Nat.reduceLT, Nat.reduceLeDiff, Nat.reduceAdd, Nat.reduceSub, reduceIte]
  refine callK_i (d148 ps[i].name (by omega)) ?_
  simp only [EV, Nat.reduceEqDiff, Nat.reduceBEq, Nat.reduceLT, Nat.reduceLeDiff, Nat.reduceAdd, Nat.reduceSub, reduceIte]
  rcases e1 : nameOk ps[i].name with _ | _
  · have e : parsOk l ps = false := hno (by simp only [parAt, e1, Bool.false_and])
    simp only [Bool.not_false, EV, Nat.reduceEqDiff, Nat.reduceBEq, Nat.reduceLT, Nat.reduceLeDiff, Nat.reduceAdd, Nat.reduceSub, reduceIte]
    simp only [e, Bool.false_and, EV, Nat.reduceEqDiff, Nat.reduceBEq, Nat.reduceLT, Nat.reduceLeDiff, Nat.reduceAdd, Nat.reduceSub, reduceIte, evRE, retVC, cellV', evR, nfz, nfzs, nfzss, List.contains_nil, List.contains_cons, Bool.or_false, or_true]
  simp only [Bool.not_true, wl, EV, Nat.reduceEqDiff, Nat.reduceBEq, Nat.reduceLT, Nat.reduceLeDiff, Nat.reduceAdd, Nat.reduceSub, reduceIte]
  refine callK_i (d72 ps[i].typ 0 ((l.length : Int) - 1)) ?_
  have en : (decide (0 ≤ ps[i].typ) && decide (ps[i].typ ≤ (l.length : Int) - 1)) = isNum l ps[i].typ := rfl
  rw [en]
  simp only [EV, Nat.reduceEqDiff, Nat.reduceBEq, Nat.reduceLT, Nat.reduceLeDiff, Nat.reduceAdd, Nat.reduceSub, reduceIte]
  rcases e2 : isNum l ps[i].typ with _ | _
  · have e : parsOk l ps = false := hno (by simp only [parAt, e1, e2, Bool.false_and, Bool.true_and])
    simp only [Bool.not_false, EV, Nat.reduceEqDiff, Nat.reduceBEq, Nat.reduceLT, Nat.reduceLeDiff, Nat.reduceAdd, Nat.reduceSub, reduceIte]
    simp only [e, Bool.false_and, EV, Nat.reduceEqDiff, Nat.reduceBEq, Nat.reduceLT, Nat.reduceLeDiff, Nat.reduceAdd, Nat.reduceSub, reduceIte, evRE, retVC, cellV', evR, nfz, nfzs, nfzss, List.contains_nil, List.contains_cons, Bool.or_false, or_true]
  simp only [Bool.not_true, EV, Nat.reduceEqDiff, Nat.reduceBEq, Nat.reduceLT, Nat.reduceLeDiff, Nat.reduceAdd, Nat.reduceSub, reduceIte]
  refine ⟨by omega, by omega, ?_⟩
  rw [← List.map_take]
  have hlt : (ps.take i).length = i := by simp; omega
  simp only [hlt, EV, Nat.reduceEqDiff, Nat.reduceBEq, Nat.reduceLT, Nat.reduceLeDiff, Nat.reduceAdd, Nat.reduceSub, reduceIte]
  refine awp_loop (fun j : Nat => j ≤ i ∧ ((ps.take i).take j).any (parNm ps[i]) = false) (fun j => stl [(0, .fsl 6 (l.map Ty.z)), (1, .fsl 3 (ps.map Par.z)), (6, .box 54 ps[i].z), (9, .fsl 3 (ps.map Par.z)), (10, .v (.int .i64 (ps.length : Int))), (11, .v (.int .i64 (i : Int))), (29, .fsl 3 (ps.map Par.z)), (30, .v (.int .i64 (i : Int))), (31, .fsl 3 ((ps.take i).map Par.z)), (32, .v (.int .i64 (i : Int))), (33, .v (.int .i64 (j : Int)))]) (fun j => i - j) 0 ⟨Nat.zero_le _, by simp⟩ ?_ ?_
  · simp only [Par.z, EV, Nat.reduceEqDiff, Nat.reduceBEq, Nat.reduceLT, Nat.reduceLeDiff, Nat.reduceAdd, Nat.reduceSub, reduceIte]
    rfl
  rintro j ⟨hj, hnj⟩
  simp only [EV, Nat.reduceEqDiff, Nat.reduceBEq, Nat.reduceLT, Nat.reduceLeDiff, Nat.reduceAdd, Nat.reduceSub, reduceIte]
  refine cK_cut (fun h => ?_) (fun h => ?_)
  · have j1 : j < i := by simpa using h
    have j2 : (j : Int) < (i : Int) := by omega
    have j3 : j < (ps.take i).length := by omega
    have j4 : (j : Int) < ((ps.take i).length : Int) := by omega
    clear h
    simp only [ParE, j1, j2, j3, j4, nth_map j3, hlt, Par.z, EV, Nat.reduceEqDiff, Nat.reduceBEq, Nat.reduceLT, Nat.reduceLeDiff, Nat.reduceAdd, Nat.reduceSub, reduceIte]
    have ec : (ps[i].name.toList == (ps.take i)[j].name.toList) = parNm ps[i] (ps.take i)[j] := Bool.beq_comm
    rw [ec]
    rcases e3 : parNm ps[i] (ps.take i)[j] with _ | _
    · simp only [EV, Nat.reduceEqDiff, Nat.reduceBEq, Nat.reduceLT, Nat.reduceLeDiff, Nat.reduceAdd, Nat.reduceSub, reduceIte]
      rw [w64 _ (by omega)]
      exact ⟨j + 1, ⟨j1, by rw [List.take_succ_eq_append_getElem j3, List.any_append, hnj]; simpa using e3⟩, by omega, rfl⟩
    · have e4 : (ps.take i).any (parNm ps[i]) = true := List.any_eq_true.2 ⟨_, List.getElem_mem j3, e3⟩
      have e : parsOk l ps = false := hno (by simp only [parAt, e1, e2, e4, Bool.not_true, Bool.and_false])
      simp only [EV, Nat.reduceEqDiff, Nat.reduceBEq, Nat.reduceLT, Nat.reduceLeDiff, Nat.reduceAdd, Nat.reduceSub, reduceIte]
      simp only [e, Bool.false_and, EV, Nat.reduceEqDiff, Nat.reduceBEq, Nat.reduceLT, Nat.reduceLeDiff, Nat.reduceAdd, Nat.reduceSub, reduceIte, evRE, retVC, cellV', evR, nfz, nfzs, nfzss, List.contains_nil, List.contains_cons, Bool.or_false, or_true]
  · have j1 : j = i := by have : ¬ (j : Int) < (i : Int) := by simpa using h
                          omega
    subst j1
    have e4 : (ps.take j).any (parNm ps[j]) = false := by rw [List.take_of_length_le (by omega)] at hnj; exact hnj
    simp only [EV, Nat.reduceEqDiff, Nat.reduceBEq, Nat.reduceLT, Nat.reduceLeDiff, Nat.reduceAdd, Nat.reduceSub, reduceIte]
    rw [w64 _ (by omega)]
    exact ⟨j + 1, ⟨h1, parTo_succ h1 hok (by simp only [parAt, e1, e2, e4, Bool.not_false, Bool.and_self])⟩, by omega, rfl⟩
noncomputable def obS (l : List Ty) (o : Ob) : Bool :=
  ((decide (0 ≤ o.mark) && decide (o.mark ≤ 2)) && (!(o.mark == 2) || o.kind == 3)) && (((o.kind == 1 || o.value == 0) && (o.kind == 4 || !(decide (0 < (o.params.length : Int))))) &&
    (if (o.kind == 1) = true then o.typ == 0 && wholeB o.value else if (o.kind == 2 || o.kind == 3) = true then isNum l o.typ
     else o.kind == 4 && ((decide (-1 ≤ o.typ) && decide (o.typ ≤ (l.length : Int) - 1)) && (parsOk l o.params && decide ((o.params.length : Int) ≤ 4)))))
theorem obS_eq (l : List Ty) (o : Ob) : obS l o = obOk l o := by
  have hn : isNum l o.typ = (decide (0 ≤ o.typ) && decide (o.typ ≤ (l.length : Int) - 1)) := rfl
  have hm : (decide (-1 ≤ o.typ) && decide (o.typ ≤ (l.length : Int) - 1)) = (o.typ == -1 || isNum l o.typ) := by
    rw [hn]
    by_cases h : o.typ = -1
    · rw [h]; simp; omega
    · have : (o.typ == -1) = false := by simpa using h
      rw [this, Bool.false_or]
      congr 1
      simp; omega
  by_cases hp : o.params = []
  · have hq := parsOk_nil l
    unfold obS obOk obPre obKd
    rw [hm, hp, hq]
    simp only [List.length_nil, Int.natCast_zero, Int.lt_irrefl, decide_false, Bool.not_false, Bool.or_true, Bool.and_true, Bool.true_and]
    by_cases k1 : o.kind = 1
    · simp [k1]
    by_cases k2 : o.kind = 2
    · simp [k2]
      cases (o.value == 0) <;> cases isNum l o.typ <;> simp
    by_cases k3 : o.kind = 3
    · simp [k3]
      cases (o.value == 0) <;> cases isNum l o.typ <;> simp
    by_cases k4 : o.kind = 4
    · simp [k4]
      cases (o.value == 0) <;> simp
    · simp [k1, k2, k3, k4]
  · have h0 : decide (0 < (o.params.length : Int)) = true := by
      have : 0 < o.params.length := List.length_pos_iff.2 hp
      simp; omega
    unfold obS obOk obPre obKd
    rw [hm, h0]
    by_cases k4 : o.kind = 4
    · simp [k4]
      cases (o.value == 0) <;> cases parsOk l o.params <;> simp
      cases decide ((o.params.length : Int) ≤ 4) <;> simp
    · have : (o.kind == 4) = false := by simpa using k4
      simp [this]
def m150 : MC :=
 (.seq (.reg [Xb 3 (.box 52 (.t 1)), Xb 4 (.asg .fb)]) (.seq (.seq (.reg [Xf 5 0 3, Xl 6 1 5, Xb 7 (.call (.fn 148) false [.lend (.t 6)]), Xq 8 (.un .not (.t 7)), Xm 9 8, Xu 10 9 (.fad 2 (.t 3)), Xu 11 9 (.load false 1 (.t 10)), XU 12 9 (.call (.fn 72) false [.lend (.t 11), .lend (.i 0), .lend (.i 2)]), Xu 13 9 (.un .not (.t 12)), Xq 14 (.pick (.t 9) .tb (.t 13)), Xm 15 14, Xu 16 15 (.fad 2 (.t
 3)), Xu 17 15 (.load false 1 (.t 16)), Xu 18 15 (.bin false .eql (.t 17) (.i 2)), Xu 19 15 (.mov (.t 18)), Xt 20 19 (.fad 1 (.t 3)), Xt 21 19 (.load false 1 (.t 20)), Xt 22 19 (.bin false .neq (.t 21) (.i 3)), Xu 23 15 (.pick (.t 19) (.t 22) .fb), Xq 24 (.pick (.t 15) .tb (.t 23))]) (.cond (.t 24) (.seq (.reg [Xb 4 (.asg .fb)]) .ret) .skip)) (.seq (.seq (.reg [Xf 25 1 3, Xl 26 1 25, Xq 27 (.bin
 false .neq (.t 26) (.i 1)), Xm 28 27, Xt 29 28 (.fad 4 (.t 3)), Xt 30 28 (.load false 1 (.t 29)), Xt 31 28 (.bin false .neq (.t 30) (.i 0)), Xq 32 (.pick (.t 28) (.t 31) .fb), Xm 33 32, Xu 34 33 (.fad 1 (.t 3)), Xu 35 33 (.load false 1 (.t 34)), Xu 36 33 (.bin false .neq (.t 35) (.i 4)), Xu 37 33 (.mov (.t 36)), Xt 38 37 (.fad 5 (.t 3)), Xt 39 37 (.load false 1 (.t 38)), Xt 40 37 (.len false (.t
 39)), Xt 41 37 (.bin false .gtr (.t 40) (.i 0)), Xu 42 33 (.pick (.t 37) (.t 41) .fb), Xq 43 (.pick (.t 33) .tb (.t 42))]) (.cond (.t 43) (.seq (.reg [Xb 4 (.asg .fb)]) .ret) .skip)) (.join [0, 3] (.seq (.reg [Xf 44 1 3, Xl 45 1 44]) (.block 0 (.seq (.reg [Xq 47 (.bin false .eql (.t 45) (.i 1)), Xa 46 47]) (.cond (.t 46) (.seq (.reg [Xf 48 3 3, Xl 49 1 48, Xq 50 (.bin false .eql (.t 49) (.i 0)),
 Xm 51 50, Xt 52 51 (.fad 4 (.t 3)), Xt 53 51 (.load false 1 (.t 52)), XT 54 51 (.call (.fn 72) false [.lend (.t 53), .lend (.i (-1000000000)), .lend (.i 1000000000)]), Xq 55 (.pick (.t 51) (.t 54) .fb), Xa 4 55]) .ret) (.join [0, 3, 56] (.seq (.reg [Xq 57 (.bin false .eql (.t 45) (.i 2)), Xa 56 57]) (.cond (.t 56) .skip (.reg [Xq 58 (.bin false .eql (.t 45) (.i 3)), Xa 56 58]))) (.cond (.t 56)
 (.seq (.reg [Xf 59 3 3, Xl 60 1 59, Xm 61 0, Xn 62 61, Xq 63 (.bin false .sub (.t 62) (.i 1)), Xb 64 (.call (.fn 72) false [.lend (.t 60), .lend (.i 0), .lend (.t 63)]), Xa 4 64]) .ret) .skip)))))) (.seq (.reg [Xf 65 1 3, Xl 66 1 65, Xq 67 (.bin false .eql (.t 66) (.i 4)), Xm 68 67, Xt 69 68 (.fad 3 (.t 3)), Xt 70 68 (.load false 1 (.t 69)), Xt 71 68 (.mov (.t 0)), Xt 72 68 (.len false (.t 71)),
 Xt 73 68 (.bin false .sub (.t 72) (.i 1)), XT 74 68 (.call (.fn 72) false [.lend (.t 70), .lend (.i (-1)), .lend (.t 73)]), Xq 75 (.pick (.t 68) (.t 74) .fb), Xm 76 75, Xt 77 76 (.mov (.t 0)), Xt 78 76 (.fad 5 (.t 3)), Xt 79 76 (.load false 1 (.t 78)), XT 80 76 (.call (.fn 210) false [.lend (.t 77), .lend (.t 79)]), Xq 81 (.pick (.t 76) (.t 80) .fb), Xa 4 81]) .ret)))))
set_option maxHeartbeats 4000000 in
set_option maxRecDepth 100000 in
theorem d150 (l : List Ty) (o : Ob) (hl : (l.length : Int) ≤ 1048576) (ho : o.sm) : Does Go.Proofs.Tryz.prog 150 [.fsl 6 (l.map Ty.z), .agg o.z] false (.v (.bool (nameOk o.name && obOk l o))) [.dead, .dead] := by
  have wl := w64 ((l.length : Int) - 1) (by omega)
  rw [← obS_eq]
  unfold Ob.sm at ho
  refine does_intro (mc := m150) (N := 82) (rs := [4]) (fx := []) 2 rfl (by decide +kernel) ?_
  simp only [m150, Ob.z, EV, Nat.reduceEqDiff, Nat.reduceBEq, Nat.reduceLT, Nat.reduceLeDiff, Nat.reduceAdd, Nat.reduceSub, reduceIte]
  refine callK_i (d148 o.name (by omega)) ?_
  simp only [EV, Nat.reduceEqDiff, Nat.reduceBEq, Nat.reduceLT, Nat.reduceLeDiff, Nat.reduceAdd, Nat.reduceSub, reduceIte]
  rcases e1 : nameOk o.name with _ | _
  · simp only [Bool.not_false, EV, Nat.reduceEqDiff, Nat.reduceBEq, Nat.reduceLT, Nat.reduceLeDiff, Nat.reduceAdd, Nat.reduceSub, reduceIte]
    simp only [Bool.false_and, EV, Nat.reduceEqDiff, Nat.reduceBEq, Nat.reduceLT, Nat.reduceLeDiff, Nat.reduceAdd, Nat.reduceSub, reduceIte, evRE, retVC, cellV', evR, nfz, nfzs, nfzss, List.contains_nil, List.contains_cons, Bool.or_false, or_true]
  simp only [Bool.not_true, EV, Nat.reduceEqDiff, Nat.reduceBEq, Nat.reduceLT, Nat.reduceLeDiff, Nat.reduceAdd, Nat.reduceSub, reduceIte]
  refine callK_i (d72 o.mark 0 2) ?_
  simp only [EV, Nat.reduceEqDiff, Nat.reduceBEq, Nat.reduceLT, Nat.reduceLeDiff, Nat.reduceAdd, Nat.reduceSub, reduceIte]
  rcases e2 : (decide (0 ≤ o.mark) && decide (o.mark ≤ 2)) with _ | _
  · simp only [Bool.not_false, EV, Nat.reduceEqDiff, Nat.reduceBEq, Nat.reduceLT, Nat.reduceLeDiff, Nat.reduceAdd, Nat.reduceSub, reduceIte]
    simp only [obS, e2, Bool.false_and, Bool.and_false, EV, Nat.reduceEqDiff, Nat.reduceBEq, Nat.reduceLT, Nat.reduceLeDiff, Nat.reduceAdd, Nat.reduceSub, reduceIte, evRE, retVC, cellV', evR, nfz, nfzs, nfzss, List.contains_nil, List.contains_cons, Bool.or_false, or_true]
  simp only [Bool.not_true, EV, Nat.reduceEqDiff, Nat.reduceBEq, Nat.reduceLT, Nat.reduceLeDiff, Nat.reduceAdd, Nat.reduceSub, reduceIte]
  have hk : o.kind = 1 ∨ o.kind = 2 ∨ o.kind = 3 ∨ o.kind = 4 ∨ (o.kind ≠ 1 ∧ o.kind ≠ 2 ∧ o.kind ≠ 3 ∧ o.kind ≠ 4) := by omega
  have kf : ∃ b1 b2 b3 b4 : Bool, (o.kind == 1) = b1 ∧ (o.kind == 2) = b2 ∧ (o.kind == 3) = b3 ∧ (o.kind == 4) = b4 ∧ (o.kind != 1) = !b1 ∧ (o.kind != 3) = !b3 ∧ (o.kind != 4) = !b4 ∧
      ((b1, b2, b3, b4) = (true, false, false, false) ∨ (b1, b2, b3, b4) = (false, true, false, false) ∨ (b1, b2, b3, b4) = (false, false, true, false) ∨ (b1, b2, b3, b4) = (false, false, false, true) ∨ (b1, b2, b3, b4) = (false, false, false, false)) := by
    refine ⟨_, _, _, _, rfl, rfl, rfl, rfl, rfl, rfl, rfl, ?_⟩
    rcases hk with h | h | h | h | ⟨h1, h2, h3, h4⟩
    · rw [h]; simp
    · rw [h]; simp
    · rw [h]; simp
    · rw [h]; simp
    · simp [h1, h2, h3, h4]
  obtain ⟨b1, b2, b3, b4, f1, f2, f3, f4, n1, n3, n4, hb⟩ := kf
  have g4 : (o.value != 0) = !(o.value == 0) := rfl
  rcases e3 : (o.mark == 2) with _ | _ <;> rcases e4 : (o.value == 0) with _ | _ <;> rcases e5 : decide (0 < (o.params.length : Int)) with _ | _ <;> rcases hb with hb | hb | hb | hb | hb <;> (simp only [Prod.mk.injEq] at hb; obtain ⟨rfl, rfl, rfl, rfl⟩ := hb) <;> simp only [f1, f2, f3, f4, n1, n3, n4, e4, g4, e5, Bool.not_true, Bool.not_false, EV, Nat.reduceEqDiff, Nat.reduceBEq, Nat.reduceLT, Nat.reduceLeDiff, Nat.reduceAdd, Nat.reduceSub, reduceIte]
  all_goals try (simp only [obS, f1, f2, f3, f4, e2, e3, e4, e5, Bool.not_true, Bool.not_false, Bool.or_true, Bool.or_false, Bool.and_true, Bool.and_false, Bool.true_and, Bool.false_and, EV, Nat.reduceEqDiff, Nat.reduceBEq, Nat.reduceLT, Nat.reduceLeDiff, Nat.reduceAdd, Nat.reduceSub, reduceIte, evRE, retVC, cellV', evR, nfz, nfzs, nfzss, List.contains_nil, List.contains_cons, Bool.or_false, or_true]; done)
  all_goals
    refine awp_join (fun _ : Unit => (o.kind == 1) = false ∧ (o.kind == 2 || o.kind == 3) = false) (fun _ => stl [(0, .fsl 6 (l.map Ty.z)), (3, .box 52 o.z)]) ?_ ?_
    · first
        | (simp only [f1, Ob.z, EV, Nat.reduceEqDiff, Nat.reduceBEq, Nat.reduceLT, Nat.reduceLeDiff, Nat.reduceAdd, Nat.reduceSub, reduceIte]
           rcases t0 : (o.typ == 0) with _ | _
           · simp only [Ob.z, EV, Nat.reduceEqDiff, Nat.reduceBEq, Nat.reduceLT, Nat.reduceLeDiff, Nat.reduceAdd, Nat.reduceSub, reduceIte]
             simp only [obS, t0, f1, f2, f3, f4, e2, e3, e4, e5, Bool.not_true, Bool.not_false, Bool.or_true, Bool.true_or, Bool.or_false, Bool.false_or, Bool.and_true, Bool.and_false, Bool.true_and, Bool.false_and, Bool.false_eq_true, if_true, if_false, EV, Nat.reduceEqDiff, Nat.reduceBEq, Nat.reduceLT, Nat.reduceLeDiff, Nat.reduceAdd, Nat.reduceSub, reduceIte, evRE, retVC, cellV', evR, nfz, nfzs, nfzss, List.contains_nil, List.contains_cons, Bool.or_false, or_true]
           · simp only [Ob.z, EV, Nat.reduceEqDiff, Nat.reduceBEq, Nat.reduceLT, Nat.reduceLeDiff, Nat.reduceAdd, Nat.reduceSub, reduceIte]
             refine callK_i (d72 o.value (-1000000000) 1000000000) ?_
             simp only [EV, Nat.reduceEqDiff, Nat.reduceBEq, Nat.reduceLT, Nat.reduceLeDiff, Nat.reduceAdd, Nat.reduceSub, reduceIte]
             simp only [obS, wholeB, t0, f1, f2, f3, f4, e2, e3, e4, e5, Bool.not_true, Bool.not_false, Bool.or_true, Bool.true_or, Bool.or_false, Bool.false_or, Bool.and_true, Bool.and_false, Bool.true_and, Bool.false_and, Bool.false_eq_true, if_true, if_false, EV, Nat.reduceEqDiff, Nat.reduceBEq, Nat.reduceLT, Nat.reduceLeDiff, Nat.reduceAdd, Nat.reduceSub, reduceIte, evRE, retVC, cellV', evR, nfz, nfzs, nfzss, List.contains_nil, List.contains_cons, Bool.or_false, or_true]
           done)
        | (simp only [f1, Ob.z, EV, Nat.reduceEqDiff, Nat.reduceBEq, Nat.reduceLT, Nat.reduceLeDiff, Nat.reduceAdd, Nat.reduceSub, reduceIte]
           refine awp_join (fun b : Bool => b = true) (fun b => stl [(0, .fsl 6 (l.map Ty.z)), (3, .box 52 o.z), (56, .v (.bool b))]) ?_ ?_
           · simp only [f2, f3, Ob.z, EV, Nat.reduceEqDiff, Nat.reduceBEq, Nat.reduceLT, Nat.reduceLeDiff, Nat.reduceAdd, Nat.reduceSub, reduceIte]
             exact ⟨true, rfl, rfl⟩
           rintro _ rfl
           simp only [wl, Ob.z, EV, Nat.reduceEqDiff, Nat.reduceBEq, Nat.reduceLT, Nat.reduceLeDiff, Nat.reduceAdd, Nat.reduceSub, reduceIte]
           refine callK_i (d72 o.typ 0 ((l.length : Int) - 1)) ?_
           have en : (decide (0 ≤ o.typ) && decide (o.typ ≤ (l.length : Int) - 1)) = isNum l o.typ := rfl
           rw [en]
           simp only [EV, Nat.reduceEqDiff, Nat.reduceBEq, Nat.reduceLT, Nat.reduceLeDiff, Nat.reduceAdd, Nat.reduceSub, reduceIte]
           simp only [obS, f1, f2, f3, f4, e2, e3, e4, e5, Bool.not_true, Bool.not_false, Bool.or_true, Bool.true_or, Bool.or_false, Bool.false_or, Bool.and_true, Bool.and_false, Bool.true_and, Bool.false_and, Bool.false_eq_true, if_true, if_false, EV, Nat.reduceEqDiff, Nat.reduceBEq, Nat.reduceLT, Nat.reduceLeDiff, Nat.reduceAdd, Nat.reduceSub, reduceIte, evRE, retVC, cellV', evR, nfz, nfzs, nfzss, List.contains_nil, List.contains_cons, Bool.or_false, or_true]
           done)
        | (simp only [f1, Ob.z, EV, Nat.reduceEqDiff, Nat.reduceBEq, Nat.reduceLT, Nat.reduceLeDiff, Nat.reduceAdd, Nat.reduceSub, reduceIte]
           refine awp_join (fun b : Bool => b = false) (fun b => stl [(0, .fsl 6 (l.map Ty.z)), (3, .box 52 o.z), (56, .v (.bool b))]) ?_ ?_
           · simp only [f2, f3, Ob.z, EV, Nat.reduceEqDiff, Nat.reduceBEq, Nat.reduceLT, Nat.reduceLeDiff, Nat.reduceAdd, Nat.reduceSub, reduceIte]
             exact ⟨false, rfl, rfl⟩
           rintro _ rfl
           simp only [f1, f2, f3, Ob.z, Bool.or_false, EV, Nat.reduceEqDiff, Nat.reduceBEq, Nat.reduceLT, Nat.reduceLeDiff, Nat.reduceAdd, Nat.reduceSub, reduceIte]
           exact ⟨(), trivial⟩)
    · rintro _ ⟨x1, x2⟩
      first
        | (exfalso; simp [f1] at x1; done)
        | (exfalso; simp [f2, f3] at x2; done)
        | (simp only [f4, Ob.z, EV, Nat.reduceEqDiff, Nat.reduceBEq, Nat.reduceLT, Nat.reduceLeDiff, Nat.reduceAdd, Nat.reduceSub, reduceIte]
           simp only [obS, f1, f2, f3, f4, e2, e3, e4, e5, Bool.not_true, Bool.not_false, Bool.or_true, Bool.true_or, Bool.or_false, Bool.false_or, Bool.and_true, Bool.and_false, Bool.true_and, Bool.false_and, Bool.false_eq_true, if_true, if_false, EV, Nat.reduceEqDiff, Nat.reduceBEq, Nat.reduceLT, Nat.reduceLeDiff, Nat.reduceAdd, Nat.reduceSub, reduceIte, evRE, retVC, cellV', evR, nfz, nfzs, nfzss, List.contains_nil, List.contains_cons, Bool.or_false, or_true]
           done)
        | (simp only [f4, wl, Ob.z, EV, Nat.reduceEqDiff, Nat.reduceBEq, Nat.reduceLT, Nat.reduceLeDiff, Nat.reduceAdd, Nat.reduceSub, reduceIte]
           refine callK_i (d72 o.typ (-1) ((l.length : Int) - 1)) ?_
           simp only [EV, Nat.reduceEqDiff, Nat.reduceBEq, Nat.reduceLT, Nat.reduceLeDiff, Nat.reduceAdd, Nat.reduceSub, reduceIte]
           rcases e6 : (decide (-1 ≤ o.typ) && decide (o.typ ≤ (l.length : Int) - 1)) with _ | _
           · simp only [EV, Nat.reduceEqDiff, Nat.reduceBEq, Nat.reduceLT, Nat.reduceLeDiff, Nat.reduceAdd, Nat.reduceSub, reduceIte]
             simp only [obS, e6, f1, f2, f3, f4, e2, e3, e4, e5, Bool.not_true, Bool.not_false, Bool.or_true, Bool.true_or, Bool.or_false, Bool.false_or, Bool.and_true, Bool.and_false, Bool.true_and, Bool.false_and, Bool.false_eq_true, if_true, if_false, EV, Nat.reduceEqDiff, Nat.reduceBEq, Nat.reduceLT, Nat.reduceLeDiff, Nat.reduceAdd, Nat.reduceSub, reduceIte, evRE, retVC, cellV', evR, nfz, nfzs, nfzss, List.contains_nil, List.contains_cons, Bool.or_false, or_true]
           · simp only [Ob.z, EV, Nat.reduceEqDiff, Nat.reduceBEq, Nat.reduceLT, Nat.reduceLeDiff, Nat.reduceAdd, Nat.reduceSub, reduceIte]
             refine callK_i (d210 l o.params hl ho.2.2.2.2.2.1 ho.2.2.2.2.2.2) ?_
             simp only [EV, Nat.reduceEqDiff, Nat.reduceBEq, Nat.reduceLT, Nat.reduceLeDiff, Nat.reduceAdd, Nat.reduceSub, reduceIte]
             simp only [obS, e6, f1, f2, f3, f4, e2, e3, e4, e5, Bool.not_true, Bool.not_false, Bool.or_true, Bool.true_or, Bool.or_false, Bool.false_or, Bool.and_true, Bool.and_false, Bool.true_and, Bool.false_and, Bool.false_eq_true, if_true, if_false, EV, Nat.reduceEqDiff, Nat.reduceBEq, Nat.reduceLT, Nat.reduceLeDiff, Nat.reduceAdd, Nat.reduceSub, reduceIte, evRE, retVC, cellV', evR, nfz, nfzs, nfzss, List.contains_nil, List.contains_cons, Bool.or_false, or_true]
           done)
end Go.AM
namespace Go.AM
set_option linter.unusedVariables false
set_option linter.unusedSimpArgs false
noncomputable def tyAt (l m : List Ty) (i : Nat) (h : i < m.length) : Bool :=
  !(!nil' m[i].name && (m.take i).any (tyNm m[i])) && tyOk l m[i]
def tyTo (l m : List Ty) (n : Nat) : Prop := ∀ i (h : i < m.length), i < n → tyAt l m i h = true
open Classical in
noncomputable def tysOk (l : List Ty) : Bool := (decide (3 ≤ (l.length : Int)) && decide ((l.length : Int) ≤ 24)) && (eqL sameTy (l.take 3) baseTs && decide (tyTo l (l.drop 3) (l.drop 3).length))
theorem tyTo_succ {l m : List Ty} {i : Nat} (h : i < m.length) (h1 : tyTo l m i) (h2 : tyAt l m i h = true) : tyTo l m (i + 1) := by
  intro j hj hji
  by_cases e : j = i
  · subst e; exact h2
  · exact h1 j hj (by omega)
theorem tysOk_no {l : List Ty} {i : Nat} (h : i < (l.drop 3).length) (h2 : tyAt l (l.drop 3) i h = false) : tysOk l = false := by
  have : ¬ tyTo l (l.drop 3) (l.drop 3).length := by
    intro h1
    have := h1 i h h
    rw [h2] at this; cases this
  simp only [tysOk, this, decide_false, Bool.and_false]
theorem tysOk_yes {l : List Ty} (h1 : (decide (3 ≤ (l.length : Int)) && decide ((l.length : Int) ≤ 24)) = true) (h2 : eqL sameTy (l.take 3) baseTs = true) (h : tyTo l (l.drop 3) (l.drop 3).length) : tysOk l = true := by
  simp only [tysOk, h1, h2, h, decide_true, Bool.and_self]
theorem base_len : baseTs.length = 3 := rfl
theorem base_sm : ∀ b ∈ baseTs, b.sm := by
  intro b hb
  have hz : ∀ x : ByteArray, x = ⟨#[]⟩ ∨ x = ⟨#[73, 78, 84]⟩ ∨ x = ⟨#[66, 79, 79, 76]⟩ ∨ x = ⟨#[67, 72, 65, 82]⟩ → (x.size : Int) ≤ 1048576 := by
    rintro x (rfl | rfl | rfl | rfl) <;> decide
  simp only [baseTs, List.mem_cons, List.not_mem_nil, or_false] at hb
  rcases hb with rfl | rfl | rfl <;> exact ⟨trivial, trivial, trivial, ⟨by simp, by simp⟩, hz _ (by simp), hz _ (by simp)⟩
def m125 : MC :=
 (.seq (.reg [Xb 2 (.asg .fb)]) (.seq (.reg [Xb 7 (.call (.fn 184) false []), Xa 3 7]) (.seq (.seq (.reg [Xm 8 0, Xn 9 8, Xm 10 3, Xn 11 10, Xb 12 (.call (.fn 78) false [.lend (.t 9), .lend (.t 11), .lend (.i 24)]), Xq 13 (.un .not (.t 12)), Xm 14 13, Xu 15 14 (.mov (.t 0)), Xu 16 14 (.mov (.t 3)), Xu 17 14 (.len false (.t 16)), Xu 18 14 (.slc false 6 (.t 15) none (some (.t 17))), Xu 19 14 (.mov
 (.t 3)), XU 20 14 (.call (.fn 185) false [.lend (.t 18), .lend (.t 19), .lend (.fn 186)]), Xu 21 14 (.un .not (.t 20)), Xq 22 (.pick (.t 14) .tb (.t 21))]) (.cond (.t 22) (.seq (.reg [Xb 2 (.asg .fb)]) .ret) .skip)) (.seq (.seq (.reg [Xm 23 0, Xm 24 3, Xn 25 24, Xq 26 (.slc false 6 (.t 23) (some (.t 25)) none), Xn 27 26, Xq 28 (.mov (.i 0))]) (.block 0 (.loop [0, 3, 7, 23, 25, 26, 27, 28] (.seq
 (.reg [Xq 29 (.bin false .lss (.t 28) (.t 27))]) (.seq (.cond (.t 29) .skip (.exit 0)) (.seq (.block 1 (.seq (.reg [Xm 30 28, Xi 31 6 26 28, XL 32 6 31, Xb 5 (.alloc 40 [.i, .i, .i, .s 97 3, .z, .z]), Xa 4 30, Xz (.store 6 (.t 5) (.t 32))]) (.seq (.reg [Xf 33 5 5, Xl 34 1 33, Xq 35 (.bin false .neq (.t 34) (.z #[])), Xm 36 35, Xt 37 36 (.mov (.t 0)), Xt 38 36 (.mov (.t 3)), Xt 39 36 (.len false
 (.t 38)), Xt 40 36 (.mov (.t 3)), Xt 41 36 (.len false (.t 40)), Xt 42 36 (.mov (.t 4)), Xt 43 36 (.bin false .add (.t 41) (.t 42)), Xt 44 36 (.slc false 6 (.t 37) (some (.t 39)) (some (.t 43))), Xt 45 36 (.mkf 188 [.t 5]), XT 46 36 (.call (.fn 187) false [.lend (.t 44), .lend (.t 45)]), Xq 47 (.pick (.t 36) (.t 46) .fb), Xa 6 47]) (.seq (.reg [Xm 48 6, Xm 49 48, Xu 50 49 (.mov (.t 0)), Xu 51 49
 (.load true 6 (.t 5)), XU 52 49 (.call (.fn 189) false [.lend (.t 50), .lend (.t 51)]), Xu 53 49 (.un .not (.t 52)), Xq 54 (.pick (.t 49) .tb (.t 53))]) (.cond (.t 54) (.seq (.reg [Xb 2 (.asg .fb)]) .ret) .skip))))) (.reg [Xq 55 (.bin false .add (.t 28) (.i 1)), Xm 28 55]))))))) (.seq (.reg [Xb 2 (.asg .tb)]) .ret)))))
set_option maxHeartbeats 1000000 in
set_option maxRecDepth 100000 in
theorem d125 (l : List Ty) (hl : (l.length : Int) ≤ 1048576) (hs : ∀ s ∈ l, s.sm) : Does Go.Proofs.Tryz.prog 125 [.fsl 6 (l.map Ty.z)] false (.v (.bool (tysOk l))) [.dead] := by
  refine does_intro (mc := m125) (N := 56) (rs := [2]) (fx := []) 1 rfl (by decide +kernel) ?_
  simp only [m125, EV, Nat.reduceEqDiff, Nat.reduceBEq, Nat.reduceLT, Nat.reduceLeDiff, Nat.reduceAdd, Nat.reduceSub, reduceIte]
  refine callK_i d184 ?_
  have h3 : ((3 : Nat) : Int) = 3 := rfl
  simp only [base_len, h3, EV, Nat.reduceEqDiff, Nat.reduceBEq, Nat.reduceLT, Nat.reduceLeDiff, Nat.reduceAdd, Nat.reduceSub, reduceIte]
  refine callK_i (d78 _ _ _) ?_
  simp only [base_len, h3, EV, Nat.reduceEqDiff, Nat.reduceBEq, Nat.reduceLT, Nat.reduceLeDiff, Nat.reduceAdd, Nat.reduceSub, reduceIte]
  rcases e1 : (decide (3 ≤ (l.length : Int)) && decide ((l.length : Int) ≤ 24)) with _ | _
  · have e : tysOk l = false := by simp only [tysOk, e1, Bool.false_and]
    simp only [EV, Nat.reduceEqDiff, Nat.reduceBEq, Nat.reduceLT, Nat.reduceLeDiff, Nat.reduceAdd, Nat.reduceSub, reduceIte]
    simp only [e, Ty.nfz, EV, Nat.reduceEqDiff, Nat.reduceBEq, Nat.reduceLT, Nat.reduceLeDiff, Nat.reduceAdd, Nat.reduceSub, reduceIte, evRE, retVC, cellV', evR, nfz, nfzs, nfzss, List.contains_nil, List.contains_cons, Bool.or_false, or_true]
  have hl3 : 3 ≤ (l.length : Int) ∧ (l.length : Int) ≤ 24 := by simpa using e1
  have ht3 : (l.take 3).length = 3 := by simp; omega
  have hd3 : (l.drop 3).length = l.length - 3 := by simp
  simp only [base_len, h3, Ty.frz, EV, Nat.reduceEqDiff, Nat.reduceBEq, Nat.reduceLT, Nat.reduceLeDiff, Nat.reduceAdd, Nat.reduceSub, reduceIte]
  refine ⟨by omega, by omega, hl3.1, ?_⟩
  have t3 : (3 : Int).toNat = 3 := rfl
  simp only [← List.map_take, t3]
  refine callK_i (d185 (l.take 3) baseTs (by omega) (by rw [base_len]; omega) 186 sameTy (fun a ha b hb => d186 a b (hs a (List.mem_of_mem_take ha)) (base_sm b hb))) ?_
  simp only [base_len, h3, EV, Nat.reduceEqDiff, Nat.reduceBEq, Nat.reduceLT, Nat.reduceLeDiff, Nat.reduceAdd, Nat.reduceSub, reduceIte]
  rcases e2 : eqL sameTy (l.take 3) baseTs with _ | _
  · have e : tysOk l = false := by simp only [tysOk, e1, e2, Bool.false_and, Bool.and_false]
    simp only [EV, Nat.reduceEqDiff, Nat.reduceBEq, Nat.reduceLT, Nat.reduceLeDiff, Nat.reduceAdd, Nat.reduceSub, reduceIte]
    simp only [e, Ty.nfz, EV, Nat.reduceEqDiff, Nat.reduceBEq, Nat.reduceLT, Nat.reduceLeDiff, Nat.reduceAdd, Nat.reduceSub, reduceIte, evRE, retVC, cellV', evR, nfz, nfzs, nfzss, List.contains_nil, List.contains_cons, Bool.or_false, or_true]
  simp only [base_len, h3, EV, Nat.reduceEqDiff, Nat.reduceBEq, Nat.reduceLT, Nat.reduceLeDiff, Nat.reduceAdd, Nat.reduceSub, reduceIte]
  refine ⟨by omega, hl3.1, by omega, ?_⟩
  simp only [← List.map_drop, ← List.map_take, t3]
  have hm : ∃ m, m = l.drop 3 := ⟨_, rfl⟩
  obtain ⟨m, hm⟩ := hm
  have hml : (m.length : Int) = (l.length : Int) - 3 := by rw [hm]; simp; omega
  have hsub : ∀ x ∈ m, x ∈ l := by rw [hm]; exact fun x hx => List.mem_of_mem_drop hx
  have p9 : ∀ i (h : i < m.length), tyAt l m i h = false → tysOk l = false := by
    subst hm; exact fun i h e => tysOk_no h e
  refine awp_loop (fun i : Nat => i ≤ m.length ∧ tyTo l m i) (fun i => stl [(0, .fsl 6 (l.map Ty.z)), (3, .usl 40 6 (baseTs.map Ty.o)), (7, .dead), (23, .fsl 6 (l.map Ty.z)), (25, .v (.int .i64 3)), (26, .fsl 6 (m.map Ty.z)), (27, .v (.int .i64 (m.length : Int))), (28, .v (.int .i64 (i : Int)))]) (fun i => m.length - i) 0 ⟨Nat.zero_le _, fun j hj h => absurd h (by omega)⟩ ?_ ?_
  · have htk : List.take (l.length - 3) m = m := List.take_of_length_le (by omega)
    simp only [← hm, htk, EV, Nat.reduceEqDiff, Nat.reduceBEq, Nat.reduceLT, Nat.reduceLeDiff, Nat.reduceAdd, Nat.reduceSub, reduceIte]
    rfl
  · rintro i ⟨hi, hok⟩
    simp only [EV, Nat.reduceEqDiff, Nat.reduceBEq, Nat.reduceLT, Nat.reduceLeDiff, Nat.reduceAdd, Nat.reduceSub, reduceIte]
    refine cK_cut (fun h => ?_) (fun h => ?_)
    · have h1 : i < m.length := by simpa using h
      have h2 : (i : Int) < (m.length : Int) := by omega
      have hso : m[i].sm := hs m[i] (hsub _ (List.getElem_mem h1))
      clear h
      simp only [TyE, nth_map h1, h2, base_len, h3, Ty.z, EV, Nat.reduceEqDiff, Nat.reduceBEq, Nat.reduceLT, Nat.reduceLeDiff, Nat.reduceAdd, Nat.reduceSub, reduceIte]
      have hw : IntKind.i64.wrap (3 + (i : Int)) = ((3 + i : Nat) : Int) := by rw [w64 _ (by omega)]; omega
      have hdt : List.take (3 + i - 3) (List.drop 3 (l.map Ty.z)) = (m.take i).map Ty.z := by
        rw [hm, Nat.add_sub_cancel_left, ← List.map_drop, ← List.map_take]
      have en : (m[i].name.toList == (⟨#[]⟩ : ByteArray).toList) = nil' m[i].name := rfl
      have hcl : Ty.z m[i] = [.v (.int .i64 m[i].kind), .v (.int .i64 m[i].long), .v (.int .i64 m[i].base), .fsl 3 (m[i].fields.map Fd.z), .v (.string m[i].owner), .v (.string m[i].name)] := rfl
      have d7 := d189 l m[i] hl hso
      have dc := d187 (m.take i) (by simp; omega) 188 [.fptr m[i].z] (tyNm m[i]) rfl rfl (fun _ => rfl) (fun _ => rfl) (fun s _ => d188 s m[i])
      rw [hcl] at d7 dc
      rw [en]
      rcases e3 : nil' m[i].name with _ | _
      · simp only [Bool.not_false, base_len, h3, hw, t3, EV, Nat.reduceEqDiff, Nat.reduceBEq, Nat.reduceLT, Nat.reduceLeDiff, Nat.reduceAdd, Nat.reduceSub, reduceIte]
        refine ⟨by omega, by omega, by omega, ?_⟩
        rw [hdt]
        refine callK_i dc ?_
        simp only [EV, Nat.reduceEqDiff, Nat.reduceBEq, Nat.reduceLT, Nat.reduceLeDiff, Nat.reduceAdd, Nat.reduceSub, reduceIte]
        rcases e4 : (m.take i).any (tyNm m[i]) with _ | _
        · simp only [EV, Nat.reduceEqDiff, Nat.reduceBEq, Nat.reduceLT, Nat.reduceLeDiff, Nat.reduceAdd, Nat.reduceSub, reduceIte]
          refine callK_i d7 ?_
          simp only [EV, Nat.reduceEqDiff, Nat.reduceBEq, Nat.reduceLT, Nat.reduceLeDiff, Nat.reduceAdd, Nat.reduceSub, reduceIte]
          rcases e5 : tyOk l m[i] with _ | _
          · have e : tysOk l = false := p9 i h1 (by simp only [tyAt, e5, Bool.and_false])
            simp only [EV, Nat.reduceEqDiff, Nat.reduceBEq, Nat.reduceLT, Nat.reduceLeDiff, Nat.reduceAdd, Nat.reduceSub, reduceIte]
            simp only [e, Ty.nfz, EV, Nat.reduceEqDiff, Nat.reduceBEq, Nat.reduceLT, Nat.reduceLeDiff, Nat.reduceAdd, Nat.reduceSub, reduceIte, evRE, retVC, cellV', evR, nfz, nfzs, nfzss, List.contains_nil, List.contains_cons, Bool.or_false, or_true]
          · simp only [EV, Nat.reduceEqDiff, Nat.reduceBEq, Nat.reduceLT, Nat.reduceLeDiff, Nat.reduceAdd, Nat.reduceSub, reduceIte]
            rw [w64 _ (by omega)]
            exact ⟨i + 1, ⟨h1, tyTo_succ h1 hok (by simp only [tyAt, e3, e4, e5, Bool.and_false, Bool.not_false, Bool.and_self])⟩, by omega, rfl⟩
        · have e : tysOk l = false := p9 i h1 (by simp only [tyAt, e3, e4, Bool.not_false, Bool.and_self, Bool.not_true, Bool.false_and])
          simp only [EV, Nat.reduceEqDiff, Nat.reduceBEq, Nat.reduceLT, Nat.reduceLeDiff, Nat.reduceAdd, Nat.reduceSub, reduceIte]
          simp only [e, Ty.nfz, EV, Nat.reduceEqDiff, Nat.reduceBEq, Nat.reduceLT, Nat.reduceLeDiff, Nat.reduceAdd, Nat.reduceSub, reduceIte, evRE, retVC, cellV', evR, nfz, nfzs, nfzss, List.contains_nil, List.contains_cons, Bool.or_false, or_true]
      · simp only [Bool.not_true, EV, Nat.reduceEqDiff, Nat.reduceBEq, Nat.reduceLT, Nat.reduceLeDiff, Nat.reduceAdd, Nat.reduceSub, reduceIte]
        refine callK_i d7 ?_
        simp only [EV, Nat.reduceEqDiff, Nat.reduceBEq, Nat.reduceLT, Nat.reduceLeDiff, Nat.reduceAdd, Nat.reduceSub, reduceIte]
        rcases e5 : tyOk l m[i] with _ | _
        · have e : tysOk l = false := p9 i h1 (by simp only [tyAt, e5, Bool.and_false])
          simp only [EV, Nat.reduceEqDiff, Nat.reduceBEq, Nat.reduceLT, Nat.reduceLeDiff, Nat.reduceAdd, Nat.reduceSub, reduceIte]
          simp only [e, Ty.nfz, EV, Nat.reduceEqDiff, Nat.reduceBEq, Nat.reduceLT, Nat.reduceLeDiff, Nat.reduceAdd, Nat.reduceSub, reduceIte, evRE, retVC, cellV', evR, nfz, nfzs, nfzss, List.contains_nil, List.contains_cons, Bool.or_false, or_true]
        · simp only [EV, Nat.reduceEqDiff, Nat.reduceBEq, Nat.reduceLT, Nat.reduceLeDiff, Nat.reduceAdd, Nat.reduceSub, reduceIte]
          rw [w64 _ (by omega)]
          exact ⟨i + 1, ⟨h1, tyTo_succ h1 hok (by simp only [tyAt, e3, e5, Bool.not_true, Bool.false_and, Bool.not_false, Bool.and_self])⟩, by omega, rfl⟩
    · have h1 : i = m.length := by have : ¬ (i : Int) < m.length := by simpa using h
                                   omega
      subst h1
      have e : tysOk l = true := tysOk_yes e1 e2 (by rw [← hm]; exact hok)
      simp only [EV, Nat.reduceEqDiff, Nat.reduceBEq, Nat.reduceLT, Nat.reduceLeDiff, Nat.reduceAdd, Nat.reduceSub, reduceIte]
      simp only [e, Ty.nfz, EV, Nat.reduceEqDiff, Nat.reduceBEq, Nat.reduceLT, Nat.reduceLeDiff, Nat.reduceAdd, Nat.reduceSub, reduceIte, evRE, retVC, cellV', evR, nfz, nfzs, nfzss, List.contains_nil, List.contains_cons, Bool.or_false, or_true]
end Go.AM
namespace Go.AM
set_option linter.unusedVariables false
set_option linter.unusedSimpArgs false
def prt (ptr : Bool) (t : Ty) : List Int := (if (decide (0 ≤ t.base) && (ptr || !(t.kind == 6))) = true then [t.base] else []) ++ t.fields.map Fd.typ
def kids (l : List Ty) (ptr : Bool) (n : Int) : List Int := match l[n.toNat]? with
  | some t => prt ptr t
  | none => []
theorem kids_at {l : List Ty} {ptr : Bool} {n : Int} (h : n.toNat < l.length) : kids l ptr n = prt ptr l[n.toNat] := by simp [kids, h]
inductive Rch (l : List Ty) (ptr : Bool) (fr : List Int) : Int → Prop where
  | base {n : Int} : n ∈ fr → Rch l ptr fr n
  | step {m n : Int} : Rch l ptr fr m → n ∈ kids l ptr m → Rch l ptr fr n
theorem Rch.mono {l : List Ty} {ptr : Bool} {fr fr' : List Int} (h : ∀ n ∈ fr, Rch l ptr fr' n) {n : Int} (hr : Rch l ptr fr n) : Rch l ptr fr' n := by
  induction hr with
  | base hm => exact h _ hm
  | step _ hk ih => exact .step ih hk
def kidsIn (l : List Ty) : Prop := ∀ n : Int, 0 ≤ n → n < l.length → ∀ k ∈ kids l true n, 0 ≤ k ∧ k < (l.length : Int)
theorem kids_sub {l : List Ty} {ptr : Bool} {n k : Int} (h : k ∈ kids l ptr n) : k ∈ kids l true n := by
  cases ptr with
  | true => exact h
  | false =>
    unfold kids at h ⊢
    split
    · rename_i t ht
      rw [ht] at h
      simp only [prt, List.mem_append] at h ⊢
      rcases h with h | h
      · left
        split at h
        · rename_i hc
          rw [if_pos (by simp only [Bool.and_eq_true] at hc ⊢; exact ⟨hc.1, rfl⟩)]
          exact h
        · simp at h
      · exact .inr h
    · rename_i ht; rw [ht] at h; exact h
theorem Rch.inr {l : List Ty} {ptr : Bool} {fr : List Int} (hk : kidsIn l) (hf : ∀ k ∈ fr, 0 ≤ k ∧ k < (l.length : Int)) {n : Int} (h : Rch l ptr fr n) : 0 ≤ n ∧ n < (l.length : Int) := by
  induction h with
  | base hm => exact hf _ hm
  | step _ hm ih => exact hk _ ih.1 ih.2 _ (kids_sub hm)
open Classical in
noncomputable def reachL (l : List Ty) (ptr : Bool) (fr : List Int) : List Int := ((List.range l.length).map Int.ofNat).filter fun n => decide (Rch l ptr fr n)
theorem mem_reachL {l : List Ty} {ptr : Bool} {fr : List Int} {n : Int} : n ∈ reachL l ptr fr ↔ (0 ≤ n ∧ n < (l.length : Int)) ∧ Rch l ptr fr n := by
  simp only [reachL, List.mem_filter, List.mem_map, List.mem_range, decide_eq_true_eq]
  constructor
  · rintro ⟨⟨k, hk, rfl⟩, h⟩
    exact ⟨⟨Int.natCast_nonneg k, by exact Int.ofNat_lt.2 hk⟩, h⟩
  · rintro ⟨⟨h0, h1⟩, h⟩
    exact ⟨⟨n.toNat, by omega, by exact Int.toNat_of_nonneg h0⟩, h⟩
theorem range_up : ∀ n : Nat, ((List.range n).map Int.ofNat).Pairwise (· < ·) := by
  intro n
  rw [List.pairwise_map]
  exact List.Pairwise.imp (fun h => Int.ofNat_lt.2 h) List.pairwise_lt_range
theorem reachL_up (l : List Ty) (ptr : Bool) (fr : List Int) : (reachL l ptr fr).Pairwise (· < ·) := List.Pairwise.filter _ (range_up _)
theorem up_eq : ∀ {a b : List Int}, a.Pairwise (· < ·) → b.Pairwise (· < ·) → (∀ n, n ∈ a ↔ n ∈ b) → a = b
  | [], [], _, _, _ => rfl
  | [], y :: b, _, _, h => by have := (h y).2 (by simp); simp at this
  | x :: a, [], _, _, h => by have := (h x).1 (by simp); simp at this
  | x :: a, y :: b, ha, hb, h => by
    rw [List.pairwise_cons] at ha hb
    have e : x = y := by
      have h1 := (h x).1 (by simp)
      have h2 := (h y).2 (by simp)
      rcases List.mem_cons.1 h1 with h1 | h1
      · exact h1
      · rcases List.mem_cons.1 h2 with h2 | h2
        · exact h2.symm
        · have := ha.1 y h2; have := hb.1 x h1; omega
    subst e
    rw [up_eq ha.2 hb.2 (fun n => ?_)]
    have := h n
    simp only [List.mem_cons] at this
    constructor
    · intro hn
      rcases this.1 (.inr hn) with e | h3
      · have := ha.1 n hn; omega
      · exact h3
    · intro hn
      rcases this.2 (.inr hn) with e | h3
      · have := hb.1 n hn; omega
      · exact h3
theorem up_nodup {a : List Int} (h : a.Pairwise (· < ·)) : a.Nodup := h.imp fun h => by omega
theorem reachL_congr {l : List Ty} {ptr : Bool} {fr fr' : List Int} (h : ∀ n, n ∈ fr ↔ n ∈ fr') : reachL l ptr fr = reachL l ptr fr' := by
  refine up_eq (reachL_up _ _ _) (reachL_up _ _ _) fun n => ?_
  rw [mem_reachL, mem_reachL]
  constructor
  · rintro ⟨h1, h2⟩; exact ⟨h1, h2.mono fun n hn => .base ((h n).1 hn)⟩
  · rintro ⟨h1, h2⟩; exact ⟨h1, h2.mono fun n hn => .base ((h n).2 hn)⟩
theorem reachL_of {l : List Ty} {ptr : Bool} {fr out : List Int} (hk : kidsIn l) (hf : ∀ k ∈ fr, 0 ≤ k ∧ k < (l.length : Int)) (hu : out.Pairwise (· < ·)) (hfr : ∀ n ∈ fr, n ∈ out) (hcl : ∀ n ∈ out, ∀ k ∈ kids l ptr n, k ∈ out) (hr : ∀ n ∈ out, Rch l ptr fr n) : out = reachL l ptr fr := by
  refine up_eq hu (reachL_up _ _ _) fun n => ?_
  rw [mem_reachL]
  constructor
  · intro h; exact ⟨(hr n h).inr hk hf, hr n h⟩
  · rintro ⟨hx, h⟩
    clear hr hu hf hk hx
    induction h with
    | base hm => exact hfr _ hm
    | step _ hm ih => exact hcl _ ih _ hm
theorem sub_len : ∀ {a b : List Int}, a.Nodup → (∀ x ∈ a, x ∈ b) → a.length ≤ b.length
  | [], b, _, _ => Nat.zero_le _
  | x :: a, b, hn, h => by
    rw [List.nodup_cons] at hn
    have hx := h x (by simp)
    have ih := sub_len (b := b.erase x) hn.2 fun y hy => by
      have hne : y ≠ x := by intro e; subst e; exact hn.1 hy
      exact (List.mem_erase_of_ne hne).2 (h y (by simp [hy]))
    have he := List.length_erase_of_mem hx
    have hp : 0 < b.length := List.length_pos_of_mem hx
    simp only [List.length_cons]
    omega
theorem nodup_le {out : List Int} {n : Nat} (hn : out.Nodup) (h : ∀ k ∈ out, 0 ≤ k ∧ k < (n : Int)) : out.length ≤ n := by
  have := sub_len (b := (List.range n).map Int.ofNat) hn fun k hk => by
    obtain ⟨h0, h1⟩ := h k hk
    rw [List.mem_map]
    exact ⟨k.toNat, by rw [List.mem_range]; omega, Int.toNat_of_nonneg h0⟩
  simpa using this
noncomputable def roundAt (l : List Ty) (n : Int) : Bool := (reachL l false (kids l false n)).contains n
noncomputable def tabOk (l : List Ty) : Bool := tysOk l && (List.range l.length).all fun n => !roundAt l (n : Int)
noncomputable def rk (l : List Ty) (n : Int) : Nat := (reachL l false (kids l false n)).length
theorem filter_lt {p q : Int → Bool} : ∀ {L : List Int} {x : Int}, (∀ y ∈ L, p y = true → q y = true) → x ∈ L → q x = true → p x = false → (L.filter p).length < (L.filter q).length
  | [], x, _, hx, _, _ => by simp at hx
  | y :: L, x, h, hx, h1, h2 => by
    have le : ∀ {L : List Int}, (∀ y ∈ L, p y = true → q y = true) → (L.filter p).length ≤ (L.filter q).length := by
      intro L h
      induction L with
      | nil => simp
      | cons z L ih =>
        have := ih fun y hy => h y (by simp [hy])
        have hz := h z (by simp)
        rw [List.filter_cons, List.filter_cons]
        cases ep : p z <;> cases eq : q z <;> simp [ep, eq] at hz ⊢ <;> omega
    rw [List.filter_cons, List.filter_cons]
    have hy := h y (by simp)
    rcases List.mem_cons.1 hx with e | hx
    · subst e
      have := le (L := L) fun z hz => h z (by simp [hz])
      simp [h1, h2]; omega
    · have ih := filter_lt (L := L) (fun z hz => h z (by simp [hz])) hx h1 h2
      cases ep : p y <;> cases eq : q y <;> simp [ep, eq] at hy ⊢ <;> omega
theorem tabOk_tys {l : List Ty} (h : tabOk l = true) : tysOk l = true := by simp only [tabOk, Bool.and_eq_true] at h; exact h.1
theorem tabOk_round {l : List Ty} (h : tabOk l = true) {n : Int} (h0 : 0 ≤ n) (h1 : n < (l.length : Int)) : roundAt l n = false := by
  simp only [tabOk, Bool.and_eq_true, List.all_eq_true, List.mem_range] at h
  have := h.2 n.toNat (by omega)
  rw [Int.toNat_of_nonneg h0] at this
  simpa using this
theorem getElem_drop3 {l : List Ty} {n : Nat} (h3 : 3 ≤ n) (h : n < l.length) : ∃ h' : n - 3 < (l.drop 3).length, (l.drop 3)[n - 3] = l[n] := by
  refine ⟨by simp; omega, ?_⟩
  rw [List.getElem_drop]
  congr 1
  omega
theorem sameTy_base {a b : Ty} (h : sameTy a b = true) : a.kind = b.kind ∧ a.long = b.long ∧ a.base = b.base ∧ a.fields.length = b.fields.length ∧ (a.name.toList == b.name.toList) = true := by
  simp only [sameTy, Bool.and_eq_true, beq_iff_eq] at h
  obtain ⟨h1, h2, h3, h4, h5, h6⟩ := h
  refine ⟨h1, h2, h3, ?_, by rw [h6]; exact beq_self_eq_true _⟩
  simp only [eqL, decide_eq_true_eq] at h4
  exact h4.1
theorem tysOk_ty {l : List Ty} (h : tysOk l = true) {n : Nat} (h3 : 3 ≤ n) (hn : n < l.length) : tyOk l l[n] = true := by
  simp only [tysOk, Bool.and_eq_true, decide_eq_true_eq] at h
  obtain ⟨h', e⟩ := getElem_drop3 h3 hn
  have := h.2.2 (n - 3) h' h'
  simp only [tyAt, Bool.and_eq_true, e] at this
  exact this.2
theorem tysOk_len {l : List Ty} (h : tysOk l = true) : 3 ≤ l.length ∧ l.length ≤ 24 := by
  simp only [tysOk, Bool.and_eq_true, decide_eq_true_eq] at h
  omega
theorem tysOk_base {l : List Ty} (h : tysOk l = true) {n : Nat} (h3 : n < 3) (hn : n < l.length) : l[n].kind = (n : Int) + 1 ∧ l[n].long = 0 ∧ l[n].base = -1 ∧ l[n].fields = [] := by
  simp only [tysOk, Bool.and_eq_true, decide_eq_true_eq, eqL] at h
  obtain ⟨_, ⟨he, ht⟩, _⟩ := h
  have h1 : n < (l.take 3).length := by simp; omega
  have h2 : n < baseTs.length := by rw [base_len]; exact h3
  have hs := ht n h1 h2 (by omega)
  rw [List.getElem_take] at hs
  obtain ⟨q1, q2, q3, q4, _⟩ := sameTy_base hs
  have : n = 0 ∨ n = 1 ∨ n = 2 := by omega
  rcases this with rfl | rfl | rfl <;> exact ⟨q1, q2, q3, List.eq_nil_of_length_eq_zero q4⟩
theorem fdsOk_at {l : List Ty} {fs : List Fd} (h : fdsOk l fs = true) : fs.length ≤ 6 ∧ ∀ f ∈ fs, isNum l f.typ = true := by
  simp only [fdsOk, decide_eq_true_eq] at h
  refine ⟨h.2, fun f hf => ?_⟩
  obtain ⟨i, hi, rfl⟩ := List.mem_iff_getElem.1 hf
  have := h.1 i hi hi
  simp only [fdAt, Bool.and_eq_true] at this
  exact this.2.1
structure TyGood (l : List Ty) (t : Ty) : Prop where
  base : t.base = -1 ∨ isNum l t.base = true
  flds : ∀ f ∈ t.fields, isNum l f.typ = true
  few : t.fields.length ≤ 6
  none : t.kind ≠ 5 → t.fields = []
  rec5 : t.kind = 5 → t.base = -1 ∨ isRec l t.base = true
  arr : t.kind = 4 → isNum l t.base = true ∧ 1 ≤ t.long ∧ t.long ≤ 1000
  ptr : t.kind = 6 → isNum l t.base = true ∧ (kd l t.base = 5 ∨ kd l t.base = 4)
  one : 1 ≤ t.kind ∧ t.kind ≤ 6
  low : t.kind ≤ 3 → t.base = -1
theorem tyOk_good {l : List Ty} {t : Ty} (h : tyOk l t = true) : TyGood l t := by
  simp only [tyOk, Bool.and_eq_true, Bool.not_eq_true', Bool.and_eq_false_iff] at h
  obtain ⟨_, h2, h3⟩ := h
  have hrec : ∀ {n : Int}, isRec l n = true → isNum l n = true := fun h => by simp only [isRec, Bool.and_eq_true] at h; exact h.1
  have hnone : t.kind ≠ 5 → t.fields = [] := by
    intro hk
    rcases h2 with h2 | h2
    · simp at h2; exact absurd h2 hk
    · have : ¬ (0 : Int) < t.fields.length := by simpa using h2
      exact List.eq_nil_of_length_eq_zero (by omega)
  by_cases k4 : t.kind = 4
  · have : (t.kind == 4) = true := by simp [k4]
    rw [if_pos this] at h3
    simp only [Bool.and_eq_true, decide_eq_true_eq] at h3
    have hf := hnone (by omega)
    exact ⟨.inr h3.2, by rw [hf]; simp, by rw [hf]; simp, hnone, by omega, fun _ => ⟨h3.2, h3.1⟩, by omega, by omega, by omega⟩
  have e4 : ¬ (t.kind == 4) = true := by simpa using k4
  rw [if_neg e4] at h3
  by_cases k5 : t.kind = 5
  · have : (t.kind == 5) = true := by simp [k5]
    rw [if_pos this] at h3
    simp only [Bool.and_eq_true, beq_iff_eq, Bool.or_eq_true] at h3
    obtain ⟨⟨_, hb⟩, hf⟩ := h3
    obtain ⟨f1, f2⟩ := fdsOk_at hf
    exact ⟨hb.imp id hrec, f2, f1, hnone, fun _ => hb, by omega, by omega, by omega, by omega⟩
  have e5 : ¬ (t.kind == 5) = true := by simpa using k5
  rw [if_neg e5] at h3
  by_cases k6 : t.kind = 6
  · have : (t.kind == 6) = true := by simp [k6]
    rw [if_pos this] at h3
    simp only [Bool.and_eq_true, beq_iff_eq, Bool.or_eq_true] at h3
    obtain ⟨_, hb⟩ := h3
    have hf := hnone (by omega)
    have hnum : isNum l t.base = true := hb.elim hrec fun h => h.1
    exact ⟨.inr hnum, by rw [hf]; simp, by rw [hf]; simp, hnone, by omega, by omega, fun _ => ⟨hnum, hb.imp (fun h => by simp only [isRec, Bool.and_eq_true, beq_iff_eq] at h; exact h.2) fun h => h.2⟩, by omega, by omega⟩
  have e6 : ¬ (t.kind == 6) = true := by simpa using k6
  rw [if_neg e6] at h3
  cases h3
theorem tysOk_good {l : List Ty} (h : tysOk l = true) {n : Nat} (hn : n < l.length) : TyGood l l[n] := by
  by_cases h3 : 3 ≤ n
  · exact tyOk_good (tysOk_ty h h3 hn)
  · obtain ⟨q1, q2, q3, q4⟩ := tysOk_base h (by omega) hn
    exact ⟨.inl q3, by rw [q4]; simp, by rw [q4]; simp, fun _ => q4, by omega, by omega, by omega, by omega, fun _ => q3⟩
theorem isNum_in {l : List Ty} {n : Int} : isNum l n = true ↔ 0 ≤ n ∧ n < (l.length : Int) := by
  simp only [isNum, Bool.and_eq_true, decide_eq_true_eq]; omega
theorem tysOk_kids {l : List Ty} (h : tysOk l = true) : kidsIn l := by
  intro n h0 h1 k hk
  have hn : n.toNat < l.length := by omega
  have G := tysOk_good h hn
  rw [kids_at hn] at hk
  simp only [prt, List.mem_append, List.mem_map] at hk
  rcases hk with hk | ⟨f, hf, rfl⟩
  · split at hk
    · rename_i hc
      simp only [Bool.and_eq_true, decide_eq_true_eq] at hc
      simp only [List.mem_singleton] at hk
      subst hk
      rcases G.base with hb | hb
      · omega
      · exact isNum_in.1 hb
    · simp at hk
  · exact isNum_in.1 (G.flds f hf)
theorem prt_len {l : List Ty} (h : tysOk l = true) (ptr : Bool) {n : Nat} (hn : n < l.length) : (prt ptr l[n]).length ≤ 7 := by
  have G := tysOk_good h hn
  have := G.few
  simp only [prt, List.length_append, List.length_map]
  split <;> simp <;> omega
theorem kids_ok {l : List Ty} (h : tysOk l = true) {n : Int} {ptr : Bool} {k : Int} (h0 : 0 ≤ n) (h1 : n < l.length) (hk : k ∈ kids l ptr n) : 0 ≤ k ∧ k < (l.length : Int) := tysOk_kids h n h0 h1 k (kids_sub hk)
theorem rk_lt {l : List Ty} (h : tabOk l = true) {n k : Int} (h0 : 0 ≤ n) (h1 : n < l.length) (hk : k ∈ kids l false n) : rk l k < rk l n := by
  have ht := tabOk_tys h
  have hki := kids_ok ht h0 h1 hk
  have hrd := tabOk_round h hki.1 hki.2
  refine filter_lt (x := k) ?_ ?_ ?_ ?_
  · intro y _ hy
    simp only [decide_eq_true_eq] at hy ⊢
    exact hy.mono fun m hm => .step (.base hk) hm
  · rw [List.mem_map]; exact ⟨k.toNat, by rw [List.mem_range]; omega, Int.toNat_of_nonneg hki.1⟩
  · simp only [decide_eq_true_eq]; exact .base hk
  · simp only [decide_eq_false_iff_not]
    intro hr
    have : k ∈ reachL l false (kids l false k) := mem_reachL.2 ⟨hki, hr⟩
    simp [roundAt] at hrd
    exact hrd this
end Go.AM
namespace Go.AM
set_option linter.unusedVariables false
set_option linter.unusedSimpArgs false
def prtB (ptr : Bool) (t : Ty) : List Int := if (decide (0 ≤ t.base) && (ptr || !(t.kind == 6))) = true then [t.base] else []
theorem prtB_len (ptr : Bool) (t : Ty) : (prtB ptr t).length ≤ 1 := by unfold prtB; split <;> simp
def m131 : MC :=
 (.seq (.reg [Xb 2 (.box 40 (.t 0)), Xb 4 (.asg (.nils 3 1))]) (.seq (.reg [Xb 8 (.bsl 3 1 []), Xa 5 8]) (.join [2, 5, 8, 24, 36] (.seq (.reg [Xf 9 2 2, Xl 10 1 9, Xq 11 (.bin false .geq (.t 10) (.i 0)), Xm 12 11, Xt 13 12 (.mov (.t 1)), Xt 14 12 (.mov (.t 13)), Xu 15 14 (.fad 0 (.t 2)), Xu 16 14 (.load false 1 (.t 15)), Xu 17 14 (.bin false .neq (.t 16) (.i 6)), Xt 18 12 (.pick (.t 14) .tb (.t
 17)), Xq 19 (.pick (.t 12) (.t 18) .fb)]) (.cond (.t 19) (.reg [Xm 20 5, Xf 21 2 2, Xl 22 1 21, Xb 23 (.bsl 3 1 [.t 22]), Xb 24 (.app true 3 1 8 (.t 20) (.t 23)), Xa 5 24]) .skip)) (.seq (.seq (.reg [Xf 25 3 2, Xl 26 1 25, Xn 27 26, Xq 28 (.mov (.i 0))]) (.block 0 (.loop [2, 5, 8, 24, 25, 26, 27, 28, 36] (.seq (.reg [Xq 29 (.bin false .lss (.t 28) (.t 27))]) (.seq (.cond (.t 29) .skip (.exit 0))
 (.seq (.block 1 (.seq (.reg [Xi 30 3 26 28, XL 31 3 30, Xb 7 (.alloc 97 [.z, .i, .i]), Xz (.store 3 (.t 7) (.t 31))]) (.reg [Xm 32 5, Xf 33 2 7, Xl 34 1 33, Xb 35 (.bsl 3 1 [.t 34]), Xb 36 (.app true 3 1 8 (.t 32) (.t 35)), Xa 5 36]))) (.reg [Xq 37 (.bin false .add (.t 28) (.i 1)), Xm 28 37]))))))) (.seq (.reg [Xm 38 5, Xa 4 38]) .ret)))))
set_option maxRecDepth 100000 in
theorem d131 (t : Ty) (ptr : Bool) (ht : t.sm) : Does Go.Proofs.Tryz.prog 131 [.agg t.z, .v (.bool ptr)] false (.usl 3 1 ((prt ptr t).map iv)) [.dead, .dead] := by
  unfold Ty.sm at ht
  have hf := ht.2.2.2.1.1
  refine does_intro (mc := m131) (N := 39) (rs := [4]) (fx := []) 2 rfl (by decide +kernel) ?_
  simp only [m131, Ty.z, EV, Nat.reduceEqDiff, Nat.reduceBEq, Nat.reduceLT, Nat.reduceLeDiff, Nat.reduceAdd, Nat.reduceSub, reduceIte]
  refine awp_join (fun _ : Unit => True) (fun _ => stl [(2, .box 40 t.z), (5, .usl 3 1 ((prtB ptr t).map iv)), (8, .dead), (24, .dead), (36, .dead)]) ?_ ?_
  · have no : (decide (0 ≤ t.base) && (ptr || !(t.kind == 6))) = false → prtB ptr t = [] := fun h => by unfold prtB; rw [h]; rfl
    have yes : (decide (0 ≤ t.base) && (ptr || !(t.kind == 6))) = true → prtB ptr t = [t.base] := fun h => by unfold prtB; rw [h]; rfl
    simp only [EV, Nat.reduceEqDiff, Nat.reduceBEq, Nat.reduceLT, Nat.reduceLeDiff, Nat.reduceAdd, Nat.reduceSub, reduceIte]
    rcases e1 : decide (0 ≤ t.base) with _ | _ <;> rcases ptr with _ | _ <;> rcases e2 : (t.kind == 6) with _ | _
    all_goals simp only [e1, e2, Bool.true_and, Bool.false_and, Bool.true_or, Bool.false_or, Bool.not_true, Bool.not_false, Bool.true_eq_false, Bool.false_eq_true, false_implies, forall_const] at no yes
    all_goals simp only [bne, e1, e2, yes, no, EV, Nat.reduceEqDiff, Nat.reduceBEq, Nat.reduceLT, Nat.reduceLeDiff, Nat.reduceAdd, Nat.reduceSub, reduceIte]
    all_goals first
      | exact ⟨(), trivial⟩
      | exact ⟨(), rfl⟩
      | (refine ⟨by simp only [List.length_nil]; omega, by simp only [List.length_nil]; omega, (), ?_⟩; rfl)
      | (refine ⟨by omega, (), ?_⟩; rfl)
      | trace_state
  rintro _ _
  simp only [Ty.z, EV, Nat.reduceEqDiff, Nat.reduceBEq, Nat.reduceLT, Nat.reduceLeDiff, Nat.reduceAdd, Nat.reduceSub, reduceIte]
  have hbl := prtB_len ptr t
  refine awp_loop (fun i : Nat => i ≤ t.fields.length) (fun i => stl [(2, .box 40 t.z), (5, .usl 3 1 ((prtB ptr t ++ (t.fields.take i).map Fd.typ).map iv)), (8, .dead), (24, .dead), (25, .ref 2 [] 0 3), (26, .fsl 3 (t.fields.map Fd.z)), (27, .v (.int .i64 (t.fields.length : Int))), (28, .v (.int .i64 (i : Int))), (36, .dead)]) (fun i => t.fields.length - i) 0 (Nat.zero_le _) ?_ ?_
  · simp only [List.append_nil, EV, Nat.reduceEqDiff, Nat.reduceBEq, Nat.reduceLT, Nat.reduceLeDiff, Nat.reduceAdd, Nat.reduceSub, reduceIte]
    rfl
  · intro i hi
    simp only [Ty.z, EV, Nat.reduceEqDiff, Nat.reduceBEq, Nat.reduceLT, Nat.reduceLeDiff, Nat.reduceAdd, Nat.reduceSub, reduceIte]
    refine cK_cut (fun h => ?_) (fun h => ?_)
    · have h1 : i < t.fields.length := by simpa using h
      have h2 : (i : Int) < (t.fields.length : Int) := by omega
      clear h
      simp only [FdE, nth_map h1, h1, h2, Fd.z, EV, Nat.reduceEqDiff, Nat.reduceBEq, Nat.reduceLT, Nat.reduceLeDiff, Nat.reduceAdd, Nat.reduceSub, reduceIte]
      rw [w64 _ (by omega)]
      have e : prtB ptr t ++ List.map Fd.typ (List.take (i + 1) t.fields) = (prtB ptr t ++ List.map Fd.typ (List.take i t.fields)) ++ [t.fields[i].typ] := by
        rw [List.take_succ_eq_append_getElem h1, List.map_append, List.append_assoc]; rfl
      refine ⟨by simp; omega, by simp; omega, i + 1, h1, by omega, ?_⟩
      rw [e, List.map_append (l₂ := [t.fields[i].typ])]
      rfl
    · have h1 : i = t.fields.length := by have : ¬ (i : Int) < t.fields.length := by simpa using h
                                          omega
      subst h1
      have e : prtB ptr t ++ List.map Fd.typ (List.take t.fields.length t.fields) = prt ptr t := by rw [List.take_length]; rfl
      rw [e]
      simp only [EV, Nat.reduceEqDiff, Nat.reduceBEq, Nat.reduceLT, Nat.reduceLeDiff, Nat.reduceAdd, Nat.reduceSub, reduceIte]
      simp only [iv_nfz, EV, Nat.reduceEqDiff, Nat.reduceBEq, Nat.reduceLT, Nat.reduceLeDiff, Nat.reduceAdd, Nat.reduceSub, reduceIte, evRE, retVC, cellV', evR, nfz, nfzs, nfzss, List.contains_nil, List.contains_cons, Bool.or_false, or_true]
def m198 : MC :=
 (.seq (.reg [Xb 1 (.box 40 (.t 0)), Xb 2 (.asg (.nils 3 1))]) (.seq (.reg [Xb 3 (.asg (.nils 3 1))]) (.join [1, 3, 18, 30] (.seq (.reg [Xf 6 2 1, Xl 7 1 6, Xq 8 (.bin false .geq (.t 7) (.i 0)), Xm 9 8, Xt 10 9 (.fad 0 (.t 1)), Xt 11 9 (.load false 1 (.t 10)), Xt 12 9 (.bin false .neq (.t 11) (.i 6)), Xq 13 (.pick (.t 9) (.t 12) .fb)]) (.cond (.t 13) (.reg [Xm 14 3, Xf 15 2 1, Xl 16 1 15, Xb 17
 (.bsl 3 1 [.t 16]), Xb 18 (.app true 3 1 8 (.t 14) (.t 17)), Xa 3 18]) .skip)) (.seq (.seq (.reg [Xf 19 3 1, Xl 20 1 19, Xn 21 20, Xq 22 (.mov (.i 0))]) (.block 0 (.loop [1, 3, 18, 19, 20, 21, 22, 30] (.seq (.reg [Xq 23 (.bin false .lss (.t 22) (.t 21))]) (.seq (.cond (.t 23) .skip (.exit 0)) (.seq (.block 1 (.seq (.reg [Xi 24 3 20 22, XL 25 3 24, Xb 5 (.alloc 97 [.z, .i, .i]), Xz (.store 3 (.t 5)
 (.t 25))]) (.reg [Xm 26 3, Xf 27 2 5, Xl 28 1 27, Xb 29 (.bsl 3 1 [.t 28]), Xb 30 (.app true 3 1 8 (.t 26) (.t 29)), Xa 3 30]))) (.reg [Xq 31 (.bin false .add (.t 22) (.i 1)), Xm 22 31]))))))) (.seq (.reg [Xm 32 3, Xa 2 32]) .ret)))))
set_option maxRecDepth 100000 in
theorem d198 (t : Ty) (ht : t.sm) : Does Go.Proofs.Tryz.prog 198 [.agg t.z] false (.usl 3 1 ((prt false t).map iv)) [.dead] := by
  unfold Ty.sm at ht
  have hf := ht.2.2.2.1.1
  refine does_intro (mc := m198) (N := 33) (rs := [2]) (fx := []) 1 rfl (by decide +kernel) ?_
  simp only [m198, Ty.z, EV, Nat.reduceEqDiff, Nat.reduceBEq, Nat.reduceLT, Nat.reduceLeDiff, Nat.reduceAdd, Nat.reduceSub, reduceIte]
  refine awp_join (fun _ : Unit => True) (fun _ => stl [(1, .box 40 t.z), (3, .usl 3 1 ((prtB false t).map iv)), (18, .dead), (30, .dead)]) ?_ ?_
  · have no : (decide (0 ≤ t.base) && !(t.kind == 6)) = false → prtB false t = [] := fun h => by unfold prtB; rw [Bool.false_or, h]; rfl
    have yes : (decide (0 ≤ t.base) && !(t.kind == 6)) = true → prtB false t = [t.base] := fun h => by unfold prtB; rw [Bool.false_or, h]; rfl
    simp only [EV, Nat.reduceEqDiff, Nat.reduceBEq, Nat.reduceLT, Nat.reduceLeDiff, Nat.reduceAdd, Nat.reduceSub, reduceIte]
    rcases e1 : decide (0 ≤ t.base) with _ | _ <;> rcases e2 : (t.kind == 6) with _ | _
    all_goals simp only [e1, e2, Bool.true_and, Bool.false_and, Bool.true_or, Bool.false_or, Bool.not_true, Bool.not_false, Bool.true_eq_false, Bool.false_eq_true, false_implies, forall_const] at no yes
    all_goals simp only [bne, e1, e2, yes, no, EV, Nat.reduceEqDiff, Nat.reduceBEq, Nat.reduceLT, Nat.reduceLeDiff, Nat.reduceAdd, Nat.reduceSub, reduceIte]
    all_goals first
      | exact ⟨(), trivial⟩
      | exact ⟨(), rfl⟩
      | (refine ⟨by simp only [List.length_nil]; omega, by simp only [List.length_nil]; omega, (), ?_⟩; rfl)
      | (refine ⟨by omega, (), ?_⟩; rfl)
      | trace_state
  rintro _ _
  simp only [Ty.z, EV, Nat.reduceEqDiff, Nat.reduceBEq, Nat.reduceLT, Nat.reduceLeDiff, Nat.reduceAdd, Nat.reduceSub, reduceIte]
  have hbl := prtB_len false t
  refine awp_loop (fun i : Nat => i ≤ t.fields.length) (fun i => stl [(1, .box 40 t.z), (3, .usl 3 1 ((prtB false t ++ (t.fields.take i).map Fd.typ).map iv)), (18, .dead), (19, .ref 1 [] 0 3), (20, .fsl 3 (t.fields.map Fd.z)), (21, .v (.int .i64 (t.fields.length : Int))), (22, .v (.int .i64 (i : Int))), (30, .dead)]) (fun i => t.fields.length - i) 0 (Nat.zero_le _) ?_ ?_
  · simp only [List.append_nil, EV, Nat.reduceEqDiff, Nat.reduceBEq, Nat.reduceLT, Nat.reduceLeDiff, Nat.reduceAdd, Nat.reduceSub, reduceIte]
    rfl
  · intro i hi
    simp only [Ty.z, EV, Nat.reduceEqDiff, Nat.reduceBEq, Nat.reduceLT, Nat.reduceLeDiff, Nat.reduceAdd, Nat.reduceSub, reduceIte]
    refine cK_cut (fun h => ?_) (fun h => ?_)
    · have h1 : i < t.fields.length := by simpa using h
      have h2 : (i : Int) < (t.fields.length : Int) := by omega
      clear h
      simp only [FdE, nth_map h1, h1, h2, Fd.z, EV, Nat.reduceEqDiff, Nat.reduceBEq, Nat.reduceLT, Nat.reduceLeDiff, Nat.reduceAdd, Nat.reduceSub, reduceIte]
      rw [w64 _ (by omega)]
      have e : prtB false t ++ List.map Fd.typ (List.take (i + 1) t.fields) = (prtB false t ++ List.map Fd.typ (List.take i t.fields)) ++ [t.fields[i].typ] := by
        rw [List.take_succ_eq_append_getElem h1, List.map_append, List.append_assoc]; rfl
      refine ⟨by simp; omega, by simp; omega, i + 1, h1, by omega, ?_⟩
      rw [e, List.map_append (l₂ := [t.fields[i].typ])]
      rfl
    · have h1 : i = t.fields.length := by have : ¬ (i : Int) < t.fields.length := by simpa using h
                                          omega
      subst h1
      have e : prtB false t ++ List.map Fd.typ (List.take t.fields.length t.fields) = prt false t := by rw [List.take_length]; rfl
      rw [e]
      simp only [EV, Nat.reduceEqDiff, Nat.reduceBEq, Nat.reduceLT, Nat.reduceLeDiff, Nat.reduceAdd, Nat.reduceSub, reduceIte]
      simp only [iv_nfz, EV, Nat.reduceEqDiff, Nat.reduceBEq, Nat.reduceLT, Nat.reduceLeDiff, Nat.reduceAdd, Nat.reduceSub, reduceIte, evRE, retVC, cellV', evR, nfz, nfzs, nfzss, List.contains_nil, List.contains_cons, Bool.or_false, or_true]
end Go.AM
