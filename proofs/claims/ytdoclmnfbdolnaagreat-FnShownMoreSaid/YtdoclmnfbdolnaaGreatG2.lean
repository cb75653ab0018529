/- Contracts of functions of the given program, for the law FnShownMore: what they return and what they write, under the bounds that each theorem states. -/
import Derived.Test.YtdoclmnfbdolnaaGreatG1
namespace Go.AM
set_option linter.unusedVariables false
set_option linter.unusedSimpArgs false
structure TyD (n : Int) (t : Ty) : Prop where
  few : t.fields.length ≤ 3
  names : ∀ f ∈ t.fields, 0 < (f.name.size : Int) ∧ (f.name.size : Int) ≤ 40
  owner : (t.owner.size : Int) ≤ 40
  name : (t.name.size : Int) ≤ 40
  ptr : t.kind = 6 → 0 ≤ t.base ∧ t.base < n
theorem base_tyD (n : Int) : ∀ t ∈ baseTs, TyD n t := by
  intro t ht
  simp only [baseTs, List.mem_cons, List.not_mem_nil, or_false] at ht
  rcases ht with rfl | rfl | rfl <;> exact ⟨by simp, by simp, by decide, by decide, fun h => absurd h (by decide)⟩
def m221 : MC :=
 (.seq (.reg [Xb 2 (.asg (.nils 129 6))]) (.seq (.reg [Xb 10 (.call (.fn 270) false []), Xa 3 10]) (.seq (.reg [Xm 11 0, Xb 12 (.call (.fn 92) false [.io (.t 11), .lend (.i 7)]), Xq 13 (.bin false .add (.i 3) (.t 12)), Xa 4 13]) (.seq (.block 0 (.loop [0, 3, 4, 10, 90] (.seq (.seq (.reg [Xm 14 3, Xn 15 14, Xm 16 4, Xq 17 (.bin false .lss (.t 15) (.t 16))]) (.cond (.t 17) .skip (.exit 0))) (.block 1
 (.seq (.reg [Xm 18 0, Xb 19 (.call (.fn 92) false [.io (.t 18), .lend (.i 3)]), Xq 20 (.bin false .add (.i 4) (.t 19)), Xb 21 (.build [0, 2] [0, 2] [1, 1] [.i, .i, .i, .s 138 3, .z, .z] [.t 20, .i (-1)]), Xb 5 (.alloc 129 [.i, .i, .i, .s 138 3, .z, .z]), Xz (.store 6 (.t 5) (.t 21))]) (.join [0, 3, 4, 5, 10, 90] (.seq (.reg [Xm 22 0, Xb 23 (.call (.fn 72) false [.io (.t 22), .lend (.i 2)])])
 (.cond (.t 23) (.seq (.reg [Xm 24 0, Xb 25 (.bsl 9 1 [.z #[65], .z #[66]]), Xb 26 (.call (.fn 159) false [.io (.t 24), .give (.t 25)]), Xf 27 4 5, Xz (.store 1 (.t 27) (.t 26))]) (.reg [Xm 28 3, Xn 29 28, Xb 30 (.call (.fn 222) false [.lend (.t 29)]), Xq 31 (.bin false .add (.z #[84]) (.t 30)), Xf 32 5 5, Xz (.store 1 (.t 32) (.t 31))])) .skip)) (.join [0, 3, 4, 5, 10, 90] (.seq (.reg [Xf 33 0 5,
 Xl 34 1 33]) (.block 2 (.seq (.reg [Xq 42 (.bin false .eql (.t 34) (.i 4)), Xa 41 42]) (.cond (.t 41) (.seq (.reg [Xm 43 0, Xb 44 (.call (.fn 92) false [.io (.t 43), .lend (.i 5)]), Xq 45 (.bin false .add (.i 1) (.t 44)), Xf 46 1 5, Xz (.store 1 (.t 46) (.t 45))]) (.reg [Xm 47 0, Xm 48 3, Xn 49 48, Xb 50 (.call (.fn 92) false [.io (.t 47), .lend (.t 49)]), Xf 51 2 5, Xz (.store 1 (.t 51) (.t
 50))])) (.seq (.reg [Xq 53 (.bin false .eql (.t 34) (.i 5)), Xa 52 53]) (.cond (.t 52) (.join [0, 3, 4, 5, 10, 90] (.seq (.reg [Xm 54 0, Xm 55 3, Xn 56 55, Xb 57 (.call (.fn 92) false [.io (.t 54), .lend (.t 56)]), Xa 6 57]) (.seq (.reg [Xm 58 3, Xm 59 6, Xi 60 6 58 59, Xf 61 0 60, Xl 62 1 61, Xq 63 (.bin false .eql (.t 62) (.i 5))]) (.cond (.t 63) (.reg [Xm 64 6, Xf 65 2 5, Xz (.store 1 (.t 65)
 (.t 64))]) .skip))) (.seq (.reg [Xm 66 0, Xb 67 (.call (.fn 92) false [.io (.t 66), .lend (.i 4)]), Xa 7 67]) (.block 3 (.loop [0, 3, 4, 5, 7, 10, 90] (.seq (.seq (.reg [Xm 68 7, Xq 69 (.bin false .gtr (.t 68) (.i 0))]) (.cond (.t 69) .skip (.exit 3))) (.seq (.block 4 (.mixt [] [0, 3, 4, 5, 7, 10, 90] [] [] [] [] (.step 0 (Xf 72 3 5) (.step 2 (Xm 74 7) (.step 5 (Xm 77 0) (.step 7 (Xm 79 0) (.step
 8 (Xm 80 3) (.step 9 (Xn 81 80) (.alt (.step 1 (Xl 73 1 72) (.step 3 (Xb 75 (.call (.fn 222) false [.lend (.t 74)])) (.step 4 (Xq 76 (.bin false .add (.z #[102]) (.t 75))) (.step 6 (Xb 78 (.call (.fn 92) false [.io (.t 77), .lend (.i 3)])) (.step 10 (Xb 82 (.call (.fn 92) false [.io (.t 79), .lend (.t 81)])) (.step 11 (Xb 83 (.build [0, 1, 2] [0, 1, 2] [1, 1, 1] [.z, .i, .i] [.t 76, .t 78, .t
 82])) (.step 12 (Xb 84 (.bsl 138 3 [.t 83])) (.step 13 (Xb 85 (.app true 138 3 32 (.t 73) (.t 84))) (.step 14 (Xf 86 3 5) (.step 15 (Xz (.store 1 (.t 86) (.t 85))) .nil)))))))))) (.step 3 (Xb 75 (.call (.fn 222) false [.lend (.t 74)])) (.step 4 (Xq 76 (.bin false .add (.z #[102]) (.t 75))) (.alt (.step 1 (Xl 73 1 72) (.step 6 (Xb 78 (.call (.fn 92) false [.io (.t 77), .lend (.i 3)])) (.step 10 (Xb
 82 (.call (.fn 92) false [.io (.t 79), .lend (.t 81)])) (.step 11 (Xb 83 (.build [0, 1, 2] [0, 1, 2] [1, 1, 1] [.z, .i, .i] [.t 76, .t 78, .t 82])) (.step 12 (Xb 84 (.bsl 138 3 [.t 83])) (.step 13 (Xb 85 (.app true 138 3 32 (.t 73) (.t 84))) (.step 14 (Xf 86 3 5) (.step 15 (Xz (.store 1 (.t 86) (.t 85))) .nil)))))))) (.step 6 (Xb 78 (.call (.fn 92) false [.io (.t 77), .lend (.i 3)])) (.alt (.step
 1 (Xl 73 1 72) (.step 10 (Xb 82 (.call (.fn 92) false [.io (.t 79), .lend (.t 81)])) (.step 11 (Xb 83 (.build [0, 1, 2] [0, 1, 2] [1, 1, 1] [.z, .i, .i] [.t 76, .t 78, .t 82])) (.step 12 (Xb 84 (.bsl 138 3 [.t 83])) (.step 13 (Xb 85 (.app true 138 3 32 (.t 73) (.t 84))) (.step 14 (Xf 86 3 5) (.step 15 (Xz (.store 1 (.t 86) (.t 85))) .nil))))))) (.step 10 (Xb 82 (.call (.fn 92) false [.io (.t 79),
 .lend (.t 81)])) (.alt (.step 1 (Xl 73 1 72) (.step 11 (Xb 83 (.build [0, 1, 2] [0, 1, 2] [1, 1, 1] [.z, .i, .i] [.t 76, .t 78, .t 82])) (.step 12 (Xb 84 (.bsl 138 3 [.t 83])) (.step 13 (Xb 85 (.app true 138 3 32 (.t 73) (.t 84))) (.step 14 (Xf 86 3 5) (.step 15 (Xz (.store 1 (.t 86) (.t 85))) .nil)))))) (.step 11 (Xb 83 (.build [0, 1, 2] [0, 1, 2] [1, 1, 1] [.z, .i, .i] [.t 76, .t 78, .t 82]))
 (.alt (.step 1 (Xl 73 1 72) (.step 12 (Xb 84 (.bsl 138 3 [.t 83])) (.step 13 (Xb 85 (.app true 138 3 32 (.t 73) (.t 84))) (.step 14 (Xf 86 3 5) (.step 15 (Xz (.store 1 (.t 86) (.t 85))) .nil))))) (.step 12 (Xb 84 (.bsl 138 3 [.t 83])) (.step 1 (Xl 73 1 72) (.step 13 (Xb 85 (.app true 138 3 32 (.t 73) (.t 84))) (.step 14 (Xf 86 3 5) (.step 15 (Xz (.store 1 (.t 86) (.t 85)))
 .nil))))))))))))))))))))))) (.reg [Xm 70 7, Xq 71 (.bin false .sub (.t 70) (.i 1)), Xa 7 71]))))))) (.reg [Xm 35 0, Xm 36 4, Xq 37 (.bin false .sub (.t 36) (.i 3)), Xb 38 (.call (.fn 92) false [.io (.t 35), .lend (.t 37)]), Xq 39 (.bin false .add (.i 3) (.t 38)), Xf 40 2 5, Xz (.store 1 (.t 40) (.t 39))]))))))) (.reg [Xm 87 3, XL 88 6 5, Xb 89 (.bsl 129 6 [.t 88]), Xb 90 (.app true 129 6 80 (.t
 87) (.t 89)), Xa 3 90])))))))) (.seq (.seq (.reg [Xm 91 3, Xn 92 91, Xq 93 (.mov (.i 0))]) (.block 5 (.loop [0, 3, 10, 90, 91, 92, 93] (.seq (.reg [Xq 94 (.bin false .lss (.t 93) (.t 92))]) (.seq (.cond (.t 94) .skip (.exit 5)) (.join [0, 3, 10, 90, 91, 92, 93] (.block 6 (.seq (.reg [Xm 95 93, Xi 96 6 91 93, XL 97 6 96, Xb 9 (.alloc 129 [.i, .i, .i, .s 138 3, .z, .z]), Xa 8 95, Xz (.storek 6 (.t
 9) (.t 97))]) (.seq (.reg [Xf 98 0 9, Xl 99 1 98, Xq 100 (.bin false .eql (.t 99) (.i 6)), Xm 101 100, Xt 102 101 (.mov (.t 3)), Xt 103 101 (.fad 2 (.t 9)), Xt 104 101 (.load false 1 (.t 103)), Xt 105 101 (.iad 6 (.t 102) (.t 104)), Xt 106 101 (.fad 0 (.t 105)), Xt 107 101 (.load false 1 (.t 106)), Xt 108 101 (.bin false .eql (.t 107) (.i 6)), Xq 109 (.pick (.t 101) (.t 108) .fb)]) (.cond (.t 109)
 (.seq (.reg [Xm 110 3, Xm 111 8, Xi 112 6 110 111, Xf 113 0 112, Xz (.store 1 (.t 113) (.i 5))]) (.reg [Xm 114 3, Xm 115 8, Xi 116 6 114 115, Xf 117 2 116, Xz (.store 1 (.t 117) (.i (-1)))])) .skip)))) (.reg [Xq 118 (.bin false .add (.t 93) (.i 1)), Xm 93 118]))))))) (.seq (.reg [Xm 119 3, Xa 2 119]) .ret))))))
set_option maxHeartbeats 4000000 in
set_option maxRecDepth 100000 in
theorem p221 (c : Cur) (n : Int) (hc : c.ok n) (hn : n ≤ 115292150460) : Draws 221 [] c n 600 fun r => ∃ l : List Ty, r = .usl 129 6 (l.map Ty.o) ∧ 3 ≤ l.length ∧ l.length ≤ 9 ∧ ∀ t ∈ l, TyD l.length t := by
  refine doesE_intro (mc := m221) (N := 120) (rs := [2]) (fx := [0]) 1 rfl (by decide +kernel) ?_
  simp only [m221, EV, Nat.reduceEqDiff, Nat.reduceBEq, Nat.reduceLT, Nat.reduceLeDiff, Nat.reduceAdd, Nat.reduceSub, reduceIte]
  refine callK_i d270 ?_
  simp only [EV, Nat.reduceEqDiff, Nat.reduceBEq, Nat.reduceLT, Nat.reduceLeDiff, Nat.reduceAdd, Nat.reduceSub, reduceIte]
  refine (p92 c n 7 hc (by omega) (by omega)).call (fun _ => rfl) ?_
  rintro _ c1 hc1 ⟨v, rfl, v0, v1, _⟩
  have v2 := v1 (by omega)
  have hw : IntKind.i64.wrap (3 + v) = 3 + v := w64 _ (by omega)
  have hv : ∃ m : Nat, 3 + v = (m : Int) := ⟨(3 + v).toNat, by omega⟩
  obtain ⟨m, hm⟩ := hv
  have hm3 : 3 ≤ m := by omega
  have hm9 : m ≤ 9 := by omega
  have hwm : IntKind.i64.wrap (m : Int) = m := w64 _ (by omega)
  simp only [hm, hwm, EV, Nat.reduceEqDiff, Nat.reduceBEq, Nat.reduceLT, Nat.reduceLeDiff, Nat.reduceAdd, Nat.reduceSub, reduceIte]
  refine awp_loop (fun p : List Ty × Cur => 3 ≤ p.1.length ∧ p.1.length ≤ m ∧ (∀ t ∈ p.1, TyD m t) ∧ p.2.ok (n + 2 + 60 * p.1.length)) (fun p => stl [(0, .box 114 p.2.z), (3, .usl 129 6 (p.1.map Ty.o)), (4, .v (.int .i64 (m : Int))), (10, .dead), (90, .dead)]) (fun p => m - p.1.length) (baseTs, c1) ⟨by simp only [base_len3]; omega, by simp only [base_len3]; omega, base_tyD _, hc1.up (by simp only [base_len3]; omega)⟩ ?_ ?_
  · simp only [EV, Nat.reduceEqDiff, Nat.reduceBEq, Nat.reduceLT, Nat.reduceLeDiff, Nat.reduceAdd, Nat.reduceSub, reduceIte]
  · rintro ⟨l, c⟩ ⟨l3, lm, lD, hc⟩
    simp only at l3 lm lD hc
    simp only [EV, Nat.reduceEqDiff, Nat.reduceBEq, Nat.reduceLT, Nat.reduceLeDiff, Nat.reduceAdd, Nat.reduceSub, reduceIte]
    refine cK_cut (fun h => ?_) (fun h => ?_)
    · have hlm : l.length < m := by have : (l.length : Int) < (m : Int) := by simpa using h
                                    omega
      clear h
      simp only [EV, Nat.reduceEqDiff, Nat.reduceBEq, Nat.reduceLT, Nat.reduceLeDiff, Nat.reduceAdd, Nat.reduceSub, reduceIte]
      refine (p92 c _ 3 hc (by omega) (by omega)).call (fun _ => rfl) ?_
      rintro _ c2 hc2 ⟨kd, rfl, k0, k1, _⟩
      have k2 := k1 (by omega)
      have hwk : IntKind.i64.wrap (4 + kd) = 4 + kd := w64 _ (by omega)
      have hck : ∃ q : Int, 4 + kd = q := ⟨_, rfl⟩
      obtain ⟨q, hq⟩ := hck
      have hwq : IntKind.i64.wrap q = q := w64 _ (by omega)
      simp only [hq, hwq, EV, Nat.reduceEqDiff, Nat.reduceBEq, Nat.reduceLT, Nat.reduceLeDiff, Nat.reduceAdd, Nat.reduceSub, reduceIte]
      refine awp_join (fun p : Ty × Cur => (∃ o m : ByteArray, p.1 = ⟨q, 0, -1, [], o, m⟩ ∧ (o.size : Int) ≤ 40 ∧ (m.size : Int) ≤ 40) ∧ p.2.ok (n + 2 + 60 * l.length + 6)) (fun p => stl [(0, .box 114 p.2.z), (3, .usl 129 6 (l.map Ty.o)), (4, .v (.int .i64 (m : Int))), (5, .box 129 p.1.o), (10, .dead), (90, .dead)]) ?_ ?_
      · simp only [EV, Nat.reduceEqDiff, Nat.reduceBEq, Nat.reduceLT, Nat.reduceLeDiff, Nat.reduceAdd, Nat.reduceSub, reduceIte]
        refine (p72 c2 _ 2 hc2 (by omega) (by omega)).call (fun _ => rfl) ?_
        rintro _ c3 hc3 ⟨b, rfl⟩
        simp only [EV, Nat.reduceEqDiff, Nat.reduceBEq, Nat.reduceLT, Nat.reduceLeDiff, Nat.reduceAdd, Nat.reduceSub, reduceIte]
        cases b
        · simp only [EV, Nat.reduceEqDiff, Nat.reduceBEq, Nat.reduceLT, Nat.reduceLeDiff, Nat.reduceAdd, Nat.reduceSub, reduceIte]
          exact ⟨(⟨q, 0, -1, [], ⟨#[]⟩, ⟨#[]⟩⟩, c3), ⟨⟨_, _, rfl, by decide, by decide⟩, hc3.up (by omega)⟩, rfl⟩
        · simp only [EV, Nat.reduceEqDiff, Nat.reduceBEq, Nat.reduceLT, Nat.reduceLeDiff, Nat.reduceAdd, Nat.reduceSub, reduceIte]
          refine (p159 c3 _ [⟨#[65]⟩, ⟨#[66]⟩] hc3 (by omega) (by decide) (by decide)).call (fun _ => rfl) ?_
          rintro _ c4 hc4 ⟨s, hs, rfl⟩
          have hs1 : (s.size : Int) ≤ 40 := by
            simp only [List.mem_cons, List.not_mem_nil, or_false] at hs
            rcases hs with rfl | rfl <;> decide
          simp only [EV, Nat.reduceEqDiff, Nat.reduceBEq, Nat.reduceLT, Nat.reduceLeDiff, Nat.reduceAdd, Nat.reduceSub, reduceIte]
          refine n222 (by omega) (by omega) fun nm hnm => ?_
          simp only [EV, Nat.reduceEqDiff, Nat.reduceBEq, Nat.reduceLT, Nat.reduceLeDiff, Nat.reduceAdd, Nat.reduceSub, reduceIte]
          have h84 : ((⟨#[84]⟩ : ByteArray).size : Nat) = 1 := rfl
          refine ⟨by rw [h84]; omega, (⟨q, 0, -1, [], s, ⟨#[84]⟩ ++ nm⟩, c4), ⟨⟨_, _, rfl, hs1, by rw [ByteArray.size_append, h84]; omega⟩, hc4.up (by omega)⟩, rfl⟩
      rintro ⟨t, c5⟩ ⟨⟨o, mm, rfl, ho, hmm⟩, hc5⟩
      simp only at hc5
      simp only [Ty.o, List.map_nil, EV, Nat.reduceEqDiff, Nat.reduceBEq, Nat.reduceLT, Nat.reduceLeDiff, Nat.reduceAdd, Nat.reduceSub, reduceIte]
      refine awp_join (fun p : Ty × Cur => TyD m p.1 ∧ p.2.ok (n + 2 + 60 * l.length + 50)) (fun p => stl [(0, .box 114 p.2.z), (3, .usl 129 6 (l.map Ty.o)), (4, .v (.int .i64 (m : Int))), (5, .box 129 p.1.o), (10, .dead), (90, .dead)]) ?_ ?_
      · simp only [EV, Nat.reduceEqDiff, Nat.reduceBEq, Nat.reduceLT, Nat.reduceLeDiff, Nat.reduceAdd, Nat.reduceSub, reduceIte]
        rcases e4 : (q == 4) with _ | _
        rotate_left
        · have q4 : q = 4 := by simpa using e4
          simp only [e4, EV, Nat.reduceEqDiff, Nat.reduceBEq, Nat.reduceLT, Nat.reduceLeDiff, Nat.reduceAdd, Nat.reduceSub, reduceIte]
          refine (p92 c5 _ 5 hc5 (by omega) (by omega)).call (fun _ => rfl) ?_
          rintro _ c6 hc6 ⟨u, rfl, u0, u1, _⟩
          simp only [EV, Nat.reduceEqDiff, Nat.reduceBEq, Nat.reduceLT, Nat.reduceLeDiff, Nat.reduceAdd, Nat.reduceSub, reduceIte]
          refine (p92 c6 _ l.length hc6 (by omega) (by omega)).call (fun _ => rfl) ?_
          rintro _ c7 hc7 ⟨u2, rfl, _⟩
          simp only [EV, Nat.reduceEqDiff, Nat.reduceBEq, Nat.reduceLT, Nat.reduceLeDiff, Nat.reduceAdd, Nat.reduceSub, reduceIte]
          exact ⟨(⟨q, IntKind.i64.wrap (1 + u), u2, [], o, mm⟩, c7), ⟨⟨by simp, by simp, ho, hmm, fun h => by simp only at h; omega⟩, hc7.up (by omega)⟩, rfl⟩
        rcases e5 : (q == 5) with _ | _
        · have q6 : q = 6 := by
            have h4 : ¬ q = 4 := by simpa using e4
            have h5 : ¬ q = 5 := by simpa using e5
            omega
          simp only [e4, e5, EV, Nat.reduceEqDiff, Nat.reduceBEq, Nat.reduceLT, Nat.reduceLeDiff, Nat.reduceAdd, Nat.reduceSub, reduceIte]
          rw [w64 ((m : Int) - 3) (by omega)]
          refine (p92 c5 _ ((m : Int) - 3) hc5 (by omega) (by omega)).call (fun _ => rfl) ?_
          rintro _ c6 hc6 ⟨u, rfl, u0, u1, u2⟩
          have hu : 3 + u < (m : Int) := by
            by_cases h : 1 < (m : Int) - 3
            · have := u1 h; omega
            · have := u2 (by omega); omega
          simp only [EV, Nat.reduceEqDiff, Nat.reduceBEq, Nat.reduceLT, Nat.reduceLeDiff, Nat.reduceAdd, Nat.reduceSub, reduceIte]
          rw [w64 (3 + u) (by omega)]
          exact ⟨(⟨q, 0, 3 + u, [], o, mm⟩, c6), ⟨⟨by simp, by simp, ho, hmm, fun _ => ⟨by simp only; omega, hu⟩⟩, hc6.up (by omega)⟩, rfl⟩
        · have q5 : ¬ q = 6 := by have : q = 5 := by simpa using e5
                                  omega
          simp only [e4, e5, EV, Nat.reduceEqDiff, Nat.reduceBEq, Nat.reduceLT, Nat.reduceLeDiff, Nat.reduceAdd, Nat.reduceSub, reduceIte]
          refine awp_join (fun p : Int × Cur => p.2.ok (n + 2 + 60 * l.length + 8)) (fun p => stl [(0, .box 114 p.2.z), (3, .usl 129 6 (l.map Ty.o)), (4, .v (.int .i64 (m : Int))), (5, .box 129 (Ty.o ⟨q, 0, p.1, [], o, mm⟩)), (10, .dead), (90, .dead)]) ?_ ?_
          · simp only [EV, Nat.reduceEqDiff, Nat.reduceBEq, Nat.reduceLT, Nat.reduceLeDiff, Nat.reduceAdd, Nat.reduceSub, reduceIte]
            refine (p92 c5 _ l.length hc5 (by omega) (by omega)).call (fun _ => rfl) ?_
            rintro _ c6 hc6 ⟨u, rfl, u0, u1, _⟩
            have hu := u1 (by omega)
            have hun : u.toNat < l.length := by omega
            simp only [u0, hu, hun, nth_map hun, Ty.o, EV, Nat.reduceEqDiff, Nat.reduceBEq, Nat.reduceLT, Nat.reduceLeDiff, Nat.reduceAdd, Nat.reduceSub, reduceIte]
            rcases e : (l[u.toNat].kind == 5) with _ | _
            · simp only [Ty.o, EV, Nat.reduceEqDiff, Nat.reduceBEq, Nat.reduceLT, Nat.reduceLeDiff, Nat.reduceAdd, Nat.reduceSub, reduceIte]
              exact ⟨(-1, c6), hc6.up (by omega), rfl⟩
            · simp only [Ty.o, EV, Nat.reduceEqDiff, Nat.reduceBEq, Nat.reduceLT, Nat.reduceLeDiff, Nat.reduceAdd, Nat.reduceSub, reduceIte]
              exact ⟨(u, c6), hc6.up (by omega), rfl⟩
          rintro ⟨b, c6⟩ hc6
          simp only at hc6
          simp only [Ty.o, List.map_nil, EV, Nat.reduceEqDiff, Nat.reduceBEq, Nat.reduceLT, Nat.reduceLeDiff, Nat.reduceAdd, Nat.reduceSub, reduceIte]
          refine (p92 c6 _ 4 hc6 (by omega) (by omega)).call (fun _ => rfl) ?_
          rintro _ c7 hc7 ⟨k, rfl, k0, k1, _⟩
          have k3 := k1 (by omega)
          simp only [EV, Nat.reduceEqDiff, Nat.reduceBEq, Nat.reduceLT, Nat.reduceLeDiff, Nat.reduceAdd, Nat.reduceSub, reduceIte]
          refine awp_loop (fun p : List Fd × Int × Cur => (p.1.length : Int) + p.2.1 ≤ 3 ∧ 0 ≤ p.2.1 ∧ (∀ f ∈ p.1, 0 < (f.name.size : Int) ∧ (f.name.size : Int) ≤ 40) ∧ p.2.2.ok (n + 2 + 60 * l.length + 10 + 6 * p.1.length)) (fun p => stl [(0, .box 114 p.2.2.z), (3, .usl 129 6 (l.map Ty.o)), (4, .v (.int .i64 (m : Int))), (5, .box 129 (Ty.o ⟨q, 0, b, p.1, o, mm⟩)), (7, .v (.int .i64 p.2.1)), (10, .dead), (90, .dead)]) (fun p => p.2.1.toNat) ([], k, c7) ⟨by simp; omega, k0, by simp, hc7.up (by simp; omega)⟩ ?_ ?_
          · simp only [Ty.o, List.map_nil, EV, Nat.reduceEqDiff, Nat.reduceBEq, Nat.reduceLT, Nat.reduceLeDiff, Nat.reduceAdd, Nat.reduceSub, reduceIte]
          · rintro ⟨fs, k, c8⟩ ⟨g1, g2, g3, g4⟩
            simp only at g1 g2 g3 g4
            simp only [Ty.o, EV, Nat.reduceEqDiff, Nat.reduceBEq, Nat.reduceLT, Nat.reduceLeDiff, Nat.reduceAdd, Nat.reduceSub, reduceIte]
            refine cK_cut (fun h => ?_) (fun h => ?_)
            · have hk : 0 < k := by simpa using h
              clear h
              have h102 : ((⟨#[102]⟩ : ByteArray).size : Nat) = 1 := rfl
              have wk := w64 (k - 1) (by omega)
              simp only [wk, EV, Nat.reduceEqDiff, Nat.reduceBEq, Nat.reduceLT, Nat.reduceLeDiff, Nat.reduceAdd, Nat.reduceSub, reduceIte]
              have ld : ∀ (nm : ByteArray) (u v : Int) (c' : Cur), (nm.size : Int) ≤ k + 1 → c'.ok (n + 2 + 60 * l.length + 10 + 6 * fs.length + 2 + 2) →
                  (((fs ++ [(⟨⟨#[102]⟩ ++ nm, u, v⟩ : Fd)]).length : Int) + (k - 1) ≤ 3 ∧ 0 ≤ k - 1 ∧ (∀ f ∈ fs ++ [(⟨⟨#[102]⟩ ++ nm, u, v⟩ : Fd)], 0 < (f.name.size : Int) ∧ (f.name.size : Int) ≤ 40) ∧ c'.ok (n + 2 + 60 * l.length + 10 + 6 * (fs ++ [(⟨⟨#[102]⟩ ++ nm, u, v⟩ : Fd)]).length)) := by
                intro nm u v c' hnm hc'
                refine ⟨by simp; omega, by omega, ?_, hc'.up (by simp; omega)⟩
                intro f hf
                rcases List.mem_append.1 hf with hf | hf
                · exact g3 f hf
                · rw [List.mem_singleton] at hf
                  rw [hf]
                  simp only [ByteArray.size_append, h102]; omega
              have lm1 : ∀ (nm : ByteArray) (u v : Int), List.map Fd.o fs ++ [[AV.v (.string (⟨#[102]⟩ ++ nm)), AV.v (.int .i64 u), AV.v (.int .i64 v)]] = List.map Fd.o (fs ++ [⟨⟨#[102]⟩ ++ nm, u, v⟩]) := fun nm u v => by rw [List.map_append]; rfl
              refine ⟨?_, ?_⟩
              · refine n222 (by omega) (by omega) fun nm hnm => ?_
                simp only [EV, Nat.reduceEqDiff, Nat.reduceBEq, Nat.reduceLT, Nat.reduceLeDiff, Nat.reduceAdd, Nat.reduceSub, reduceIte]
                refine ⟨by rw [h102]; omega, ?_⟩
                refine (p92 c8 _ 3 g4 (by omega) (by omega)).call (fun _ => rfl) ?_
                rintro _ c9 hc9 ⟨u, rfl, _⟩
                simp only [EV, Nat.reduceEqDiff, Nat.reduceBEq, Nat.reduceLT, Nat.reduceLeDiff, Nat.reduceAdd, Nat.reduceSub, reduceIte]
                refine (p92 c9 _ l.length hc9 (by omega) (by omega)).call (fun _ => rfl) ?_
                rintro _ c10 hc10 ⟨v, rfl, _⟩
                simp only [wk, EV, Nat.reduceEqDiff, Nat.reduceBEq, Nat.reduceLT, Nat.reduceLeDiff, Nat.reduceAdd, Nat.reduceSub, reduceIte]
                refine ⟨by omega, by omega, (fs ++ [⟨⟨#[102]⟩ ++ nm, u, v⟩], k - 1, c10), ld nm u v c10 hnm hc10, by simp only; omega, ?_⟩
                simp only [lm1]
              · refine n222 (by omega) (by omega) fun nm hnm => ?_
                simp only [EV, Nat.reduceEqDiff, Nat.reduceBEq, Nat.reduceLT, Nat.reduceLeDiff, Nat.reduceAdd, Nat.reduceSub, reduceIte]
                refine ⟨by rw [h102]; omega, ?_⟩
                refine ⟨?_, ?_⟩
                · refine (p92 c8 _ 3 g4 (by omega) (by omega)).call (fun _ => rfl) ?_
                  rintro _ c9 hc9 ⟨u, rfl, _⟩
                  simp only [EV, Nat.reduceEqDiff, Nat.reduceBEq, Nat.reduceLT, Nat.reduceLeDiff, Nat.reduceAdd, Nat.reduceSub, reduceIte]
                  refine (p92 c9 _ l.length hc9 (by omega) (by omega)).call (fun _ => rfl) ?_
                  rintro _ c10 hc10 ⟨v, rfl, _⟩
                  simp only [wk, EV, Nat.reduceEqDiff, Nat.reduceBEq, Nat.reduceLT, Nat.reduceLeDiff, Nat.reduceAdd, Nat.reduceSub, reduceIte]
                  refine ⟨by omega, by omega, (fs ++ [⟨⟨#[102]⟩ ++ nm, u, v⟩], k - 1, c10), ld nm u v c10 hnm hc10, by simp only; omega, ?_⟩
                  simp only [lm1]
                · refine (p92 c8 _ 3 g4 (by omega) (by omega)).call (fun _ => rfl) ?_
                  rintro _ c9 hc9 ⟨u, rfl, _⟩
                  simp only [EV, Nat.reduceEqDiff, Nat.reduceBEq, Nat.reduceLT, Nat.reduceLeDiff, Nat.reduceAdd, Nat.reduceSub, reduceIte]
                  refine ⟨?_, ?_⟩
                  · refine (p92 c9 _ l.length hc9 (by omega) (by omega)).call (fun _ => rfl) ?_
                    rintro _ c10 hc10 ⟨v, rfl, _⟩
                    simp only [wk, EV, Nat.reduceEqDiff, Nat.reduceBEq, Nat.reduceLT, Nat.reduceLeDiff, Nat.reduceAdd, Nat.reduceSub, reduceIte]
                    refine ⟨by omega, by omega, (fs ++ [⟨⟨#[102]⟩ ++ nm, u, v⟩], k - 1, c10), ld nm u v c10 hnm hc10, by simp only; omega, ?_⟩
                    simp only [lm1]
                  · refine (p92 c9 _ l.length hc9 (by omega) (by omega)).call (fun _ => rfl) ?_
                    rintro _ c10 hc10 ⟨v, rfl, _⟩
                    simp only [wk, EV, Nat.reduceEqDiff, Nat.reduceBEq, Nat.reduceLT, Nat.reduceLeDiff, Nat.reduceAdd, Nat.reduceSub, reduceIte]
                    refine ⟨by omega, by omega, (fs ++ [⟨⟨#[102]⟩ ++ nm, u, v⟩], k - 1, c10), ld nm u v c10 hnm hc10, by simp only; omega, ?_⟩
                    simp only [lm1]
            · simp only [EV, Nat.reduceEqDiff, Nat.reduceBEq, Nat.reduceLT, Nat.reduceLeDiff, Nat.reduceAdd, Nat.reduceSub, reduceIte]
              exact ⟨(⟨q, 0, b, fs, o, mm⟩, c8), ⟨⟨by simp only; omega, g3, ho, hmm, fun h => absurd h q5⟩, g4.up (by omega)⟩, rfl⟩
      · rintro ⟨t, c6⟩ ⟨hD, hc6⟩
        simp only at hD hc6
        simp only [Ty.o, EV, Nat.reduceEqDiff, Nat.reduceBEq, Nat.reduceLT, Nat.reduceLeDiff, Nat.reduceAdd, Nat.reduceSub, reduceIte]
        refine ⟨by omega, by omega, (l ++ [t], c6), ⟨by simp; omega, by simp; omega, ?_, hc6.up (by simp; omega)⟩, by simp; omega, ?_⟩
        · intro s hs
          rcases List.mem_append.1 hs with hs | hs
          · exact lD s hs
          · rw [List.mem_singleton] at hs; rw [hs]; exact hD
        · rw [List.map_append]
          rfl
    · have hlm : l.length = m := by have : ¬ (l.length : Int) < (m : Int) := by simpa using h
                                    omega
      simp only [EV, Nat.reduceEqDiff, Nat.reduceBEq, Nat.reduceLT, Nat.reduceLeDiff, Nat.reduceAdd, Nat.reduceSub, reduceIte]
      refine awp_loop (fun p : List Ty × Nat => p.1.length = m ∧ p.2 ≤ m ∧ ∀ t ∈ p.1, TyD m t) (fun p => stl [(0, .box 114 c.z), (3, .usl 129 6 (p.1.map Ty.o)), (10, .dead), (90, .dead), (91, .sref 3 [] 0 m), (92, .v (.int .i64 (m : Int))), (93, .v (.int .i64 (p.2 : Int)))]) (fun p => m - p.2) (l, 0) ⟨hlm, Nat.zero_le _, lD⟩ ?_ ?_
      · simp only [hlm, EV, Nat.reduceEqDiff, Nat.reduceBEq, Nat.reduceLT, Nat.reduceLeDiff, Nat.reduceAdd, Nat.reduceSub, reduceIte]
        rfl
      · rintro ⟨l, i⟩ ⟨hlm, him, lD⟩
        simp only at hlm him lD
        simp only [EV, Nat.reduceEqDiff, Nat.reduceBEq, Nat.reduceLT, Nat.reduceLeDiff, Nat.reduceAdd, Nat.reduceSub, reduceIte]
        refine cK_cut (fun h => ?_) (fun h => ?_)
        · have hi : i < m := by have : (i : Int) < (m : Int) := by simpa using h
                                omega
          have hil : i < l.length := by omega
          have hi2 : (i : Int) < (m : Int) := by omega
          have hD := lD _ (List.getElem_mem hil)
          clear h
          refine awp_join (fun l : List Ty => l.length = m ∧ ∀ t ∈ l, TyD m t) (fun l => stl [(0, .box 114 c.z), (3, .usl 129 6 (l.map Ty.o)), (10, .dead), (90, .dead), (91, .sref 3 [] 0 m), (92, .v (.int .i64 (m : Int))), (93, .v (.int .i64 (i : Int)))]) ?_ ?_
          · simp only [hlm, hi, hi2, hil, nth_map hil, Ty.o, EV, Nat.reduceEqDiff, Nat.reduceBEq, Nat.reduceLT, Nat.reduceLeDiff, Nat.reduceAdd, Nat.reduceSub, reduceIte]
            have same : ∃ a : List Ty, (a.length = m ∧ ∀ t ∈ a, TyD m t) ∧ List.map Ty.o l = List.map Ty.o a := ⟨l, ⟨hlm, lD⟩, rfl⟩
            rcases e6 : (l[i].kind == 6) with _ | _
            · simp only [EV, Nat.reduceEqDiff, Nat.reduceBEq, Nat.reduceLT, Nat.reduceLeDiff, Nat.reduceAdd, Nat.reduceSub, reduceIte]
              exact ⟨l, ⟨hlm, lD⟩, rfl⟩
            · have hp := hD.ptr (by simpa using e6)
              have hb : l[i].base.toNat < l.length := by omega
              have hb1 : l[i].base.toNat < m := by omega
              have h4 : i < (l.map Ty.o).length := by simp; exact hil
              simp only [e6, hlm, hi, hi2, hil, hb, hb1, hp.1, hp.2, nth_map hb, Ty.o, EV, Nat.reduceEqDiff, Nat.reduceBEq, Nat.reduceLT, Nat.reduceLeDiff, Nat.reduceAdd, Nat.reduceSub, reduceIte]
              rcases e7 : (l[l[i].base.toNat].kind == 6) with _ | _
              · simp only [EV, Nat.reduceEqDiff, Nat.reduceBEq, Nat.reduceLT, Nat.reduceLeDiff, Nat.reduceAdd, Nat.reduceSub, reduceIte]
                exact ⟨l, ⟨hlm, lD⟩, rfl⟩
              · simp only [hlm, hi, hi2, hil, nth_map hil, nth_set h4, List.getElem?_set_self h4, h4, modify_set, Ty.o, EV, Nat.reduceEqDiff, Nat.reduceBEq, Nat.reduceLT, Nat.reduceLeDiff, Nat.reduceAdd, Nat.reduceSub, reduceIte]
                refine ⟨l.set i ⟨5, l[i].long, -1, l[i].fields, l[i].owner, l[i].name⟩, ⟨by rw [List.length_set]; exact hlm, ?_⟩, ?_⟩
                · intro t ht
                  rcases List.mem_or_eq_of_mem_set ht with h | h
                  · exact lD t h
                  · rw [h]
                    exact ⟨hD.few, hD.names, hD.owner, hD.name, fun h => absurd h (show ¬ (5 : Int) = 6 by decide)⟩
                · rw [List.map_set]
                  rfl
          · rintro l ⟨hlm, lD⟩
            simp only [EV, Nat.reduceEqDiff, Nat.reduceBEq, Nat.reduceLT, Nat.reduceLeDiff, Nat.reduceAdd, Nat.reduceSub, reduceIte]
            rw [w64 _ (by omega)]
            exact ⟨(l, i + 1), ⟨hlm, hi, lD⟩, by simp only; omega, rfl⟩
        · simp only [EV, Nat.reduceEqDiff, Nat.reduceBEq, Nat.reduceLT, Nat.reduceLeDiff, Nat.reduceAdd, Nat.reduceSub, reduceIte]
          simp only [EV, Nat.reduceEqDiff, Nat.reduceBEq, Nat.reduceLT, Nat.reduceLeDiff, Nat.reduceAdd, Nat.reduceSub, reduceIte, evRE, retVC, cellV', evR, nfz, nfzs, nfzss, List.contains_nil, List.contains_cons, Bool.or_false, or_true]
          exact ⟨⟨c, rfl, hc.up (by omega), l, rfl, by omega, by omega, by rw [hlm]; exact lD⟩, Or.inr (Ty.nfz l)⟩
end Go.AM
namespace Go.AM
set_option linter.unusedVariables false
set_option linter.unusedSimpArgs false
theorem modify_get {l : List (List AV)} {i : Nat} {a : List AV} {f : List AV → List AV} (h : l[i]? = some a) : l.modify i f = l.set i (f a) := by
  apply List.ext_getElem?
  intro j
  rw [List.getElem?_modify]
  by_cases hj : i = j
  · subst hj
    have hi : i < l.length := by
      rcases Nat.lt_or_ge i l.length with h1 | h1
      · exact h1
      · rw [List.getElem?_eq_none h1] at h; cases h
    have hl : l[i] = a := by rw [List.getElem?_eq_getElem hi] at h; exact Option.some.inj h
    simp [hi, hl]
  · simp [hj, List.getElem?_set_ne hj]
def Ty.dr (t : Ty) : Prop := t.fields.length ≤ 3 ∧ (∀ f ∈ t.fields, 0 < (f.name.size : Int) ∧ (f.name.size : Int) ≤ 40) ∧ (t.owner.size : Int) ≤ 40 ∧ (t.name.size : Int) ≤ 40
theorem Ty.dr.sm {t : Ty} (h : t.dr) : t.sm := by
  obtain ⟨h1, h2, h3, h4⟩ := h
  exact ⟨trivial, trivial, trivial, ⟨by omega, fun f hf => ⟨by have := (h2 f hf).2; omega, trivial, trivial⟩⟩, by omega, by omega⟩
theorem TyD.dr {n : Int} {t : Ty} (h : TyD n t) : t.dr := ⟨h.few, h.names, h.owner, h.name⟩
theorem set_dr (l : List Ty) {k : Nat} (h : k < l.length) (t : Ty) (ht : t.dr) (hs : ∀ s ∈ l, s.dr) (hl : l.length ≤ 9) : ∃ a : List Ty, (a.length ≤ 9 ∧ ∀ s ∈ a, s.dr) ∧ (l.map Ty.o).set k t.o = a.map Ty.o :=
  ⟨l.set k t, ⟨by rw [List.length_set]; exact hl, fun s hm => (List.mem_or_eq_of_mem_set hm).elim (hs s) (fun e => e ▸ ht)⟩, by rw [List.map_set]⟩
def m161 : MC :=
 (.seq (.reg [Xb 2 (.asg (.nils 129 6))]) (.seq (.reg [Xm 5 0, Xb 6 (.call (.fn 221) false [.io (.t 5)]), Xa 3 6]) (.seq (.reg [Xm 7 0, Xm 8 3, Xn 9 8, Xb 10 (.call (.fn 92) false [.io (.t 7), .lend (.t 9)]), Xa 4 10]) (.join [0, 3, 6, 63, 65, 66] (.seq (.reg [Xm 11 0, Xb 12 (.call (.fn 92) false [.io (.t 11), .lend (.i 30)])]) (.block 0 (.seq (.reg [Xq 14 (.bin false .eql (.t 12) (.i 0)), Xa 13
 14]) (.cond (.t 13) (.reg [Xm 15 3, Xm 16 4, Xi 17 6 15 16, Xf 18 1 17, Xl 19 1 18, Xq 20 (.bin false .add (.t 19) (.i 1)), Xi 21 6 15 16, Xf 22 1 21, Xz (.store 1 (.t 22) (.t 20))]) (.seq (.reg [Xq 24 (.bin false .eql (.t 12) (.i 1)), Xa 23 24]) (.cond (.t 23) (.reg [Xm 25 3, Xm 26 4, Xm 27 0, Xb 28 (.bsl 9 1 [.z #[], .z #[73, 78, 84], .z #[84, 51]]), Xb 29 (.call (.fn 159) false [.io (.t 27),
 .give (.t 28)]), Xi 30 6 25 26, Xf 31 5 30, Xz (.store 1 (.t 31) (.t 29))]) (.seq (.reg [Xq 33 (.bin false .eql (.t 12) (.i 2)), Xa 32 33]) (.cond (.t 32) (.seq (.reg [Xm 34 3, Xm 35 4, Xi 36 6 34 35, Xf 37 3 36, Xl 38 1 37, Xn 39 38, Xq 40 (.bin false .gtr (.t 39) (.i 0))]) (.cond (.t 40) (.mixt [4] [0, 3, 6, 63, 65, 66] [] [] [1] [Xm 42 4] (.step 0 (Xm 41 3) (.step 2 (Xi 43 6 41 42) (.step 3 (Xf
 44 3 43) (.step 5 (Xm 46 0) (.step 6 (Xm 47 3) (.step 7 (Xn 48 47) (.step 8 (Xq 49 (.bin false .add (.t 48) (.i 1))) (.alt (.step 4 (Xl 45 1 44) (.step 9 (Xb 50 (.call (.fn 92) false [.io (.t 46), .lend (.t 49)])) (.step 10 (Xq 51 (.iad 3 (.t 45) (.i 0))) (.step 11 (Xf 52 2 51) (.step 12 (Xz (.store 1 (.t 52) (.t 50))) .nil))))) (.step 9 (Xb 50 (.call (.fn 92) false [.io (.t 46), .lend (.t 49)]))
 (.step 4 (Xl 45 1 44) (.step 10 (Xq 51 (.iad 3 (.t 45) (.i 0))) (.step 11 (Xf 52 2 51) (.step 12 (Xz (.store 1 (.t 52) (.t 50))) .nil)))))))))))))) .skip)) (.seq (.reg [Xq 54 (.bin false .eql (.t 12) (.i 3)), Xa 53 54]) (.cond (.t 53) (.reg [Xm 55 3, Xm 56 4, Xm 57 0, Xb 58 (.call (.fn 92) false [.io (.t 57), .lend (.i 8)]), Xi 59 6 55 56, Xf 60 0 59, Xz (.store 1 (.t 60) (.t 58))]) (.seq (.reg
 [Xq 62 (.bin false .eql (.t 12) (.i 4)), Xa 61 62]) (.cond (.t 61) (.reg [Xm 63 3, Xm 64 0, Xb 65 (.call (.fn 92) false [.io (.t 64), .lend (.i 4)]), Xq 66 (.slc false 6 (.t 63) none (some (.t 65))), Xa 3 66]) .skip)))))))))))) (.seq (.reg [Xm 67 3, Xa 2 67]) .ret)))))
set_option maxHeartbeats 4000000 in
set_option maxRecDepth 100000 in
theorem q161 (c : Cur) (n : Int) (hc : c.ok n) (hn : n ≤ 115292150460) : Draws 161 [] c n 620 fun r => ∃ l : List Ty, r = .usl 129 6 (l.map Ty.o) ∧ l.length ≤ 9 ∧ ∀ t ∈ l, t.dr := by
  refine doesE_intro (mc := m161) (N := 68) (rs := [2]) (fx := [0]) 1 rfl (by decide +kernel) ?_
  simp only [m161, EV, Nat.reduceEqDiff, Nat.reduceBEq, Nat.reduceLT, Nat.reduceLeDiff, Nat.reduceAdd, Nat.reduceSub, reduceIte]
  refine (p221 c n hc hn).call (fun _ => rfl) ?_
  rintro _ c1 hc1 ⟨l, rfl, l3, l9, lD⟩
  have hs : ∀ t ∈ l, t.dr := fun t ht => (lD t ht).dr
  simp only [EV, Nat.reduceEqDiff, Nat.reduceBEq, Nat.reduceLT, Nat.reduceLeDiff, Nat.reduceAdd, Nat.reduceSub, reduceIte]
  refine (p92 c1 _ l.length hc1 (by omega) (by omega)).call (fun _ => rfl) ?_
  rintro _ c2 hc2 ⟨k, rfl, k0, k1, _⟩
  have kl := k1 (by omega)
  have kn : k.toNat < l.length := by omega
  simp only [EV, Nat.reduceEqDiff, Nat.reduceBEq, Nat.reduceLT, Nat.reduceLeDiff, Nat.reduceAdd, Nat.reduceSub, reduceIte]
  refine awp_join (fun p : List Ty × Cur × AV => (p.1.length ≤ 9 ∧ ∀ t ∈ p.1, t.dr) ∧ p.2.1.ok (n + 610)) (fun p => stl [(0, .box 114 p.2.1.z), (3, .usl 129 6 (p.1.map Ty.o)), (6, .dead), (63, .dead), (65, p.2.2), (66, .dead)]) ?_ ?_
  · simp only [EV, Nat.reduceEqDiff, Nat.reduceBEq, Nat.reduceLT, Nat.reduceLeDiff, Nat.reduceAdd, Nat.reduceSub, reduceIte]
    refine (p92 c2 _ 30 hc2 (by omega) (by omega)).call (fun _ => rfl) ?_
    rintro _ c3 hc3 ⟨q, rfl, q0, q1, _⟩
    have hk := hs _ (List.getElem_mem kn)
    have h4 : k.toNat < (l.map Ty.o).length := by simp; exact kn
    simp only [EV, Nat.reduceEqDiff, Nat.reduceBEq, Nat.reduceLT, Nat.reduceLeDiff, Nat.reduceAdd, Nat.reduceSub, reduceIte]
    rcases e0 : (q == 0) with _ | _
    rotate_left
    · simp only [e0, k0, kl, kn, nth_map kn, nth_set h4, List.getElem?_set_self h4, h4, modify_set, Ty.o, EV, Nat.reduceEqDiff, Nat.reduceBEq, Nat.reduceLT, Nat.reduceLeDiff, Nat.reduceAdd, Nat.reduceSub, reduceIte]
      obtain ⟨a, ha, he⟩ := set_dr l kn ⟨l[k.toNat].kind, IntKind.i64.wrap (l[k.toNat].long + 1), l[k.toNat].base, l[k.toNat].fields, l[k.toNat].owner, l[k.toNat].name⟩ (by unfold Ty.dr at hk ⊢; exact hk) hs l9
      exact ⟨(a, c3, .dead), ⟨ha, hc3.up (by omega)⟩, by rw [← he]; rfl⟩
    rcases e1 : (q == 1) with _ | _
    rotate_left
    · simp only [e0, e1, EV, Nat.reduceEqDiff, Nat.reduceBEq, Nat.reduceLT, Nat.reduceLeDiff, Nat.reduceAdd, Nat.reduceSub, reduceIte]
      refine (p159 c3 _ [⟨#[]⟩, ⟨#[73, 78, 84]⟩, ⟨#[84, 51]⟩] hc3 (by omega) (by decide) (by decide)).call (fun _ => rfl) ?_
      rintro _ c4 hc4 ⟨s, hs', rfl⟩
      simp only [e0, k0, kl, kn, nth_map kn, nth_set h4, List.getElem?_set_self h4, h4, modify_set, Ty.o, EV, Nat.reduceEqDiff, Nat.reduceBEq, Nat.reduceLT, Nat.reduceLeDiff, Nat.reduceAdd, Nat.reduceSub, reduceIte]
      have hs1 : (s.size : Int) ≤ 40 := by
        simp only [List.mem_cons, List.not_mem_nil, or_false] at hs'
        rcases hs' with rfl | rfl | rfl <;> decide
      obtain ⟨a, ha, he⟩ := set_dr l kn ⟨l[k.toNat].kind, l[k.toNat].long, l[k.toNat].base, l[k.toNat].fields, l[k.toNat].owner, s⟩ (by unfold Ty.dr at hk ⊢; exact ⟨hk.1, hk.2.1, hk.2.2.1, hs1⟩) hs l9
      exact ⟨(a, c4, .dead), ⟨ha, hc4.up (by omega)⟩, by rw [← he]; rfl⟩
    rcases e2 : (q == 2) with _ | _
    rotate_left
    · simp only [e0, e1, e2, k0, kl, kn, nth_map kn, Ty.o, EV, Nat.reduceEqDiff, Nat.reduceBEq, Nat.reduceLT, Nat.reduceLeDiff, Nat.reduceAdd, Nat.reduceSub, reduceIte]
      rcases f0 : decide (0 < (l[k.toNat].fields.length : Int)) with _ | _
      · simp only [EV, Nat.reduceEqDiff, Nat.reduceBEq, Nat.reduceLT, Nat.reduceLeDiff, Nat.reduceAdd, Nat.reduceSub, reduceIte]
        exact ⟨(l, c3, .dead), ⟨⟨l9, hs⟩, hc3.up (by omega)⟩, rfl⟩
      · have f1 : 0 < l[k.toNat].fields.length := by have : 0 < (l[k.toNat].fields.length : Int) := by simpa using f0
                                                     omega
        have wl := w64 ((l.length : Int) + 1) (by omega)
        have hg : (l.map Ty.o)[k.toNat]? = some [.v (.int .i64 l[k.toNat].kind), .v (.int .i64 l[k.toNat].long), .v (.int .i64 l[k.toNat].base), .usl 138 3 (l[k.toNat].fields.map Fd.o), .v (.string l[k.toNat].owner), .v (.string l[k.toNat].name)] := by simp [kn, Ty.o]
        have f2 : (0 : Int) < (l[k.toNat].fields.length : Int) := by omega
        have f4 : 0 < (l[k.toNat].fields.map Fd.o).length := by simp; exact f1
        simp only [f0, k0, kl, kn, nth_map kn, wl, Ty.o, EV, Nat.reduceEqDiff, Nat.reduceBEq, Nat.reduceLT, Nat.reduceLeDiff, Nat.reduceAdd, Nat.reduceSub, reduceIte]
        refine ⟨?_, ?_⟩
        · refine (p92 c3 _ ((l.length : Int) + 1) hc3 (by omega) (by omega)).call (fun _ => rfl) ?_
          rintro _ c4 hc4 ⟨u, rfl, _⟩
          simp only [hg, modify_get hg, f1, f2, f4, k0, kl, kn, nth_map kn, nth_map f1, nth_set h4, List.getElem?_set_self h4, h4, modify_set, Ty.o, Fd.o, EV, Nat.reduceEqDiff, Nat.reduceBEq, Nat.reduceLT, Nat.reduceLeDiff, Nat.reduceAdd, Nat.reduceSub, reduceIte]
          refine ⟨by omega, ?_⟩
          obtain ⟨a, ha, he⟩ := set_dr l kn ⟨l[k.toNat].kind, l[k.toNat].long, l[k.toNat].base, l[k.toNat].fields.set 0 ⟨l[k.toNat].fields[0].name, l[k.toNat].fields[0].mark, u⟩, l[k.toNat].owner, l[k.toNat].name⟩ (by
            unfold Ty.dr at hk ⊢
            refine ⟨by simpa using hk.1, fun f hf => ?_, hk.2.2.1, hk.2.2.2⟩
            rcases List.mem_or_eq_of_mem_set hf with h | h
            · exact hk.2.1 f h
            · rw [h]
              exact hk.2.1 l[k.toNat].fields[0] (List.getElem_mem f1)) hs l9
          refine ⟨(a, c4, .dead), ⟨ha, hc4.up (by omega)⟩, ?_⟩
          simp only [← he, Ty.o, List.map_set]
          rfl
        · refine (p92 c3 _ ((l.length : Int) + 1) hc3 (by omega) (by omega)).call (fun _ => rfl) ?_
          rintro _ c4 hc4 ⟨u, rfl, _⟩
          simp only [hg, modify_get hg, f1, f2, f4, k0, kl, kn, nth_map kn, nth_map f1, nth_set h4, List.getElem?_set_self h4, h4, modify_set, Ty.o, Fd.o, EV, Nat.reduceEqDiff, Nat.reduceBEq, Nat.reduceLT, Nat.reduceLeDiff, Nat.reduceAdd, Nat.reduceSub, reduceIte]
          refine ⟨by omega, ?_⟩
          obtain ⟨a, ha, he⟩ := set_dr l kn ⟨l[k.toNat].kind, l[k.toNat].long, l[k.toNat].base, l[k.toNat].fields.set 0 ⟨l[k.toNat].fields[0].name, l[k.toNat].fields[0].mark, u⟩, l[k.toNat].owner, l[k.toNat].name⟩ (by
            unfold Ty.dr at hk ⊢
            refine ⟨by simpa using hk.1, fun f hf => ?_, hk.2.2.1, hk.2.2.2⟩
            rcases List.mem_or_eq_of_mem_set hf with h | h
            · exact hk.2.1 f h
            · rw [h]
              exact hk.2.1 l[k.toNat].fields[0] (List.getElem_mem f1)) hs l9
          refine ⟨(a, c4, .dead), ⟨ha, hc4.up (by omega)⟩, ?_⟩
          simp only [← he, Ty.o, List.map_set]
          rfl
    rcases e3 : (q == 3) with _ | _
    rotate_left
    · simp only [e0, e1, e2, e3, EV, Nat.reduceEqDiff, Nat.reduceBEq, Nat.reduceLT, Nat.reduceLeDiff, Nat.reduceAdd, Nat.reduceSub, reduceIte]
      refine (p92 c3 _ 8 hc3 (by omega) (by omega)).call (fun _ => rfl) ?_
      rintro _ c4 hc4 ⟨u, rfl, _⟩
      simp only [e0, k0, kl, kn, nth_map kn, nth_set h4, List.getElem?_set_self h4, h4, modify_set, Ty.o, EV, Nat.reduceEqDiff, Nat.reduceBEq, Nat.reduceLT, Nat.reduceLeDiff, Nat.reduceAdd, Nat.reduceSub, reduceIte]
      obtain ⟨a, ha, he⟩ := set_dr l kn ⟨u, l[k.toNat].long, l[k.toNat].base, l[k.toNat].fields, l[k.toNat].owner, l[k.toNat].name⟩ (by unfold Ty.dr at hk ⊢; exact hk) hs l9
      exact ⟨(a, c4, .dead), ⟨ha, hc4.up (by omega)⟩, by rw [← he]; rfl⟩
    rcases e4' : (q == 4) with _ | _
    rotate_left
    · simp only [e0, e1, e2, e3, e4', EV, Nat.reduceEqDiff, Nat.reduceBEq, Nat.reduceLT, Nat.reduceLeDiff, Nat.reduceAdd, Nat.reduceSub, reduceIte]
      refine (p92 c3 _ 4 hc3 (by omega) (by omega)).call (fun _ => rfl) ?_
      rintro _ c4 hc4 ⟨u, rfl, u0, u1, _⟩
      have u4 := u1 (by omega)
      simp only [EV, Nat.reduceEqDiff, Nat.reduceBEq, Nat.reduceLT, Nat.reduceLeDiff, Nat.reduceAdd, Nat.reduceSub, reduceIte]
      refine ⟨by omega, u0, by omega, (l.take u.toNat, c4, .v (.int .i64 u)), ⟨⟨by simp; omega, fun t ht => hs t (List.mem_of_mem_take ht)⟩, hc4.up (by omega)⟩, ?_⟩
      rw [← List.map_take]
    · simp only [e0, e1, e2, e3, e4', EV, Nat.reduceEqDiff, Nat.reduceBEq, Nat.reduceLT, Nat.reduceLeDiff, Nat.reduceAdd, Nat.reduceSub, reduceIte]
      exact ⟨(l, c3, .dead), ⟨⟨l9, hs⟩, hc3.up (by omega)⟩, rfl⟩
  · rintro ⟨l, c, x65⟩ ⟨⟨l9, hs⟩, hc⟩
    simp only at l9 hs hc
    simp only [EV, Nat.reduceEqDiff, Nat.reduceBEq, Nat.reduceLT, Nat.reduceLeDiff, Nat.reduceAdd, Nat.reduceSub, reduceIte]
    simp only [Ty.nfz, EV, Nat.reduceEqDiff, Nat.reduceBEq, Nat.reduceLT, Nat.reduceLeDiff, Nat.reduceAdd, Nat.reduceSub, reduceIte, evRE, retVC, cellV', evR, nfz, nfzs, nfzss, List.contains_nil, List.contains_cons, Bool.or_false, or_true]
    exact ⟨c, rfl, hc.up (by omega), l, rfl, l9, hs⟩
end Go.AM
namespace Go.AM
set_option linter.unusedVariables false
set_option linter.unusedSimpArgs false
def m160 : MC :=
 (.seq (.reg [Xb 4 (.asg (.i 0))]) (.seq (.reg [Xm 5 1, Xm 6 0, Xm 7 1, Xn 8 7, Xb 9 (.call (.fn 92) false [.io (.t 6), .lend (.t 8)]), Xi 10 1 5 9, Xl 11 1 10, Xa 4 11]) .ret))
theorem p160 (c : Cur) (n : Int) (l : List Int) (hc : c.ok n) (hn : n ≤ 1152921504606846) (h0 : 0 < l.length) (hk : (l.length : Int) ≤ 1048577) :
    Draws 160 [.fsl 1 (l.map iv)] c n 2 fun r => ∃ s ∈ l, r = .v (.int .i64 s) := by
  refine doesE_intro (mc := m160) (N := 12) (rs := [4]) (fx := [0]) 2 rfl (by decide +kernel) ?_
  simp only [m160, EV, Nat.reduceEqDiff, Nat.reduceBEq, Nat.reduceLT, Nat.reduceLeDiff, Nat.reduceAdd, Nat.reduceSub, reduceIte]
  refine (p92 c n l.length hc hn hk).call (fun _ => rfl) ?_
  rintro _ c' hc' ⟨v, rfl, v0, v1, v2⟩
  have hv : v < (l.length : Int) := by
    by_cases h : 1 < (l.length : Int)
    · exact v1 h
    · have := v2 (by omega); omega
  have hn' : v.toNat < l.length := by omega
  simp only [v0, hv, nth_map hn', iv, EV, Nat.reduceEqDiff, Nat.reduceBEq, Nat.reduceLT, Nat.reduceLeDiff, Nat.reduceAdd, Nat.reduceSub, reduceIte]
  simp only [EV, Nat.reduceEqDiff, Nat.reduceBEq, Nat.reduceLT, Nat.reduceLeDiff, Nat.reduceAdd, Nat.reduceSub, reduceIte, evRE, retVC, cellV', evR, nfz, nfzs, nfzss, List.contains_nil, List.contains_cons, Bool.or_false, or_true]
  exact ⟨c', rfl, hc', _, List.getElem_mem hn', rfl⟩
def m223 : MC :=
 (.seq (.reg [Xb 2 (.asg (.i 0))]) (.seq (.reg [Xm 3 0, Xb 4 (.bsl 3 1 [.i 0, .i 1, .i (-1), .i 63, .i (-64), .i 64, .i 127, .i 128, .i (-300), .i 8191, .i 8192, .i 1000000, .i 1000000000, .i (-1000000000)]), Xb 5 (.call (.fn 160) false [.io (.t 3), .give (.t 4)]), Xa 2 5]) .ret))
theorem p223 (c : Cur) (n : Int) (hc : c.ok n) (hn : n ≤ 1152921504606846) :
    Draws 223 [] c n 2 fun r => ∃ s : Int, -1000000000 ≤ s ∧ s ≤ 1000000000 ∧ r = .v (.int .i64 s) := by
  refine doesE_intro (mc := m223) (N := 6) (rs := [2]) (fx := [0]) 1 rfl (by decide +kernel) ?_
  simp only [m223, EV, Nat.reduceEqDiff, Nat.reduceBEq, Nat.reduceLT, Nat.reduceLeDiff, Nat.reduceAdd, Nat.reduceSub, reduceIte]
  refine (p160 c n [0, 1, -1, 63, -64, 64, 127, 128, -300, 8191, 8192, 1000000, 1000000000, -1000000000] hc (by omega) (by decide) (by decide)).call (fun _ => rfl) ?_
  rintro _ c' hc' ⟨v, hv, rfl⟩
  have hb : -1000000000 ≤ v ∧ v ≤ 1000000000 := by
    simp only [List.mem_cons, List.not_mem_nil, or_false] at hv
    omega
  simp only [EV, Nat.reduceEqDiff, Nat.reduceBEq, Nat.reduceLT, Nat.reduceLeDiff, Nat.reduceAdd, Nat.reduceSub, reduceIte]
  simp only [EV, Nat.reduceEqDiff, Nat.reduceBEq, Nat.reduceLT, Nat.reduceLeDiff, Nat.reduceAdd, Nat.reduceSub, reduceIte, evRE, retVC, cellV', evR, nfz, nfzs, nfzss, List.contains_nil, List.contains_cons, Bool.or_false, or_true]
  exact ⟨c', rfl, hc', v, hb.1, hb.2, rfl⟩
end Go.AM
namespace Go.AM
set_option linter.unusedVariables false
set_option linter.unusedSimpArgs false
def Par.dr (p : Par) : Prop := (p.name.size : Int) ≤ 40
def Ob.dr (o : Ob) : Prop := (o.name.size : Int) ≤ 40 ∧ o.params.length ≤ 3 ∧ (∀ p ∈ o.params, p.dr) ∧ -1000000000 ≤ o.value ∧ o.value ≤ 1000000000
def Scope.dr (s : Scope) : Prop := (s.name.size : Int) ≤ 40 ∧ (s.imports.length ≤ 1 ∧ ∀ i ∈ s.imports, (i.s.size : Int) ≤ 40) ∧ (s.types.length ≤ 9 ∧ ∀ t ∈ s.types, t.dr) ∧ (s.objects.length ≤ 5 ∧ ∀ o ∈ s.objects, o.dr) ∧ (s.uses.length ≤ 2 ∧ ∀ u ∈ s.uses, (u.mod.size : Int) ≤ 40 ∧ (u.name.size : Int) ≤ 40)
theorem Par.dr.sm {p : Par} (h : p.dr) : p.sm := by
  unfold Par.dr at h
  exact ⟨by omega, trivial, trivial⟩
theorem Ob.dr.sm {o : Ob} (h : o.dr) : o.sm := by
  obtain ⟨h1, h2, h3, -⟩ := h
  exact ⟨by omega, trivial, trivial, trivial, trivial, by omega, fun p hp => (h3 p hp).sm⟩
theorem Scope.dr.sm {s : Scope} (h : s.dr) : s.sm := by
  obtain ⟨h1, ⟨h2, h3⟩, ⟨h4, h5⟩, ⟨h6, h7⟩, h8, h9⟩ := h
  exact ⟨by omega, ⟨by omega, fun i hi => by have := h3 i hi; show (i.s.size : Int) ≤ 1048576; omega⟩, ⟨by omega, fun t ht => (h5 t ht).sm⟩, ⟨by omega, fun o ho => (h7 o ho).sm⟩, by omega, fun u hu => ⟨by have := (h9 u hu).1; omega, by have := (h9 u hu).2; omega⟩⟩
def m158 : MC :=
 (.seq (.reg [Xb 2 (.alloc 49 [.z, .s 9 1, .s 129 6, .s 69 6, .s 132 2])]) (.seq (.reg [Xm 7 0, Xb 8 (.bsl 9 1 [.z #[65], .z #[66], .z #[77]]), Xb 9 (.call (.fn 159) false [.io (.t 7), .give (.t 8)]), Xm 10 0, Xb 11 (.call (.fn 221) false [.io (.t 10)]), Xb 12 (.build [0, 2] [0, 2] [1, 1] [.z, .s 9 1, .s 129 6, .s 69 6, .s 132 2] [.t 9, .t 11]), Xb 3 (.alloc 49 [.z, .s 9 1, .s 129 6, .s 69 6, .s
 132 2]), Xz (.store 5 (.t 3) (.t 12))]) (.join [0, 2, 3] (.seq (.reg [Xm 13 0, Xb 14 (.call (.fn 72) false [.io (.t 13), .lend (.i 3)])]) (.cond (.t 14) (.seq (.reg [Xb 15 (.bsl 9 1 [.z #[66, 97, 115, 101]]), Xf 16 1 3, Xz (.store 1 (.t 16) (.t 15))]) (.reg [Xb 17 (.build [0, 1] [0, 1] [1, 1] [.z, .z] [.z #[66, 97, 115, 101], .z #[120]]), Xb 18 (.bsl 132 2 [.t 17]), Xf 19 4 3, Xz (.store 1 (.t 19)
 (.t 18))])) .skip)) (.seq (.seq (.reg [Xm 20 0, Xb 21 (.call (.fn 92) false [.io (.t 20), .lend (.i 6)]), Xa 4 21]) (.block 0 (.loop [0, 2, 3, 4] (.seq (.seq (.reg [Xm 22 4, Xq 23 (.bin false .gtr (.t 22) (.i 0))]) (.cond (.t 23) .skip (.exit 0))) (.join [0, 2, 3, 4] (.block 1 (.seq (.reg [Xm 26 4, Xb 27 (.call (.fn 222) false [.lend (.t 26)]), Xq 28 (.bin false .add (.z #[111]) (.t 27)), Xm 29 0,
 Xb 30 (.call (.fn 92) false [.io (.t 29), .lend (.i 4)]), Xq 31 (.bin false .add (.i 1) (.t 30)), Xm 32 0, Xb 33 (.call (.fn 92) false [.io (.t 32), .lend (.i 2)]), Xb 34 (.build [0, 1, 2] [0, 1, 2] [1, 1, 1] [.z, .i, .i, .i, .i, .s 182 3] [.t 28, .t 31, .t 33]), Xb 5 (.alloc 69 [.z, .i, .i, .i, .i, .s 182 3]), Xz (.store 6 (.t 5) (.t 34))]) (.join [0, 2, 3, 4, 5] (.seq (.reg [Xf 35 1 5, Xl 36 1
 35, Xq 37 (.bin false .neq (.t 36) (.i 1))]) (.cond (.t 37) (.reg [Xm 38 0, Xf 39 2 3, Xl 40 1 39, Xn 41 40, Xb 42 (.call (.fn 92) false [.io (.t 38), .lend (.t 41)]), Xf 43 3 5, Xz (.store 1 (.t 43) (.t 42))]) .skip)) (.join [0, 2, 3, 4, 5] (.seq (.reg [Xf 44 1 5, Xl 45 1 44]) (.block 2 (.seq (.reg [Xq 47 (.bin false .eql (.t 45) (.i 1)), Xa 46 47]) (.cond (.t 46) (.reg [Xm 48 0, Xb 49 (.call
 (.fn 223) false [.io (.t 48)]), Xf 50 4 5, Xz (.store 1 (.t 50) (.t 49))]) (.seq (.reg [Xq 52 (.bin false .eql (.t 45) (.i 3)), Xa 51 52]) (.cond (.t 51) (.reg [Xm 53 0, Xb 54 (.call (.fn 92) false [.io (.t 53), .lend (.i 3)]), Xf 55 2 5, Xz (.store 1 (.t 55) (.t 54))]) (.seq (.reg [Xq 57 (.bin false .eql (.t 45) (.i 4)), Xa 56 57]) (.cond (.t 56) (.seq (.reg [Xm 58 0, Xf 59 2 3, Xl 60 1 59, Xn 61
 60, Xq 62 (.bin false .add (.t 61) (.i 1)), Xb 63 (.call (.fn 92) false [.io (.t 58), .lend (.t 62)]), Xq 64 (.bin false .sub (.t 63) (.i 1)), Xf 65 3 5, Xz (.store 1 (.t 65) (.t 64))]) (.seq (.reg [Xm 66 0, Xb 67 (.call (.fn 92) false [.io (.t 66), .lend (.i 3)]), Xa 6 67]) (.block 3 (.loop [0, 2, 3, 4, 5, 6] (.seq (.seq (.reg [Xm 68 6, Xq 69 (.bin false .gtr (.t 68) (.i 0))]) (.cond (.t 69)
 .skip (.exit 3))) (.seq (.block 4 (.mixt [] [0, 2, 3, 4, 5, 6] [] [] [] [] (.step 0 (Xf 72 5 5) (.step 2 (Xm 74 6) (.step 5 (Xm 77 0) (.step 7 (Xm 79 0) (.step 8 (Xf 80 2 3) (.alt (.alt (.step 1 (Xl 73 1 72) (.alt (.step 3 (Xb 75 (.call (.fn 222) false [.lend (.t 74)])) (.step 4 (Xq 76 (.bin false .add (.z #[112]) (.t 75))) (.alt (.step 6 (Xb 78 (.call (.fn 72) false [.io (.t 77), .lend (.i 2)]))
 (.step 9 (Xl 81 1 80) (.step 10 (Xn 82 81) (.step 11 (Xb 83 (.call (.fn 92) false [.io (.t 79), .lend (.t 82)])) (.step 12 (Xb 84 (.build [0, 1, 2] [0, 1, 2] [1, 1, 1] [.z, .b, .i] [.t 76, .t 78, .t 83])) (.step 13 (Xb 85 (.bsl 182 3 [.t 84])) (.step 14 (Xb 86 (.app true 182 3 32 (.t 73) (.t 85))) (.step 15 (Xf 87 5 5) (.step 16 (Xz (.store 1 (.t 87) (.t 86))) .nil))))))))) (.step 9 (Xl 81 1 80)
 (.step 10 (Xn 82 81) (.step 6 (Xb 78 (.call (.fn 72) false [.io (.t 77), .lend (.i 2)])) (.step 11 (Xb 83 (.call (.fn 92) false [.io (.t 79), .lend (.t 82)])) (.step 12 (Xb 84 (.build [0, 1, 2] [0, 1, 2] [1, 1, 1] [.z, .b, .i] [.t 76, .t 78, .t 83])) (.step 13 (Xb 85 (.bsl 182 3 [.t 84])) (.step 14 (Xb 86 (.app true 182 3 32 (.t 73) (.t 85))) (.step 15 (Xf 87 5 5) (.step 16 (Xz (.store 1 (.t 87)
 (.t 86))) .nil)))))))))))) (.step 9 (Xl 81 1 80) (.step 10 (Xn 82 81) (.step 3 (Xb 75 (.call (.fn 222) false [.lend (.t 74)])) (.step 4 (Xq 76 (.bin false .add (.z #[112]) (.t 75))) (.step 6 (Xb 78 (.call (.fn 72) false [.io (.t 77), .lend (.i 2)])) (.step 11 (Xb 83 (.call (.fn 92) false [.io (.t 79), .lend (.t 82)])) (.step 12 (Xb 84 (.build [0, 1, 2] [0, 1, 2] [1, 1, 1] [.z, .b, .i] [.t 76, .t
 78, .t 83])) (.step 13 (Xb 85 (.bsl 182 3 [.t 84])) (.step 14 (Xb 86 (.app true 182 3 32 (.t 73) (.t 85))) (.step 15 (Xf 87 5 5) (.step 16 (Xz (.store 1 (.t 87) (.t 86))) .nil))))))))))))) (.step 3 (Xb 75 (.call (.fn 222) false [.lend (.t 74)])) (.step 4 (Xq 76 (.bin false .add (.z #[112]) (.t 75))) (.alt (.alt (.step 1 (Xl 73 1 72) (.alt (.step 6 (Xb 78 (.call (.fn 72) false [.io (.t 77), .lend
 (.i 2)])) (.step 9 (Xl 81 1 80) (.step 10 (Xn 82 81) (.step 11 (Xb 83 (.call (.fn 92) false [.io (.t 79), .lend (.t 82)])) (.step 12 (Xb 84 (.build [0, 1, 2] [0, 1, 2] [1, 1, 1] [.z, .b, .i] [.t 76, .t 78, .t 83])) (.step 13 (Xb 85 (.bsl 182 3 [.t 84])) (.step 14 (Xb 86 (.app true 182 3 32 (.t 73) (.t 85))) (.step 15 (Xf 87 5 5) (.step 16 (Xz (.store 1 (.t 87) (.t 86))) .nil))))))))) (.step 9 (Xl
 81 1 80) (.step 10 (Xn 82 81) (.step 6 (Xb 78 (.call (.fn 72) false [.io (.t 77), .lend (.i 2)])) (.step 11 (Xb 83 (.call (.fn 92) false [.io (.t 79), .lend (.t 82)])) (.step 12 (Xb 84 (.build [0, 1, 2] [0, 1, 2] [1, 1, 1] [.z, .b, .i] [.t 76, .t 78, .t 83])) (.step 13 (Xb 85 (.bsl 182 3 [.t 84])) (.step 14 (Xb 86 (.app true 182 3 32 (.t 73) (.t 85))) (.step 15 (Xf 87 5 5) (.step 16 (Xz (.store 1
 (.t 87) (.t 86))) .nil))))))))))) (.step 6 (Xb 78 (.call (.fn 72) false [.io (.t 77), .lend (.i 2)])) (.alt (.step 1 (Xl 73 1 72) (.step 9 (Xl 81 1 80) (.step 10 (Xn 82 81) (.step 11 (Xb 83 (.call (.fn 92) false [.io (.t 79), .lend (.t 82)])) (.step 12 (Xb 84 (.build [0, 1, 2] [0, 1, 2] [1, 1, 1] [.z, .b, .i] [.t 76, .t 78, .t 83])) (.step 13 (Xb 85 (.bsl 182 3 [.t 84])) (.step 14 (Xb 86 (.app
 true 182 3 32 (.t 73) (.t 85))) (.step 15 (Xf 87 5 5) (.step 16 (Xz (.store 1 (.t 87) (.t 86))) .nil))))))))) (.step 9 (Xl 81 1 80) (.step 10 (Xn 82 81) (.alt (.step 1 (Xl 73 1 72) (.step 11 (Xb 83 (.call (.fn 92) false [.io (.t 79), .lend (.t 82)])) (.step 12 (Xb 84 (.build [0, 1, 2] [0, 1, 2] [1, 1, 1] [.z, .b, .i] [.t 76, .t 78, .t 83])) (.step 13 (Xb 85 (.bsl 182 3 [.t 84])) (.step 14 (Xb 86
 (.app true 182 3 32 (.t 73) (.t 85))) (.step 15 (Xf 87 5 5) (.step 16 (Xz (.store 1 (.t 87) (.t 86))) .nil))))))) (.step 11 (Xb 83 (.call (.fn 92) false [.io (.t 79), .lend (.t 82)])) (.alt (.step 1 (Xl 73 1 72) (.step 12 (Xb 84 (.build [0, 1, 2] [0, 1, 2] [1, 1, 1] [.z, .b, .i] [.t 76, .t 78, .t 83])) (.step 13 (Xb 85 (.bsl 182 3 [.t 84])) (.step 14 (Xb 86 (.app true 182 3 32 (.t 73) (.t 85)))
 (.step 15 (Xf 87 5 5) (.step 16 (Xz (.store 1 (.t 87) (.t 86))) .nil)))))) (.step 12 (Xb 84 (.build [0, 1, 2] [0, 1, 2] [1, 1, 1] [.z, .b, .i] [.t 76, .t 78, .t 83])) (.alt (.step 1 (Xl 73 1 72) (.step 13 (Xb 85 (.bsl 182 3 [.t 84])) (.step 14 (Xb 86 (.app true 182 3 32 (.t 73) (.t 85))) (.step 15 (Xf 87 5 5) (.step 16 (Xz (.store 1 (.t 87) (.t 86))) .nil))))) (.step 13 (Xb 85 (.bsl 182 3 [.t
 84])) (.step 1 (Xl 73 1 72) (.step 14 (Xb 86 (.app true 182 3 32 (.t 73) (.t 85))) (.step 15 (Xf 87 5 5) (.step 16 (Xz (.store 1 (.t 87) (.t 86))) .nil))))))))))))))) (.step 9 (Xl 81 1 80) (.step 10 (Xn 82 81) (.alt (.step 1 (Xl 73 1 72) (.step 6 (Xb 78 (.call (.fn 72) false [.io (.t 77), .lend (.i 2)])) (.step 11 (Xb 83 (.call (.fn 92) false [.io (.t 79), .lend (.t 82)])) (.step 12 (Xb 84 (.build
 [0, 1, 2] [0, 1, 2] [1, 1, 1] [.z, .b, .i] [.t 76, .t 78, .t 83])) (.step 13 (Xb 85 (.bsl 182 3 [.t 84])) (.step 14 (Xb 86 (.app true 182 3 32 (.t 73) (.t 85))) (.step 15 (Xf 87 5 5) (.step 16 (Xz (.store 1 (.t 87) (.t 86))) .nil)))))))) (.step 6 (Xb 78 (.call (.fn 72) false [.io (.t 77), .lend (.i 2)])) (.alt (.step 1 (Xl 73 1 72) (.step 11 (Xb 83 (.call (.fn 92) false [.io (.t 79), .lend (.t
 82)])) (.step 12 (Xb 84 (.build [0, 1, 2] [0, 1, 2] [1, 1, 1] [.z, .b, .i] [.t 76, .t 78, .t 83])) (.step 13 (Xb 85 (.bsl 182 3 [.t 84])) (.step 14 (Xb 86 (.app true 182 3 32 (.t 73) (.t 85))) (.step 15 (Xf 87 5 5) (.step 16 (Xz (.store 1 (.t 87) (.t 86))) .nil))))))) (.step 11 (Xb 83 (.call (.fn 92) false [.io (.t 79), .lend (.t 82)])) (.alt (.step 1 (Xl 73 1 72) (.step 12 (Xb 84 (.build [0, 1,
 2] [0, 1, 2] [1, 1, 1] [.z, .b, .i] [.t 76, .t 78, .t 83])) (.step 13 (Xb 85 (.bsl 182 3 [.t 84])) (.step 14 (Xb 86 (.app true 182 3 32 (.t 73) (.t 85))) (.step 15 (Xf 87 5 5) (.step 16 (Xz (.store 1 (.t 87) (.t 86))) .nil)))))) (.step 12 (Xb 84 (.build [0, 1, 2] [0, 1, 2] [1, 1, 1] [.z, .b, .i] [.t 76, .t 78, .t 83])) (.alt (.step 1 (Xl 73 1 72) (.step 13 (Xb 85 (.bsl 182 3 [.t 84])) (.step 14
 (Xb 86 (.app true 182 3 32 (.t 73) (.t 85))) (.step 15 (Xf 87 5 5) (.step 16 (Xz (.store 1 (.t 87) (.t 86))) .nil))))) (.step 13 (Xb 85 (.bsl 182 3 [.t 84])) (.step 1 (Xl 73 1 72) (.step 14 (Xb 86 (.app true 182 3 32 (.t 73) (.t 85))) (.step 15 (Xf 87 5 5) (.step 16 (Xz (.store 1 (.t 87) (.t 86))) .nil)))))))))))))))))) (.step 9 (Xl 81 1 80) (.step 10 (Xn 82 81) (.alt (.step 1 (Xl 73 1 72) (.step
 3 (Xb 75 (.call (.fn 222) false [.lend (.t 74)])) (.step 4 (Xq 76 (.bin false .add (.z #[112]) (.t 75))) (.step 6 (Xb 78 (.call (.fn 72) false [.io (.t 77), .lend (.i 2)])) (.step 11 (Xb 83 (.call (.fn 92) false [.io (.t 79), .lend (.t 82)])) (.step 12 (Xb 84 (.build [0, 1, 2] [0, 1, 2] [1, 1, 1] [.z, .b, .i] [.t 76, .t 78, .t 83])) (.step 13 (Xb 85 (.bsl 182 3 [.t 84])) (.step 14 (Xb 86 (.app
 true 182 3 32 (.t 73) (.t 85))) (.step 15 (Xf 87 5 5) (.step 16 (Xz (.store 1 (.t 87) (.t 86))) .nil)))))))))) (.step 3 (Xb 75 (.call (.fn 222) false [.lend (.t 74)])) (.step 4 (Xq 76 (.bin false .add (.z #[112]) (.t 75))) (.alt (.step 1 (Xl 73 1 72) (.step 6 (Xb 78 (.call (.fn 72) false [.io (.t 77), .lend (.i 2)])) (.step 11 (Xb 83 (.call (.fn 92) false [.io (.t 79), .lend (.t 82)])) (.step 12
 (Xb 84 (.build [0, 1, 2] [0, 1, 2] [1, 1, 1] [.z, .b, .i] [.t 76, .t 78, .t 83])) (.step 13 (Xb 85 (.bsl 182 3 [.t 84])) (.step 14 (Xb 86 (.app true 182 3 32 (.t 73) (.t 85))) (.step 15 (Xf 87 5 5) (.step 16 (Xz (.store 1 (.t 87) (.t 86))) .nil)))))))) (.step 6 (Xb 78 (.call (.fn 72) false [.io (.t 77), .lend (.i 2)])) (.alt (.step 1 (Xl 73 1 72) (.step 11 (Xb 83 (.call (.fn 92) false [.io (.t
 79), .lend (.t 82)])) (.step 12 (Xb 84 (.build [0, 1, 2] [0, 1, 2] [1, 1, 1] [.z, .b, .i] [.t 76, .t 78, .t 83])) (.step 13 (Xb 85 (.bsl 182 3 [.t 84])) (.step 14 (Xb 86 (.app true 182 3 32 (.t 73) (.t 85))) (.step 15 (Xf 87 5 5) (.step 16 (Xz (.store 1 (.t 87) (.t 86))) .nil))))))) (.step 11 (Xb 83 (.call (.fn 92) false [.io (.t 79), .lend (.t 82)])) (.alt (.step 1 (Xl 73 1 72) (.step 12 (Xb 84
 (.build [0, 1, 2] [0, 1, 2] [1, 1, 1] [.z, .b, .i] [.t 76, .t 78, .t 83])) (.step 13 (Xb 85 (.bsl 182 3 [.t 84])) (.step 14 (Xb 86 (.app true 182 3 32 (.t 73) (.t 85))) (.step 15 (Xf 87 5 5) (.step 16 (Xz (.store 1 (.t 87) (.t 86))) .nil)))))) (.step 12 (Xb 84 (.build [0, 1, 2] [0, 1, 2] [1, 1, 1] [.z, .b, .i] [.t 76, .t 78, .t 83])) (.alt (.step 1 (Xl 73 1 72) (.step 13 (Xb 85 (.bsl 182 3 [.t
 84])) (.step 14 (Xb 86 (.app true 182 3 32 (.t 73) (.t 85))) (.step 15 (Xf 87 5 5) (.step 16 (Xz (.store 1 (.t 87) (.t 86))) .nil))))) (.step 13 (Xb 85 (.bsl 182 3 [.t 84])) (.step 1 (Xl 73 1 72) (.step 14 (Xb 86 (.app true 182 3 32 (.t 73) (.t 85))) (.step 15 (Xf 87 5 5) (.step 16 (Xz (.store 1 (.t 87) (.t 86))) .nil))))))))))))))))))))))))) (.reg [Xm 70 6, Xq 71 (.bin false .sub (.t 70) (.i 1)),
 Xa 6 71]))))))) .skip)))))))) (.reg [Xf 88 3 3, Xl 89 1 88, XL 90 6 5, Xb 91 (.bsl 69 6 [.t 90]), Xb 92 (.app true 69 6 72 (.t 89) (.t 91)), Xf 93 3 3, Xz (.store 1 (.t 93) (.t 92))]))))) (.reg [Xm 24 4, Xq 25 (.bin false .sub (.t 24) (.i 1)), Xa 4 25])))))) (.seq (.reg [XL 94 5 3, Xz (.store 5 (.t 2) (.t 94))]) .ret)))))
set_option maxHeartbeats 4000000 in
set_option maxRecDepth 100000 in
theorem p158 (c : Cur) (n : Int) (hc : c.ok n) (hn : n ≤ 100000000000) : Draws 158 [] c n 900 fun r => ∃ s : Scope, r = .agg s.o ∧ 3 ≤ s.types.length ∧ s.dr ∧ s.uses.length ≤ 1 := by
  refine doesM_intro (mc := m158) (N := 95) (rs := [.c 2 49 true 5]) (fx := [0]) 1 rfl (by decide +kernel) ?_
  simp only [m158, EV, Nat.reduceEqDiff, Nat.reduceBEq, Nat.reduceLT, Nat.reduceLeDiff, Nat.reduceAdd, Nat.reduceSub, reduceIte]
  refine (p159 c n [⟨#[65]⟩, ⟨#[66]⟩, ⟨#[77]⟩] hc (by omega) (by decide) (by decide)).call (fun _ => rfl) ?_
  rintro _ c1 hc1 ⟨nm, hnm, rfl⟩
  have hnm1 : (nm.size : Int) ≤ 40 := by
    simp only [List.mem_cons, List.not_mem_nil, or_false] at hnm
    rcases hnm with rfl | rfl | rfl <;> decide
  simp only [EV, Nat.reduceEqDiff, Nat.reduceBEq, Nat.reduceLT, Nat.reduceLeDiff, Nat.reduceAdd, Nat.reduceSub, reduceIte]
  refine (p221 c1 _ hc1 (by omega)).call (fun _ => rfl) ?_
  rintro _ c2 hc2 ⟨l, rfl, l3, l9, lD⟩
  have lS : ∀ t ∈ l, t.dr := fun t ht => (lD t ht).dr
  simp only [EV, Nat.reduceEqDiff, Nat.reduceBEq, Nat.reduceLT, Nat.reduceLeDiff, Nat.reduceAdd, Nat.reduceSub, reduceIte]
  refine awp_join (fun p : List Str × List Us × Cur => (p.1.length ≤ 1 ∧ ∀ i ∈ p.1, (i.s.size : Int) ≤ 40) ∧ (p.2.1.length ≤ 1 ∧ ∀ u ∈ p.2.1, (u.mod.size : Int) ≤ 40 ∧ (u.name.size : Int) ≤ 40) ∧ p.2.2.ok (n + 604)) (fun p => stl [(0, .box 114 p.2.2.z), (2, .box 49 Scope.zr), (3, .box 49 (Scope.o ⟨nm, p.1, l, [], p.2.1⟩))]) ?_ ?_
  · simp only [EV, Nat.reduceEqDiff, Nat.reduceBEq, Nat.reduceLT, Nat.reduceLeDiff, Nat.reduceAdd, Nat.reduceSub, reduceIte]
    refine (p72 c2 _ 3 hc2 (by omega) (by omega)).call (fun _ => rfl) ?_
    rintro _ c3 hc3 ⟨b, rfl⟩
    cases b
    · simp only [EV, Nat.reduceEqDiff, Nat.reduceBEq, Nat.reduceLT, Nat.reduceLeDiff, Nat.reduceAdd, Nat.reduceSub, reduceIte]
      exact ⟨([], [], c3), ⟨⟨by simp, by simp⟩, ⟨by simp, by simp⟩, hc3.up (by omega)⟩, rfl⟩
    · simp only [EV, Nat.reduceEqDiff, Nat.reduceBEq, Nat.reduceLT, Nat.reduceLeDiff, Nat.reduceAdd, Nat.reduceSub, reduceIte]
      exact ⟨([⟨⟨#[66, 97, 115, 101]⟩⟩], [⟨⟨#[66, 97, 115, 101]⟩, ⟨#[120]⟩⟩], c3), ⟨⟨by simp, fun i hi => by rw [List.mem_singleton] at hi; rw [hi]; decide⟩, ⟨by simp, fun i hi => by rw [List.mem_singleton] at hi; rw [hi]; exact ⟨by decide, by decide⟩⟩, hc3.up (by omega)⟩, rfl⟩
  rintro ⟨im, us, c3⟩ ⟨him, hus, hc3⟩
  simp only at him hus hc3
  simp only [Scope.o, List.map_nil, EV, Nat.reduceEqDiff, Nat.reduceBEq, Nat.reduceLT, Nat.reduceLeDiff, Nat.reduceAdd, Nat.reduceSub, reduceIte]
  refine (p92 c3 _ 6 hc3 (by omega) (by omega)).call (fun _ => rfl) ?_
  rintro _ c4 hc4 ⟨m, rfl, m0, m1, _⟩
  have m6 := m1 (by omega)
  simp only [EV, Nat.reduceEqDiff, Nat.reduceBEq, Nat.reduceLT, Nat.reduceLeDiff, Nat.reduceAdd, Nat.reduceSub, reduceIte]
  refine awp_loop (fun p : List Ob × Int × Cur => (p.1.length : Int) + p.2.1 ≤ 5 ∧ 0 ≤ p.2.1 ∧ (∀ o ∈ p.1, o.dr) ∧ p.2.2.ok (n + 610 + 30 * p.1.length)) (fun p => stl [(0, .box 114 p.2.2.z), (2, .box 49 Scope.zr), (3, .box 49 (Scope.o ⟨nm, im, l, p.1, us⟩)), (4, .v (.int .i64 p.2.1))]) (fun p => p.2.1.toNat) ([], m, c4) ⟨by simp; omega, m0, by simp, hc4.up (by simp; omega)⟩ ?_ ?_
  · simp only [Scope.o, List.map_nil, EV, Nat.reduceEqDiff, Nat.reduceBEq, Nat.reduceLT, Nat.reduceLeDiff, Nat.reduceAdd, Nat.reduceSub, reduceIte]
  rintro ⟨os, k, c5⟩ ⟨g1, g2, g3, hc5⟩
  simp only at g1 g2 g3 hc5
  simp only [Scope.o, EV, Nat.reduceEqDiff, Nat.reduceBEq, Nat.reduceLT, Nat.reduceLeDiff, Nat.reduceAdd, Nat.reduceSub, reduceIte]
  refine cK_cut (fun h => ?_) (fun h => ?_)
  · have hk : 0 < k := by simpa using h
    clear h
    refine awp_join (fun p : Ob × Cur => p.1.dr ∧ p.2.ok (n + 610 + 30 * os.length + 29)) (fun p => stl [(0, .box 114 p.2.z), (2, .box 49 Scope.zr), (3, .box 49 (Scope.o ⟨nm, im, l, os ++ [p.1], us⟩)), (4, .v (.int .i64 k))]) ?_ ?_
    · simp only [EV, Nat.reduceEqDiff, Nat.reduceBEq, Nat.reduceLT, Nat.reduceLeDiff, Nat.reduceAdd, Nat.reduceSub, reduceIte]
      refine n222 (by omega) (by omega) fun on hon => ?_
      simp only [EV, Nat.reduceEqDiff, Nat.reduceBEq, Nat.reduceLT, Nat.reduceLeDiff, Nat.reduceAdd, Nat.reduceSub, reduceIte]
      have h111 : ((⟨#[111]⟩ : ByteArray).size : Nat) = 1 := rfl
      refine ⟨by rw [h111]; omega, ?_⟩
      have hon1 : ((⟨#[111]⟩ ++ on : ByteArray).size : Int) ≤ 40 := by
        rw [ByteArray.size_append, h111]; omega
      generalize (⟨#[111]⟩ ++ on : ByteArray) = onm at hon1
      refine (p92 c5 _ 4 hc5 (by omega) (by omega)).call (fun _ => rfl) ?_
      rintro _ c6 hc6 ⟨kd, rfl, k0, k1, _⟩
      have k4 := k1 (by omega)
      have hwk : IntKind.i64.wrap (1 + kd) = 1 + kd := w64 _ (by omega)
      obtain ⟨q, hq⟩ : ∃ q : Int, 1 + kd = q := ⟨_, rfl⟩
      have hwq : IntKind.i64.wrap q = q := w64 _ (by omega)
      simp only [hq, hwq, EV, Nat.reduceEqDiff, Nat.reduceBEq, Nat.reduceLT, Nat.reduceLeDiff, Nat.reduceAdd, Nat.reduceSub, reduceIte]
      refine (p92 c6 _ 2 hc6 (by omega) (by omega)).call (fun _ => rfl) ?_
      rintro _ c7 hc7 ⟨mk, rfl, _⟩
      simp only [EV, Nat.reduceEqDiff, Nat.reduceBEq, Nat.reduceLT, Nat.reduceLeDiff, Nat.reduceAdd, Nat.reduceSub, reduceIte]
      refine awp_join (fun p : Int × Cur => p.2.ok (n + 610 + 30 * os.length + 8)) (fun p => stl [(0, .box 114 p.2.z), (2, .box 49 Scope.zr), (3, .box 49 (Scope.o ⟨nm, im, l, os, us⟩)), (4, .v (.int .i64 k)), (5, .box 69 (Ob.o ⟨onm, q, mk, p.1, 0, []⟩))]) ?_ ?_
      · simp only [EV, Nat.reduceEqDiff, Nat.reduceBEq, Nat.reduceLT, Nat.reduceLeDiff, Nat.reduceAdd, Nat.reduceSub, reduceIte]
        have hne : (q != 1) = !(q == 1) := rfl
        rw [hne]
        rcases e1 : (q == 1) with _ | _
        · simp only [Bool.not_false, Scope.o, EV, Nat.reduceEqDiff, Nat.reduceBEq, Nat.reduceLT, Nat.reduceLeDiff, Nat.reduceAdd, Nat.reduceSub, reduceIte]
          refine (p92 c7 _ l.length hc7 (by omega) (by omega)).call (fun _ => rfl) ?_
          rintro _ c8 hc8 ⟨ty, rfl, _⟩
          simp only [Ob.o, List.map_nil, EV, Nat.reduceEqDiff, Nat.reduceBEq, Nat.reduceLT, Nat.reduceLeDiff, Nat.reduceAdd, Nat.reduceSub, reduceIte]
          exact ⟨(ty, c8), hc8.up (by omega), rfl⟩
        · simp only [Bool.not_true, Scope.o, EV, Nat.reduceEqDiff, Nat.reduceBEq, Nat.reduceLT, Nat.reduceLeDiff, Nat.reduceAdd, Nat.reduceSub, reduceIte]
          exact ⟨(0, c7), hc7.up (by omega), rfl⟩
      rintro ⟨ty, c8⟩ hc8
      simp only at hc8
      simp only [Ob.o, List.map_nil, EV, Nat.reduceEqDiff, Nat.reduceBEq, Nat.reduceLT, Nat.reduceLeDiff, Nat.reduceAdd, Nat.reduceSub, reduceIte]
      refine awp_join (fun p : Ob × Cur => p.1.dr ∧ p.2.ok (n + 610 + 30 * os.length + 29)) (fun p => stl [(0, .box 114 p.2.z), (2, .box 49 Scope.zr), (3, .box 49 (Scope.o ⟨nm, im, l, os, us⟩)), (4, .v (.int .i64 k)), (5, .box 69 p.1.o)]) ?_ ?_
      · simp only [EV, Nat.reduceEqDiff, Nat.reduceBEq, Nat.reduceLT, Nat.reduceLeDiff, Nat.reduceAdd, Nat.reduceSub, reduceIte]
        rcases e1 : (q == 1) with _ | _
        rotate_left
        · simp only [e1, EV, Nat.reduceEqDiff, Nat.reduceBEq, Nat.reduceLT, Nat.reduceLeDiff, Nat.reduceAdd, Nat.reduceSub, reduceIte]
          refine (p223 c8 _ hc8 (by omega)).call (fun _ => rfl) ?_
          rintro _ c9 hc9 ⟨w, w0, w1, rfl⟩
          simp only [Ob.o, List.map_nil, EV, Nat.reduceEqDiff, Nat.reduceBEq, Nat.reduceLT, Nat.reduceLeDiff, Nat.reduceAdd, Nat.reduceSub, reduceIte]
          exact ⟨(⟨onm, q, mk, ty, w, []⟩, c9), ⟨⟨hon1, by simp, by simp, w0, w1⟩, hc9.up (by omega)⟩, rfl⟩
        rcases e3 : (q == 3) with _ | _
        rotate_left
        · simp only [e1, e3, EV, Nat.reduceEqDiff, Nat.reduceBEq, Nat.reduceLT, Nat.reduceLeDiff, Nat.reduceAdd, Nat.reduceSub, reduceIte]
          refine (p92 c8 _ 3 hc8 (by omega) (by omega)).call (fun _ => rfl) ?_
          rintro _ c9 hc9 ⟨w, rfl, _⟩
          simp only [Ob.o, List.map_nil, EV, Nat.reduceEqDiff, Nat.reduceBEq, Nat.reduceLT, Nat.reduceLeDiff, Nat.reduceAdd, Nat.reduceSub, reduceIte]
          exact ⟨(⟨onm, q, w, ty, 0, []⟩, c9), ⟨⟨hon1, by simp, by simp, by simp only; decide, by simp only; decide⟩, hc9.up (by omega)⟩, rfl⟩
        rcases e4 : (q == 4) with _ | _
        · simp only [e1, e3, e4, EV, Nat.reduceEqDiff, Nat.reduceBEq, Nat.reduceLT, Nat.reduceLeDiff, Nat.reduceAdd, Nat.reduceSub, reduceIte]
          exact ⟨(⟨onm, q, mk, ty, 0, []⟩, c8), ⟨⟨hon1, by simp, by simp, by simp only; decide, by simp only; decide⟩, hc8.up (by omega)⟩, rfl⟩
        have wl := w64 ((l.length : Int) + 1) (by omega)
        simp only [e1, e3, e4, wl, Scope.o, EV, Nat.reduceEqDiff, Nat.reduceBEq, Nat.reduceLT, Nat.reduceLeDiff, Nat.reduceAdd, Nat.reduceSub, reduceIte]
        refine (p92 c8 _ ((l.length : Int) + 1) hc8 (by omega) (by omega)).call (fun _ => rfl) ?_
        rintro _ c9 hc9 ⟨w, rfl, _⟩
        simp only [Ob.o, List.map_nil, EV, Nat.reduceEqDiff, Nat.reduceBEq, Nat.reduceLT, Nat.reduceLeDiff, Nat.reduceAdd, Nat.reduceSub, reduceIte]
        refine (p92 c9 _ 3 hc9 (by omega) (by omega)).call (fun _ => rfl) ?_
        rintro _ c10 hc10 ⟨k2, rfl, k20, k21, _⟩
        have k23 := k21 (by omega)
        simp only [EV, Nat.reduceEqDiff, Nat.reduceBEq, Nat.reduceLT, Nat.reduceLeDiff, Nat.reduceAdd, Nat.reduceSub, reduceIte]
        generalize IntKind.i64.wrap (w - 1) = rt
        refine awp_loop (fun p : List Par × Int × Cur => (p.1.length : Int) + p.2.1 ≤ 2 ∧ 0 ≤ p.2.1 ∧ (∀ f ∈ p.1, f.dr) ∧ p.2.2.ok (n + 610 + 30 * os.length + 14 + 6 * p.1.length)) (fun p => stl [(0, .box 114 p.2.2.z), (2, .box 49 Scope.zr), (3, .box 49 (Scope.o ⟨nm, im, l, os, us⟩)), (4, .v (.int .i64 k)), (5, .box 69 (Ob.o ⟨onm, q, mk, rt, 0, p.1⟩)), (6, .v (.int .i64 p.2.1))]) (fun p => p.2.1.toNat) ([], k2, c10) ⟨by simp; omega, k20, by simp, hc10.up (by simp; omega)⟩ ?_ ?_
        · simp only [Ob.o, List.map_nil, Scope.o, EV, Nat.reduceEqDiff, Nat.reduceBEq, Nat.reduceLT, Nat.reduceLeDiff, Nat.reduceAdd, Nat.reduceSub, reduceIte]
        rintro ⟨ps, k3, c11⟩ ⟨r1, r2, r3, hc11⟩
        simp only at r1 r2 r3 hc11
        simp only [Ob.o, Scope.o, EV, Nat.reduceEqDiff, Nat.reduceBEq, Nat.reduceLT, Nat.reduceLeDiff, Nat.reduceAdd, Nat.reduceSub, reduceIte]
        refine cK_cut (fun h => ?_) (fun h => ?_)
        · have hk3 : 0 < k3 := by simpa using h
          clear h
          have h112 : ((⟨#[112]⟩ : ByteArray).size : Nat) = 1 := rfl
          have wk := w64 (k3 - 1) (by omega)
          simp only [wk, EV, Nat.reduceEqDiff, Nat.reduceBEq, Nat.reduceLT, Nat.reduceLeDiff, Nat.reduceAdd, Nat.reduceSub, reduceIte]
          have ld : ∀ (pn : ByteArray) (u : Bool) (v : Int) (c' : Cur), (pn.size : Int) ≤ k3 + 1 → c'.ok (n + 610 + 30 * os.length + 14 + 6 * ps.length + 2 + 2) →
              (((ps ++ [(⟨⟨#[112]⟩ ++ pn, u, v⟩ : Par)]).length : Int) + (k3 - 1) ≤ 2 ∧ 0 ≤ k3 - 1 ∧ (∀ f ∈ ps ++ [(⟨⟨#[112]⟩ ++ pn, u, v⟩ : Par)], f.dr) ∧ c'.ok (n + 610 + 30 * os.length + 14 + 6 * (ps ++ [(⟨⟨#[112]⟩ ++ pn, u, v⟩ : Par)]).length)) := by
            intro pn u v c' hpn hc'
            refine ⟨by simp; omega, by omega, ?_, hc'.up (by simp; omega)⟩
            intro f hf
            rcases List.mem_append.1 hf with hf | hf
            · exact r3 f hf
            · rw [List.mem_singleton] at hf
              rw [hf]
              simp only [Par.dr, ByteArray.size_append, h112]; omega
          have lm1 : ∀ (pn : ByteArray) (u : Bool) (v : Int), List.map Par.o ps ++ [[AV.v (.string (⟨#[112]⟩ ++ pn)), AV.v (.bool u), AV.v (.int .i64 v)]] = List.map Par.o (ps ++ [⟨⟨#[112]⟩ ++ pn, u, v⟩]) := fun pn u v => by rw [List.map_append]; rfl
          repeat' first
            | (refine n222 (by omega) (by omega) fun pn hpn => ?_; simp only [EV, Nat.reduceEqDiff, Nat.reduceBEq, Nat.reduceLT, Nat.reduceLeDiff, Nat.reduceAdd, Nat.reduceSub, reduceIte]; refine ⟨by rw [h112]; omega, ?_⟩)
            | (refine (p72 c11 _ 2 hc11 (by omega) (by omega)).call (fun _ => rfl) ?_; rintro _ c12 hc12 ⟨u, rfl⟩; simp only [EV, Nat.reduceEqDiff, Nat.reduceBEq, Nat.reduceLT, Nat.reduceLeDiff, Nat.reduceAdd, Nat.reduceSub, reduceIte])
            | (refine (p92 c12 _ l.length hc12 (by omega) (by omega)).call (fun _ => rfl) ?_; rintro _ c13 hc13 ⟨v, rfl, _⟩; simp only [wk, Ob.o, lm1, EV, Nat.reduceEqDiff, Nat.reduceBEq, Nat.reduceLT, Nat.reduceLeDiff, Nat.reduceAdd, Nat.reduceSub, reduceIte])
            | exact ⟨by omega, by omega, (ps ++ [⟨⟨#[112]⟩ ++ pn, u, v⟩], k3 - 1, c13), ld pn u v c13 hpn hc13, by simp only; omega, rfl⟩
            | refine And.intro ?_ ?_
        · simp only [EV, Nat.reduceEqDiff, Nat.reduceBEq, Nat.reduceLT, Nat.reduceLeDiff, Nat.reduceAdd, Nat.reduceSub, reduceIte]
          exact ⟨(⟨onm, q, mk, rt, 0, ps⟩, c11), ⟨⟨hon1, by simp only; omega, r3, by simp only; decide, by simp only; decide⟩, hc11.up (by omega)⟩, rfl⟩
      rintro ⟨o, c9⟩ ⟨ho, hc9⟩
      simp only at ho hc9
      simp only [Ob.o, Scope.o, EV, Nat.reduceEqDiff, Nat.reduceBEq, Nat.reduceLT, Nat.reduceLeDiff, Nat.reduceAdd, Nat.reduceSub, reduceIte]
      refine ⟨by omega, by omega, (o, c9), ⟨ho, hc9⟩, ?_⟩
      simp only [Scope.o, List.map_append, List.map_cons, List.map_nil, Ob.o]
    rintro ⟨o, c6⟩ ⟨ho, hc6⟩
    simp only at ho hc6
    have wk := w64 (k - 1) (by omega)
    simp only [Scope.o, wk, EV, Nat.reduceEqDiff, Nat.reduceBEq, Nat.reduceLT, Nat.reduceLeDiff, Nat.reduceAdd, Nat.reduceSub, reduceIte]
    refine ⟨(os ++ [o], k - 1, c6), ⟨by simp only [List.length_append, List.length_singleton]; omega, by simp only; omega, ?_, hc6.up (by simp only [List.length_append, List.length_singleton]; omega)⟩, by simp only; omega, rfl⟩
    intro x hx
    rcases List.mem_append.1 hx with hx | hx
    · exact g3 x hx
    · rw [List.mem_singleton] at hx; rw [hx]; exact ho
  · simp only [EV, Nat.reduceEqDiff, Nat.reduceBEq, Nat.reduceLT, Nat.reduceLeDiff, Nat.reduceAdd, Nat.reduceSub, reduceIte]
    simp only [Str.nfz, Ty.nfz, Ob.nfz, Us.nfz, pbeq, evRM, EV, Nat.reduceEqDiff, Nat.reduceBEq, Nat.reduceLT, Nat.reduceLeDiff, Nat.reduceAdd, Nat.reduceSub, reduceIte, evRE, retVC, cellV', evR, nfz, nfzs, nfzss, List.contains_nil, List.contains_cons, Bool.or_false, or_true]
    refine ⟨by decide, by decide, ?_⟩
    exact ⟨⟨c5, rfl, hc5.up (by omega), ⟨nm, im, l, os, us⟩, rfl, l3, ⟨hnm1, him, ⟨l9, lS⟩, ⟨by simp only; omega, g3⟩, by have := hus.1; simp only; omega, hus.2⟩, hus.1⟩, Or.inr (by decide)⟩
end Go.AM
namespace Go.AM
set_option linter.unusedVariables false
set_option linter.unusedSimpArgs false
theorem Ob.dr.typ {o : Ob} (h : o.dr) (t : Int) : Ob.dr ⟨o.name, o.kind, o.mark, t, o.value, o.params⟩ := h
def m84 : MC :=
 (.seq (.reg [Xb 2 (.alloc 49 [.z, .s 9 1, .s 129 6, .s 69 6, .s 132 2])]) (.seq (.reg [Xm 4 0, Xb 5 (.call (.fn 158) false [.io (.t 4)]), Xb 3 (.alloc 49 [.z, .s 9 1, .s 129 6, .s 69 6, .s 132 2]), Xz (.store 5 (.t 3) (.t 5))]) (.join [0, 2, 3] (.seq (.reg [Xm 6 0, Xb 7 (.call (.fn 92) false [.io (.t 6), .lend (.i 30)])]) (.block 0 (.seq (.reg [Xq 9 (.bin false .eql (.t 7) (.i 0)), Xa 8 9]) (.cond
 (.t 8) (.reg [Xm 10 0, Xb 11 (.bsl 9 1 [.z #[], .z #[49], .z #[66, 97, 115, 101]]), Xb 12 (.call (.fn 159) false [.io (.t 10), .give (.t 11)]), Xf 13 0 3, Xz (.store 1 (.t 13) (.t 12))]) (.seq (.reg [Xq 15 (.bin false .eql (.t 7) (.i 1)), Xa 14 15]) (.cond (.t 14) (.seq (.reg [Xf 16 3 3, Xl 17 1 16, Xn 18 17, Xq 19 (.bin false .gtr (.t 18) (.i 0))]) (.cond (.t 19) (.mixt [] [0, 2, 3] [] [] [] []
 (.step 0 (Xf 20 3 3) (.step 2 (Xm 22 0) (.alt (.step 1 (Xl 21 1 20) (.step 3 (Xb 23 (.bsl 3 1 [.i (-1), .i 24, .i 0])) (.step 4 (Xb 24 (.call (.fn 160) false [.io (.t 22), .give (.t 23)])) (.step 5 (Xq 25 (.iad 6 (.t 21) (.i 0))) (.step 6 (Xf 26 3 25) (.step 7 (Xz (.store 1 (.t 26) (.t 24))) .nil)))))) (.step 3 (Xb 23 (.bsl 3 1 [.i (-1), .i 24, .i 0])) (.alt (.step 1 (Xl 21 1 20) (.step 4 (Xb 24
 (.call (.fn 160) false [.io (.t 22), .give (.t 23)])) (.step 5 (Xq 25 (.iad 6 (.t 21) (.i 0))) (.step 6 (Xf 26 3 25) (.step 7 (Xz (.store 1 (.t 26) (.t 24))) .nil))))) (.step 4 (Xb 24 (.call (.fn 160) false [.io (.t 22), .give (.t 23)])) (.step 1 (Xl 21 1 20) (.step 5 (Xq 25 (.iad 6 (.t 21) (.i 0))) (.step 6 (Xf 26 3 25) (.step 7 (Xz (.store 1 (.t 26) (.t 24))) .nil))))))))))) .skip)) (.seq (.reg
 [Xq 28 (.bin false .eql (.t 7) (.i 2)), Xa 27 28]) (.cond (.t 27) (.reg [Xf 29 4 3, Xl 30 1 29, Xb 31 (.build [0, 1] [0, 1] [1, 1] [.z, .z] [.z #[67], .z #[120]]), Xb 32 (.bsl 132 2 [.t 31]), Xb 33 (.app true 132 2 32 (.t 30) (.t 32)), Xf 34 4 3, Xz (.store 1 (.t 34) (.t 33))]) (.seq (.reg [Xq 36 (.bin false .eql (.t 7) (.i 3)), Xa 35 36]) (.cond (.t 35) (.reg [Xm 37 0, Xb 38 (.call (.fn 161)
 false [.io (.t 37)]), Xf 39 2 3, Xz (.store 1 (.t 39) (.t 38))]) .skip)))))))))) (.seq (.reg [XL 40 5 3, Xz (.store 5 (.t 2) (.t 40))]) .ret))))
set_option maxHeartbeats 4000000 in
set_option maxRecDepth 100000 in
theorem p84 (c : Cur) (n : Int) (hc : c.ok n) (hn : n ≤ 10000000000) : Draws 84 [] c n 2000 fun r => ∃ s : Scope, r = .agg s.o ∧ s.dr := by
  refine doesM_intro (mc := m84) (N := 41) (rs := [.c 2 49 true 5]) (fx := [0]) 1 rfl (by decide +kernel) ?_
  simp only [m84, EV, Nat.reduceEqDiff, Nat.reduceBEq, Nat.reduceLT, Nat.reduceLeDiff, Nat.reduceAdd, Nat.reduceSub, reduceIte]
  refine (p158 c n hc (by omega)).call (fun _ => rfl) ?_
  rintro _ c1 hc1 ⟨⟨nm, im, l, os, us⟩, rfl, l3, hS, hu1⟩
  simp only at l3 hS hu1
  obtain ⟨s1, s2, s3, s4, s5⟩ := hS
  simp only at s1 s2 s3 s4 s5
  simp only [Scope.o, EV, Nat.reduceEqDiff, Nat.reduceBEq, Nat.reduceLT, Nat.reduceLeDiff, Nat.reduceAdd, Nat.reduceSub, reduceIte]
  refine awp_join (fun p : Scope × Cur => p.1.dr ∧ p.2.ok (n + 1600)) (fun p => stl [(0, .box 114 p.2.z), (2, .box 49 Scope.zr), (3, .box 49 p.1.o)]) ?_ ?_
  · simp only [EV, Nat.reduceEqDiff, Nat.reduceBEq, Nat.reduceLT, Nat.reduceLeDiff, Nat.reduceAdd, Nat.reduceSub, reduceIte]
    refine (p92 c1 _ 30 hc1 (by omega) (by omega)).call (fun _ => rfl) ?_
    rintro _ c2 hc2 ⟨q, rfl, _⟩
    simp only [EV, Nat.reduceEqDiff, Nat.reduceBEq, Nat.reduceLT, Nat.reduceLeDiff, Nat.reduceAdd, Nat.reduceSub, reduceIte]
    rcases e0 : (q == 0) with _ | _
    rotate_left
    · simp only [e0, EV, Nat.reduceEqDiff, Nat.reduceBEq, Nat.reduceLT, Nat.reduceLeDiff, Nat.reduceAdd, Nat.reduceSub, reduceIte]
      refine (p159 c2 _ [⟨#[]⟩, ⟨#[49]⟩, ⟨#[66, 97, 115, 101]⟩] hc2 (by omega) (by decide) (by decide)).call (fun _ => rfl) ?_
      rintro _ c3 hc3 ⟨s, hs', rfl⟩
      have hs1 : (s.size : Int) ≤ 40 := by
        simp only [List.mem_cons, List.not_mem_nil, or_false] at hs'
        rcases hs' with rfl | rfl | rfl <;> decide
      simp only [EV, Nat.reduceEqDiff, Nat.reduceBEq, Nat.reduceLT, Nat.reduceLeDiff, Nat.reduceAdd, Nat.reduceSub, reduceIte]
      exact ⟨(⟨s, im, l, os, us⟩, c3), ⟨⟨hs1, s2, s3, s4, s5⟩, hc3.up (by omega)⟩, rfl⟩
    rcases e1 : (q == 1) with _ | _
    rotate_left
    · simp only [e0, e1, EV, Nat.reduceEqDiff, Nat.reduceBEq, Nat.reduceLT, Nat.reduceLeDiff, Nat.reduceAdd, Nat.reduceSub, reduceIte]
      rcases f0 : decide (0 < (os.length : Int)) with _ | _
      · simp only [EV, Nat.reduceEqDiff, Nat.reduceBEq, Nat.reduceLT, Nat.reduceLeDiff, Nat.reduceAdd, Nat.reduceSub, reduceIte]
        exact ⟨(⟨nm, im, l, os, us⟩, c2), ⟨⟨s1, s2, s3, s4, s5⟩, hc2.up (by omega)⟩, rfl⟩
      · have f1 : 0 < os.length := by have : 0 < (os.length : Int) := by simpa using f0
                                      omega
        have f2 : (0 : Int) < (os.length : Int) := by omega
        have f4 : 0 < (os.map Ob.o).length := by simp; exact f1
        simp only [f0, f2, EV, Nat.reduceEqDiff, Nat.reduceBEq, Nat.reduceLT, Nat.reduceLeDiff, Nat.reduceAdd, Nat.reduceSub, reduceIte]
        have fin : ∀ (c3 : Cur) (v : Int), c3.ok (n + 900 + 2 + 2) → ∃ a : Scope × Cur, (a.1.dr ∧ a.2.ok (n + 1600)) ∧ stl [(0, AV.box 114 c3.z), (2, .box 49 Scope.zr), (3, .box 49 [AV.v (.string nm), .usl 9 1 (im.map Str.o), .usl 129 6 (l.map Ty.o), .usl 69 6 ((os.map Ob.o).set 0 (Ob.o ⟨os[0].name, os[0].kind, os[0].mark, v, os[0].value, os[0].params⟩)), .usl 132 2 (us.map Us.o)])] = stl [(0, .box 114 a.2.z), (2, .box 49 Scope.zr), (3, .box 49 a.1.o)] := by
          intro c3 v hc3
          refine ⟨(⟨nm, im, l, os.set 0 ⟨os[0].name, os[0].kind, os[0].mark, v, os[0].value, os[0].params⟩, us⟩, c3), ⟨⟨s1, s2, s3, ⟨by rw [List.length_set]; exact s4.1, fun o ho => ?_⟩, s5⟩, hc3.up (by omega)⟩, ?_⟩
          · rcases List.mem_or_eq_of_mem_set ho with h | h
            · exact s4.2 o h
            · rw [h]; exact (s4.2 _ (List.getElem_mem f1)).typ v
          · simp only [Scope.o, List.map_set]
        have h1 : (os.map Ob.o)[0]? = some (Ob.o os[0]) := by simp [f1]
        repeat' first
          | (refine (p160 c2 _ [-1, 24, 0] hc2 (by omega) (by decide) (by decide)).call (fun _ => rfl) ?_; rintro _ c3 hc3 ⟨v, _, rfl⟩; simp only [f0, f2, f1, f4, nth_map f1, nth_set f4, List.getElem?_set_self f4, h1, modify_get h1, modify_set, Ob.o, EV, Nat.reduceEqDiff, Nat.reduceBEq, Nat.reduceLT, Nat.reduceLeDiff, Nat.reduceAdd, Nat.reduceSub, reduceIte])
          | exact fin c3 v hc3
          | exact ⟨by omega, fin c3 v hc3⟩
          | exact ⟨by omega, by omega, fin c3 v hc3⟩
          | refine And.intro ?_ ?_
    rcases e2 : (q == 2) with _ | _
    rotate_left
    · simp only [e0, e1, e2, EV, Nat.reduceEqDiff, Nat.reduceBEq, Nat.reduceLT, Nat.reduceLeDiff, Nat.reduceAdd, Nat.reduceSub, reduceIte]
      refine ⟨by omega, by omega, (⟨nm, im, l, os, us ++ [⟨⟨#[67]⟩, ⟨#[120]⟩⟩]⟩, c2), ⟨⟨s1, s2, s3, s4, ⟨by simp; omega, ?_⟩⟩, hc2.up (by omega)⟩, ?_⟩
      · intro u hu
        rcases List.mem_append.1 hu with h | h
        · exact s5.2 u h
        · rw [List.mem_singleton] at h; rw [h]; exact ⟨by decide, by decide⟩
      · simp only [Scope.o, List.map_append]
        rfl
    rcases e3 : (q == 3) with _ | _
    rotate_left
    · simp only [e0, e1, e2, e3, EV, Nat.reduceEqDiff, Nat.reduceBEq, Nat.reduceLT, Nat.reduceLeDiff, Nat.reduceAdd, Nat.reduceSub, reduceIte]
      refine (q161 c2 _ hc2 (by omega)).call (fun _ => rfl) ?_
      rintro _ c3 hc3 ⟨l', rfl, l9, hs⟩
      simp only [EV, Nat.reduceEqDiff, Nat.reduceBEq, Nat.reduceLT, Nat.reduceLeDiff, Nat.reduceAdd, Nat.reduceSub, reduceIte]
      exact ⟨(⟨nm, im, l', os, us⟩, c3), ⟨⟨s1, s2, ⟨l9, hs⟩, s4, s5⟩, hc3.up (by omega)⟩, rfl⟩
    · simp only [e0, e1, e2, e3, EV, Nat.reduceEqDiff, Nat.reduceBEq, Nat.reduceLT, Nat.reduceLeDiff, Nat.reduceAdd, Nat.reduceSub, reduceIte]
      exact ⟨(⟨nm, im, l, os, us⟩, c2), ⟨⟨s1, s2, s3, s4, s5⟩, hc2.up (by omega)⟩, rfl⟩
  rintro ⟨s, c2⟩ ⟨hs, hc2⟩
  simp only at hs hc2
  simp only [Scope.o, EV, Nat.reduceEqDiff, Nat.reduceBEq, Nat.reduceLT, Nat.reduceLeDiff, Nat.reduceAdd, Nat.reduceSub, reduceIte]
  simp only [Str.nfz, Ty.nfz, Ob.nfz, Us.nfz, pbeq, evRM, EV, Nat.reduceEqDiff, Nat.reduceBEq, Nat.reduceLT, Nat.reduceLeDiff, Nat.reduceAdd, Nat.reduceSub, reduceIte, evRE, retVC, cellV', evR, nfz, nfzs, nfzss, List.contains_nil, List.contains_cons, Bool.or_false, or_true]
  refine ⟨by decide, by decide, ?_⟩
  exact ⟨⟨c2, rfl, hc2.up (by omega), s, rfl, hs⟩, Or.inr (by decide)⟩
end Go.AM
namespace Go.AM
set_option linter.unusedVariables false
set_option linter.unusedSimpArgs false
noncomputable def sameSc (x y : Scope) : Bool := (x.name.toList == y.name.toList) && (eqL qStr x.imports y.imports && (eqL sameTy x.types y.types && (eqL sameOb x.objects y.objects && (eqL qUs x.uses y.uses))))
def m86 : MC :=
 (.seq (.reg [Xb 2 (.box 49 (.t 0)), Xb 3 (.box 49 (.t 1)), Xb 4 (.asg .fb)]) (.seq (.reg [Xf 5 0 2, Xl 6 1 5, Xf 7 0 3, Xl 8 1 7, Xq 9 (.bin false .eql (.t 6) (.t 8)), Xm 10 9, Xt 11 10 (.fad 1 (.t 2)), Xt 12 10 (.load false 1 (.t 11)), Xt 13 10 (.fad 1 (.t 3)), Xt 14 10 (.load false 1 (.t 13)), XT 15 10 (.call (.fn 162) false [.lend (.t 12), .lend (.t 14)]), Xq 16 (.pick (.t 10) (.t 15) .fb), Xm
 17 16, Xt 18 17 (.fad 2 (.t 2)), Xt 19 17 (.load false 1 (.t 18)), Xt 20 17 (.fad 2 (.t 3)), Xt 21 17 (.load false 1 (.t 20)), XT 22 17 (.call (.fn 163) false [.lend (.t 19), .lend (.t 21), .lend (.fn 164)]), Xq 23 (.pick (.t 17) (.t 22) .fb), Xm 24 23, Xt 25 24 (.fad 3 (.t 2)), Xt 26 24 (.load false 1 (.t 25)), Xt 27 24 (.fad 3 (.t 3)), Xt 28 24 (.load false 1 (.t 27)), XT 29 24 (.call (.fn 165)
 false [.lend (.t 26), .lend (.t 28), .lend (.fn 166)]), Xq 30 (.pick (.t 24) (.t 29) .fb), Xm 31 30, Xt 32 31 (.fad 4 (.t 2)), Xt 33 31 (.load false 1 (.t 32)), Xt 34 31 (.fad 4 (.t 3)), Xt 35 31 (.load false 1 (.t 34)), XT 36 31 (.call (.fn 167) false [.lend (.t 33), .lend (.t 35)]), Xq 37 (.pick (.t 31) (.t 36) .fb), Xa 4 37]) .ret))
set_option maxRecDepth 100000 in
theorem d86 (x y : Scope) (hx : x.sm) (hy : y.sm) : Does Go.Proofs.Tryz.prog 86 [.agg x.z, .agg y.z] false (.v (.bool (sameSc x y))) [.dead, .dead] := by
  unfold Scope.sm at hx hy
  refine does_intro (mc := m86) (N := 38) (rs := [4]) (fx := []) 2 rfl (by decide +kernel) ?_
  simp only [m86, Scope.z, EV, Nat.reduceEqDiff, Nat.reduceBEq, Nat.reduceLT, Nat.reduceLeDiff, Nat.reduceAdd, Nat.reduceSub, reduceIte]
  repeat' (first
    | (refine gK_cut (fun h => ?_) (fun h => ?_) <;> simp only [h, EV, Nat.reduceEqDiff, Nat.reduceBEq, Nat.reduceLT, Nat.reduceLeDiff, Nat.reduceAdd, Nat.reduceSub, reduceIte])
    | (refine cK_cut (fun h => ?_) (fun h => ?_) <;> simp only [h, EV, Nat.reduceEqDiff, Nat.reduceBEq, Nat.reduceLT, Nat.reduceLeDiff, Nat.reduceAdd, Nat.reduceSub, reduceIte])
    | (refine callK_i (d162 _ _ (by omega) (by omega)) ?_ <;> simp only [h, EV, Nat.reduceEqDiff, Nat.reduceBEq, Nat.reduceLT, Nat.reduceLeDiff, Nat.reduceAdd, Nat.reduceSub, reduceIte])
    | (refine callK_i (d163 x.types y.types (by omega) (by omega) 164 sameTy (fun a ha b hb => d164 a b (hx.2.2.1.2 a ha) (hy.2.2.1.2 b hb))) ?_ <;> simp only [h, EV, Nat.reduceEqDiff, Nat.reduceBEq, Nat.reduceLT, Nat.reduceLeDiff, Nat.reduceAdd, Nat.reduceSub, reduceIte])
    | (refine callK_i (d165 x.objects y.objects (by omega) (by omega) 166 sameOb (fun a ha b hb => d166 a b (hx.2.2.2.1.2 a ha) (hy.2.2.2.1.2 b hb))) ?_ <;> simp only [h, EV, Nat.reduceEqDiff, Nat.reduceBEq, Nat.reduceLT, Nat.reduceLeDiff, Nat.reduceAdd, Nat.reduceSub, reduceIte])
    | (refine callK_i (d167 _ _ (by omega) (by omega)) ?_ <;> simp only [h, EV, Nat.reduceEqDiff, Nat.reduceBEq, Nat.reduceLT, Nat.reduceLeDiff, Nat.reduceAdd, Nat.reduceSub, reduceIte]))
  all_goals simp only [sameSc, *, Bool.true_and, Bool.false_and, Bool.and_true, Bool.and_false, Bool.and_self, EV, Nat.reduceEqDiff, Nat.reduceBEq, Nat.reduceLT, Nat.reduceLeDiff, Nat.reduceAdd, Nat.reduceSub, reduceIte, evRE, retVC, cellV', evR, nfz, nfzs, nfzss, List.contains_nil, List.contains_cons, Bool.or_false, or_true]
def m38 : MC :=
 (.seq (.reg [Xb 2 (.box 49 (.t 0)), Xb 3 (.box 49 (.t 1)), Xb 4 (.asg .fb)]) (.seq (.seq (.reg [Xf 8 0 2, Xl 9 1 8, Xf 10 0 3, Xl 11 1 10, Xq 12 (.bin false .neq (.t 9) (.t 11)), Xm 13 12, Xu 14 13 (.fad 1 (.t 2)), Xu 15 13 (.load false 1 (.t 14)), Xu 16 13 (.fad 1 (.t 3)), Xu 17 13 (.load false 1 (.t 16)), XU 18 13 (.call (.fn 87) false [.lend (.t 15), .lend (.t 17)]), Xu 19 13 (.un .not (.t
 18)), Xq 20 (.pick (.t 13) .tb (.t 19)), Xm 21 20, Xu 22 21 (.fad 2 (.t 2)), Xu 23 21 (.load false 1 (.t 22)), Xu 24 21 (.len false (.t 23)), Xu 25 21 (.fad 2 (.t 3)), Xu 26 21 (.load false 1 (.t 25)), Xu 27 21 (.len false (.t 26)), Xu 28 21 (.bin false .neq (.t 24) (.t 27)), Xq 29 (.pick (.t 21) .tb (.t 28)), Xm 30 29, Xu 31 30 (.fad 3 (.t 2)), Xu 32 30 (.load false 1 (.t 31)), Xu 33 30 (.len
 false (.t 32)), Xu 34 30 (.fad 3 (.t 3)), Xu 35 30 (.load false 1 (.t 34)), Xu 36 30 (.len false (.t 35)), Xu 37 30 (.bin false .neq (.t 33) (.t 36)), Xq 38 (.pick (.t 30) .tb (.t 37)), Xm 39 38, Xu 40 39 (.fad 4 (.t 2)), Xu 41 39 (.load false 1 (.t 40)), Xu 42 39 (.len false (.t 41)), Xu 43 39 (.fad 4 (.t 3)), Xu 44 39 (.load false 1 (.t 43)), Xu 45 39 (.len false (.t 44)), Xu 46 39 (.bin false
 .neq (.t 42) (.t 45)), Xq 47 (.pick (.t 39) .tb (.t 46))]) (.cond (.t 47) (.seq (.reg [Xb 4 (.asg .fb)]) .ret) .skip)) (.seq (.seq (.reg [Xf 48 2 2, Xl 49 1 48, Xn 50 49, Xq 51 (.mov (.i 0))]) (.block 0 (.loop [2, 3, 50, 51] (.seq (.reg [Xq 52 (.bin false .lss (.t 51) (.t 50))]) (.seq (.cond (.t 52) .skip (.exit 0)) (.seq (.block 1 (.seq (.reg [Xm 53 51, Xa 5 53]) (.seq (.dreg [Xf 54 2 2, Xl 55 1
 54, Xm 56 5, Xi 57 6 55 56, XL 58 6 57, Xf 59 2 3, Xl 60 1 59, Xm 61 5, Xi 62 6 60 61, XL 63 6 62, Xb 64 (.call (.fn 88) false [.lend (.t 58), .lend (.t 63)]), Xq 65 (.un .not (.t 64))]) (.cond (.t 65) (.seq (.reg [Xb 4 (.asg .fb)]) .ret) .skip)))) (.reg [Xq 66 (.bin false .add (.t 51) (.i 1)), Xm 51 66]))))))) (.seq (.seq (.reg [Xf 67 3 2, Xl 68 1 67, Xn 69 68, Xq 70 (.mov (.i 0))]) (.block 2
 (.loop [2, 3, 69, 70] (.seq (.reg [Xq 71 (.bin false .lss (.t 70) (.t 69))]) (.seq (.cond (.t 71) .skip (.exit 2)) (.seq (.block 3 (.seq (.reg [Xm 72 70, Xa 6 72]) (.seq (.dreg [Xf 73 3 2, Xl 74 1 73, Xm 75 6, Xi 76 6 74 75, XL 77 6 76, Xf 78 3 3, Xl 79 1 78, Xm 80 6, Xi 81 6 79 80, XL 82 6 81, Xb 83 (.call (.fn 89) false [.lend (.t 77), .lend (.t 82)]), Xq 84 (.un .not (.t 83))]) (.cond (.t 84)
 (.seq (.reg [Xb 4 (.asg .fb)]) .ret) .skip)))) (.reg [Xq 85 (.bin false .add (.t 70) (.i 1)), Xm 70 85]))))))) (.seq (.seq (.reg [Xf 86 4 2, Xl 87 1 86, Xn 88 87, Xq 89 (.mov (.i 0))]) (.block 4 (.loop [2, 3, 88, 89] (.seq (.reg [Xq 90 (.bin false .lss (.t 89) (.t 88))]) (.seq (.cond (.t 90) .skip (.exit 4)) (.seq (.block 5 (.seq (.reg [Xm 91 89, Xa 7 91]) (.seq (.dreg [Xf 92 4 2, Xl 93 1 92, Xm
 94 7, Xi 95 2 93 94, XL 96 2 95, Xf 97 4 3, Xl 98 1 97, Xm 99 7, Xi 100 2 98 99, XL 101 2 100, Xq 102 (.eqa true [1, 1] (.t 96) (.t 101))]) (.cond (.t 102) (.seq (.reg [Xb 4 (.asg .fb)]) .ret) .skip)))) (.reg [Xq 103 (.bin false .add (.t 89) (.i 1)), Xm 89 103]))))))) (.seq (.reg [Xb 4 (.asg .tb)]) .ret))))))
set_option maxRecDepth 100000 in
theorem d38 (x y : Scope) (hx : x.sm) (hy : y.sm) : Does Go.Proofs.Tryz.prog 38 [.agg x.z, .agg y.z] false (.v (.bool (sameSc x y))) [.dead, .dead] := by
  unfold Scope.sm at hx hy
  refine does_intro (mc := m38) (N := 104) (rs := [4]) (fx := []) 2 rfl (by decide +kernel) ?_
  simp only [m38, Scope.z, EV, Nat.reduceEqDiff, Nat.reduceBEq, Nat.reduceLT, Nat.reduceLeDiff, Nat.reduceAdd, Nat.reduceSub, reduceIte]
  repeat' (first
    | (refine gK_cut (fun h => ?_) (fun h => ?_) <;> simp only [h, EV, Nat.reduceEqDiff, Nat.reduceBEq, Nat.reduceLT, Nat.reduceLeDiff, Nat.reduceAdd, Nat.reduceSub, reduceIte])
    | (refine cK_cut (fun h => ?_) (fun h => ?_) <;> simp only [h, EV, Nat.reduceEqDiff, Nat.reduceBEq, Nat.reduceLT, Nat.reduceLeDiff, Nat.reduceAdd, Nat.reduceSub, reduceIte])
    | (refine callK_i (d87 x.imports y.imports (by omega) (by omega)) ?_ <;> simp only [h, EV, Nat.reduceEqDiff, Nat.reduceBEq, Nat.reduceLT, Nat.reduceLeDiff, Nat.reduceAdd, Nat.reduceSub, reduceIte]))
  all_goals simp only [bne, Bool.not_eq_true', Bool.not_eq_false', beq_eq_false_iff_ne, ne_eq] at *
  · have e : sameSc x y = false := by simp_all [sameSc]
    simp only [e, EV, Nat.reduceEqDiff, Nat.reduceBEq, Nat.reduceLT, Nat.reduceLeDiff, Nat.reduceAdd, Nat.reduceSub, reduceIte, evRE, retVC, cellV', evR, nfz, nfzs, nfzss, List.contains_nil, List.contains_cons, Bool.or_false, or_true]
  · have e : sameSc x y = false := by simp_all [sameSc]
    simp only [e, EV, Nat.reduceEqDiff, Nat.reduceBEq, Nat.reduceLT, Nat.reduceLeDiff, Nat.reduceAdd, Nat.reduceSub, reduceIte, evRE, retVC, cellV', evR, nfz, nfzs, nfzss, List.contains_nil, List.contains_cons, Bool.or_false, or_true]
  · have hn : ¬ x.types.length = y.types.length := by omega
    have e : sameSc x y = false := by simp only [sameSc, eqL_ne hn, Bool.true_and, Bool.false_and, Bool.and_true, Bool.and_false, Bool.and_self]
    simp only [e, EV, Nat.reduceEqDiff, Nat.reduceBEq, Nat.reduceLT, Nat.reduceLeDiff, Nat.reduceAdd, Nat.reduceSub, reduceIte, evRE, retVC, cellV', evR, nfz, nfzs, nfzss, List.contains_nil, List.contains_cons, Bool.or_false, or_true]
  · have hn : ¬ x.objects.length = y.objects.length := by simp only [beq_iff_eq] at *; omega
    have e : sameSc x y = false := by simp only [sameSc, eqL_ne hn, Bool.true_and, Bool.false_and, Bool.and_true, Bool.and_false, Bool.and_self]
    simp only [e, EV, Nat.reduceEqDiff, Nat.reduceBEq, Nat.reduceLT, Nat.reduceLeDiff, Nat.reduceAdd, Nat.reduceSub, reduceIte, evRE, retVC, cellV', evR, nfz, nfzs, nfzss, List.contains_nil, List.contains_cons, Bool.or_false, or_true]
  · have hn : ¬ x.uses.length = y.uses.length := by simp only [beq_iff_eq] at *; omega
    have e : sameSc x y = false := by simp only [sameSc, eqL_ne hn, Bool.true_and, Bool.false_and, Bool.and_true, Bool.and_false, Bool.and_self]
    simp only [e, EV, Nat.reduceEqDiff, Nat.reduceBEq, Nat.reduceLT, Nat.reduceLeDiff, Nat.reduceAdd, Nat.reduceSub, reduceIte, evRE, retVC, cellV', evR, nfz, nfzs, nfzss, List.contains_nil, List.contains_cons, Bool.or_false, or_true]
  · rename_i c1 c2 c3 c4
    have c5 := h
    clear h
    have hname : (x.name.toList == y.name.toList) = true := c1
    have himp : eqL qStr x.imports y.imports = true := c2
    simp only [beq_iff_eq] at c3 c4 c5
    have hltypes : x.types.length = y.types.length := by omega
    refine awp_loop (fun i : Nat => i ≤ x.types.length ∧ eqTo sameTy x.types y.types i) (fun i => stl [(2, .box 49 x.z), (3, .box 49 y.z), (50, .v (.int .i64 (x.types.length : Int))), (51, .v (.int .i64 (i : Int)))]) (fun i => x.types.length - i) 0 ⟨Nat.zero_le _, fun j _ _ h => absurd h (by omega)⟩ ?_ ?_
    · simp only [EV, Nat.reduceEqDiff, Nat.reduceBEq, Nat.reduceLT, Nat.reduceLeDiff, Nat.reduceAdd, Nat.reduceSub, reduceIte]
      rfl
    · rintro i ⟨hi, hto⟩
      simp only [Scope.z, EV, Nat.reduceEqDiff, Nat.reduceBEq, Nat.reduceLT, Nat.reduceLeDiff, Nat.reduceAdd, Nat.reduceSub, reduceIte]
      refine cK_cut (fun h => ?_) (fun h => ?_)
      · have h1 : i < x.types.length := by simpa using h
        have h2 : (i : Int) < (x.types.length : Int) := by omega
        have g1 : i < y.types.length := by omega
        have g2 : (i : Int) < (y.types.length : Int) := by omega
        simp only [TyE, nth_map h1, nth_map g1, h2, g2, EV, Nat.reduceEqDiff, Nat.reduceBEq, Nat.reduceLT, Nat.reduceLeDiff, Nat.reduceAdd, Nat.reduceSub, reduceIte]
        refine callD_i (d88 x.types[i] y.types[i] (hx.2.2.1.2 _ (List.getElem_mem h1)) (hy.2.2.1.2 _ (List.getElem_mem g1))) rfl ?_
        simp only [EV, Nat.reduceEqDiff, Nat.reduceBEq, Nat.reduceLT, Nat.reduceLeDiff, Nat.reduceAdd, Nat.reduceSub, reduceIte]
        refine cK_cut (fun h => ?_) (fun h => ?_)
        · have hq : sameTy x.types[i] y.types[i] = false := by simpa using h
          have e : sameSc x y = false := by simp only [sameSc, eqL_no h1 g1 hq, Bool.true_and, Bool.false_and, Bool.and_true, Bool.and_false, Bool.and_self]
          simp only [EV, Nat.reduceEqDiff, Nat.reduceBEq, Nat.reduceLT, Nat.reduceLeDiff, Nat.reduceAdd, Nat.reduceSub, reduceIte]
          simp only [e, EV, Nat.reduceEqDiff, Nat.reduceBEq, Nat.reduceLT, Nat.reduceLeDiff, Nat.reduceAdd, Nat.reduceSub, reduceIte, evRE, retVC, cellV', evR, nfz, nfzs, nfzss, List.contains_nil, List.contains_cons, Bool.or_false, or_true]
        · have hq : sameTy x.types[i] y.types[i] = true := by simpa using h
          simp only [EV, Nat.reduceEqDiff, Nat.reduceBEq, Nat.reduceLT, Nat.reduceLeDiff, Nat.reduceAdd, Nat.reduceSub, reduceIte]
          rw [w64 _ (by omega)]
          exact ⟨i + 1, ⟨by omega, eqTo_succ hto hq⟩, by omega, rfl⟩
      · have h0 : ¬ (i : Int) < x.types.length := by simpa using h
        have h1 : i = x.types.length := by omega
        subst h1
        have etypes := eqL_yes hltypes hto
        clear hto hi h h0
        simp only [EV, Nat.reduceEqDiff, Nat.reduceBEq, Nat.reduceLT, Nat.reduceLeDiff, Nat.reduceAdd, Nat.reduceSub, reduceIte]
        have hlobjects : x.objects.length = y.objects.length := by omega
        refine awp_loop (fun i : Nat => i ≤ x.objects.length ∧ eqTo sameOb x.objects y.objects i) (fun i => stl [(2, .box 49 x.z), (3, .box 49 y.z), (69, .v (.int .i64 (x.objects.length : Int))), (70, .v (.int .i64 (i : Int)))]) (fun i => x.objects.length - i) 0 ⟨Nat.zero_le _, fun j _ _ h => absurd h (by omega)⟩ ?_ ?_
        · simp only [EV, Nat.reduceEqDiff, Nat.reduceBEq, Nat.reduceLT, Nat.reduceLeDiff, Nat.reduceAdd, Nat.reduceSub, reduceIte]
          rfl
        · rintro i ⟨hi, hto⟩
          simp only [Scope.z, EV, Nat.reduceEqDiff, Nat.reduceBEq, Nat.reduceLT, Nat.reduceLeDiff, Nat.reduceAdd, Nat.reduceSub, reduceIte]
          refine cK_cut (fun h => ?_) (fun h => ?_)
          · have h1 : i < x.objects.length := by simpa using h
            have h2 : (i : Int) < (x.objects.length : Int) := by omega
            have g1 : i < y.objects.length := by omega
            have g2 : (i : Int) < (y.objects.length : Int) := by omega
            simp only [ObE, nth_map h1, nth_map g1, h2, g2, EV, Nat.reduceEqDiff, Nat.reduceBEq, Nat.reduceLT, Nat.reduceLeDiff, Nat.reduceAdd, Nat.reduceSub, reduceIte]
            refine callD_i (d89 x.objects[i] y.objects[i] (hx.2.2.2.1.2 _ (List.getElem_mem h1)) (hy.2.2.2.1.2 _ (List.getElem_mem g1))) rfl ?_
            simp only [EV, Nat.reduceEqDiff, Nat.reduceBEq, Nat.reduceLT, Nat.reduceLeDiff, Nat.reduceAdd, Nat.reduceSub, reduceIte]
            refine cK_cut (fun h => ?_) (fun h => ?_)
            · have hq : sameOb x.objects[i] y.objects[i] = false := by simpa using h
              have e : sameSc x y = false := by simp only [sameSc, eqL_no h1 g1 hq, Bool.true_and, Bool.false_and, Bool.and_true, Bool.and_false, Bool.and_self]
              simp only [EV, Nat.reduceEqDiff, Nat.reduceBEq, Nat.reduceLT, Nat.reduceLeDiff, Nat.reduceAdd, Nat.reduceSub, reduceIte]
              simp only [e, EV, Nat.reduceEqDiff, Nat.reduceBEq, Nat.reduceLT, Nat.reduceLeDiff, Nat.reduceAdd, Nat.reduceSub, reduceIte, evRE, retVC, cellV', evR, nfz, nfzs, nfzss, List.contains_nil, List.contains_cons, Bool.or_false, or_true]
            · have hq : sameOb x.objects[i] y.objects[i] = true := by simpa using h
              simp only [EV, Nat.reduceEqDiff, Nat.reduceBEq, Nat.reduceLT, Nat.reduceLeDiff, Nat.reduceAdd, Nat.reduceSub, reduceIte]
              rw [w64 _ (by omega)]
              exact ⟨i + 1, ⟨by omega, eqTo_succ hto hq⟩, by omega, rfl⟩
          · have h0 : ¬ (i : Int) < x.objects.length := by simpa using h
            have h1 : i = x.objects.length := by omega
            subst h1
            have eobjects := eqL_yes hlobjects hto
            clear hto hi h h0
            simp only [EV, Nat.reduceEqDiff, Nat.reduceBEq, Nat.reduceLT, Nat.reduceLeDiff, Nat.reduceAdd, Nat.reduceSub, reduceIte]
            have hluses : x.uses.length = y.uses.length := by omega
            refine awp_loop (fun i : Nat => i ≤ x.uses.length ∧ eqTo qUs x.uses y.uses i) (fun i => stl [(2, .box 49 x.z), (3, .box 49 y.z), (88, .v (.int .i64 (x.uses.length : Int))), (89, .v (.int .i64 (i : Int)))]) (fun i => x.uses.length - i) 0 ⟨Nat.zero_le _, fun j _ _ h => absurd h (by omega)⟩ ?_ ?_
            · simp only [EV, Nat.reduceEqDiff, Nat.reduceBEq, Nat.reduceLT, Nat.reduceLeDiff, Nat.reduceAdd, Nat.reduceSub, reduceIte]
              rfl
            · rintro i ⟨hi, hto⟩
              simp only [Scope.z, EV, Nat.reduceEqDiff, Nat.reduceBEq, Nat.reduceLT, Nat.reduceLeDiff, Nat.reduceAdd, Nat.reduceSub, reduceIte]
              refine cK_cut (fun h => ?_) (fun h => ?_)
              · have h1 : i < x.uses.length := by simpa using h
                have h2 : (i : Int) < (x.uses.length : Int) := by omega
                have g1 : i < y.uses.length := by omega
                have g2 : (i : Int) < (y.uses.length : Int) := by omega
                simp only [UsE, nth_map h1, nth_map g1, h2, g2, Us.z, Bool.true_xor, EV, Nat.reduceEqDiff, Nat.reduceBEq, Nat.reduceLT, Nat.reduceLeDiff, Nat.reduceAdd, Nat.reduceSub, reduceIte]
                refine cK_cut (fun h => ?_) (fun h => ?_)
                · have hq : qUs x.uses[i] y.uses[i] = false := by unfold qUs; simp only [Bool.not_eq_true'] at h; exact h
                  have e : sameSc x y = false := by simp only [sameSc, eqL_no h1 g1 hq, Bool.true_and, Bool.false_and, Bool.and_true, Bool.and_false, Bool.and_self]
                  simp only [EV, Nat.reduceEqDiff, Nat.reduceBEq, Nat.reduceLT, Nat.reduceLeDiff, Nat.reduceAdd, Nat.reduceSub, reduceIte]
                  simp only [e, EV, Nat.reduceEqDiff, Nat.reduceBEq, Nat.reduceLT, Nat.reduceLeDiff, Nat.reduceAdd, Nat.reduceSub, reduceIte, evRE, retVC, cellV', evR, nfz, nfzs, nfzss, List.contains_nil, List.contains_cons, Bool.or_false, or_true]
                · have hq : qUs x.uses[i] y.uses[i] = true := by unfold qUs; simp only [Bool.not_eq_false'] at h; exact h
                  simp only [EV, Nat.reduceEqDiff, Nat.reduceBEq, Nat.reduceLT, Nat.reduceLeDiff, Nat.reduceAdd, Nat.reduceSub, reduceIte]
                  rw [w64 _ (by omega)]
                  exact ⟨i + 1, ⟨by omega, eqTo_succ hto hq⟩, by omega, rfl⟩
              · have h0 : ¬ (i : Int) < x.uses.length := by simpa using h
                have h1 : i = x.uses.length := by omega
                subst h1
                have euses := eqL_yes hluses hto
                clear hto hi h h0
                have e : sameSc x y = true := by
                  simp only [sameSc, etypes, eobjects, euses, hname, himp, Bool.and_self]
                simp only [EV, Nat.reduceEqDiff, Nat.reduceBEq, Nat.reduceLT, Nat.reduceLeDiff, Nat.reduceAdd, Nat.reduceSub, reduceIte]
                simp only [e, EV, Nat.reduceEqDiff, Nat.reduceBEq, Nat.reduceLT, Nat.reduceLeDiff, Nat.reduceAdd, Nat.reduceSub, reduceIte, evRE, retVC, cellV', evR, nfz, nfzs, nfzss, List.contains_nil, List.contains_cons, Bool.or_false, or_true]
end Go.AM
namespace Go.AM
set_option linter.unusedVariables false
set_option linter.unusedSimpArgs false
def m137 : MC :=
 (.seq (.reg [Xb 1 (.box 69 (.t 0)), Xb 2 (.alloc 69 [.z, .i, .i, .i, .i, .s 182 3])]) (.seq (.reg [Xb 3 (.bsl 182 3 []), Xf 4 5 1, Xl 5 1 4, Xb 6 (.app false 182 3 32 (.t 3) (.t 5)), Xf 7 5 1, Xz (.store 1 (.t 7) (.t 6))]) (.seq (.reg [XL 8 6 1, Xz (.store 6 (.t 2) (.t 8))]) .ret)))
set_option maxRecDepth 100000 in
theorem d137 (o : Ob) (ho : o.sm) : Does Go.Proofs.Tryz.prog 137 [.agg o.z] false (.agg o.o) [.dead] := by
  have hp := ho.2.2.2.2.2.1
  refine does_introC (mc := m137) (N := 9) (r := 2) (ty := 69) (agg := true) (sz := 6) (fx := []) 1 rfl (by decide +kernel) ?_
  simp only [m137, Ob.z, EV, Nat.reduceEqDiff, Nat.reduceBEq, Nat.reduceLT, Nat.reduceLeDiff, Nat.reduceAdd, Nat.reduceSub, reduceIte]
  refine ⟨.inl trivial, by omega, by omega, ?_⟩
  simp only [Ob.o, Par.nfz, pbeq, evRM, EV, Nat.reduceEqDiff, Nat.reduceBEq, Nat.reduceLT, Nat.reduceLeDiff, Nat.reduceAdd, Nat.reduceSub, reduceIte, evRE, retVC, cellV', evR, nfz, nfzs, nfzss, List.contains_nil, List.contains_cons, Bool.or_false, or_true]
  rfl
def m91 : MC :=
 (.seq (.reg [Xb 2 (.asg (.nils 129 6))]) (.seq (.reg [Xb 3 (.asg (.nils 129 6))]) (.seq (.seq (.reg [Xm 6 0, Xn 7 6, Xq 8 (.mov (.i 0))]) (.block 0 (.loop [0, 3, 6, 7, 8, 20] (.seq (.reg [Xq 9 (.bin false .lss (.t 8) (.t 7))]) (.seq (.cond (.t 9) .skip (.exit 0)) (.seq (.block 1 (.seq (.reg [Xi 10 6 6 8, XL 11 6 10, Xb 5 (.alloc 129 [.i, .i, .i, .s 138 3, .z, .z]), Xz (.store 6 (.t 5) (.t 11))])
 (.seq (.reg [Xb 12 (.bsl 138 3 []), Xf 13 3 5, Xl 14 1 13, Xb 15 (.app false 138 3 32 (.t 12) (.t 14)), Xf 16 3 5, Xz (.store 1 (.t 16) (.t 15))]) (.reg [Xm 17 3, XL 18 6 5, Xb 19 (.bsl 129 6 [.t 18]), Xb 20 (.app true 129 6 80 (.t 17) (.t 19)), Xa 3 20])))) (.reg [Xq 21 (.bin false .add (.t 8) (.i 1)), Xm 8 21]))))))) (.seq (.reg [Xm 22 3, Xa 2 22]) .ret))))
set_option maxRecDepth 100000 in
theorem d91 (l : List Ty) (hl : (l.length : Int) ≤ 1048576) (hs : ∀ t ∈ l, t.sm) : Does Go.Proofs.Tryz.prog 91 [.fsl 6 (l.map Ty.z)] false (.usl 129 6 (l.map Ty.o)) [.dead] := by
  refine does_intro (mc := m91) (N := 23) (rs := [2]) (fx := []) 1 rfl (by decide +kernel) ?_
  simp only [m91, EV, Nat.reduceEqDiff, Nat.reduceBEq, Nat.reduceLT, Nat.reduceLeDiff, Nat.reduceAdd, Nat.reduceSub, reduceIte]
  refine awp_loop (fun i : Nat => i ≤ l.length) (fun i => stl [(0, .fsl 6 (l.map Ty.z)), (3, .usl 129 6 ((l.take i).map Ty.o)), (6, .fsl 6 (l.map Ty.z)), (7, .v (.int .i64 (l.length : Int))), (8, .v (.int .i64 (i : Int))), (20, .dead)]) (fun i => l.length - i) 0 (Nat.zero_le _) ?_ ?_
  · simp only [List.take_zero, List.map_nil, EV, Nat.reduceEqDiff, Nat.reduceBEq, Nat.reduceLT, Nat.reduceLeDiff, Nat.reduceAdd, Nat.reduceSub, reduceIte]
    rfl
  intro i hi
  simp only [EV, Nat.reduceEqDiff, Nat.reduceBEq, Nat.reduceLT, Nat.reduceLeDiff, Nat.reduceAdd, Nat.reduceSub, reduceIte]
  refine cK_cut (fun h => ?_) (fun h => ?_)
  · have i2 : (i : Int) < (l.length : Int) := by simpa using h
    have i1 : i < l.length := by omega
    clear h
    have wi := w64 ((i : Int) + 1) (by omega)
    have hf := (hs _ (List.getElem_mem i1)).2.2.2.1.1
    have htl : (l.take i).length = i := by simp; omega
    simp only [i1, i2, nth_map i1, Ty.z, wi, EV, Nat.reduceEqDiff, Nat.reduceBEq, Nat.reduceLT, Nat.reduceLeDiff, Nat.reduceAdd, Nat.reduceSub, reduceIte]
    refine ⟨.inl trivial, by omega, by omega, by simp; omega, by simp; omega, i + 1, i1, by omega, ?_⟩
    rw [List.take_succ_eq_append_getElem i1, List.map_append]
    rfl
  · have i1 : i = l.length := by have : ¬ (i : Int) < l.length := by simpa using h
                                 omega
    subst i1
    rw [List.take_length]
    simp only [EV, Nat.reduceEqDiff, Nat.reduceBEq, Nat.reduceLT, Nat.reduceLeDiff, Nat.reduceAdd, Nat.reduceSub, reduceIte]
    simp only [Ty.nfz, EV, Nat.reduceEqDiff, Nat.reduceBEq, Nat.reduceLT, Nat.reduceLeDiff, Nat.reduceAdd, Nat.reduceSub, reduceIte, evRE, retVC, cellV', evR, nfz, nfzs, nfzss, List.contains_nil, List.contains_cons, Bool.or_false, or_true]
end Go.AM
namespace Go.AM
set_option linter.unusedVariables false
set_option linter.unusedSimpArgs false
def m73 : MC :=
 (.seq (.reg [Xb 1 (.box 49 (.t 0)), Xb 2 (.alloc 49 [.z, .s 9 1, .s 129 6, .s 69 6, .s 132 2])]) (.join [1, 2, 3] (.mixt [1] [2, 3] [1] [] [0, 1, 3, 4, 6, 7, 10, 11] [Xf 6 0 1, Xl 7 1 6, Xf 9 1 1, Xl 10 1 9, Xf 12 2 1, Xl 13 1 12, Xf 16 4 1, Xl 17 1 16] (.alt (.alt (.step 2 (Xb 8 (.bsl 9 1 [])) (.alt (.alt (.step 5 (Xb 11 (.app false 9 1 16 (.t 8) (.t 10))) (.alt (.alt (.step 8 (Xb 14 (.call (.fn
 91) false [.lend (.t 13)])) (.alt (.step 9 (Xb 15 (.bsl 132 2 [])) (.alt (.step 12 (Xb 18 (.app false 132 2 32 (.t 15) (.t 17))) (.alt (.step 13 (Xb 19 (.build [0, 1, 2, 4] [0, 1, 2, 4] [1, 1, 1, 1] [.z, .s 9 1, .s 129 6, .s 69 6, .s 132 2] [.t 7, .t 11, .t 14, .t 18])) (.step 14 (Xb 3 (.alloc 49 [.z, .s 9 1, .s 129 6, .s 69 6, .s 132 2])) (.step 15 (Xz (.store 5 (.t 3) (.t 19))) .nil))) (.step 14
 (Xb 3 (.alloc 49 [.z, .s 9 1, .s 129 6, .s 69 6, .s 132 2])) (.step 13 (Xb 19 (.build [0, 1, 2, 4] [0, 1, 2, 4] [1, 1, 1, 1] [.z, .s 9 1, .s 129 6, .s 69 6, .s 132 2] [.t 7, .t 11, .t 14, .t 18])) (.step 15 (Xz (.store 5 (.t 3) (.t 19))) .nil))))) (.step 14 (Xb 3 (.alloc 49 [.z, .s 9 1, .s 129 6, .s 69 6, .s 132 2])) (.step 12 (Xb 18 (.app false 132 2 32 (.t 15) (.t 17))) (.step 13 (Xb 19 (.build
 [0, 1, 2, 4] [0, 1, 2, 4] [1, 1, 1, 1] [.z, .s 9 1, .s 129 6, .s 69 6, .s 132 2] [.t 7, .t 11, .t 14, .t 18])) (.step 15 (Xz (.store 5 (.t 3) (.t 19))) .nil)))))) (.step 14 (Xb 3 (.alloc 49 [.z, .s 9 1, .s 129 6, .s 69 6, .s 132 2])) (.step 9 (Xb 15 (.bsl 132 2 [])) (.step 12 (Xb 18 (.app false 132 2 32 (.t 15) (.t 17))) (.step 13 (Xb 19 (.build [0, 1, 2, 4] [0, 1, 2, 4] [1, 1, 1, 1] [.z, .s 9 1,
 .s 129 6, .s 69 6, .s 132 2] [.t 7, .t 11, .t 14, .t 18])) (.step 15 (Xz (.store 5 (.t 3) (.t 19))) .nil))))))) (.step 9 (Xb 15 (.bsl 132 2 [])) (.alt (.step 8 (Xb 14 (.call (.fn 91) false [.lend (.t 13)])) (.alt (.step 12 (Xb 18 (.app false 132 2 32 (.t 15) (.t 17))) (.alt (.step 13 (Xb 19 (.build [0, 1, 2, 4] [0, 1, 2, 4] [1, 1, 1, 1] [.z, .s 9 1, .s 129 6, .s 69 6, .s 132 2] [.t 7, .t 11, .t
 14, .t 18])) (.step 14 (Xb 3 (.alloc 49 [.z, .s 9 1, .s 129 6, .s 69 6, .s 132 2])) (.step 15 (Xz (.store 5 (.t 3) (.t 19))) .nil))) (.step 14 (Xb 3 (.alloc 49 [.z, .s 9 1, .s 129 6, .s 69 6, .s 132 2])) (.step 13 (Xb 19 (.build [0, 1, 2, 4] [0, 1, 2, 4] [1, 1, 1, 1] [.z, .s 9 1, .s 129 6, .s 69 6, .s 132 2] [.t 7, .t 11, .t 14, .t 18])) (.step 15 (Xz (.store 5 (.t 3) (.t 19))) .nil))))) (.step 14
 (Xb 3 (.alloc 49 [.z, .s 9 1, .s 129 6, .s 69 6, .s 132 2])) (.step 12 (Xb 18 (.app false 132 2 32 (.t 15) (.t 17))) (.step 13 (Xb 19 (.build [0, 1, 2, 4] [0, 1, 2, 4] [1, 1, 1, 1] [.z, .s 9 1, .s 129 6, .s 69 6, .s 132 2] [.t 7, .t 11, .t 14, .t 18])) (.step 15 (Xz (.store 5 (.t 3) (.t 19))) .nil)))))) (.step 14 (Xb 3 (.alloc 49 [.z, .s 9 1, .s 129 6, .s 69 6, .s 132 2])) (.step 8 (Xb 14 (.call
 (.fn 91) false [.lend (.t 13)])) (.step 12 (Xb 18 (.app false 132 2 32 (.t 15) (.t 17))) (.step 13 (Xb 19 (.build [0, 1, 2, 4] [0, 1, 2, 4] [1, 1, 1, 1] [.z, .s 9 1, .s 129 6, .s 69 6, .s 132 2] [.t 7, .t 11, .t 14, .t 18])) (.step 15 (Xz (.store 5 (.t 3) (.t 19))) .nil)))))))) (.step 14 (Xb 3 (.alloc 49 [.z, .s 9 1, .s 129 6, .s 69 6, .s 132 2])) (.alt (.step 8 (Xb 14 (.call (.fn 91) false [.lend
 (.t 13)])) (.step 9 (Xb 15 (.bsl 132 2 [])) (.step 12 (Xb 18 (.app false 132 2 32 (.t 15) (.t 17))) (.step 13 (Xb 19 (.build [0, 1, 2, 4] [0, 1, 2, 4] [1, 1, 1, 1] [.z, .s 9 1, .s 129 6, .s 69 6, .s 132 2] [.t 7, .t 11, .t 14, .t 18])) (.step 15 (Xz (.store 5 (.t 3) (.t 19))) .nil))))) (.step 9 (Xb 15 (.bsl 132 2 [])) (.step 8 (Xb 14 (.call (.fn 91) false [.lend (.t 13)])) (.step 12 (Xb 18 (.app
 false 132 2 32 (.t 15) (.t 17))) (.step 13 (Xb 19 (.build [0, 1, 2, 4] [0, 1, 2, 4] [1, 1, 1, 1] [.z, .s 9 1, .s 129 6, .s 69 6, .s 132 2] [.t 7, .t 11, .t 14, .t 18])) (.step 15 (Xz (.store 5 (.t 3) (.t 19))) .nil))))))))) (.step 9 (Xb 15 (.bsl 132 2 [])) (.alt (.step 5 (Xb 11 (.app false 9 1 16 (.t 8) (.t 10))) (.alt (.step 8 (Xb 14 (.call (.fn 91) false [.lend (.t 13)])) (.alt (.step 12 (Xb 18
 (.app false 132 2 32 (.t 15) (.t 17))) (.alt (.step 13 (Xb 19 (.build [0, 1, 2, 4] [0, 1, 2, 4] [1, 1, 1, 1] [.z, .s 9 1, .s 129 6, .s 69 6, .s 132 2] [.t 7, .t 11, .t 14, .t 18])) (.step 14 (Xb 3 (.alloc 49 [.z, .s 9 1, .s 129 6, .s 69 6, .s 132 2])) (.step 15 (Xz (.store 5 (.t 3) (.t 19))) .nil))) (.step 14 (Xb 3 (.alloc 49 [.z, .s 9 1, .s 129 6, .s 69 6, .s 132 2])) (.step 13 (Xb 19 (.build [0,
 1, 2, 4] [0, 1, 2, 4] [1, 1, 1, 1] [.z, .s 9 1, .s 129 6, .s 69 6, .s 132 2] [.t 7, .t 11, .t 14, .t 18])) (.step 15 (Xz (.store 5 (.t 3) (.t 19))) .nil))))) (.step 14 (Xb 3 (.alloc 49 [.z, .s 9 1, .s 129 6, .s 69 6, .s 132 2])) (.step 12 (Xb 18 (.app false 132 2 32 (.t 15) (.t 17))) (.step 13 (Xb 19 (.build [0, 1, 2, 4] [0, 1, 2, 4] [1, 1, 1, 1] [.z, .s 9 1, .s 129 6, .s 69 6, .s 132 2] [.t 7, .t
 11, .t 14, .t 18])) (.step 15 (Xz (.store 5 (.t 3) (.t 19))) .nil)))))) (.step 14 (Xb 3 (.alloc 49 [.z, .s 9 1, .s 129 6, .s 69 6, .s 132 2])) (.step 8 (Xb 14 (.call (.fn 91) false [.lend (.t 13)])) (.step 12 (Xb 18 (.app false 132 2 32 (.t 15) (.t 17))) (.step 13 (Xb 19 (.build [0, 1, 2, 4] [0, 1, 2, 4] [1, 1, 1, 1] [.z, .s 9 1, .s 129 6, .s 69 6, .s 132 2] [.t 7, .t 11, .t 14, .t 18])) (.step 15
 (Xz (.store 5 (.t 3) (.t 19))) .nil))))))) (.step 14 (Xb 3 (.alloc 49 [.z, .s 9 1, .s 129 6, .s 69 6, .s 132 2])) (.step 5 (Xb 11 (.app false 9 1 16 (.t 8) (.t 10))) (.step 8 (Xb 14 (.call (.fn 91) false [.lend (.t 13)])) (.step 12 (Xb 18 (.app false 132 2 32 (.t 15) (.t 17))) (.step 13 (Xb 19 (.build [0, 1, 2, 4] [0, 1, 2, 4] [1, 1, 1, 1] [.z, .s 9 1, .s 129 6, .s 69 6, .s 132 2] [.t 7, .t 11, .t
 14, .t 18])) (.step 15 (Xz (.store 5 (.t 3) (.t 19))) .nil))))))))) (.step 14 (Xb 3 (.alloc 49 [.z, .s 9 1, .s 129 6, .s 69 6, .s 132 2])) (.alt (.step 5 (Xb 11 (.app false 9 1 16 (.t 8) (.t 10))) (.alt (.step 8 (Xb 14 (.call (.fn 91) false [.lend (.t 13)])) (.step 9 (Xb 15 (.bsl 132 2 [])) (.step 12 (Xb 18 (.app false 132 2 32 (.t 15) (.t 17))) (.step 13 (Xb 19 (.build [0, 1, 2, 4] [0, 1, 2, 4]
 [1, 1, 1, 1] [.z, .s 9 1, .s 129 6, .s 69 6, .s 132 2] [.t 7, .t 11, .t 14, .t 18])) (.step 15 (Xz (.store 5 (.t 3) (.t 19))) .nil))))) (.step 9 (Xb 15 (.bsl 132 2 [])) (.step 8 (Xb 14 (.call (.fn 91) false [.lend (.t 13)])) (.step 12 (Xb 18 (.app false 132 2 32 (.t 15) (.t 17))) (.step 13 (Xb 19 (.build [0, 1, 2, 4] [0, 1, 2, 4] [1, 1, 1, 1] [.z, .s 9 1, .s 129 6, .s 69 6, .s 132 2] [.t 7, .t 11,
 .t 14, .t 18])) (.step 15 (Xz (.store 5 (.t 3) (.t 19))) .nil))))))) (.step 9 (Xb 15 (.bsl 132 2 [])) (.step 5 (Xb 11 (.app false 9 1 16 (.t 8) (.t 10))) (.step 8 (Xb 14 (.call (.fn 91) false [.lend (.t 13)])) (.step 12 (Xb 18 (.app false 132 2 32 (.t 15) (.t 17))) (.step 13 (Xb 19 (.build [0, 1, 2, 4] [0, 1, 2, 4] [1, 1, 1, 1] [.z, .s 9 1, .s 129 6, .s 69 6, .s 132 2] [.t 7, .t 11, .t 14, .t
 18])) (.step 15 (Xz (.store 5 (.t 3) (.t 19))) .nil)))))))))) (.step 9 (Xb 15 (.bsl 132 2 [])) (.alt (.step 2 (Xb 8 (.bsl 9 1 [])) (.alt (.step 5 (Xb 11 (.app false 9 1 16 (.t 8) (.t 10))) (.alt (.step 8 (Xb 14 (.call (.fn 91) false [.lend (.t 13)])) (.alt (.step 12 (Xb 18 (.app false 132 2 32 (.t 15) (.t 17))) (.alt (.step 13 (Xb 19 (.build [0, 1, 2, 4] [0, 1, 2, 4] [1, 1, 1, 1] [.z, .s 9 1, .s
 129 6, .s 69 6, .s 132 2] [.t 7, .t 11, .t 14, .t 18])) (.step 14 (Xb 3 (.alloc 49 [.z, .s 9 1, .s 129 6, .s 69 6, .s 132 2])) (.step 15 (Xz (.store 5 (.t 3) (.t 19))) .nil))) (.step 14 (Xb 3 (.alloc 49 [.z, .s 9 1, .s 129 6, .s 69 6, .s 132 2])) (.step 13 (Xb 19 (.build [0, 1, 2, 4] [0, 1, 2, 4] [1, 1, 1, 1] [.z, .s 9 1, .s 129 6, .s 69 6, .s 132 2] [.t 7, .t 11, .t 14, .t 18])) (.step 15 (Xz
 (.store 5 (.t 3) (.t 19))) .nil))))) (.step 14 (Xb 3 (.alloc 49 [.z, .s 9 1, .s 129 6, .s 69 6, .s 132 2])) (.step 12 (Xb 18 (.app false 132 2 32 (.t 15) (.t 17))) (.step 13 (Xb 19 (.build [0, 1, 2, 4] [0, 1, 2, 4] [1, 1, 1, 1] [.z, .s 9 1, .s 129 6, .s 69 6, .s 132 2] [.t 7, .t 11, .t 14, .t 18])) (.step 15 (Xz (.store 5 (.t 3) (.t 19))) .nil)))))) (.step 14 (Xb 3 (.alloc 49 [.z, .s 9 1, .s 129
 6, .s 69 6, .s 132 2])) (.step 8 (Xb 14 (.call (.fn 91) false [.lend (.t 13)])) (.step 12 (Xb 18 (.app false 132 2 32 (.t 15) (.t 17))) (.step 13 (Xb 19 (.build [0, 1, 2, 4] [0, 1, 2, 4] [1, 1, 1, 1] [.z, .s 9 1, .s 129 6, .s 69 6, .s 132 2] [.t 7, .t 11, .t 14, .t 18])) (.step 15 (Xz (.store 5 (.t 3) (.t 19))) .nil))))))) (.step 14 (Xb 3 (.alloc 49 [.z, .s 9 1, .s 129 6, .s 69 6, .s 132 2]))
 (.step 5 (Xb 11 (.app false 9 1 16 (.t 8) (.t 10))) (.step 8 (Xb 14 (.call (.fn 91) false [.lend (.t 13)])) (.step 12 (Xb 18 (.app false 132 2 32 (.t 15) (.t 17))) (.step 13 (Xb 19 (.build [0, 1, 2, 4] [0, 1, 2, 4] [1, 1, 1, 1] [.z, .s 9 1, .s 129 6, .s 69 6, .s 132 2] [.t 7, .t 11, .t 14, .t 18])) (.step 15 (Xz (.store 5 (.t 3) (.t 19))) .nil)))))))) (.step 14 (Xb 3 (.alloc 49 [.z, .s 9 1, .s 129
 6, .s 69 6, .s 132 2])) (.step 2 (Xb 8 (.bsl 9 1 [])) (.step 5 (Xb 11 (.app false 9 1 16 (.t 8) (.t 10))) (.step 8 (Xb 14 (.call (.fn 91) false [.lend (.t 13)])) (.step 12 (Xb 18 (.app false 132 2 32 (.t 15) (.t 17))) (.step 13 (Xb 19 (.build [0, 1, 2, 4] [0, 1, 2, 4] [1, 1, 1, 1] [.z, .s 9 1, .s 129 6, .s 69 6, .s 132 2] [.t 7, .t 11, .t 14, .t 18])) (.step 15 (Xz (.store 5 (.t 3) (.t 19)))
 .nil)))))))))) (.step 14 (Xb 3 (.alloc 49 [.z, .s 9 1, .s 129 6, .s 69 6, .s 132 2])) (.alt (.step 2 (Xb 8 (.bsl 9 1 [])) (.alt (.step 5 (Xb 11 (.app false 9 1 16 (.t 8) (.t 10))) (.alt (.step 8 (Xb 14 (.call (.fn 91) false [.lend (.t 13)])) (.step 9 (Xb 15 (.bsl 132 2 [])) (.step 12 (Xb 18 (.app false 132 2 32 (.t 15) (.t 17))) (.step 13 (Xb 19 (.build [0, 1, 2, 4] [0, 1, 2, 4] [1, 1, 1, 1] [.z,
 .s 9 1, .s 129 6, .s 69 6, .s 132 2] [.t 7, .t 11, .t 14, .t 18])) (.step 15 (Xz (.store 5 (.t 3) (.t 19))) .nil))))) (.step 9 (Xb 15 (.bsl 132 2 [])) (.step 8 (Xb 14 (.call (.fn 91) false [.lend (.t 13)])) (.step 12 (Xb 18 (.app false 132 2 32 (.t 15) (.t 17))) (.step 13 (Xb 19 (.build [0, 1, 2, 4] [0, 1, 2, 4] [1, 1, 1, 1] [.z, .s 9 1, .s 129 6, .s 69 6, .s 132 2] [.t 7, .t 11, .t 14, .t 18]))
 (.step 15 (Xz (.store 5 (.t 3) (.t 19))) .nil))))))) (.step 9 (Xb 15 (.bsl 132 2 [])) (.step 5 (Xb 11 (.app false 9 1 16 (.t 8) (.t 10))) (.step 8 (Xb 14 (.call (.fn 91) false [.lend (.t 13)])) (.step 12 (Xb 18 (.app false 132 2 32 (.t 15) (.t 17))) (.step 13 (Xb 19 (.build [0, 1, 2, 4] [0, 1, 2, 4] [1, 1, 1, 1] [.z, .s 9 1, .s 129 6, .s 69 6, .s 132 2] [.t 7, .t 11, .t 14, .t 18])) (.step 15 (Xz
 (.store 5 (.t 3) (.t 19))) .nil)))))))) (.step 9 (Xb 15 (.bsl 132 2 [])) (.step 2 (Xb 8 (.bsl 9 1 [])) (.step 5 (Xb 11 (.app false 9 1 16 (.t 8) (.t 10))) (.step 8 (Xb 14 (.call (.fn 91) false [.lend (.t 13)])) (.step 12 (Xb 18 (.app false 132 2 32 (.t 15) (.t 17))) (.step 13 (Xb 19 (.build [0, 1, 2, 4] [0, 1, 2, 4] [1, 1, 1, 1] [.z, .s 9 1, .s 129 6, .s 69 6, .s 132 2] [.t 7, .t 11, .t 14, .t
 18])) (.step 15 (Xz (.store 5 (.t 3) (.t 19))) .nil))))))))))) (.seq (.seq (.reg [Xf 20 3 1, Xl 21 1 20, Xn 22 21, Xq 23 (.mov (.i 0))]) (.block 0 (.loop [1, 2, 3, 20, 21, 22, 23] (.seq (.reg [Xq 24 (.bin false .lss (.t 23) (.t 22))]) (.seq (.cond (.t 24) .skip (.exit 0)) (.seq (.block 1 (.seq (.reg [Xi 25 6 21 23, XL 26 6 25, Xb 5 (.alloc 69 [.z, .i, .i, .i, .i, .s 182 3]), Xz (.store 6 (.t 5)
 (.t 26))]) (.mixt [5] [1, 2, 3, 20, 21, 22, 23] [] [] [2] [XL 29 6 5] (.step 0 (Xf 27 3 3) (.alt (.step 1 (Xl 28 1 27) (.step 3 (Xb 30 (.call (.fn 137) false [.lend (.t 29)])) (.step 4 (Xb 31 (.bsl 69 6 [.t 30])) (.step 5 (Xb 32 (.app true 69 6 72 (.t 28) (.t 31))) (.step 6 (Xf 33 3 3) (.step 7 (Xz (.store 1 (.t 33) (.t 32))) .nil)))))) (.step 3 (Xb 30 (.call (.fn 137) false [.lend (.t 29)]))
 (.alt (.step 1 (Xl 28 1 27) (.step 4 (Xb 31 (.bsl 69 6 [.t 30])) (.step 5 (Xb 32 (.app true 69 6 72 (.t 28) (.t 31))) (.step 6 (Xf 33 3 3) (.step 7 (Xz (.store 1 (.t 33) (.t 32))) .nil))))) (.step 4 (Xb 31 (.bsl 69 6 [.t 30])) (.step 1 (Xl 28 1 27) (.step 5 (Xb 32 (.app true 69 6 72 (.t 28) (.t 31))) (.step 6 (Xf 33 3 3) (.step 7 (Xz (.store 1 (.t 33) (.t 32))) .nil)))))))))))) (.reg [Xq 34 (.bin
 false .add (.t 23) (.i 1)), Xm 23 34]))))))) (.seq (.reg [XL 35 5 3, Xz (.store 5 (.t 2) (.t 35))]) .ret))))
set_option maxHeartbeats 4000000 in
set_option maxRecDepth 100000 in
theorem d73 (s : Scope) (hs : s.sm) : Does Go.Proofs.Tryz.prog 73 [.agg s.z] false (.agg s.o) [.dead] := by
  obtain ⟨z1, ⟨z2, z2'⟩, ⟨z3, z3'⟩, ⟨z4, z4'⟩, z5, z5'⟩ := id hs
  refine does_introC (mc := m73) (N := 36) (r := 2) (ty := 49) (agg := true) (sz := 5) (fx := []) 1 rfl (by decide +kernel) ?_
  simp only [m73, Scope.z, EV, Nat.reduceEqDiff, Nat.reduceBEq, Nat.reduceLT, Nat.reduceLeDiff, Nat.reduceAdd, Nat.reduceSub, reduceIte]
  refine awp_join (fun _ : Unit => True) (fun _ => stl [(1, .box 49 s.z), (2, .box 49 Scope.zr), (3, .box 49 [.v (.string s.name), .usl 9 1 (s.imports.map Str.o), .usl 129 6 (s.types.map Ty.o), .usl 69 6 [], .usl 132 2 (s.uses.map Us.o)])]) ?_ ?_
  · simp (maxSteps := 4000000) only [Scope.z, EV, Nat.reduceEqDiff, Nat.reduceBEq, Nat.reduceLT, Nat.reduceLeDiff, Nat.reduceAdd, Nat.reduceSub, reduceIte]
    repeat' first
      | (refine callK_i (d91 s.types z3 z3') ?_; simp (maxSteps := 4000000) only [Scope.z, Scope.zr, EV, Nat.reduceEqDiff, Nat.reduceBEq, Nat.reduceLT, Nat.reduceLeDiff, Nat.reduceAdd, Nat.reduceSub, reduceIte])
      | exact ⟨(), rfl⟩
      | exact .inl trivial
      | omega
      | refine And.intro ?_ ?_
  rintro _ _
  simp only [Scope.z, EV, Nat.reduceEqDiff, Nat.reduceBEq, Nat.reduceLT, Nat.reduceLeDiff, Nat.reduceAdd, Nat.reduceSub, reduceIte]
  refine awp_loop (fun i : Nat => i ≤ s.objects.length) (fun i => stl [(1, .box 49 s.z), (2, .box 49 Scope.zr), (3, .box 49 [.v (.string s.name), .usl 9 1 (s.imports.map Str.o), .usl 129 6 (s.types.map Ty.o), .usl 69 6 ((s.objects.take i).map Ob.o), .usl 132 2 (s.uses.map Us.o)]), (20, .ref 1 [] 0 3), (21, .fsl 6 (s.objects.map Ob.z)), (22, .v (.int .i64 (s.objects.length : Int))), (23, .v (.int .i64 (i : Int)))]) (fun i => s.objects.length - i) 0 (Nat.zero_le _) ?_ ?_
  · simp only [List.take_zero, List.map_nil, Scope.z, EV, Nat.reduceEqDiff, Nat.reduceBEq, Nat.reduceLT, Nat.reduceLeDiff, Nat.reduceAdd, Nat.reduceSub, reduceIte]
    rfl
  intro i hi
  simp only [Scope.z, EV, Nat.reduceEqDiff, Nat.reduceBEq, Nat.reduceLT, Nat.reduceLeDiff, Nat.reduceAdd, Nat.reduceSub, reduceIte]
  refine cK_cut (fun h => ?_) (fun h => ?_)
  · have i2 : (i : Int) < (s.objects.length : Int) := by simpa using h
    have i1 : i < s.objects.length := by omega
    clear h
    have wi := w64 ((i : Int) + 1) (by omega)
    have ho := z4' _ (List.getElem_mem i1)
    have htl : (s.objects.take i).length = i := by simp; omega
    have hnx : s.objects.take (i + 1) = s.objects.take i ++ [s.objects[i]] := List.take_succ_eq_append_getElem i1
    have fin : ∃ j : Nat, j ≤ s.objects.length ∧ s.objects.length - j < s.objects.length - i ∧ stl [(1, AV.box 49 s.z), (2, .box 49 Scope.zr), (3, .box 49 [.v (.string s.name), .usl 9 1 (s.imports.map Str.o), .usl 129 6 (s.types.map Ty.o), .usl 69 6 ((s.objects.take i).map Ob.o ++ [Ob.o s.objects[i]]), .usl 132 2 (s.uses.map Us.o)]), (20, .ref 1 [] 0 3), (21, .fsl 6 (s.objects.map Ob.z)), (22, .v (.int .i64 (s.objects.length : Int))), (23, .v (.int .i64 ((i : Int) + 1)))] = stl [(1, .box 49 s.z), (2, .box 49 Scope.zr), (3, .box 49 [.v (.string s.name), .usl 9 1 (s.imports.map Str.o), .usl 129 6 (s.types.map Ty.o), .usl 69 6 ((s.objects.take j).map Ob.o), .usl 132 2 (s.uses.map Us.o)]), (20, .ref 1 [] 0 3), (21, .fsl 6 (s.objects.map Ob.z)), (22, .v (.int .i64 (s.objects.length : Int))), (23, .v (.int .i64 (j : Int)))] := by
      refine ⟨i + 1, i1, by omega, ?_⟩
      rw [hnx, List.map_append]
      rfl
    have dO := d137 s.objects[i] ho
    simp only [ObE, i1, i2, nth_map i1, Scope.z, Scope.zr, wi, EV, Nat.reduceEqDiff, Nat.reduceBEq, Nat.reduceLT, Nat.reduceLeDiff, Nat.reduceAdd, Nat.reduceSub, reduceIte]
    generalize s.objects[i] = o at dO fin ⊢
    simp only [Ob.z, Ob.o] at dO
    simp (maxSteps := 4000000) only [Ob.z, Scope.z, Scope.zr, wi, EV, Nat.reduceEqDiff, Nat.reduceBEq, Nat.reduceLT, Nat.reduceLeDiff, Nat.reduceAdd, Nat.reduceSub, reduceIte]
    repeat' first
      | (refine callK_i dO ?_; simp (maxSteps := 4000000) only [Scope.z, Scope.zr, wi, EV, Nat.reduceEqDiff, Nat.reduceBEq, Nat.reduceLT, Nat.reduceLeDiff, Nat.reduceAdd, Nat.reduceSub, reduceIte])
      | exact fin
      | exact .inl trivial
      | omega
      | refine And.intro ?_ ?_
  · have i1 : i = s.objects.length := by have : ¬ (i : Int) < s.objects.length := by simpa using h
                                         omega
    subst i1
    rw [List.take_length]
    clear h
    simp only [Scope.z, Scope.zr, EV, Nat.reduceEqDiff, Nat.reduceBEq, Nat.reduceLT, Nat.reduceLeDiff, Nat.reduceAdd, Nat.reduceSub, reduceIte]
    simp only [Scope.o, Str.nfz, Ty.nfz, Ob.nfz, Us.nfz, pbeq, evRM, EV, Nat.reduceEqDiff, Nat.reduceBEq, Nat.reduceLT, Nat.reduceLeDiff, Nat.reduceAdd, Nat.reduceSub, reduceIte, evRE, retVC, cellV', evR, nfz, nfzs, nfzss, List.contains_nil, List.contains_cons, Bool.or_false, or_true]
end Go.AM
namespace Go.AM
set_option linter.unusedVariables false
set_option linter.unusedSimpArgs false
def m85 : MC :=
 (.seq (.reg [Xb 3 (.box 49 (.t 1)), Xb 4 (.alloc 49 [.z, .s 9 1, .s 129 6, .s 69 6, .s 132 2])]) (.seq (.reg [XL 8 5 3, Xb 9 (.call (.fn 73) false [.lend (.t 8)]), Xb 5 (.alloc 49 [.z, .s 9 1, .s 129 6, .s 69 6, .s 132 2]), Xz (.store 5 (.t 5) (.t 9))]) (.join [0, 4, 5] (.seq (.reg [Xf 10 3 5, Xl 11 1 10, Xn 12 11, Xq 13 (.bin false .gtr (.t 12) (.i 0))]) (.cond (.t 13) (.seq (.reg [Xm 14 0, Xf 15
 3 5, Xl 16 1 15, Xn 17 16, Xb 18 (.call (.fn 92) false [.io (.t 14), .lend (.t 17)]), Xa 6 18]) (.seq (.reg [Xm 19 0, Xb 20 (.call (.fn 92) false [.io (.t 19), .lend (.i 6)])]) (.block 0 (.seq (.reg [Xq 22 (.bin false .eql (.t 20) (.i 0)), Xa 21 22]) (.cond (.t 21) (.mixt [] [0, 4, 5, 6] [] [] [] [] (.step 0 (Xf 23 3 5) (.step 2 (Xm 25 6) (.step 3 (Xm 26 0) (.alt (.step 1 (Xl 24 1 23) (.step 4 (Xb
 27 (.call (.fn 92) false [.io (.t 26), .lend (.i 3)])) (.step 5 (Xi 28 6 24 25) (.step 6 (Xf 29 2 28) (.step 7 (Xz (.store 1 (.t 29) (.t 27))) .nil))))) (.step 4 (Xb 27 (.call (.fn 92) false [.io (.t 26), .lend (.i 3)])) (.step 1 (Xl 24 1 23) (.step 5 (Xi 28 6 24 25) (.step 6 (Xf 29 2 28) (.step 7 (Xz (.store 1 (.t 29) (.t 27))) .nil)))))))))) (.seq (.reg [Xq 31 (.bin false .eql (.t 20) (.i 1)),
 Xa 30 31]) (.cond (.t 30) (.reg [Xf 32 3 5, Xl 33 1 32, Xm 34 6, Xi 35 6 33 34, Xf 36 0 35, Xz (.store 1 (.t 36) (.z #[110, 101, 119]))]) (.seq (.reg [Xq 38 (.bin false .eql (.t 20) (.i 2)), Xa 37 38]) (.cond (.t 37) (.mixt [] [0, 4, 5, 6] [] [] [] [] (.step 0 (Xf 39 3 5) (.step 2 (Xm 41 6) (.step 4 (Xf 43 3 5) (.step 6 (Xm 45 6) (.step 7 (Xq 46 (.bin false .add (.t 45) (.i 1))) (.alt (.step 1 (Xl
 40 1 39) (.step 3 (Xq 42 (.slc false 6 (.t 40) none (some (.t 41)))) (.step 5 (Xl 44 1 43) (.step 8 (Xq 47 (.slc false 6 (.t 44) (some (.t 46)) none)) (.step 9 (Xb 48 (.del 69 6 72 (.t 42) (.t 47))) (.step 10 (Xf 49 3 5) (.step 11 (Xz (.store 1 (.t 49) (.t 48))) .nil))))))) (.step 5 (Xl 44 1 43) (.step 8 (Xq 47 (.slc false 6 (.t 44) (some (.t 46)) none)) (.step 1 (Xl 40 1 39) (.step 3 (Xq 42 (.slc
 false 6 (.t 40) none (some (.t 41)))) (.step 9 (Xb 48 (.del 69 6 72 (.t 42) (.t 47))) (.step 10 (Xf 49 3 5) (.step 11 (Xz (.store 1 (.t 49) (.t 48))) .nil)))))))))))))) (.seq (.reg [Xq 51 (.bin false .eql (.t 20) (.i 3)), Xa 50 51]) (.cond (.t 50) (.seq (.reg [Xf 52 3 5, Xl 53 1 52, Xm 54 6, Xi 55 6 53 54, Xf 56 1 55, Xl 57 1 56, Xq 58 (.bin false .eql (.t 57) (.i 1))]) (.cond (.t 58) (.reg [Xf 59
 3 5, Xl 60 1 59, Xm 61 6, Xi 62 6 60 61, Xf 63 4 62, Xl 64 1 63, Xq 65 (.bin false .add (.t 64) (.i 1)), Xi 66 6 60 61, Xf 67 4 66, Xz (.store 1 (.t 67) (.t 65))]) .skip)) .skip))))))))))) .skip)) (.join [0, 4, 5] (.seq (.reg [Xm 68 0, Xf 69 2 5, Xl 70 1 69, Xn 71 70, Xb 72 (.call (.fn 93) false [.lend (.i 1), .lend (.t 71)]), Xb 73 (.call (.fn 92) false [.io (.t 68), .lend (.t 72)]), Xa 7 73])
 (.seq (.reg [Xm 74 7, Xq 75 (.bin false .geq (.t 74) (.i 3)), Xm 76 75, Xt 77 76 (.mov (.t 0)), XT 78 76 (.call (.fn 72) false [.io (.t 77), .lend (.i 2)]), Xq 79 (.pick (.t 76) (.t 78) .fb)]) (.cond (.t 79) (.seq (.reg [Xf 80 2 5, Xl 81 1 80, Xm 82 7, Xi 83 6 81 82, Xf 84 0 83, Xl 85 1 84, Xq 86 (.bin false .eql (.t 85) (.i 4))]) (.cond (.t 86) (.reg [Xf 87 2 5, Xl 88 1 87, Xm 89 7, Xi 90 6 88
 89, Xf 91 1 90, Xl 92 1 91, Xq 93 (.bin false .add (.t 92) (.i 1)), Xi 94 6 88 89, Xf 95 1 94, Xz (.store 1 (.t 95) (.t 93))]) (.seq (.reg [Xf 96 2 5, Xl 97 1 96, Xm 98 7, Xi 99 6 97 98, Xf 100 3 99, Xl 101 1 100, Xn 102 101, Xq 103 (.bin false .gtr (.t 102) (.i 0))]) (.cond (.t 103) (.mixt [7] [0, 4, 5] [] [] [2] [Xm 106 7] (.step 0 (Xf 104 2 5) (.step 6 (Xm 110 0) (.alt (.step 1 (Xl 105 1 104)
 (.step 3 (Xi 107 6 105 106) (.step 4 (Xf 108 3 107) (.alt (.step 5 (Xl 109 1 108) (.step 7 (Xb 111 (.call (.fn 92) false [.io (.t 110), .lend (.i 3)])) (.step 8 (Xq 112 (.iad 3 (.t 109) (.i 0))) (.step 9 (Xf 113 1 112) (.step 10 (Xz (.store 1 (.t 113) (.t 111))) .nil))))) (.step 7 (Xb 111 (.call (.fn 92) false [.io (.t 110), .lend (.i 3)])) (.step 5 (Xl 109 1 108) (.step 8 (Xq 112 (.iad 3 (.t 109)
 (.i 0))) (.step 9 (Xf 113 1 112) (.step 10 (Xz (.store 1 (.t 113) (.t 111))) .nil))))))))) (.step 7 (Xb 111 (.call (.fn 92) false [.io (.t 110), .lend (.i 3)])) (.step 1 (Xl 105 1 104) (.step 3 (Xi 107 6 105 106) (.step 4 (Xf 108 3 107) (.step 5 (Xl 109 1 108) (.step 8 (Xq 112 (.iad 3 (.t 109) (.i 0))) (.step 9 (Xf 113 1 112) (.step 10 (Xz (.store 1 (.t 113) (.t 111))) .nil)))))))))))) .skip))))
 .skip))) (.seq (.reg [XL 114 5 5, Xz (.store 5 (.t 4) (.t 114))]) .ret)))))
set_option maxHeartbeats 8000000 in
set_option maxRecDepth 100000 in
theorem p85 (c : Cur) (n : Int) (hc : c.ok n) (hn : n ≤ 10000000000) (s : Scope) (hs : s.sm) : Draws 85 [.agg s.z] c n 20 fun r => ∃ s' : Scope, r = .agg s'.o ∧ s'.sm := by
  have dO := d73 s hs
  obtain ⟨nm, im, l, os, us⟩ := s
  obtain ⟨z1, z2, z3, z4, z5⟩ := id hs
  simp only at z1 z2 z3 z4 z5
  simp only [Scope.z, Scope.o] at dO
  refine doesM_intro (mc := m85) (N := 115) (rs := [.c 4 49 true 5]) (fx := [0]) 2 rfl (by decide +kernel) ?_
  simp only [m85, Scope.z, EV, Nat.reduceEqDiff, Nat.reduceBEq, Nat.reduceLT, Nat.reduceLeDiff, Nat.reduceAdd, Nat.reduceSub, reduceIte]
  refine callK_i dO ?_
  simp only [Scope.z, EV, Nat.reduceEqDiff, Nat.reduceBEq, Nat.reduceLT, Nat.reduceLeDiff, Nat.reduceAdd, Nat.reduceSub, reduceIte]
  refine awp_join (fun p : List Ob × Cur => (((p.1.length : Int) ≤ 1048576) ∧ ∀ o ∈ p.1, o.sm) ∧ p.2.ok (n + 10)) (fun p => stl [(0, .box 114 p.2.z), (4, .box 49 Scope.zr), (5, .box 49 (Scope.o ⟨nm, im, l, p.1, us⟩))]) ?_ ?_
  · simp only [Scope.o, EV, Nat.reduceEqDiff, Nat.reduceBEq, Nat.reduceLT, Nat.reduceLeDiff, Nat.reduceAdd, Nat.reduceSub, reduceIte]
    rcases f0 : decide (0 < (os.length : Int)) with _ | _
    · simp only [f0, EV, Nat.reduceEqDiff, Nat.reduceBEq, Nat.reduceLT, Nat.reduceLeDiff, Nat.reduceAdd, Nat.reduceSub, reduceIte]
      exact ⟨(os, c), ⟨z4, hc.up (by omega)⟩, rfl⟩
    simp only [f0, EV, Nat.reduceEqDiff, Nat.reduceBEq, Nat.reduceLT, Nat.reduceLeDiff, Nat.reduceAdd, Nat.reduceSub, reduceIte]
    refine (p92 c n (os.length : Int) hc (by omega) (by omega)).call (fun _ => rfl) ?_
    rintro _ c1 hc1 ⟨k, rfl, k0, k1, k2⟩
    have f1 : (0 : Int) < os.length := by simpa using f0
    have hkI : k < (os.length : Int) := by
      by_cases h : 1 < (os.length : Int)
      · exact k1 h
      · have := k2 (by omega); omega
    obtain ⟨j, rfl⟩ : ∃ j : Nat, k = (j : Int) := ⟨k.toNat, by omega⟩
    have hj : j < os.length := by omega
    simp only [EV, Nat.reduceEqDiff, Nat.reduceBEq, Nat.reduceLT, Nat.reduceLeDiff, Nat.reduceAdd, Nat.reduceSub, reduceIte]
    refine (p92 c1 _ 6 hc1 (by omega) (by omega)).call (fun _ => rfl) ?_
    rintro _ c2 hc2 ⟨q, rfl, _⟩
    simp only [EV, Nat.reduceEqDiff, Nat.reduceBEq, Nat.reduceLT, Nat.reduceLeDiff, Nat.reduceAdd, Nat.reduceSub, reduceIte]
    have hos := z4.2 _ (List.getElem_mem hj)
    have hjm : j < (os.map Ob.o).length := by simp; exact hj
    have h1 : (os.map Ob.o)[j]? = some (Ob.o os[j]) := by simp [hj]
    have fin : ∀ (c3 : Cur) (o : Ob), c3.ok (n + 10) → o.sm → ∃ a : List Ob × Cur, (((a.1.length : Int) ≤ 1048576 ∧ ∀ o ∈ a.1, o.sm) ∧ a.2.ok (n + 10)) ∧ stl [(0, AV.box 114 c3.z), (4, .box 49 Scope.zr), (5, .box 49 [AV.v (.string nm), .usl 9 1 (im.map Str.o), .usl 129 6 (l.map Ty.o), .usl 69 6 ((os.map Ob.o).set j (Ob.o o)), .usl 132 2 (us.map Us.o)])] = stl [(0, .box 114 a.2.z), (4, .box 49 Scope.zr), (5, .box 49 (Scope.o ⟨nm, im, l, a.1, us⟩))] := by
      intro c3 o hc3 ho
      refine ⟨(os.set j o, c3), ⟨⟨by rw [List.length_set]; exact z4.1, fun x hx => ?_⟩, hc3⟩, ?_⟩
      · rcases List.mem_or_eq_of_mem_set hx with h | h
        · exact z4.2 x h
        · rw [h]; exact ho
      · simp only [Scope.o, List.map_set]
    rcases e0 : (q == 0) with _ | _
    rotate_left
    · simp only [e0, EV, Nat.reduceEqDiff, Nat.reduceBEq, Nat.reduceLT, Nat.reduceLeDiff, Nat.reduceAdd, Nat.reduceSub, reduceIte]
      have leaf : ∀ (c3 : Cur) (v : Int), c3.ok (n + 2 + 2 + 2) → _ := fun c3 v h3 => fin c3 ⟨os[j].name, os[j].kind, v, os[j].typ, os[j].value, os[j].params⟩ (h3.up (by omega)) hos
      simp only [Ob.o] at leaf
      repeat' first
        | (refine (p92 c2 _ 3 hc2 (by omega) (by omega)).call (fun _ => rfl) ?_; rintro _ c3 hc3 ⟨v, rfl, _⟩; simp only [hj, hkI, hjm, nth_map hj, nth_set hjm, List.getElem?_set_self hjm, h1, modify_get h1, modify_set, Ob.o, EV, Nat.reduceEqDiff, Nat.reduceBEq, Nat.reduceLT, Nat.reduceLeDiff, Nat.reduceAdd, Nat.reduceSub, reduceIte])
        | exact leaf c3 v hc3
        | exact ⟨by omega, leaf c3 v hc3⟩
        | exact ⟨by omega, by omega, leaf c3 v hc3⟩
        | refine And.intro ?_ ?_
    rcases e1 : (q == 1) with _ | _
    rotate_left
    · simp only [e0, e1, hj, hkI, hjm, nth_map hj, nth_set hjm, List.getElem?_set_self hjm, h1, modify_get h1, modify_set, Ob.o, EV, Nat.reduceEqDiff, Nat.reduceBEq, Nat.reduceLT, Nat.reduceLeDiff, Nat.reduceAdd, Nat.reduceSub, reduceIte]
      exact fin c2 ⟨⟨#[110, 101, 119]⟩, os[j].kind, os[j].mark, os[j].typ, os[j].value, os[j].params⟩ (hc2.up (by omega)) ⟨by have : ByteArray.size ⟨#[110, 101, 119]⟩ = 3 := rfl
                                                                                                                              simp only [this]; omega, hos.2⟩
    rcases e2 : (q == 2) with _ | _
    rotate_left
    · have wj := w64 ((j : Int) + 1) (by omega)
      have tj : ((j : Int) + 1).toNat = j + 1 := by omega
      have hne : os.map Ob.o ≠ [] := by
        intro h; rw [List.map_eq_nil_iff] at h; subst h; simp at hj
      have leaf : ∃ a : List Ob × Cur, (((a.1.length : Int) ≤ 1048576 ∧ ∀ o ∈ a.1, o.sm) ∧ a.2.ok (n + 10)) ∧ stl [(0, AV.box 114 c2.z), (4, .box 49 Scope.zr), (5, .box 49 [AV.v (.string nm), .usl 9 1 (im.map Str.o), .usl 129 6 (l.map Ty.o), .usl 69 6 ((os.map Ob.o).take j ++ (os.map Ob.o).drop (j + 1)), .usl 132 2 (us.map Us.o)])] = stl [(0, .box 114 a.2.z), (4, .box 49 Scope.zr), (5, .box 49 (Scope.o ⟨nm, im, l, a.1, us⟩))] := by
        refine ⟨(os.take j ++ os.drop (j + 1), c2), ⟨⟨by simp only [List.length_append, List.length_take, List.length_drop]; omega, fun x hx => ?_⟩, hc2.up (by omega)⟩, ?_⟩
        · rcases List.mem_append.1 hx with h | h
          · exact z4.2 x (List.mem_of_mem_take h)
          · exact z4.2 x (List.mem_of_mem_drop h)
        · simp only [Scope.o, List.map_append, List.map_take, List.map_drop]
      simp only [e0, e1, e2, wj, tj, hj, hkI, hjm, nth_map hj, nth_set hjm, List.getElem?_set_self hjm, h1, modify_get h1, modify_set, Ob.o, EV, Nat.reduceEqDiff, Nat.reduceBEq, Nat.reduceLT, Nat.reduceLeDiff, Nat.reduceAdd, Nat.reduceSub, reduceIte]
      repeat' first
        | exact leaf
        | exact hne
        | omega
        | refine And.intro ?_ ?_
    rcases e3 : (q == 3) with _ | _
    rotate_left
    · simp only [e0, e1, e2, e3, hj, hkI, hjm, nth_map hj, nth_set hjm, List.getElem?_set_self hjm, h1, modify_get h1, modify_set, Ob.o, EV, Nat.reduceEqDiff, Nat.reduceBEq, Nat.reduceLT, Nat.reduceLeDiff, Nat.reduceAdd, Nat.reduceSub, reduceIte]
      rcases e5 : (os[j].kind == 1) with _ | _
      · simp only [e5, EV, Nat.reduceEqDiff, Nat.reduceBEq, Nat.reduceLT, Nat.reduceLeDiff, Nat.reduceAdd, Nat.reduceSub, reduceIte]
        exact ⟨(os, c2), ⟨z4, hc2.up (by omega)⟩, rfl⟩
      · simp only [e5, hj, hkI, hjm, nth_map hj, nth_set hjm, List.getElem?_set_self hjm, h1, modify_get h1, modify_set, Ob.o, EV, Nat.reduceEqDiff, Nat.reduceBEq, Nat.reduceLT, Nat.reduceLeDiff, Nat.reduceAdd, Nat.reduceSub, reduceIte]
        exact fin c2 ⟨os[j].name, os[j].kind, os[j].mark, os[j].typ, IntKind.i64.wrap (os[j].value + 1), os[j].params⟩ (hc2.up (by omega)) hos
    · simp only [e0, e1, e2, e3, EV, Nat.reduceEqDiff, Nat.reduceBEq, Nat.reduceLT, Nat.reduceLeDiff, Nat.reduceAdd, Nat.reduceSub, reduceIte]
      exact ⟨(os, c2), ⟨z4, hc2.up (by omega)⟩, rfl⟩
  rintro ⟨os, c1⟩ ⟨z4, hc1⟩
  simp only at z4 hc1
  refine awp_join (fun p : List Ty × Cur => (((p.1.length : Int) ≤ 1048576) ∧ ∀ t ∈ p.1, t.sm) ∧ p.2.ok (n + 20)) (fun p => stl [(0, .box 114 p.2.z), (4, .box 49 Scope.zr), (5, .box 49 (Scope.o ⟨nm, im, p.1, os, us⟩))]) ?_ ?_
  · simp only [Scope.o, EV, Nat.reduceEqDiff, Nat.reduceBEq, Nat.reduceLT, Nat.reduceLeDiff, Nat.reduceAdd, Nat.reduceSub, reduceIte]
    refine callK_i (d93 1 l.length) ?_
    simp only [EV, Nat.reduceEqDiff, Nat.reduceBEq, Nat.reduceLT, Nat.reduceLeDiff, Nat.reduceAdd, Nat.reduceSub, reduceIte]
    refine (p92 c1 _ (max 1 (l.length : Int)) hc1 (by omega) (by omega)).call (fun _ => rfl) ?_
    rintro _ c2 hc2 ⟨k, rfl, k0, k1, k2⟩
    have hnone : ∀ c3 : Cur, c3.ok (n + 20) → ∃ a : List Ty × Cur, (((a.1.length : Int) ≤ 1048576 ∧ ∀ t ∈ a.1, t.sm) ∧ a.2.ok (n + 20)) ∧ stl [(0, AV.box 114 c3.z), (4, .box 49 Scope.zr), (5, .box 49 [AV.v (.string nm), .usl 9 1 (im.map Str.o), .usl 129 6 (l.map Ty.o), .usl 69 6 (os.map Ob.o), .usl 132 2 (us.map Us.o)])] = stl [(0, .box 114 a.2.z), (4, .box 49 Scope.zr), (5, .box 49 (Scope.o ⟨nm, im, a.1, os, us⟩))] := fun c3 h => ⟨(l, c3), ⟨z3, h⟩, rfl⟩
    simp only [EV, Nat.reduceEqDiff, Nat.reduceBEq, Nat.reduceLT, Nat.reduceLeDiff, Nat.reduceAdd, Nat.reduceSub, reduceIte]
    rcases f0 : decide (3 ≤ k) with _ | _
    · simp only [f0, EV, Nat.reduceEqDiff, Nat.reduceBEq, Nat.reduceLT, Nat.reduceLeDiff, Nat.reduceAdd, Nat.reduceSub, reduceIte]
      exact hnone c2 (hc2.up (by omega))
    have f1 : 3 ≤ k := by simpa using f0
    simp only [f0, EV, Nat.reduceEqDiff, Nat.reduceBEq, Nat.reduceLT, Nat.reduceLeDiff, Nat.reduceAdd, Nat.reduceSub, reduceIte]
    refine (p72 c2 _ 2 hc2 (by omega) (by omega)).call (fun _ => rfl) ?_
    rintro _ c3 hc3 ⟨b, rfl⟩
    cases b
    · simp only [EV, Nat.reduceEqDiff, Nat.reduceBEq, Nat.reduceLT, Nat.reduceLeDiff, Nat.reduceAdd, Nat.reduceSub, reduceIte]
      exact hnone c3 (hc3.up (by omega))
    have hkI : k < (l.length : Int) := by
      by_cases h : 1 < max 1 (l.length : Int)
      · have := k1 h; omega
      · have := k2 (by omega); omega
    obtain ⟨j, rfl⟩ : ∃ j : Nat, k = (j : Int) := ⟨k.toNat, by omega⟩
    have hj : j < l.length := by omega
    have hls := z3.2 _ (List.getElem_mem hj)
    have hjm : j < (l.map Ty.o).length := by simp; exact hj
    have h1 : (l.map Ty.o)[j]? = some (Ty.o l[j]) := by simp [hj]
    have fin : ∀ (c4 : Cur) (t : Ty), c4.ok (n + 20) → t.sm → ∃ a : List Ty × Cur, (((a.1.length : Int) ≤ 1048576 ∧ ∀ t ∈ a.1, t.sm) ∧ a.2.ok (n + 20)) ∧ stl [(0, AV.box 114 c4.z), (4, .box 49 Scope.zr), (5, .box 49 [AV.v (.string nm), .usl 9 1 (im.map Str.o), .usl 129 6 ((l.map Ty.o).set j (Ty.o t)), .usl 69 6 (os.map Ob.o), .usl 132 2 (us.map Us.o)])] = stl [(0, .box 114 a.2.z), (4, .box 49 Scope.zr), (5, .box 49 (Scope.o ⟨nm, im, a.1, os, us⟩))] := by
      intro c4 t hc4 ht
      refine ⟨(l.set j t, c4), ⟨⟨by rw [List.length_set]; exact z3.1, fun x hx => ?_⟩, hc4⟩, ?_⟩
      · rcases List.mem_or_eq_of_mem_set hx with h | h
        · exact z3.2 x h
        · rw [h]; exact ht
      · simp only [Scope.o, List.map_set]
    simp only [hj, hkI, hjm, nth_map hj, nth_set hjm, List.getElem?_set_self hjm, h1, modify_get h1, modify_set, Ty.o, EV, Nat.reduceEqDiff, Nat.reduceBEq, Nat.reduceLT, Nat.reduceLeDiff, Nat.reduceAdd, Nat.reduceSub, reduceIte]
    rcases e4 : (l[j].kind == 4) with _ | _
    rotate_left
    · simp only [e4, hj, hkI, hjm, nth_map hj, nth_set hjm, List.getElem?_set_self hjm, h1, modify_get h1, modify_set, Ty.o, EV, Nat.reduceEqDiff, Nat.reduceBEq, Nat.reduceLT, Nat.reduceLeDiff, Nat.reduceAdd, Nat.reduceSub, reduceIte]
      exact fin c3 ⟨l[j].kind, IntKind.i64.wrap (l[j].long + 1), l[j].base, l[j].fields, l[j].owner, l[j].name⟩ (hc3.up (by omega)) hls
    · simp only [e4, hj, hkI, hjm, nth_map hj, nth_set hjm, List.getElem?_set_self hjm, h1, modify_get h1, modify_set, Ty.o, EV, Nat.reduceEqDiff, Nat.reduceBEq, Nat.reduceLT, Nat.reduceLeDiff, Nat.reduceAdd, Nat.reduceSub, reduceIte]
      rcases g0 : decide (0 < (l[j].fields.length : Int)) with _ | _
      · simp only [g0, EV, Nat.reduceEqDiff, Nat.reduceBEq, Nat.reduceLT, Nat.reduceLeDiff, Nat.reduceAdd, Nat.reduceSub, reduceIte]
        exact hnone c3 (hc3.up (by omega))
      have g1 : 0 < l[j].fields.length := by have : 0 < (l[j].fields.length : Int) := by simpa using g0
                                             omega
      have g2 : (0 : Int) < (l[j].fields.length : Int) := by omega
      have g3 : 0 < (l[j].fields.map Fd.o).length := by simp; exact g1
      have g4 : (l[j].fields.map Fd.o)[0]? = some (Fd.o l[j].fields[0]) := by simp [g1]
      have hfs := hls.2.2.2.1
      have leaf : ∀ (c4 : Cur) (v : Int), c4.ok (n + 10 + 2 + 2 + 2) → _ := fun c4 v h4 => fin c4 ⟨l[j].kind, l[j].long, l[j].base, l[j].fields.set 0 ⟨l[j].fields[0].name, v, l[j].fields[0].typ⟩, l[j].owner, l[j].name⟩ (h4.up (by omega)) (by
        obtain ⟨q1, q2, q3, q4, q5⟩ := hls
        refine ⟨q1, q2, q3, ⟨by rw [List.length_set]; exact q4.1, fun x hx => ?_⟩, q5⟩
        rcases List.mem_or_eq_of_mem_set hx with h | h
        · exact q4.2 x h
        · rw [h]; exact q4.2 l[j].fields[0] (List.getElem_mem g1))
      simp only [Ty.o, Fd.o, List.map_set] at leaf
      simp only [g0, g1, g2, g3, g4, nth_map g1, nth_set g3, List.getElem?_set_self g3, modify_get g4, hj, hkI, hjm, nth_map hj, nth_set hjm, List.getElem?_set_self hjm, h1, modify_get h1, modify_set, Ty.o, Fd.o, EV, Nat.reduceEqDiff, Nat.reduceBEq, Nat.reduceLT, Nat.reduceLeDiff, Nat.reduceAdd, Nat.reduceSub, reduceIte]
      repeat' first
        | (refine (p92 c3 _ 3 hc3 (by omega) (by omega)).call (fun _ => rfl) ?_; rintro _ c4 hc4 ⟨v, rfl, _⟩; simp only [g0, g1, g2, g3, g4, nth_map g1, nth_set g3, List.getElem?_set_self g3, modify_get g4, hj, hkI, hjm, nth_map hj, nth_set hjm, List.getElem?_set_self hjm, h1, modify_get h1, modify_set, Ty.o, Fd.o, EV, Nat.reduceEqDiff, Nat.reduceBEq, Nat.reduceLT, Nat.reduceLeDiff, Nat.reduceAdd, Nat.reduceSub, reduceIte])
        | exact leaf c4 v hc4
        | exact ⟨by omega, leaf c4 v hc4⟩
        | exact ⟨by omega, by omega, leaf c4 v hc4⟩
        | refine And.intro ?_ ?_
  rintro ⟨l, c2⟩ ⟨z3, hc2⟩
  simp only at z3 hc2
  simp only [Scope.o, EV, Nat.reduceEqDiff, Nat.reduceBEq, Nat.reduceLT, Nat.reduceLeDiff, Nat.reduceAdd, Nat.reduceSub, reduceIte]
  simp only [Str.nfz, Ty.nfz, Ob.nfz, Us.nfz, pbeq, evRM, EV, Nat.reduceEqDiff, Nat.reduceBEq, Nat.reduceLT, Nat.reduceLeDiff, Nat.reduceAdd, Nat.reduceSub, reduceIte, evRE, retVC, cellV', evR, nfz, nfzs, nfzss, List.contains_nil, List.contains_cons, Bool.or_false, or_true]
  refine ⟨by decide, by decide, ?_⟩
  exact ⟨⟨c2, rfl, hc2, ⟨nm, im, l, os, us⟩, rfl, ⟨z1, z2, z3, z4, z5⟩⟩, Or.inr (by decide)⟩
end Go.AM
namespace Go.AM
set_option linter.unusedVariables false
set_option linter.unusedSimpArgs false
def nil' (s : ByteArray) : Bool := s.toList == (⟨#[]⟩ : ByteArray).toList
theorem loop_len (bs : ByteArray) : ∀ (n i : Nat) (r : List UInt8), bs.size - i ≤ n → r.length ≤ (ByteArray.toList.loop bs i r).length
  | 0, i, r, h => by
    rw [ByteArray.toList.loop.eq_1, if_neg (by omega)]
    simp
  | n + 1, i, r, h => by
    rw [ByteArray.toList.loop.eq_1]
    split
    · have := loop_len bs n (i + 1) (bs.get! i :: r) (by omega)
      simp only [List.length_cons] at this
      omega
    · simp
theorem nil_size {s : ByteArray} (h : nil' s = true) : s.size = 0 := by
  have e : s.toList = (⟨#[]⟩ : ByteArray).toList := by simpa [nil'] using h
  have e0 : (⟨#[]⟩ : ByteArray).toList = [] := ByteArray.toList_empty
  rw [e0, ByteArray.toList.eq_1, ByteArray.toList.loop.eq_1] at e
  split at e
  · have := loop_len s s.size (0 + 1) [s.get! 0] (by omega)
    rw [e] at this
    simp at this
  · omega
theorem nil_name {s : ByteArray} (h : nil' s = true) : nameOk s = false := by
  have := nil_size h
  simp only [nameOk, decide_eq_false_iff_not]
  rintro ⟨_, h1, _⟩
  omega
noncomputable def fdAt (l : List Ty) (fs : List Fd) (i : Nat) (h : i < fs.length) : Bool :=
  (decide (0 ≤ fs[i].mark) && decide (fs[i].mark ≤ 2)) && (isNum l fs[i].typ && (if nil' fs[i].name = true then fs[i].mark == 0 else nameOk fs[i].name && !((fs.take i).any (fdNm fs[i]))))
def fdTo (l : List Ty) (fs : List Fd) (n : Nat) : Prop := ∀ i (h : i < fs.length), i < n → fdAt l fs i h = true
open Classical in
noncomputable def fdsOk (l : List Ty) (fs : List Fd) : Bool := decide (fdTo l fs fs.length ∧ fs.length ≤ 6)
theorem fdTo_succ {l : List Ty} {fs : List Fd} {i : Nat} (h : i < fs.length) (h1 : fdTo l fs i) (h2 : fdAt l fs i h = true) : fdTo l fs (i + 1) := by
  intro j hj hji
  by_cases e : j = i
  · subst e; exact h2
  · exact h1 j hj (by omega)
theorem fdsOk_no {l : List Ty} {fs : List Fd} {i : Nat} (h : i < fs.length) (h2 : fdAt l fs i h = false) : fdsOk l fs = false := by
  simp only [fdsOk, decide_eq_false_iff_not]
  rintro ⟨h1, _⟩
  have := h1 i h h
  rw [h2] at this; cases this
theorem fdsOk_yes {l : List Ty} {fs : List Fd} (h : fdTo l fs fs.length) : fdsOk l fs = decide ((fs.length : Int) ≤ 6) := by
  have e2 : decide ((fs.length : Int) ≤ 6) = decide (fs.length ≤ 6) := by congr 1; apply propext; omega
  simp [fdsOk, h, e2]
def m274 : MC :=
 (.seq (.reg [Xb 4 (.asg .fb)]) (.seq (.seq (.reg [Xm 7 1, Xn 8 7, Xq 9 (.mov (.i 0))]) (.block 0 (.loop [0, 1, 7, 8, 9] (.seq (.reg [Xq 10 (.bin false .lss (.t 9) (.t 8))]) (.seq (.cond (.t 10) .skip (.exit 0)) (.join [0, 1, 7, 8, 9] (.block 1 (.seq (.reg [Xm 11 9, Xi 12 3 7 9, XL 13 3 12, Xb 6 (.alloc 138 [.z, .i, .i]), Xa 5 11, Xz (.store 3 (.t 6) (.t 13))]) (.seq (.seq (.reg [Xf 14 1 6, Xl 15 1
 14, Xb 16 (.call (.fn 171) false [.lend (.t 15), .lend (.i 0), .lend (.i 2)]), Xq 17 (.un .not (.t 16)), Xm 18 17, Xu 19 18 (.mov (.t 0)), Xu 20 18 (.fad 2 (.t 6)), Xu 21 18 (.load false 1 (.t 20)), XU 22 18 (.call (.fn 95) false [.lend (.t 19), .lend (.t 21)]), Xu 23 18 (.un .not (.t 22)), Xq 24 (.pick (.t 18) .tb (.t 23))]) (.cond (.t 24) (.seq (.reg [Xb 4 (.asg .fb)]) .ret) .skip)) (.seq (.seq
 (.reg [Xf 25 0 6, Xl 26 1 25, Xq 27 (.bin false .eql (.t 26) (.z #[]))]) (.cond (.t 27) (.seq (.seq (.reg [Xf 28 1 6, Xl 29 1 28, Xq 30 (.bin false .neq (.t 29) (.i 0))]) (.cond (.t 30) (.seq (.reg [Xb 4 (.asg .fb)]) .ret) .skip)) (.exit 1)) .skip)) (.seq (.reg [Xf 31 0 6, Xl 32 1 31, Xb 33 (.call (.fn 143) false [.lend (.t 32)]), Xq 34 (.un .not (.t 33)), Xm 35 34, Xu 36 35 (.mov (.t 1)), Xu 37
 35 (.mov (.t 5)), Xu 38 35 (.slc false 3 (.t 36) none (some (.t 37))), Xu 39 35 (.mkf 298 [.t 6]), XU 40 35 (.call (.fn 297) false [.lend (.t 38), .lend (.t 39)]), Xq 41 (.pick (.t 35) .tb (.t 40))]) (.cond (.t 41) (.seq (.reg [Xb 4 (.asg .fb)]) .ret) .skip)))))) (.reg [Xq 42 (.bin false .add (.t 9) (.i 1)), Xm 9 42]))))))) (.seq (.reg [Xm 43 1, Xn 44 43, Xq 45 (.bin false .leq (.t 44) (.i 6)), Xa
 4 45]) .ret)))
set_option maxHeartbeats 1000000 in
set_option maxRecDepth 100000 in
theorem d274 (l : List Ty) (fs : List Fd) (hl : (l.length : Int) ≤ 1048576) (hf : (fs.length : Int) ≤ 1048576) (hs : ∀ s ∈ fs, s.sm) :
    Does Go.Proofs.Tryz.prog 274 [.fsl 6 (l.map Ty.z), .fsl 3 (fs.map Fd.z)] false (.v (.bool (fdsOk l fs))) [.dead, .dead] := by
  refine does_intro (mc := m274) (N := 46) (rs := [4]) (fx := []) 2 rfl (by decide +kernel) ?_
  simp only [m274, EV, Nat.reduceEqDiff, Nat.reduceBEq, Nat.reduceLT, Nat.reduceLeDiff, Nat.reduceAdd, Nat.reduceSub, reduceIte]
  refine awp_loop (fun i : Nat => i ≤ fs.length ∧ fdTo l fs i) (fun i => stl [(0, .fsl 6 (l.map Ty.z)), (1, .fsl 3 (fs.map Fd.z)), (7, .fsl 3 (fs.map Fd.z)), (8, .v (.int .i64 (fs.length : Int))), (9, .v (.int .i64 (i : Int)))]) (fun i => fs.length - i) 0 ⟨Nat.zero_le _, fun j hj h => absurd h (by omega)⟩ ?_ ?_
  · simp only [EV, Nat.reduceEqDiff, Nat.reduceBEq, Nat.reduceLT, Nat.reduceLeDiff, Nat.reduceAdd, Nat.reduceSub, reduceIte]
    rfl
  · rintro i ⟨hi, hok⟩
    simp only [EV, Nat.reduceEqDiff, Nat.reduceBEq, Nat.reduceLT, Nat.reduceLeDiff, Nat.reduceAdd, Nat.reduceSub, reduceIte]
    refine cK_cut (fun h => ?_) (fun h => ?_)
    · have h1 : i < fs.length := by simpa using h
      have h2 : (i : Int) < (fs.length : Int) := by omega
      have hso := hs fs[i] (List.getElem_mem h1)
      simp only [Fd.sm] at hso
      clear h
      have p9 : fdAt l fs i h1 = false → fdsOk l fs = false := fdsOk_no h1
      refine awp_join (fun _ : Unit => fdAt l fs i h1 = true) (fun _ => stl [(0, .fsl 6 (l.map Ty.z)), (1, .fsl 3 (fs.map Fd.z)), (7, .fsl 3 (fs.map Fd.z)), (8, .v (.int .i64 (fs.length : Int))), (9, .v (.int .i64 (i : Int)))]) ?_ ?_
      · simp only [FdE, nth_map h1, h2, Fd.z, EV, Nat.reduceEqDiff, Nat.reduceBEq, Nat.reduceLT, Nat.reduceLeDiff, Nat.reduceAdd, Nat.reduceSub, reduceIte]
        refine callK_i (d171 _ _ _) ?_
        simp only [EV, Nat.reduceEqDiff, Nat.reduceBEq, Nat.reduceLT, Nat.reduceLeDiff, Nat.reduceAdd, Nat.reduceSub, reduceIte]
        rcases e1 : (decide (0 ≤ fs[i].mark) && decide (fs[i].mark ≤ 2)) with _ | _
        · have e : fdsOk l fs = false := p9 (by simp only [fdAt, e1, Bool.false_and])
          simp only [EV, Nat.reduceEqDiff, Nat.reduceBEq, Nat.reduceLT, Nat.reduceLeDiff, Nat.reduceAdd, Nat.reduceSub, reduceIte]
          simp only [e, EV, Nat.reduceEqDiff, Nat.reduceBEq, Nat.reduceLT, Nat.reduceLeDiff, Nat.reduceAdd, Nat.reduceSub, reduceIte, evRE, retVC, cellV', evR, nfz, nfzs, nfzss, List.contains_nil, List.contains_cons, Bool.or_false, or_true]
        simp only [EV, Nat.reduceEqDiff, Nat.reduceBEq, Nat.reduceLT, Nat.reduceLeDiff, Nat.reduceAdd, Nat.reduceSub, reduceIte]
        refine callK_i (d95 l _ hl) ?_
        simp only [EV, Nat.reduceEqDiff, Nat.reduceBEq, Nat.reduceLT, Nat.reduceLeDiff, Nat.reduceAdd, Nat.reduceSub, reduceIte]
        rcases e2 : isNum l fs[i].typ with _ | _
        · have e : fdsOk l fs = false := p9 (by simp only [fdAt, e1, e2, Bool.true_and, Bool.false_and])
          simp only [EV, Nat.reduceEqDiff, Nat.reduceBEq, Nat.reduceLT, Nat.reduceLeDiff, Nat.reduceAdd, Nat.reduceSub, reduceIte]
          simp only [e, EV, Nat.reduceEqDiff, Nat.reduceBEq, Nat.reduceLT, Nat.reduceLeDiff, Nat.reduceAdd, Nat.reduceSub, reduceIte, evRE, retVC, cellV', evR, nfz, nfzs, nfzss, List.contains_nil, List.contains_cons, Bool.or_false, or_true]
        simp only [EV, Nat.reduceEqDiff, Nat.reduceBEq, Nat.reduceLT, Nat.reduceLeDiff, Nat.reduceAdd, Nat.reduceSub, reduceIte]
        have en : (fs[i].name.toList == (⟨#[]⟩ : ByteArray).toList) = nil' fs[i].name := rfl
        rw [en]
        rcases e3 : nil' fs[i].name with _ | _
        · simp only [EV, Nat.reduceEqDiff, Nat.reduceBEq, Nat.reduceLT, Nat.reduceLeDiff, Nat.reduceAdd, Nat.reduceSub, reduceIte]
          refine callK_i (d143 _ (by omega)) ?_
          simp only [EV, Nat.reduceEqDiff, Nat.reduceBEq, Nat.reduceLT, Nat.reduceLeDiff, Nat.reduceAdd, Nat.reduceSub, reduceIte]
          rcases e4 : nameOk fs[i].name with _ | _
          · have e : fdsOk l fs = false := p9 (by simp only [fdAt, e1, e2, e3, e4, Bool.true_and, Bool.false_and, Bool.false_eq_true, if_false])
            simp only [EV, Nat.reduceEqDiff, Nat.reduceBEq, Nat.reduceLT, Nat.reduceLeDiff, Nat.reduceAdd, Nat.reduceSub, reduceIte]
            simp only [e, EV, Nat.reduceEqDiff, Nat.reduceBEq, Nat.reduceLT, Nat.reduceLeDiff, Nat.reduceAdd, Nat.reduceSub, reduceIte, evRE, retVC, cellV', evR, nfz, nfzs, nfzss, List.contains_nil, List.contains_cons, Bool.or_false, or_true]
          simp only [FdE, nth_map h1, h2, Fd.z, EV, Nat.reduceEqDiff, Nat.reduceBEq, Nat.reduceLT, Nat.reduceLeDiff, Nat.reduceAdd, Nat.reduceSub, reduceIte]
          refine ⟨by omega, by omega, ?_⟩
          rw [← List.map_take]
          refine callK_i (d297 (fs.take i) (by simp; omega) 298 [.fptr fs[i].z] (fdNm fs[i]) rfl rfl (fun _ => rfl) (fun _ => rfl) (fun s _ => d298 s fs[i])) ?_
          simp only [EV, Nat.reduceEqDiff, Nat.reduceBEq, Nat.reduceLT, Nat.reduceLeDiff, Nat.reduceAdd, Nat.reduceSub, reduceIte]
          rcases e5 : (fs.take i).any (fdNm fs[i]) with _ | _
          · simp only [EV, Nat.reduceEqDiff, Nat.reduceBEq, Nat.reduceLT, Nat.reduceLeDiff, Nat.reduceAdd, Nat.reduceSub, reduceIte]
            exact ⟨(), by simp only [fdAt, e1, e2, e3, e4, e5, Bool.true_and, Bool.false_eq_true, if_false, Bool.not_false]⟩
          · have e : fdsOk l fs = false := p9 (by simp only [fdAt, e1, e2, e3, e4, e5, Bool.true_and, Bool.false_eq_true, if_false, Bool.not_true])
            simp only [EV, Nat.reduceEqDiff, Nat.reduceBEq, Nat.reduceLT, Nat.reduceLeDiff, Nat.reduceAdd, Nat.reduceSub, reduceIte]
            simp only [e, EV, Nat.reduceEqDiff, Nat.reduceBEq, Nat.reduceLT, Nat.reduceLeDiff, Nat.reduceAdd, Nat.reduceSub, reduceIte, evRE, retVC, cellV', evR, nfz, nfzs, nfzss, List.contains_nil, List.contains_cons, Bool.or_false, or_true]
        · simp only [EV, Nat.reduceEqDiff, Nat.reduceBEq, Nat.reduceLT, Nat.reduceLeDiff, Nat.reduceAdd, Nat.reduceSub, reduceIte]
          rcases e4 : (fs[i].mark == 0) with _ | _
          · have e : fdsOk l fs = false := p9 (by simp only [fdAt, e1, e2, e3, e4, Bool.true_and, if_true])
            simp only [bne, e4, EV, Nat.reduceEqDiff, Nat.reduceBEq, Nat.reduceLT, Nat.reduceLeDiff, Nat.reduceAdd, Nat.reduceSub, reduceIte]
            simp only [e, EV, Nat.reduceEqDiff, Nat.reduceBEq, Nat.reduceLT, Nat.reduceLeDiff, Nat.reduceAdd, Nat.reduceSub, reduceIte, evRE, retVC, cellV', evR, nfz, nfzs, nfzss, List.contains_nil, List.contains_cons, Bool.or_false, or_true]
          · simp only [bne, e4, EV, Nat.reduceEqDiff, Nat.reduceBEq, Nat.reduceLT, Nat.reduceLeDiff, Nat.reduceAdd, Nat.reduceSub, reduceIte]
            exact ⟨(), by simp only [fdAt, e1, e2, e3, e4, Bool.true_and, if_true]⟩
      · rintro _ hq
        simp only [EV, Nat.reduceEqDiff, Nat.reduceBEq, Nat.reduceLT, Nat.reduceLeDiff, Nat.reduceAdd, Nat.reduceSub, reduceIte]
        rw [w64 _ (by omega)]
        exact ⟨i + 1, ⟨h1, fdTo_succ h1 hok hq⟩, by omega, rfl⟩
    · have h1 : i = fs.length := by have : ¬ (i : Int) < fs.length := by simpa using h
                                    omega
      subst h1
      simp only [EV, Nat.reduceEqDiff, Nat.reduceBEq, Nat.reduceLT, Nat.reduceLeDiff, Nat.reduceAdd, Nat.reduceSub, reduceIte]
      simp only [fdsOk_yes hok, EV, Nat.reduceEqDiff, Nat.reduceBEq, Nat.reduceLT, Nat.reduceLeDiff, Nat.reduceAdd, Nat.reduceSub, reduceIte, evRE, retVC, cellV', evR, nfz, nfzs, nfzss, List.contains_nil, List.contains_cons, Bool.or_false, or_true]
end Go.AM
namespace Go.AM
set_option linter.unusedVariables false
set_option linter.unusedSimpArgs false
def eqSt (v : ByteArray) (x : Str) : Bool := v.toList == x.s.toList
def m213 : MC :=
 (.seq (.reg [Xb 4 (.asg (.i 0))]) (.seq (.seq (.reg [Xm 6 0, Xn 7 6, Xq 8 (.mov (.i 0))]) (.block 0 (.loop [0, 1, 7, 8] (.seq (.reg [Xq 9 (.bin false .lss (.t 8) (.t 7))]) (.seq (.cond (.t 9) .skip (.exit 0)) (.seq (.block 1 (.seq (.reg [Xm 10 8, Xa 5 10]) (.seq (.reg [Xm 11 1, Xm 12 0, Xm 13 5, Xi 14 1 12 13, Xl 15 1 14, Xq 16 (.bin false .eql (.t 11) (.t 15))]) (.cond (.t 16) (.seq (.reg [Xm 17
 5, Xa 4 17]) .ret) .skip)))) (.reg [Xq 18 (.bin false .add (.t 8) (.i 1)), Xm 8 18]))))))) (.seq (.reg [Xb 4 (.asg (.i (-1)))]) .ret)))
theorem d213 (l : List Str) (v : ByteArray) (hl : l.length < 9223372036854775807) : Does Go.Proofs.Tryz.prog 213 [.fsl 1 (l.map Str.z), .v (.string v)] false (.v (.int .i64 (findI (eqSt v) l))) [.dead, .dead] := by
  refine does_intro (mc := m213) (N := 19) (rs := [4]) (fx := []) 2 rfl (by decide +kernel) ?_
  simp only [m213, EV, Nat.reduceEqDiff, Nat.reduceBEq, Nat.reduceLT, Nat.reduceLeDiff, Nat.reduceAdd, Nat.reduceSub, reduceIte]
  refine awp_loop (fun i : Nat => i ≤ l.length ∧ ∀ j (hj : j < l.length), j < i → eqSt v l[j] = false) (fun i => stl [(0, .fsl 1 (l.map Str.z)), (1, .v (.string v)), (7, .v (.int .i64 (l.length : Int))), (8, .v (.int .i64 (i : Int)))]) (fun i => l.length - i) 0 ⟨Nat.zero_le _, fun j hj h => absurd h (by omega)⟩ ?_ ?_
  · simp only [EV, Nat.reduceEqDiff, Nat.reduceBEq, Nat.reduceLT, Nat.reduceLeDiff, Nat.reduceAdd, Nat.reduceSub, reduceIte]
    rfl
  · rintro i ⟨hi, hno⟩
    simp only [EV, Nat.reduceEqDiff, Nat.reduceBEq, Nat.reduceLT, Nat.reduceLeDiff, Nat.reduceAdd, Nat.reduceSub, reduceIte]
    refine cK_cut (fun h => ?_) (fun h => ?_)
    · have h1 : i < l.length := by simpa using h
      have h2 : (i : Int) < (l.length : Int) := by omega
      simp only [nth_map h1, h2, Str.z, Bool.true_xor, Bool.false_xor, EV, Nat.reduceEqDiff, Nat.reduceBEq, Nat.reduceLT, Nat.reduceLeDiff, Nat.reduceAdd, Nat.reduceSub, reduceIte]
      refine cK_cut (fun h => ?_) (fun h => ?_)
      · have hq : eqSt v l[i] = true := h
        simp only [EV, Nat.reduceEqDiff, Nat.reduceBEq, Nat.reduceLT, Nat.reduceLeDiff, Nat.reduceAdd, Nat.reduceSub, reduceIte]
        simp only [findI_at h1 hq hno, EV, Nat.reduceEqDiff, Nat.reduceBEq, Nat.reduceLT, Nat.reduceLeDiff, Nat.reduceAdd, Nat.reduceSub, reduceIte, evRE, retVC, cellV', evR, nfz, nfzs, nfzss, List.contains_nil, List.contains_cons, Bool.or_false, or_true]
      · have hq : eqSt v l[i] = false := h
        simp only [EV, Nat.reduceEqDiff, Nat.reduceBEq, Nat.reduceLT, Nat.reduceLeDiff, Nat.reduceAdd, Nat.reduceSub, reduceIte]
        rw [w64 _ (by omega)]
        refine ⟨i + 1, ⟨by omega, ?_⟩, by omega, rfl⟩
        intro j hj hji
        by_cases e : j = i
        · subst e; exact hq
        · exact hno j hj (by omega)
    · have h1 : i = l.length := by have : ¬ (i : Int) < l.length := by simpa using h
                                   omega
      subst h1
      simp only [EV, Nat.reduceEqDiff, Nat.reduceBEq, Nat.reduceLT, Nat.reduceLeDiff, Nat.reduceAdd, Nat.reduceSub, reduceIte]
      simp only [findI_no (fun j hj => hno j hj hj), EV, Nat.reduceEqDiff, Nat.reduceBEq, Nat.reduceLT, Nat.reduceLeDiff, Nat.reduceAdd, Nat.reduceSub, reduceIte, evRE, retVC, cellV', evR, nfz, nfzs, nfzss, List.contains_nil, List.contains_cons, Bool.or_false, or_true]
def m147 : MC :=
 (.seq (.reg [Xb 4 (.asg .fb)]) (.seq (.reg [Xm 5 0, Xm 6 1, Xb 7 (.call (.fn 213) false [.lend (.t 5), .lend (.t 6)]), Xq 8 (.bin false .geq (.t 7) (.i 0)), Xa 4 8]) .ret))
theorem d147 (l : List Str) (v : ByteArray) (hl : l.length < 9223372036854775807) : Does Go.Proofs.Tryz.prog 147 [.fsl 1 (l.map Str.z), .v (.string v)] false (.v (.bool (l.any (eqSt v)))) [.dead, .dead] := by
  refine does_intro (mc := m147) (N := 9) (rs := [4]) (fx := []) 2 rfl (by decide +kernel) ?_
  simp only [m147, EV, Nat.reduceEqDiff, Nat.reduceBEq, Nat.reduceLT, Nat.reduceLeDiff, Nat.reduceAdd, Nat.reduceSub, reduceIte]
  refine callK_i (d213 l v hl) ?_
  simp only [EV, Nat.reduceEqDiff, Nat.reduceBEq, Nat.reduceLT, Nat.reduceLeDiff, Nat.reduceAdd, Nat.reduceSub, reduceIte]
  simp only [findI_any, EV, Nat.reduceEqDiff, Nat.reduceBEq, Nat.reduceLT, Nat.reduceLeDiff, Nat.reduceAdd, Nat.reduceSub, reduceIte, evRE, retVC, cellV', evR, nfz, nfzs, nfzss, List.contains_nil, List.contains_cons, Bool.or_false, or_true]
def m145 : MC :=
 (.seq (.reg [Xb 2 (.asg (.nils 9 1))]) (.seq (.seq (.reg [Xm 3 0, Xq 4 (.isnil false (.t 3))]) (.cond (.t 4) (.seq (.reg [Xb 2 (.asg (.nils 9 1))]) .ret) .skip)) (.seq (.reg [Xb 5 (.bsl 9 1 []), Xm 6 0, Xb 7 (.app false 9 1 16 (.t 5) (.t 6)), Xa 2 7]) .ret)))
theorem d145 (l : List Str) (hl : (l.length : Int) ≤ 1048576) : Does Go.Proofs.Tryz.prog 145 [.fsl 1 (l.map Str.z)] false (.usl 9 1 (l.map Str.o)) [.dead] := by
  refine does_intro (mc := m145) (N := 8) (rs := [2]) (fx := []) 1 rfl (by decide +kernel) ?_
  simp only [m145, EV, Nat.reduceEqDiff, Nat.reduceBEq, Nat.reduceLT, Nat.reduceLeDiff, Nat.reduceAdd, Nat.reduceSub, reduceIte]
  refine ⟨fun h b => ?_, fun h => ⟨.inl trivial, by omega, by omega, ?_⟩⟩
  · have h0 : l = [] := by simpa using h
    subst h0
    cases b
    · simp only [List.map_nil, EV, Nat.reduceEqDiff, Nat.reduceBEq, Nat.reduceLT, Nat.reduceLeDiff, Nat.reduceAdd, Nat.reduceSub, reduceIte]
      refine ⟨.inl trivial, by omega, ?_⟩
      simp only [EV, Nat.reduceEqDiff, Nat.reduceBEq, Nat.reduceLT, Nat.reduceLeDiff, Nat.reduceAdd, Nat.reduceSub, reduceIte, evRE, retVC, cellV', evR, nfz, nfzs, nfzss, List.contains_nil, List.contains_cons, Bool.or_false, or_true]
    · simp only [List.map_nil, EV, Nat.reduceEqDiff, Nat.reduceBEq, Nat.reduceLT, Nat.reduceLeDiff, Nat.reduceAdd, Nat.reduceSub, reduceIte]
      simp only [EV, Nat.reduceEqDiff, Nat.reduceBEq, Nat.reduceLT, Nat.reduceLeDiff, Nat.reduceAdd, Nat.reduceSub, reduceIte, evRE, retVC, cellV', evR, nfz, nfzs, nfzss, List.contains_nil, List.contains_cons, Bool.or_false, or_true]
  · simp only [Str.nfz, EV, Nat.reduceEqDiff, Nat.reduceBEq, Nat.reduceLT, Nat.reduceLeDiff, Nat.reduceAdd, Nat.reduceSub, reduceIte, evRE, retVC, cellV', evR, nfz, nfzs, nfzss, List.contains_nil, List.contains_cons, Bool.or_false, or_true]
    rfl
def m214 : MC :=
 (.seq (.reg [Xb 3 (.box 132 (.t 1)), Xb 4 (.asg (.i 0))]) (.seq (.seq (.reg [Xm 6 0, Xn 7 6, Xq 8 (.mov (.i 0))]) (.block 0 (.loop [0, 3, 7, 8] (.seq (.reg [Xq 9 (.bin false .lss (.t 8) (.t 7))]) (.seq (.cond (.t 9) .skip (.exit 0)) (.seq (.block 1 (.seq (.reg [Xm 10 8, Xa 5 10]) (.seq (.dreg [XL 11 2 3, Xm 12 0, Xm 13 5, Xi 14 2 12 13, XL 15 2 14, Xq 16 (.eqa false [1, 1] (.t 11) (.t 15))])
 (.cond (.t 16) (.seq (.reg [Xm 17 5, Xa 4 17]) .ret) .skip)))) (.reg [Xq 18 (.bin false .add (.t 8) (.i 1)), Xm 8 18]))))))) (.seq (.reg [Xb 4 (.asg (.i (-1)))]) .ret)))
theorem d214 (l : List Us) (v : Us) (hl : l.length < 9223372036854775807) : Does Go.Proofs.Tryz.prog 214 [.fsl 2 (l.map Us.z), .agg v.z] false (.v (.int .i64 (findI (qUs v) l))) [.dead, .dead] := by
  refine does_intro (mc := m214) (N := 19) (rs := [4]) (fx := []) 2 rfl (by decide +kernel) ?_
  simp only [m214, UsE, EV, Nat.reduceEqDiff, Nat.reduceBEq, Nat.reduceLT, Nat.reduceLeDiff, Nat.reduceAdd, Nat.reduceSub, reduceIte]
  refine awp_loop (fun i : Nat => i ≤ l.length ∧ ∀ j (hj : j < l.length), j < i → qUs v l[j] = false) (fun i => stl [(0, .fsl 2 (l.map Us.z)), (3, .box 132 v.z), (7, .v (.int .i64 (l.length : Int))), (8, .v (.int .i64 (i : Int)))]) (fun i => l.length - i) 0 ⟨Nat.zero_le _, fun j hj h => absurd h (by omega)⟩ ?_ ?_
  · simp only [UsE, EV, Nat.reduceEqDiff, Nat.reduceBEq, Nat.reduceLT, Nat.reduceLeDiff, Nat.reduceAdd, Nat.reduceSub, reduceIte]
    rfl
  · rintro i ⟨hi, hno⟩
    simp only [EV, Nat.reduceEqDiff, Nat.reduceBEq, Nat.reduceLT, Nat.reduceLeDiff, Nat.reduceAdd, Nat.reduceSub, reduceIte]
    refine cK_cut (fun h => ?_) (fun h => ?_)
    · have h1 : i < l.length := by simpa using h
      have h2 : (i : Int) < (l.length : Int) := by omega
      simp only [nth_map h1, h2, Us.z, Bool.true_xor, Bool.false_xor, EV, Nat.reduceEqDiff, Nat.reduceBEq, Nat.reduceLT, Nat.reduceLeDiff, Nat.reduceAdd, Nat.reduceSub, reduceIte]
      refine cK_cut (fun h => ?_) (fun h => ?_)
      · have hq : qUs v l[i] = true := h
        simp only [EV, Nat.reduceEqDiff, Nat.reduceBEq, Nat.reduceLT, Nat.reduceLeDiff, Nat.reduceAdd, Nat.reduceSub, reduceIte]
        simp only [findI_at h1 hq hno, EV, Nat.reduceEqDiff, Nat.reduceBEq, Nat.reduceLT, Nat.reduceLeDiff, Nat.reduceAdd, Nat.reduceSub, reduceIte, evRE, retVC, cellV', evR, nfz, nfzs, nfzss, List.contains_nil, List.contains_cons, Bool.or_false, or_true]
      · have hq : qUs v l[i] = false := h
        simp only [EV, Nat.reduceEqDiff, Nat.reduceBEq, Nat.reduceLT, Nat.reduceLeDiff, Nat.reduceAdd, Nat.reduceSub, reduceIte]
        rw [w64 _ (by omega)]
        refine ⟨i + 1, ⟨by omega, ?_⟩, by omega, rfl⟩
        intro j hj hji
        by_cases e : j = i
        · subst e; exact hq
        · exact hno j hj (by omega)
    · have h1 : i = l.length := by have : ¬ (i : Int) < l.length := by simpa using h
                                   omega
      subst h1
      simp only [EV, Nat.reduceEqDiff, Nat.reduceBEq, Nat.reduceLT, Nat.reduceLeDiff, Nat.reduceAdd, Nat.reduceSub, reduceIte]
      simp only [findI_no (fun j hj => hno j hj hj), EV, Nat.reduceEqDiff, Nat.reduceBEq, Nat.reduceLT, Nat.reduceLeDiff, Nat.reduceAdd, Nat.reduceSub, reduceIte, evRE, retVC, cellV', evR, nfz, nfzs, nfzss, List.contains_nil, List.contains_cons, Bool.or_false, or_true]
def m148 : MC :=
 (.seq (.reg [Xb 3 (.box 132 (.t 1)), Xb 4 (.asg .fb)]) (.seq (.reg [Xm 5 0, XL 6 2 3, Xb 7 (.call (.fn 214) false [.lend (.t 5), .lend (.t 6)]), Xq 8 (.bin false .geq (.t 7) (.i 0)), Xa 4 8]) .ret))
theorem d148 (l : List Us) (v : Us) (hl : l.length < 9223372036854775807) : Does Go.Proofs.Tryz.prog 148 [.fsl 2 (l.map Us.z), .agg v.z] false (.v (.bool (l.any (qUs v)))) [.dead, .dead] := by
  refine does_intro (mc := m148) (N := 9) (rs := [4]) (fx := []) 2 rfl (by decide +kernel) ?_
  simp only [m148, UsE, EV, Nat.reduceEqDiff, Nat.reduceBEq, Nat.reduceLT, Nat.reduceLeDiff, Nat.reduceAdd, Nat.reduceSub, reduceIte]
  refine callK_i (d214 l v hl) ?_
  simp only [EV, Nat.reduceEqDiff, Nat.reduceBEq, Nat.reduceLT, Nat.reduceLeDiff, Nat.reduceAdd, Nat.reduceSub, reduceIte]
  simp only [findI_any, EV, Nat.reduceEqDiff, Nat.reduceBEq, Nat.reduceLT, Nat.reduceLeDiff, Nat.reduceAdd, Nat.reduceSub, reduceIte, evRE, retVC, cellV', evR, nfz, nfzs, nfzss, List.contains_nil, List.contains_cons, Bool.or_false, or_true]
def m251 : MC :=
 (.seq (.reg [Xb 4 (.asg (.i 0))]) (.seq (.seq (.reg [Xm 6 0, Xn 7 6, Xq 8 (.mov (.i 0))]) (.block 0 (.loop [0, 1, 7, 8] (.seq (.reg [Xq 9 (.bin false .lss (.t 8) (.t 7))]) (.seq (.cond (.t 9) .skip (.exit 0)) (.seq (.block 1 (.seq (.reg [Xm 10 8, Xa 5 10]) (.seq (.reg [Xm 11 1, Xm 12 0, Xm 13 5, Xi 14 3 12 13, XL 15 3 14, Xb 16 (.call (.t 11) false [.lend (.t 15)])]) (.cond (.t 16) (.seq (.reg [Xm
 17 5, Xa 4 17]) .ret) .skip)))) (.reg [Xq 18 (.bin false .add (.t 8) (.i 1)), Xm 8 18]))))))) (.seq (.reg [Xb 4 (.asg (.i (-1)))]) .ret)))
theorem d251 (l : List Par) (hl : l.length < 9223372036854775807) (f : Nat) (caps : List AV) (q : Par → Bool) (hp : plains caps = true) (hb : bares caps = true) (hk : ∀ K, killVs K caps = caps) (hf : ∀ (st : St), frzBs st caps = caps)
    (hq : ∀ s ∈ l, Does Go.Proofs.Tryz.prog f (.agg s.z :: caps) false (.v (.bool (q s))) (.dead :: caps.map fun _ => .dead)) :
    Does Go.Proofs.Tryz.prog 251 [.fsl 3 (l.map Par.z), .clo f caps] false (.v (.int .i64 (findI q l))) [.dead, .dead] := by
  refine does_intro (mc := m251) (N := 19) (rs := [4]) (fx := []) 2 rfl (by decide +kernel) ?_
  simp only [m251, EV, Nat.reduceEqDiff, Nat.reduceBEq, Nat.reduceLT, Nat.reduceLeDiff, Nat.reduceAdd, Nat.reduceSub, reduceIte]
  refine awp_loop (fun i : Nat => i ≤ l.length ∧ ∀ j (hj : j < l.length), j < i → q l[j] = false) (fun i => stl [(0, .fsl 3 (l.map Par.z)), (1, .clo f caps), (7, .v (.int .i64 (l.length : Int))), (8, .v (.int .i64 (i : Int)))]) (fun i => l.length - i) 0 ⟨Nat.zero_le _, fun j hj h => absurd h (by omega)⟩ ?_ ?_
  · simp only [hp, hb, hk, EV, Nat.reduceEqDiff, Nat.reduceBEq, Nat.reduceLT, Nat.reduceLeDiff, Nat.reduceAdd, Nat.reduceSub, reduceIte]
    rfl
  · rintro i ⟨hi, hno⟩
    simp only [EV, Nat.reduceEqDiff, Nat.reduceBEq, Nat.reduceLT, Nat.reduceLeDiff, Nat.reduceAdd, Nat.reduceSub, reduceIte]
    refine cK_cut (fun h => ?_) (fun h => ?_)
    · have h1 : i < l.length := by simpa using h
      have h2 : (i : Int) < (l.length : Int) := by omega
      simp only [ParE, nth_map h1, h2, hp, hb, EV, Nat.reduceEqDiff, Nat.reduceBEq, Nat.reduceLT, Nat.reduceLeDiff, Nat.reduceAdd, Nat.reduceSub, reduceIte]
      refine callK_i (hq l[i] (List.getElem_mem h1)) ?_
      simp only [EV, Nat.reduceEqDiff, Nat.reduceBEq, Nat.reduceLT, Nat.reduceLeDiff, Nat.reduceAdd, Nat.reduceSub, reduceIte]
      refine cK_cut (fun h => ?_) (fun h => ?_)
      · simp only [EV, Nat.reduceEqDiff, Nat.reduceBEq, Nat.reduceLT, Nat.reduceLeDiff, Nat.reduceAdd, Nat.reduceSub, reduceIte]
        simp only [findI_at h1 h hno, EV, Nat.reduceEqDiff, Nat.reduceBEq, Nat.reduceLT, Nat.reduceLeDiff, Nat.reduceAdd, Nat.reduceSub, reduceIte, evRE, retVC, cellV', evR, nfz, nfzs, nfzss, List.contains_nil, List.contains_cons, Bool.or_false, or_true]
      · simp only [hp, hb, hk, EV, Nat.reduceEqDiff, Nat.reduceBEq, Nat.reduceLT, Nat.reduceLeDiff, Nat.reduceAdd, Nat.reduceSub, reduceIte]
        rw [w64 _ (by omega)]
        refine ⟨i + 1, ⟨by omega, ?_⟩, by omega, rfl⟩
        intro j hj hji
        by_cases e : j = i
        · subst e; exact h
        · exact hno j hj (by omega)
    · have h1 : i = l.length := by have : ¬ (i : Int) < l.length := by simpa using h
                                   omega
      subst h1
      simp only [EV, Nat.reduceEqDiff, Nat.reduceBEq, Nat.reduceLT, Nat.reduceLeDiff, Nat.reduceAdd, Nat.reduceSub, reduceIte]
      simp only [findI_no (fun j hj => hno j hj hj), EV, Nat.reduceEqDiff, Nat.reduceBEq, Nat.reduceLT, Nat.reduceLeDiff, Nat.reduceAdd, Nat.reduceSub, reduceIte, evRE, retVC, cellV', evR, nfz, nfzs, nfzss, List.contains_nil, List.contains_cons, Bool.or_false, or_true]
def m210 : MC :=
 (.seq (.reg [Xb 4 (.asg .fb)]) (.seq (.reg [Xm 5 0, Xm 6 1, Xb 7 (.call (.fn 251) false [.lend (.t 5), .lend (.t 6)]), Xq 8 (.bin false .geq (.t 7) (.i 0)), Xa 4 8]) .ret))
theorem d210 (l : List Par) (hl : l.length < 9223372036854775807) (f : Nat) (caps : List AV) (q : Par → Bool) (hp : plains caps = true) (hb : bares caps = true) (hk : ∀ K, killVs K caps = caps) (hf : ∀ (st : St), frzBs st caps = caps)
    (hq : ∀ s ∈ l, Does Go.Proofs.Tryz.prog f (.agg s.z :: caps) false (.v (.bool (q s))) (.dead :: caps.map fun _ => .dead)) :
    Does Go.Proofs.Tryz.prog 210 [.fsl 3 (l.map Par.z), .clo f caps] false (.v (.bool (l.any q))) [.dead, .dead] := by
  refine does_intro (mc := m210) (N := 9) (rs := [4]) (fx := []) 2 rfl (by decide +kernel) ?_
  simp only [m210, hp, hb, hk, hf, EV, Nat.reduceEqDiff, Nat.reduceBEq, Nat.reduceLT, Nat.reduceLeDiff, Nat.reduceAdd, Nat.reduceSub, reduceIte]
  refine callK_i (d251 l hl f caps q hp hb hk hf hq) ?_
  simp only [EV, Nat.reduceEqDiff, Nat.reduceBEq, Nat.reduceLT, Nat.reduceLeDiff, Nat.reduceAdd, Nat.reduceSub, reduceIte]
  simp only [findI_any, EV, Nat.reduceEqDiff, Nat.reduceBEq, Nat.reduceLT, Nat.reduceLeDiff, Nat.reduceAdd, Nat.reduceSub, reduceIte, evRE, retVC, cellV', evR, nfz, nfzs, nfzss, List.contains_nil, List.contains_cons, Bool.or_false, or_true]
end Go.AM
