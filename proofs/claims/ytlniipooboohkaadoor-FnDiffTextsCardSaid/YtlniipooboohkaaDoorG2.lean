/- Contracts of functions of the given program, for the law FnDiffTexts: what they return and what they write, under the bounds that each theorem states. -/
import Derived.Test.YtlniipooboohkaaDoorG1
namespace Go.AM
set_option linter.unusedVariables false
set_option linter.unusedSimpArgs false
theorem modify_get {l : List (List AV)} {i : Nat} {a : List AV} {f : List AV → List AV} (h : l[i]? = some a) : l.modify i f = l.set i (f a) := by
  apply List.ext_getElem?
  intro j
  rw [List.getElem?_modify]
  by_cases hj : i = j
  · subst hj
    have hi : i < l.length := by
      rcases Nat.lt_or_ge i l.length with h1 | h1
      · exact h1
      · rw [List.getElem?_eq_none h1] at h; cases h
    have hl : l[i] = a := by rw [List.getElem?_eq_getElem hi] at h; exact Option.some.inj h
    simp [hi, hl]
  · simp [hj, List.getElem?_set_ne hj]
def iv (n : Int) : List AV := [.v (.int .i64 n)]
def m37 : MC :=
 (.seq (.reg [Xb 4 (.asg (.i 0))]) (.seq (.reg [Xm 5 1, Xm 6 0, Xm 7 1, Xn 8 7, Xb 9 (.call (.fn 36) false [.io (.t 6), .lend (.t 8)]), Xi 10 1 5 9, Xl 11 1 10, Xa 4 11]) .ret))
theorem p37 (c : Cur) (n : Int) (l : List Int) (hc : c.ok n) (hn : n ≤ 1152921504606846) (h0 : 0 < l.length) (hk : (l.length : Int) ≤ 1048577) :
    Draws 37 [.fsl 1 (l.map iv)] c n 2 fun r => ∃ s ∈ l, r = .v (.int .i64 s) := by
  refine doesE_intro (mc := m37) (N := 12) (rs := [4]) (fx := [0]) 2 rfl (by decide +kernel) ?_
  simp only [m37, EV, Nat.reduceEqDiff, Nat.reduceBEq, Nat.reduceLT, Nat.reduceLeDiff, Nat.reduceAdd, Nat.reduceSub, reduceIte]
  refine (p36 c n l.length hc hn hk).call (fun _ => rfl) ?_
  rintro _ c' hc' ⟨v, rfl, v0, v1, v2⟩
  have hv : v < (l.length : Int) := by
    by_cases h : 1 < (l.length : Int)
    · exact v1 h
    · have := v2 (by omega); omega
  have hn' : v.toNat < l.length := by omega
  simp only [v0, hv, nth_map hn', iv, EV, Nat.reduceEqDiff, Nat.reduceBEq, Nat.reduceLT, Nat.reduceLeDiff, Nat.reduceAdd, Nat.reduceSub, reduceIte]
  simp only [EV, Nat.reduceEqDiff, Nat.reduceBEq, Nat.reduceLT, Nat.reduceLeDiff, Nat.reduceAdd, Nat.reduceSub, reduceIte, evRE, retVC, cellV', evR, nfz, nfzs, nfzss, List.contains_nil, List.contains_cons, Bool.or_false, or_true]
  exact ⟨c', rfl, hc', _, List.getElem_mem hn', rfl⟩
def Change.dr (s : Change) : Prop := s.ok ∧ (s.name.size : Int) ≤ 1048576
def drNames : List ByteArray := [⟨#[80]⟩, ⟨#[82]⟩, ⟨#[107]⟩, ⟨#[110]⟩, ⟨#[111, 49]⟩, ⟨#[111, 50]⟩, ⟨#[118]⟩]
theorem drNames_ok : ∀ b ∈ drNames, b.size ≤ 2 := by decide
theorem Change.dr_mk {b : ByteArray} {k : Int} (h : b.size ≤ 1048576) (h0 : 0 ≤ k) (h1 : k ≤ 1000) : Change.dr ⟨b, k⟩ := by
  simp only [Change.dr, Change.ok]; refine ⟨⟨by omega, by omega, by omega⟩, by omega⟩
theorem dr_z {s : Change} (h : s.dr) : Change.dr ⟨⟨#[122]⟩, s.kind⟩ := by
  have e : ((⟨#[122]⟩ : ByteArray).size : Nat) = 1 := rfl
  simp only [Change.dr, Change.ok, e] at h ⊢
  exact ⟨⟨by omega, h.1.2⟩, by omega⟩
theorem dr_k {s : Change} (h : s.dr) {k : Int} (h0 : 0 ≤ k) (h1 : k ≤ 4) : Change.dr ⟨s.name, k⟩ := by
  simp only [Change.dr, Change.ok] at h ⊢
  exact ⟨⟨h.1.1, by omega, by omega⟩, h.2⟩
def m25 : MC :=
 (.seq (.reg [Xb 2 (.asg (.nils 37 2))]) (.seq (.reg [Xb 3 (.asg (.nils 37 2))]) (.seq (.seq (.reg [Xb 6 (.bsl 9 1 [.z #[80], .z #[82], .z #[107], .z #[110], .z #[111, 49], .z #[111, 50], .z #[118]]), Xn 7 6, Xq 8 (.mov (.i 0))]) (.block 0 (.loop [0, 3, 6, 7, 8, 21] (.seq (.reg [Xq 9 (.bin false .lss (.t 8) (.t 7))]) (.seq (.cond (.t 9) .skip (.exit 0)) (.join [0, 3, 6, 7, 8, 21] (.block 1 (.seq
 (.reg [Xi 10 1 6 8, Xl 11 1 10, Xa 5 11]) (.seq (.reg [Xm 12 0, Xb 13 (.call (.fn 26) false [.io (.t 12), .lend (.i 3)])]) (.cond (.t 13) (.reg [Xm 14 3, Xm 15 5, Xm 16 0, Xb 17 (.call (.fn 36) false [.io (.t 16), .lend (.i 3)]), Xq 18 (.bin false .add (.i 1) (.t 17)), Xb 19 (.build [0, 1] [0, 1] [1, 1] [.z, .i] [.t 15, .t 18]), Xb 20 (.bsl 37 2 [.t 19]), Xb 21 (.app true 37 2 24 (.t 14) (.t 20)),
 Xa 3 21]) .skip)))) (.reg [Xq 22 (.bin false .add (.t 8) (.i 1)), Xm 8 22]))))))) (.join [0, 3, 21] (.seq (.reg [Xm 23 3, Xn 24 23, Xq 25 (.bin false .gtr (.t 24) (.i 0))]) (.cond (.t 25) (.seq (.reg [Xm 26 0, Xb 27 (.call (.fn 36) false [.io (.t 26), .lend (.i 20)])]) (.block 2 (.seq (.reg [Xq 29 (.bin false .eql (.t 27) (.i 0)), Xa 28 29]) (.cond (.t 28) (.reg [Xm 30 3, Xm 31 0, Xb 32 (.bsl 3 1
 [.i 0, .i 4]), Xb 33 (.call (.fn 37) false [.io (.t 31), .give (.t 32)]), Xq 34 (.iad 2 (.t 30) (.i 0)), Xf 35 1 34, Xz (.store 1 (.t 35) (.t 33))]) (.seq (.reg [Xq 37 (.bin false .eql (.t 27) (.i 1)), Xa 36 37]) (.cond (.t 36) (.reg [Xm 38 3, Xq 39 (.iad 2 (.t 38) (.i 0)), Xf 40 0 39, Xz (.store 1 (.t 40) (.z #[122]))]) .skip)))))) .skip)) (.seq (.reg [Xm 41 3, Xa 2 41]) .ret)))))
set_option maxHeartbeats 1000000 in
set_option maxRecDepth 100000 in
theorem p25 (c : Cur) (n : Int) (hc : c.ok n) (hn : n ≤ 1000000000000) : Draws 25 [] c n 40 fun r => ∃ l : List Change, r = .usl 37 2 (l.map Change.c) ∧ l.length ≤ 7 ∧ ∀ s ∈ l, s.dr := by
  refine doesE_intro (mc := m25) (N := 42) (rs := [2]) (fx := [0]) 1 rfl (by decide +kernel) ?_
  simp only [m25, EV, Nat.reduceEqDiff, Nat.reduceBEq, Nat.reduceLT, Nat.reduceLeDiff, Nat.reduceAdd, Nat.reduceSub, reduceIte]
  refine awp_loop (fun p : Nat × List Change × Cur => p.1 ≤ 7 ∧ p.2.1.length ≤ p.1 ∧ (∀ s ∈ p.2.1, s.dr) ∧ p.2.2.ok (n + 4 * p.1)) (fun p => stl [(0, .box 47 p.2.2.z), (3, .usl 37 2 (p.2.1.map Change.c)), (6, .usl 9 1 (drNames.map strC)), (7, .v (.int .i64 7)), (8, .v (.int .i64 (p.1 : Int))), (21, .dead)]) (fun p => 7 - p.1) (0, [], c) ⟨by simp, by simp, by simp, by simpa using hc⟩ ?_ ?_
  · simp only [EV, Nat.reduceEqDiff, Nat.reduceBEq, Nat.reduceLT, Nat.reduceLeDiff, Nat.reduceAdd, Nat.reduceSub, reduceIte]
    rfl
  · rintro ⟨i, l, c1⟩ ⟨p0, p1, p2, p3⟩
    simp only at p0 p1 p2 p3
    have hd7 : drNames.length = 7 := rfl
    simp only [EV, Nat.reduceEqDiff, Nat.reduceBEq, Nat.reduceLT, Nat.reduceLeDiff, Nat.reduceAdd, Nat.reduceSub, reduceIte]
    refine cK_cut (fun h => ?_) (fun h => ?_)
    · have h1 : i < 7 := by have : (i : Int) < 7 := by simpa using h
                            omega
      have h2 : (i : Int) < 7 := by omega
      have h3 : i < drNames.length := by omega
      have h4 : (i : Int) < ((drNames.length : Nat) : Int) := by omega
      have hb := drNames_ok _ (List.getElem_mem h3)
      have wi := w64 ((i : Int) + 1) (by omega)
      have htk : List.take l.length (l.map Change.c) = l.map Change.c := List.take_of_length_le (by simp)
      clear h
      refine awp_join (fun q : List Change × Cur => q.1.length ≤ i + 1 ∧ (∀ s ∈ q.1, s.dr) ∧ q.2.ok (n + 4 * (i + 1))) (fun q => stl [(0, .box 47 q.2.z), (3, .usl 37 2 (q.1.map Change.c)), (6, .usl 9 1 (drNames.map strC)), (7, .v (.int .i64 7)), (8, .v (.int .i64 (i : Int))), (21, .dead)]) ?_ ?_
      · simp only [strCE, nth_map h3, h2, h4, strC, hd7, EV, Nat.reduceEqDiff, Nat.reduceBEq, Nat.reduceLT, Nat.reduceLeDiff, Nat.reduceAdd, Nat.reduceSub, reduceIte]
        repeat (refine And.intro (by first | exact h3 | omega) ?_)
        refine (p26 c1 _ 3 p3 (by omega) (by omega)).call (fun _ => rfl) ?_
        rintro _ c2 hc2 ⟨b, rfl⟩
        simp only [EV, Nat.reduceEqDiff, Nat.reduceBEq, Nat.reduceLT, Nat.reduceLeDiff, Nat.reduceAdd, Nat.reduceSub, reduceIte]
        cases b
        · simp only [EV, Nat.reduceEqDiff, Nat.reduceBEq, Nat.reduceLT, Nat.reduceLeDiff, Nat.reduceAdd, Nat.reduceSub, reduceIte]
          exact ⟨(l, c2), ⟨by simp only; omega, p2, hc2.up (by omega)⟩, rfl⟩
        · simp only [EV, Nat.reduceEqDiff, Nat.reduceBEq, Nat.reduceLT, Nat.reduceLeDiff, Nat.reduceAdd, Nat.reduceSub, reduceIte]
          refine (p36 c2 _ 3 hc2 (by omega) (by omega)).call (fun _ => rfl) ?_
          rintro _ c3 hc3 ⟨v, rfl, v0, v1, _⟩
          have v2 := v1 (by omega)
          have wv := w64 (1 + v) (by omega)
          simp only [wv, htk, EV, Nat.reduceEqDiff, Nat.reduceBEq, Nat.reduceLT, Nat.reduceLeDiff, Nat.reduceAdd, Nat.reduceSub, reduceIte]
          repeat (refine And.intro (by omega) ?_)
          refine ⟨(l ++ [⟨drNames[i], 1 + v⟩], c3), ⟨by simp only [List.length_append, List.length_cons, List.length_nil]; omega, ?_, hc3.up (by omega)⟩, ?_⟩
          · intro s hs
            rcases List.mem_append.1 hs with h | h
            · exact p2 s h
            · simp at h; subst h; exact Change.dr_mk (by omega) (by omega) (by omega)
          · simp only [List.map_append, List.map_cons, List.map_nil, Change.c]
      · rintro ⟨q1, q2⟩ ⟨q3, q4, q5⟩
        simp only at q3 q4 q5
        simp only [wi, EV, Nat.reduceEqDiff, Nat.reduceBEq, Nat.reduceLT, Nat.reduceLeDiff, Nat.reduceAdd, Nat.reduceSub, reduceIte]
        refine ⟨(i + 1, q1, q2), ⟨by simp only; omega, by simp only; omega, q4, ?_⟩, by simp only; omega, rfl⟩
        exact q5
    · have h1 : i = 7 := by have : ¬ (i : Int) < 7 := by simpa using h
                            omega
      subst h1
      clear h
      simp only [EV, Nat.reduceEqDiff, Nat.reduceBEq, Nat.reduceLT, Nat.reduceLeDiff, Nat.reduceAdd, Nat.reduceSub, reduceIte]
      refine awp_join (fun q : List Change × Cur => q.1.length ≤ 7 ∧ (∀ s ∈ q.1, s.dr) ∧ q.2.ok (n + 36)) (fun q => stl [(0, .box 47 q.2.z), (3, .usl 37 2 (q.1.map Change.c)), (21, .dead)]) ?_ ?_
      · simp only [EV, Nat.reduceEqDiff, Nat.reduceBEq, Nat.reduceLT, Nat.reduceLeDiff, Nat.reduceAdd, Nat.reduceSub, reduceIte]
        rcases f0 : decide (0 < (l.length : Int)) with _ | _
        · simp only [f0, EV, Nat.reduceEqDiff, Nat.reduceBEq, Nat.reduceLT, Nat.reduceLeDiff, Nat.reduceAdd, Nat.reduceSub, reduceIte]
          exact ⟨(l, c1), ⟨p1, p2, p3.up (by omega)⟩, rfl⟩
        have f1 : 0 < l.length := by have : (0 : Int) < l.length := by simpa using f0
                                     omega
        have f2 : (0 : Int) < l.length := by omega
        have f3 : 0 < (l.map Change.c).length := by simpa using f1
        have h1 : (l.map Change.c)[0]? = some (Change.c l[0]) := by simp [f1]
        simp only [f0, EV, Nat.reduceEqDiff, Nat.reduceBEq, Nat.reduceLT, Nat.reduceLeDiff, Nat.reduceAdd, Nat.reduceSub, reduceIte]
        refine (p36 c1 _ 20 p3 (by omega) (by omega)).call (fun _ => rfl) ?_
        rintro _ c2 hc2 ⟨v, rfl, v0, _⟩
        simp only [EV, Nat.reduceEqDiff, Nat.reduceBEq, Nat.reduceLT, Nat.reduceLeDiff, Nat.reduceAdd, Nat.reduceSub, reduceIte]
        have fin : ∀ (c3 : Cur) (s : Change), c3.ok (n + 36) → s.dr → ∃ q : List Change × Cur, (q.1.length ≤ 7 ∧ (∀ s ∈ q.1, s.dr) ∧ q.2.ok (n + 36)) ∧ stl [(0, AV.box 47 c3.z), (3, .usl 37 2 ((l.map Change.c).set 0 s.c)), (21, .dead)] = stl [(0, .box 47 q.2.z), (3, .usl 37 2 (q.1.map Change.c)), (21, .dead)] := by
          intro c3 s hc3 hs
          refine ⟨(l.set 0 s, c3), ⟨by simp only [List.length_set]; exact p1, fun x hx => ?_, hc3⟩, by rw [List.map_set]⟩
          rcases List.mem_or_eq_of_mem_set hx with h | h
          · exact p2 x h
          · rw [h]; exact hs
        rcases e0 : (v == 0) with _ | _
        rotate_left
        · simp only [e0, f1, f2, f3, nth_map f1, nth_set f3, List.getElem?_set_self f3, h1, modify_get h1, modify_set, Change.c, EV, Nat.reduceEqDiff, Nat.reduceBEq, Nat.reduceLT, Nat.reduceLeDiff, Nat.reduceAdd, Nat.reduceSub, reduceIte]
          have pa := p37 c2 (n + 4 * 7 + 2) [0, 4] hc2 (by omega) (by decide) (by decide)
          simp only [iv, EV, Nat.reduceEqDiff, Nat.reduceBEq, Nat.reduceLT, Nat.reduceLeDiff, Nat.reduceAdd, Nat.reduceSub, reduceIte] at pa
          refine pa.call (fun _ => rfl) ?_
          rintro _ c3 hc3 ⟨u, hu, rfl⟩
          simp only [e0, f1, f2, f3, nth_map f1, nth_set f3, List.getElem?_set_self f3, h1, modify_get h1, modify_set, Change.c, EV, Nat.reduceEqDiff, Nat.reduceBEq, Nat.reduceLT, Nat.reduceLeDiff, Nat.reduceAdd, Nat.reduceSub, reduceIte]
          have hu2 : 0 ≤ u ∧ u ≤ 4 := by simp at hu; omega
          refine ⟨by omega, ?_⟩
          exact fin c3 ⟨l[0].name, u⟩ (hc3.up (by omega)) (dr_k (p2 _ (List.getElem_mem f1)) hu2.1 hu2.2)
        · rcases e1 : (v == 1) with _ | _
          rotate_left
          · simp only [e0, e1, f1, f2, f3, nth_map f1, nth_set f3, List.getElem?_set_self f3, h1, modify_get h1, modify_set, Change.c, EV, Nat.reduceEqDiff, Nat.reduceBEq, Nat.reduceLT, Nat.reduceLeDiff, Nat.reduceAdd, Nat.reduceSub, reduceIte]
            refine ⟨by omega, ?_⟩
            exact fin c2 ⟨⟨#[122]⟩, l[0].kind⟩ (hc2.up (by omega)) (dr_z (p2 _ (List.getElem_mem f1)))
          · simp only [e0, e1, EV, Nat.reduceEqDiff, Nat.reduceBEq, Nat.reduceLT, Nat.reduceLeDiff, Nat.reduceAdd, Nat.reduceSub, reduceIte]
            exact ⟨(l, c2), ⟨p1, p2, hc2.up (by omega)⟩, rfl⟩
      · rintro ⟨q1, q2⟩ ⟨q3, q4, q5⟩
        simp only at q3 q4 q5
        simp only [EV, Nat.reduceEqDiff, Nat.reduceBEq, Nat.reduceLT, Nat.reduceLeDiff, Nat.reduceAdd, Nat.reduceSub, reduceIte]
        simp only [Change.nfz, evRM, EV, Nat.reduceEqDiff, Nat.reduceBEq, Nat.reduceLT, Nat.reduceLeDiff, Nat.reduceAdd, Nat.reduceSub, reduceIte, evRE, retVC, cellV', evR, nfz, nfzs, nfzss, List.contains_nil, List.contains_cons, Bool.or_false, or_true]
        exact ⟨q2, rfl, q5.up (by omega), q1, rfl, q3, q4⟩
theorem strA_size (n : Int) : (strA [n]).size = 1 := by
  unfold strA
  simp [ByteArray.size]
def m27 : MC :=
 (.seq (.reg [Xb 6 (.asg (.z #[]))]) (.seq (.seq (.reg [Xm 10 0, Xb 11 (.call (.fn 36) false [.io (.t 10), .lend (.i 2)]), Xq 12 (.bin false .add (.i 1) (.t 11)), Xa 7 12]) (.block 0 (.loop [0, 1, 2, 7] (.seq (.seq (.reg [Xm 13 7, Xq 14 (.bin false .gtr (.t 13) (.i 0)), Xm 15 14, Xt 16 15 (.mov (.t 1)), Xt 17 15 (.len true (.t 16)), Xt 18 15 (.bin false .gtr (.t 17) (.i 0)), Xq 19 (.pick (.t 15)
 (.t 18) .fb)]) (.cond (.t 19) .skip (.exit 0))) (.join [0, 1, 2, 7] (.block 1 (.seq (.reg [Xm 22 0, Xm 23 1, Xq 24 (.len true (.t 23)), Xb 25 (.call (.fn 36) false [.io (.t 22), .lend (.t 24)]), Xa 8 25]) (.seq (.reg [Xm 26 2, Xm 27 0, Xm 28 2, Xq 29 (.len true (.t 28)), Xb 30 (.call (.fn 36) false [.io (.t 27), .lend (.t 29)]), Xq 31 (.idx (.t 26) (.t 30)), Xb 32 (.bsl 5 1 [.t 31]), Xq 33 (.b2s
 (.t 32)), Xa 9 33]) (.seq (.reg [Xm 34 0, Xb 35 (.call (.fn 36) false [.io (.t 34), .lend (.i 3)])]) (.block 2 (.seq (.reg [Xq 45 (.bin false .eql (.t 35) (.i 0)), Xa 44 45]) (.cond (.t 44) (.dreg [Xm 46 1, Xm 47 8, Xq 48 (.slc true 1 (.t 46) none (some (.t 47))), Xm 49 9, Xq 50 (.bin false .add (.t 48) (.t 49)), Xm 51 1, Xm 52 8, Xq 53 (.slc true 1 (.t 51) (some (.t 52)) none), Xq 54 (.bin false
 .add (.t 50) (.t 53)), Xm 1 54]) (.seq (.reg [Xq 56 (.bin false .eql (.t 35) (.i 1)), Xa 55 56]) (.cond (.t 55) (.dreg [Xm 57 1, Xm 58 8, Xq 59 (.slc true 1 (.t 57) none (some (.t 58))), Xm 60 9, Xq 61 (.bin false .add (.t 59) (.t 60)), Xm 62 1, Xm 63 8, Xq 64 (.bin false .add (.t 63) (.i 1)), Xq 65 (.slc true 1 (.t 62) (some (.t 64)) none), Xq 66 (.bin false .add (.t 61) (.t 65)), Xm 1 66])
 (.dreg [Xm 36 1, Xm 37 8, Xq 38 (.slc true 1 (.t 36) none (some (.t 37))), Xm 39 1, Xm 40 8, Xq 41 (.bin false .add (.t 40) (.i 1)), Xq 42 (.slc true 1 (.t 39) (some (.t 41)) none), Xq 43 (.bin false .add (.t 38) (.t 42)), Xm 1 43])))))))))) (.reg [Xm 20 7, Xq 21 (.bin false .sub (.t 20) (.i 1)), Xa 7 21])))))) (.seq (.reg [Xm 67 1, Xa 6 67]) .ret)))
set_option maxHeartbeats 2000000 in
set_option maxRecDepth 100000 in
theorem p27 (c : Cur) (n : Int) (hc : c.ok n) (hn : n ≤ 1000000000000) (t w : ByteArray) (ht : (t.size : Int) ≤ 1000000) (hw0 : 0 < w.size) (hw : (w.size : Int) ≤ 1000000) :
    Draws 27 [.v (.string t), .v (.string w)] c n 20 fun r => ∃ s : ByteArray, r = .v (.string s) ∧ (s.size : Int) ≤ 1000002 := by
  refine doesE_intro (mc := m27) (N := 68) (rs := [6]) (fx := [0]) 3 rfl (by decide +kernel) ?_
  simp only [m27, EV, Nat.reduceEqDiff, Nat.reduceBEq, Nat.reduceLT, Nat.reduceLeDiff, Nat.reduceAdd, Nat.reduceSub, reduceIte]
  refine (p36 c _ 2 hc (by omega) (by omega)).call (fun _ => rfl) ?_
  rintro _ c1 hc1 ⟨v, rfl, v0, v1, _⟩
  have v2 := v1 (by omega)
  have wv := w64 (1 + v) (by omega)
  simp only [wv, EV, Nat.reduceEqDiff, Nat.reduceBEq, Nat.reduceLT, Nat.reduceLeDiff, Nat.reduceAdd, Nat.reduceSub, reduceIte]
  refine awp_loop (fun p : Int × ByteArray × Cur => 0 ≤ p.1 ∧ p.1 ≤ 2 ∧ (p.2.1.size : Int) ≤ 1000002 - p.1 ∧ p.2.2.ok (n + 2 + 6 * (2 - p.1))) (fun p => stl [(0, .box 47 p.2.2.z), (1, .v (.string p.2.1)), (2, .v (.string w)), (7, .v (.int .i64 p.1))]) (fun p => p.1.toNat) (1 + v, t, c1) ⟨by simp only; omega, by simp only; omega, by simp only; omega, hc1.up (by simp only; omega)⟩ ?_ ?_
  · simp only [EV, Nat.reduceEqDiff, Nat.reduceBEq, Nat.reduceLT, Nat.reduceLeDiff, Nat.reduceAdd, Nat.reduceSub, reduceIte]
  rintro ⟨k, s, c2⟩ ⟨k0, k1, k2, hc2⟩
  simp only at k0 k1 k2 hc2
  have done_ : ∀ (c3 : Cur), c3.ok (n + 20) → ∃ c' : Cur, [AV.box 47 c3.z, AV.dead, AV.dead] = AV.box 47 c'.z :: List.map (fun _ => AV.dead) [AV.v (.string t), AV.v (.string w)] ∧ c'.ok (n + 20) ∧ ∃ s' : ByteArray, AV.v (.string s) = .v (.string s') ∧ (s'.size : Int) ≤ 1000002 :=
    fun c3 h3 => ⟨c3, rfl, h3, s, rfl, by omega⟩
  simp only [EV, Nat.reduceEqDiff, Nat.reduceBEq, Nat.reduceLT, Nat.reduceLeDiff, Nat.reduceAdd, Nat.reduceSub, reduceIte]
  rcases d1 : decide (0 < k) with _ | _
  · simp only [d1, EV, Nat.reduceEqDiff, Nat.reduceBEq, Nat.reduceLT, Nat.reduceLeDiff, Nat.reduceAdd, Nat.reduceSub, reduceIte]
    simp only [EV, Nat.reduceEqDiff, Nat.reduceBEq, Nat.reduceLT, Nat.reduceLeDiff, Nat.reduceAdd, Nat.reduceSub, reduceIte, evRE, retVC, cellV', evR, nfz, nfzs, nfzss, List.contains_nil, List.contains_cons, Bool.or_false, or_true]
    exact done_ c2 (hc2.up (by omega))
  have k3 : 0 < k := by simpa using d1
  simp only [d1, EV, Nat.reduceEqDiff, Nat.reduceBEq, Nat.reduceLT, Nat.reduceLeDiff, Nat.reduceAdd, Nat.reduceSub, reduceIte]
  rcases d2 : decide (0 < (s.size : Int)) with _ | _
  · simp only [d2, EV, Nat.reduceEqDiff, Nat.reduceBEq, Nat.reduceLT, Nat.reduceLeDiff, Nat.reduceAdd, Nat.reduceSub, reduceIte]
    simp only [EV, Nat.reduceEqDiff, Nat.reduceBEq, Nat.reduceLT, Nat.reduceLeDiff, Nat.reduceAdd, Nat.reduceSub, reduceIte, evRE, retVC, cellV', evR, nfz, nfzs, nfzss, List.contains_nil, List.contains_cons, Bool.or_false, or_true]
    exact done_ c2 (hc2.up (by omega))
  have s0 : (0 : Int) < s.size := by simpa using d2
  simp only [d2, EV, Nat.reduceEqDiff, Nat.reduceBEq, Nat.reduceLT, Nat.reduceLeDiff, Nat.reduceAdd, Nat.reduceSub, reduceIte]
  refine awp_join (fun p : ByteArray × Cur => (p.1.size : Int) ≤ 1000002 - (k - 1) ∧ p.2.ok (n + 2 + 6 * (2 - (k - 1)))) (fun p => stl [(0, .box 47 p.2.z), (1, .v (.string p.1)), (2, .v (.string w)), (7, .v (.int .i64 k))]) ?_ ?_
  · simp only [EV, Nat.reduceEqDiff, Nat.reduceBEq, Nat.reduceLT, Nat.reduceLeDiff, Nat.reduceAdd, Nat.reduceSub, reduceIte]
    refine (p36 c2 _ (s.size : Int) hc2 (by omega) (by omega)).call (fun _ => rfl) ?_
    rintro _ c3 hc3 ⟨i, rfl, i0, i1, i2⟩
    simp only [EV, Nat.reduceEqDiff, Nat.reduceBEq, Nat.reduceLT, Nat.reduceLeDiff, Nat.reduceAdd, Nat.reduceSub, reduceIte]
    refine (p36 c3 _ (w.size : Int) hc3 (by omega) (by omega)).call (fun _ => rfl) ?_
    rintro _ c4 hc4 ⟨j, rfl, j0, j1, j2⟩
    have hi : i < (s.size : Int) := by
      by_cases h : 1 < (s.size : Int)
      · exact i1 h
      · have := i2 (by omega); omega
    have hj : j < (w.size : Int) := by
      by_cases h : 1 < (w.size : Int)
      · exact j1 h
      · have := j2 (by omega); omega
    obtain ⟨i, rfl⟩ := Int.eq_ofNat_of_zero_le i0
    have wi := w64 ((i : Int) + 1) (by omega)
    have ws := sAt_rng w j
    simp only [j0, hj, ws.1, ws.2, wi, EV, Nat.reduceEqDiff, Nat.reduceBEq, Nat.reduceLT, Nat.reduceLeDiff, Nat.reduceAdd, Nat.reduceSub, reduceIte]
    refine (p36 c4 _ 3 hc4 (by omega) (by omega)).call (fun _ => rfl) ?_
    rintro _ c5 hc5 ⟨q, rfl, _⟩
    have hsz := strA_size (sAt w j)
    have ti : ((i : Nat) : Int).toNat = i := rfl
    have ti1 : ((i : Nat) + 1 : Int).toNat = i + 1 := rfl
    have x1 : (s.extract 0 i).size = i := by rw [ByteArray.size_extract]; omega
    have x2 : (s.extract i s.size).size = s.size - i := by rw [ByteArray.size_extract]; omega
    have x3 : (s.extract (i + 1) s.size).size = s.size - (i + 1) := by rw [ByteArray.size_extract]; omega
    simp only [EV, Nat.reduceEqDiff, Nat.reduceBEq, Nat.reduceLT, Nat.reduceLeDiff, Nat.reduceAdd, Nat.reduceSub, reduceIte]
    have fin : ∀ y : ByteArray, (y.size : Int) ≤ s.size + 1 → ∃ p : ByteArray × Cur, ((p.1.size : Int) ≤ 1000002 - (k - 1) ∧ p.2.ok (n + 2 + 6 * (2 - (k - 1)))) ∧ stl [(0, AV.box 47 c5.z), (1, .v (.string y)), (2, .v (.string w)), (7, .v (.int .i64 k))] = stl [(0, .box 47 p.2.z), (1, .v (.string p.1)), (2, .v (.string w)), (7, .v (.int .i64 k))] :=
      fun y hy => ⟨(y, c5), ⟨by simp only; omega, hc5.up (by omega)⟩, rfl⟩
    rcases e0 : (q == 0) with _ | _
    rotate_left
    · simp only [e0, ti, ti1, wi, ByteArray.size_append, x1, x2, x3, hsz, EV, Nat.reduceEqDiff, Nat.reduceBEq, Nat.reduceLT, Nat.reduceLeDiff, Nat.reduceAdd, Nat.reduceSub, reduceIte]
      repeat (refine And.intro (by omega) ?_)
      refine fin _ ?_
      simp only [ByteArray.size_append, x1, x2, x3, hsz]; omega
    rcases e1 : (q == 1) with _ | _
    rotate_left
    · simp only [e0, e1, ti, ti1, wi, ByteArray.size_append, x1, x2, x3, hsz, EV, Nat.reduceEqDiff, Nat.reduceBEq, Nat.reduceLT, Nat.reduceLeDiff, Nat.reduceAdd, Nat.reduceSub, reduceIte]
      repeat (refine And.intro (by omega) ?_)
      refine fin _ ?_
      simp only [ByteArray.size_append, x1, x2, x3, hsz]; omega
    · simp only [e0, e1, ti, ti1, wi, ByteArray.size_append, x1, x2, x3, hsz, EV, Nat.reduceEqDiff, Nat.reduceBEq, Nat.reduceLT, Nat.reduceLeDiff, Nat.reduceAdd, Nat.reduceSub, reduceIte]
      repeat (refine And.intro (by omega) ?_)
      refine fin _ ?_
      simp only [ByteArray.size_append, x1, x2, x3, hsz]; omega
  · rintro ⟨y, c6⟩ ⟨h1, h2⟩
    simp only at h1 h2
    have wk := w64 (k - 1) (by omega)
    simp only [wk, EV, Nat.reduceEqDiff, Nat.reduceBEq, Nat.reduceLT, Nat.reduceLeDiff, Nat.reduceAdd, Nat.reduceSub, reduceIte]
    exact ⟨(k - 1, y, c6), ⟨by simp only; omega, by simp only; omega, h1, h2⟩, by simp only; omega, rfl⟩
def m11 : MC :=
 (.seq (.reg [Xb 2 (.asg (.nils 37 2))]) (.seq (.reg [Xm 4 0, Xb 5 (.build [0] [0] [1] [.s 5 1, .i, .v (.int .u64 0)] [.t 4]), Xb 6 (.box 47 (.t 5)), Xa 3 6]) (.seq (.reg [Xm 7 3, Xb 8 (.call (.fn 25) false [.io (.t 7)]), Xa 2 8]) .ret)))
set_option maxRecDepth 100000 in
theorem p11 (code : List Int) (hl : (code.length : Int) ≤ 1048576) (hb : ∀ b ∈ code, 0 ≤ b ∧ b ≤ 255) :
    DoesE Go.Proofs.Tryd.prog 11 [.fsl 1 (code.map bv)] true fun r o => o = [.dead] ∧ ∃ l : List Change, r = .usl 37 2 (l.map Change.c) ∧ l.length ≤ 7 ∧ ∀ s ∈ l, s.dr := by
  have hc : Cur.ok ⟨code, 0, 0⟩ 0 := ⟨hl, hb, Int.le_refl _, Int.le_refl _⟩
  have pc := p25 ⟨code, 0, 0⟩ 0 hc (by omega)
  refine doesE_intro (mc := m11) (N := 9) (rs := [2]) (fx := []) 1 rfl (by decide +kernel) ?_
  simp only [m11, EV, Nat.reduceEqDiff, Nat.reduceBEq, Nat.reduceLT, Nat.reduceLeDiff, Nat.reduceAdd, Nat.reduceSub, reduceIte]
  refine pc.call (fun _ => rfl) ?_
  rintro _ c1 hc1 ⟨l, rfl, h1, h2⟩
  simp only [EV, Nat.reduceEqDiff, Nat.reduceBEq, Nat.reduceLT, Nat.reduceLeDiff, Nat.reduceAdd, Nat.reduceSub, reduceIte]
  simp only [Change.nfz, evRM, EV, Nat.reduceEqDiff, Nat.reduceBEq, Nat.reduceLT, Nat.reduceLeDiff, Nat.reduceAdd, Nat.reduceSub, reduceIte, evRE, retVC, cellV', evR, nfz, nfzs, nfzss, List.contains_nil, List.contains_cons, Bool.or_false, or_true]
  exact ⟨l, rfl, h1, h2⟩
theorem tx_small : ∀ (l : List Change) (p : ByteArray × Bool), (∀ s ∈ l, s.name.size ≤ 10) → ((l.foldl txStep p).1.size : Int) ≤ p.1.size + l.length * 12
  | [], p, h => by simp
  | x :: r, p, h => by
    have h1 := tx_small r (txStep p x) (fun s hs => h s (by simp [hs]))
    have g1 := h x (by simp)
    have h2 := chW_size x
    have e32 : ((⟨#[32]⟩ : ByteArray).size : Nat) = 1 := rfl
    have h3 : ((if p.2 = true then p.1 ++ (⟨#[32]⟩ : ByteArray) else p.1).size : Int) ≤ p.1.size + 1 := by
      split
      · rw [ByteArray.size_append, e32]; omega
      · omega
    rw [List.foldl_cons]
    simp only [txStep, ByteArray.size_append] at h1 ⊢
    simp only [List.length_cons]
    omega
theorem chTextR_small (l : List Change) (h : l.length ≤ 7) : ((chTextR l).size : Int) ≤ 84 := by
  have h0 : ((⟨#[]⟩ : ByteArray).size : Nat) = 0 := rfl
  unfold chTextR
  split
  · rename_i c
    have h1 := tx_small l (⟨#[]⟩, false) (fun s hs => by
      have := (ok_names c s hs).1
      simp only [nameOk, decide_eq_true_eq] at this
      exact this.2.2)
    simp only [h0] at h1
    unfold chText; omega
  · rw [h0]; omega
def m15 : MC :=
 (.seq (.reg [Xb 2 (.asg (.z #[]))]) (.seq (.reg [Xm 6 0, Xb 7 (.build [0] [0] [1] [.s 5 1, .i, .v (.int .u64 0)] [.t 6]), Xb 8 (.box 47 (.t 7)), Xa 3 8]) (.seq (.reg [Xm 10 3, Xb 11 (.call (.fn 25) false [.io (.t 10)]), Xb 12 (.call (.fn 13) false [.lend (.t 11)]), Xm 9 12, Xq 13 (.ext 9 0), Xq 14 (.ext 9 1), Xa 4 13, Xa 5 14]) (.join [4] (.seq (.reg [Xm 15 3, Xb 16 (.call (.fn 26) false [.io (.t
 15), .lend (.i 3)])]) (.cond (.t 16) (.reg [Xm 17 3, Xm 18 4, Xb 19 (.call (.fn 27) false [.io (.t 17), .lend (.t 18), .lend (.z #[43, 45, 33, 32, 97, 90])]), Xa 4 19]) .skip)) (.seq (.reg [Xm 20 4, Xa 2 20]) .ret)))))
set_option maxHeartbeats 1000000 in
set_option maxRecDepth 100000 in
theorem p15 (code : List Int) (hl : (code.length : Int) ≤ 1048576) (hb : ∀ b ∈ code, 0 ≤ b ∧ b ≤ 255) :
    DoesE Go.Proofs.Tryd.prog 15 [.fsl 1 (code.map bv)] false fun r o => o = [.dead] ∧ ∃ s : ByteArray, r = .v (.string s) ∧ (s.size : Int) ≤ 1000002 := by
  have hc : Cur.ok ⟨code, 0, 0⟩ 0 := ⟨hl, hb, Int.le_refl _, Int.le_refl _⟩
  have pc := p25 ⟨code, 0, 0⟩ 0 hc (by omega)
  refine doesE_intro (mc := m15) (N := 21) (rs := [2]) (fx := []) 1 rfl (by decide +kernel) ?_
  simp only [m15, EV, Nat.reduceEqDiff, Nat.reduceBEq, Nat.reduceLT, Nat.reduceLeDiff, Nat.reduceAdd, Nat.reduceSub, reduceIte]
  refine pc.call (fun _ => rfl) ?_
  rintro _ c1 hc1 ⟨l, rfl, h1, h2⟩
  simp only [Change.frz, EV, Nat.reduceEqDiff, Nat.reduceBEq, Nat.reduceLT, Nat.reduceLeDiff, Nat.reduceAdd, Nat.reduceSub, reduceIte]
  refine callK_i (d13 l (by omega) (fun s hs => h2 s hs)) ?_
  simp only [Change.frz, EV, Nat.reduceEqDiff, Nat.reduceBEq, Nat.reduceLT, Nat.reduceLeDiff, Nat.reduceAdd, Nat.reduceSub, reduceIte]
  have hsm := chTextR_small l h1
  generalize chTextR l = X at hsm ⊢
  refine awp_join (fun s : ByteArray => (s.size : Int) ≤ 1000002) (fun s => stl [(4, .v (.string s))]) ?_ ?_
  · simp only [EV, Nat.reduceEqDiff, Nat.reduceBEq, Nat.reduceLT, Nat.reduceLeDiff, Nat.reduceAdd, Nat.reduceSub, reduceIte]
    refine (p26 c1 _ 3 hc1 (by omega) (by omega)).call (fun _ => rfl) ?_
    rintro _ c2 hc2 ⟨b, rfl⟩
    cases b
    · simp only [EV, Nat.reduceEqDiff, Nat.reduceBEq, Nat.reduceLT, Nat.reduceLeDiff, Nat.reduceAdd, Nat.reduceSub, reduceIte]
      exact ⟨X, by omega, rfl⟩
    · simp only [EV, Nat.reduceEqDiff, Nat.reduceBEq, Nat.reduceLT, Nat.reduceLeDiff, Nat.reduceAdd, Nat.reduceSub, reduceIte]
      refine (p27 c2 _ hc2 (by omega) X ⟨#[43, 45, 33, 32, 97, 90]⟩ (by omega) (by decide) (by decide)).call (fun _ => rfl) ?_
      rintro _ c3 hc3 ⟨s, rfl, hs⟩
      simp only [EV, Nat.reduceEqDiff, Nat.reduceBEq, Nat.reduceLT, Nat.reduceLeDiff, Nat.reduceAdd, Nat.reduceSub, reduceIte]
      exact ⟨s, hs, rfl⟩
  · intro s hs
    simp only [EV, Nat.reduceEqDiff, Nat.reduceBEq, Nat.reduceLT, Nat.reduceLeDiff, Nat.reduceAdd, Nat.reduceSub, reduceIte]
    simp only [evRM, EV, Nat.reduceEqDiff, Nat.reduceBEq, Nat.reduceLT, Nat.reduceLeDiff, Nat.reduceAdd, Nat.reduceSub, reduceIte, evRE, retVC, cellV', evR, nfz, nfzs, nfzss, List.contains_nil, List.contains_cons, Bool.or_false, or_true]
    exact ⟨s, rfl, hs⟩
def m14 : MC :=
 (.seq (.reg [Xb 4 (.asg .fb)]) (.seq (.seq (.reg [Xm 6 0, Xn 7 6, Xm 8 1, Xn 9 8, Xq 10 (.bin false .neq (.t 7) (.t 9))]) (.cond (.t 10) (.seq (.reg [Xb 4 (.asg .fb)]) .ret) .skip)) (.seq (.seq (.reg [Xm 11 0, Xn 12 11, Xq 13 (.mov (.i 0))]) (.block 0 (.loop [0, 1, 12, 13] (.seq (.reg [Xq 14 (.bin false .lss (.t 13) (.t 12))]) (.seq (.cond (.t 14) .skip (.exit 0)) (.seq (.block 1 (.seq (.reg [Xm
 15 13, Xa 5 15]) (.seq (.dreg [Xm 16 0, Xm 17 5, Xi 18 2 16 17, XL 19 2 18, Xm 20 1, Xm 21 5, Xi 22 2 20 21, XL 23 2 22, Xq 24 (.eqa true [1, 0] (.t 19) (.t 23))]) (.cond (.t 24) (.seq (.reg [Xb 4 (.asg .fb)]) .ret) .skip)))) (.reg [Xq 25 (.bin false .add (.t 13) (.i 1)), Xm 13 25]))))))) (.seq (.reg [Xb 4 (.asg .tb)]) .ret))))
set_option maxRecDepth 100000 in
theorem d14 (l : List Change) (hl : (l.length : Int) ≤ 1048576) : Does Go.Proofs.Tryd.prog 14 [.fsl 2 (l.map Change.c), .fsl 2 (l.map Change.c)] false (.v (.bool true)) [.dead, .dead] := by
  refine does_intro (mc := m14) (N := 26) (rs := [4]) (fx := []) 2 rfl (by decide +kernel) ?_
  simp only [m14, EV, Nat.reduceEqDiff, Nat.reduceBEq, Nat.reduceLT, Nat.reduceLeDiff, Nat.reduceAdd, Nat.reduceSub, reduceIte]
  refine awp_loop (fun i : Nat => i ≤ l.length) (fun i => stl [(0, .fsl 2 (l.map Change.c)), (1, .fsl 2 (l.map Change.c)), (12, .v (.int .i64 (l.length : Int))), (13, .v (.int .i64 (i : Int)))]) (fun i => l.length - i) 0 (Nat.zero_le _) ?_ ?_
  · simp only [EV, Nat.reduceEqDiff, Nat.reduceBEq, Nat.reduceLT, Nat.reduceLeDiff, Nat.reduceAdd, Nat.reduceSub, reduceIte]
    rfl
  · intro i hi
    simp only [EV, Nat.reduceEqDiff, Nat.reduceBEq, Nat.reduceLT, Nat.reduceLeDiff, Nat.reduceAdd, Nat.reduceSub, reduceIte]
    refine cK_cut (fun h => ?_) (fun h => ?_)
    · have h1 : i < l.length := by simpa using h
      have h2 : (i : Int) < (l.length : Int) := by omega
      have wi := w64 ((i : Int) + 1) (by omega)
      simp only [h1, h2, nth_map h1, Change.c, wi, EV, Nat.reduceEqDiff, Nat.reduceBEq, Nat.reduceLT, Nat.reduceLeDiff, Nat.reduceAdd, Nat.reduceSub, reduceIte]
      exact ⟨i + 1, by omega, by omega, rfl⟩
    · simp only [EV, Nat.reduceEqDiff, Nat.reduceBEq, Nat.reduceLT, Nat.reduceLeDiff, Nat.reduceAdd, Nat.reduceSub, reduceIte]
      simp only [EV, Nat.reduceEqDiff, Nat.reduceBEq, Nat.reduceLT, Nat.reduceLeDiff, Nat.reduceAdd, Nat.reduceSub, reduceIte, evRE, retVC, cellV', evR, nfz, nfzs, nfzss, List.contains_nil, List.contains_cons, Bool.or_false, or_true]
end Go.AM
namespace Go.AM
set_option linter.unusedVariables false
set_option linter.unusedSimpArgs false
def m10 : MC :=
 (.seq (.reg [Xb 4 (.asg .fb)]) (.seq (.reg [Xm 5 0, Xn 6 5, Xq 7 (.bin false .gtr (.t 6) (.i 1048576)), Xm 8 7, Xu 9 8 (.mov (.t 1)), Xu 10 8 (.len false (.t 9)), Xu 11 8 (.mov (.t 0)), Xu 12 8 (.len false (.t 11)), Xu 13 8 (.bin false .sub (.i 1048576) (.t 12)), Xu 14 8 (.bin false .gtr (.t 10) (.t 13)), Xq 15 (.pick (.t 8) .tb (.t 14)), Xa 4 15]) .ret))
theorem d10 (a b : List Int) (ha : (a.length : Int) ≤ 9223372036854775807) (hb : (b.length : Int) ≤ 9223372036854775807) : Does Go.Proofs.Tryd.prog 10 [.fsl 1 (a.map bv), .fsl 1 (b.map bv)] false (.v (.bool (decide (1048576 < (a.length : Int)) || decide (1048576 - (a.length : Int) < (b.length : Int))))) [.dead, .dead] := by
  refine does_intro (mc := m10) (N := 16) (rs := [4]) (fx := []) 2 rfl (by decide +kernel) ?_
  have w1 := w64 (1048576 - (a.length : Int)) (by omega)
  simp only [m10, w1, EV, Nat.reduceEqDiff, Nat.reduceBEq, Nat.reduceLT, Nat.reduceLeDiff, Nat.reduceAdd, Nat.reduceSub, reduceIte]
  rcases h : decide (1048576 < (a.length : Int)) with _ | _
  · simp only [h, w1, EV, Nat.reduceEqDiff, Nat.reduceBEq, Nat.reduceLT, Nat.reduceLeDiff, Nat.reduceAdd, Nat.reduceSub, reduceIte]
    simp only [h, w1, Bool.false_or, EV, Nat.reduceEqDiff, Nat.reduceBEq, Nat.reduceLT, Nat.reduceLeDiff, Nat.reduceAdd, Nat.reduceSub, reduceIte, evRE, retVC, cellV', evR, nfz, nfzs, nfzss, List.contains_nil, List.contains_cons, Bool.or_false, or_true]
  · simp only [h, w1, EV, Nat.reduceEqDiff, Nat.reduceBEq, Nat.reduceLT, Nat.reduceLeDiff, Nat.reduceAdd, Nat.reduceSub, reduceIte]
    simp only [h, w1, Bool.true_or, EV, Nat.reduceEqDiff, Nat.reduceBEq, Nat.reduceLT, Nat.reduceLeDiff, Nat.reduceAdd, Nat.reduceSub, reduceIte, evRE, retVC, cellV', evR, nfz, nfzs, nfzss, List.contains_nil, List.contains_cons, Bool.or_false, or_true]
def m4 : MC :=
 (.seq (.reg [Xb 4 (.asg .fb)]) (.keep [0, 1] (.seq (.seq (.reg [Xm 19 0, Xm 20 1, Xb 21 (.call (.fn 10) false [.lend (.t 19), .lend (.t 20)])]) (.keep [0, 1, 21] (.cond (.t 21) (.seq (.reg [Xb 4 (.asg .tb)]) .ret) .skip))) (.keep [0, 1] (.seq (.reg [Xm 22 0, Xb 23 (.call (.fn 11) true [.lend (.t 22)]), Xa 5 23]) (.keep [1, 5, 23] (.seq (.reg [Xm 25 5, Xb 26 (.call (.fn 12) false [.lend (.t 25)]),
 Xm 24 26, Xq 27 (.ext 24 0), Xq 28 (.ext 24 1), Xa 6 27, Xa 7 28]) (.keep [1, 5, 6, 7, 23] (.seq (.reg [Xm 30 5, Xb 31 (.call (.fn 13) false [.lend (.t 30)]), Xm 29 31, Xq 32 (.ext 29 0), Xq 33 (.ext 29 1), Xa 8 32, Xa 9 33]) (.keep [1, 5, 6, 7, 8, 9, 23] (.seq (.seq (.reg [Xm 34 7, Xm 35 9, Xq 36 (.bin true .neq (.t 34) (.t 35)), Xm 37 36, Xu 38 37 (.mov (.t 6)), Xu 39 37 (.mov (.t 8)), Xu 40 37
 (.bin false .neq (.t 38) (.t 39)), Xq 41 (.pick (.t 37) .tb (.t 40))]) (.keep [1, 5, 6, 7, 23, 41] (.cond (.t 41) (.seq (.reg [Xb 4 (.asg .fb)]) .ret) .skip))) (.keep [1, 5, 6, 7, 23] (.join [1] (.seq (.reg [Xm 42 7]) (.keep [1, 5, 6, 23, 42] (.cond (.t 42) (.seq (.reg [Xm 44 6, Xb 45 (.call (.fn 6) false [.lend (.t 44)]), Xa 43 45, Xq 46 (.ext 43 0), Xq 47 (.ext 43 1), Xa 10 46, Xa 11 47]) (.keep
 [1, 5, 6, 10, 11, 23, 43, 45, 46] (.seq (.reg [Xm 48 6, Xq 49 (.len true (.t 48)), Xq 50 (.bin false .leq (.t 49) (.i 500)), Xm 51 50, Xt 52 51 (.mov (.t 11)), Xt 53 51 (.un .not (.t 52)), Xt 54 51 (.mov (.t 53)), Xu 55 54 (.mov (.t 10)), Xu 56 54 (.mov (.t 5)), XU 57 54 (.call (.fn 14) false [.lend (.t 55), .lend (.t 56)]), Xu 58 54 (.un .not (.t 57)), Xt 59 51 (.pick (.t 54) .tb (.t 58)), Xq 60
 (.pick (.t 51) (.t 59) .fb)]) (.keep [1, 60] (.cond (.t 60) (.seq (.reg [Xb 4 (.asg .fb)]) .ret) .skip))))) .skip))) (.seq (.reg [Xm 61 1, Xb 62 (.call (.fn 15) false [.lend (.t 61)]), Xa 12 62]) (.keep [12] (.seq (.reg [Xm 64 12, Xb 65 (.call (.fn 6) false [.lend (.t 64)]), Xa 63 65, Xq 66 (.ext 63 0), Xq 67 (.ext 63 1), Xa 13 66, Xa 14 67]) (.keep [12, 13, 14, 63, 65, 66] (.seq (.reg [Xm 69 12,
 Xb 70 (.call (.fn 5) false [.lend (.t 69)]), Xa 68 70, Xq 71 (.ext 68 0), Xq 72 (.ext 68 1), Xa 15 71, Xa 16 72]) (.keep [12, 13, 14, 15, 16, 63, 65, 66, 68, 70, 71] (.seq (.seq (.reg [Xm 73 14, Xm 74 16, Xq 75 (.bin true .neq (.t 73) (.t 74)), Xm 76 75, Xu 77 76 (.mov (.t 13)), Xu 78 76 (.mov (.t 15)), XU 79 76 (.call (.fn 14) false [.lend (.t 77), .lend (.t 78)]), Xu 80 76 (.un .not (.t 79)), Xq
 81 (.pick (.t 76) .tb (.t 80))]) (.keep [12, 13, 14, 63, 65, 66, 81] (.cond (.t 81) (.seq (.reg [Xb 4 (.asg .fb)]) .ret) .skip))) (.keep [12, 13, 14, 63, 65, 66] (.seq (.seq (.reg [Xm 82 14]) (.keep [12, 13, 63, 65, 66, 82] (.cond (.t 82) (.seq (.reg [Xm 84 13, Xb 85 (.call (.fn 12) false [.lend (.t 84)]), Xm 83 85, Xq 86 (.ext 83 0), Xq 87 (.ext 83 1), Xa 17 86, Xa 18 87]) (.keep [12, 17, 18]
 (.seq (.reg [Xm 88 18, Xm 89 88, Xt 90 89 (.mov (.t 17)), Xt 91 89 (.mov (.t 12)), Xt 92 89 (.bin false .eql (.t 90) (.t 91)), Xq 93 (.pick (.t 89) (.t 92) .fb), Xa 4 93]) .ret))) .skip))) (.keep [] (.seq (.reg [Xb 4 (.asg .tb)]) .ret))))))))))))))))))))))))
set_option maxHeartbeats 2000000 in
set_option maxRecDepth 100000 in
theorem d4 (a b : List Int) (ha : (a.length : Int) ≤ 9223372036854775807) (hb : (b.length : Int) ≤ 9223372036854775807) (ha2 : ∀ x ∈ a, 0 ≤ x ∧ x ≤ 255) (hb2 : ∀ x ∈ b, 0 ≤ x ∧ x ≤ 255) :
    Does Go.Proofs.Tryd.prog 4 [.fsl 1 (a.map bv), .fsl 1 (b.map bv)] false (.v (.bool true)) [.dead, .dead] := by
  refine does_intro (mc := m4) (N := 94) (rs := [4]) (fx := []) 2 rfl (by decide +kernel) ?_
  simp only [m4, EV, Nat.reduceEqDiff, Nat.reduceBEq, Nat.reduceLT, Nat.reduceLeDiff, Nat.reduceAdd, Nat.reduceSub, reduceIte]
  refine callK_i (d10 a b ha hb) ?_
  simp only [EV, Nat.reduceEqDiff, Nat.reduceBEq, Nat.reduceLT, Nat.reduceLeDiff, Nat.reduceAdd, Nat.reduceSub, reduceIte]
  rcases g : (decide (1048576 < (a.length : Int)) || decide (1048576 - (a.length : Int) < (b.length : Int))) with _ | _
  rotate_left
  · simp only [g, EV, Nat.reduceEqDiff, Nat.reduceBEq, Nat.reduceLT, Nat.reduceLeDiff, Nat.reduceAdd, Nat.reduceSub, reduceIte]
    simp only [EV, Nat.reduceEqDiff, Nat.reduceBEq, Nat.reduceLT, Nat.reduceLeDiff, Nat.reduceAdd, Nat.reduceSub, reduceIte, evRE, retVC, cellV', evR, nfz, nfzs, nfzss, List.contains_nil, List.contains_cons, Bool.or_false, or_true]
  simp only [Bool.or_eq_false_iff, decide_eq_false_iff_not] at g
  simp only [EV, Nat.reduceEqDiff, Nat.reduceBEq, Nat.reduceLT, Nat.reduceLeDiff, Nat.reduceAdd, Nat.reduceSub, reduceIte]
  have bs : ∀ b : Bool, (b != b) = false := fun b => by cases b <;> rfl
  have beq : ∀ s : ByteArray, (s.toList == s.toList) = true := fun s => bsq_eq.2 rfl
  refine callE_i (p11 a (by omega) ha2) (fun r o h => ⟨h.2, h.1⟩) ?_
  rintro _ ⟨l, rfl, l1, l2⟩
  have ldr : ∀ s ∈ l, s.ok ∧ (s.name.size : Int) ≤ 1048576 := l2
  have htl : List.take l.length (l.map Change.c) = l.map Change.c := List.take_of_length_le (by simp)
  simp only [htl, Change.frz, EV, Nat.reduceEqDiff, Nat.reduceBEq, Nat.reduceLT, Nat.reduceLeDiff, Nat.reduceAdd, Nat.reduceSub, reduceIte]
  refine callK_i (d12 l (by omega) ldr) ?_
  simp only [htl, Change.frz, EV, Nat.reduceEqDiff, Nat.reduceBEq, Nat.reduceLT, Nat.reduceLeDiff, Nat.reduceAdd, Nat.reduceSub, reduceIte]
  refine callK_i (d13 l (by omega) ldr) ?_
  simp only [htl, Change.frz, bs, beq, Bool.not_true, EV, Nat.reduceEqDiff, Nat.reduceBEq, Nat.reduceLT, Nat.reduceLeDiff, Nat.reduceAdd, Nat.reduceSub, reduceIte]
  refine awp_join (fun _ : Unit => True) (fun _ => stl [(1, .fsl 1 (b.map bv))]) ?_ ?_
  · simp only [EV, Nat.reduceEqDiff, Nat.reduceBEq, Nat.reduceLT, Nat.reduceLeDiff, Nat.reduceAdd, Nat.reduceSub, reduceIte]
    rcases e : changesOk l with _ | _
    · simp only [e, EV, Nat.reduceEqDiff, Nat.reduceBEq, Nat.reduceLT, Nat.reduceLeDiff, Nat.reduceAdd, Nat.reduceSub, reduceIte]
      exact ⟨(), trivial⟩
    have e2 : chTextR l = chText l := by simp [chTextR, e]
    have hsz : ((chText l).size : Int) ≤ 84 := by rw [← e2]; exact chTextR_small l l1
    simp only [e, e2, EV, Nat.reduceEqDiff, Nat.reduceBEq, Nat.reduceLT, Nat.reduceLeDiff, Nat.reduceAdd, Nat.reduceSub, reduceIte]
    refine callK_i (d6 (chText l) (by omega)) ?_
    have e3 : rdN (chText l) = some l := rdN_some ⟨⟨e, rfl⟩, by omega⟩
    have h500 : decide (((chText l).size : Int) ≤ 500) = true := by simp; omega
    simp only [e3, Option.getD_some, Option.isSome_some, h500, htl, Change.frz, Bool.not_true, EV, Nat.reduceEqDiff, Nat.reduceBEq, Nat.reduceLT, Nat.reduceLeDiff, Nat.reduceAdd, Nat.reduceSub, reduceIte]
    refine callK_i (d14 l (by omega)) ?_
    simp only [htl, Change.frz, Bool.not_true, EV, Nat.reduceEqDiff, Nat.reduceBEq, Nat.reduceLT, Nat.reduceLeDiff, Nat.reduceAdd, Nat.reduceSub, reduceIte]
    exact ⟨(), trivial⟩
  rintro _ _
  simp only [EV, Nat.reduceEqDiff, Nat.reduceBEq, Nat.reduceLT, Nat.reduceLeDiff, Nat.reduceAdd, Nat.reduceSub, reduceIte]
  refine callE_i (p15 b (by omega) hb2) (fun r o h => ⟨h.2, h.1⟩) ?_
  rintro _ ⟨s, rfl, s1⟩
  simp only [EV, Nat.reduceEqDiff, Nat.reduceBEq, Nat.reduceLT, Nat.reduceLeDiff, Nat.reduceAdd, Nat.reduceSub, reduceIte]
  have ds := d5 s (by omega)
  have di := d6 s (by omega)
  have hfew := rdN_few s
  rcases e : rdN s with _ | R
  · rw [e] at ds di
    simp only [Option.getD_none, Option.isSome_none, List.map_nil] at ds di
    refine callK_i di ?_
    simp only [EV, Nat.reduceEqDiff, Nat.reduceBEq, Nat.reduceLT, Nat.reduceLeDiff, Nat.reduceAdd, Nat.reduceSub, reduceIte]
    refine callK_i ds ?_
    simp only [bs, EV, Nat.reduceEqDiff, Nat.reduceBEq, Nat.reduceLT, Nat.reduceLeDiff, Nat.reduceAdd, Nat.reduceSub, reduceIte]
    refine callK_i (d14 [] (by decide)) ?_
    simp only [Bool.not_true, EV, Nat.reduceEqDiff, Nat.reduceBEq, Nat.reduceLT, Nat.reduceLeDiff, Nat.reduceAdd, Nat.reduceSub, reduceIte]
    simp only [EV, Nat.reduceEqDiff, Nat.reduceBEq, Nat.reduceLT, Nat.reduceLeDiff, Nat.reduceAdd, Nat.reduceSub, reduceIte, evRE, retVC, cellV', evR, nfz, nfzs, nfzss, List.contains_nil, List.contains_cons, Bool.or_false, or_true]
  · have hR := rdN_of e
    have hfR : R.length ≤ 32 := rdN_len e
    have htR : List.take R.length (R.map Change.c) = R.map Change.c := List.take_of_length_le (by simp)
    have hok : ∀ c ∈ R, c.ok ∧ (c.name.size : Int) ≤ 1048576 := by
      intro c hc
      have h1 := ok_names hR.1.1 c hc
      have h2 := h1.1
      simp only [nameOk, decide_eq_true_eq] at h2
      exact ⟨⟨by omega, by omega, by omega⟩, by omega⟩
    rw [e] at ds di
    simp only [Option.getD_some, Option.isSome_some] at ds di
    refine callK_i di ?_
    simp only [htR, Change.frz, EV, Nat.reduceEqDiff, Nat.reduceBEq, Nat.reduceLT, Nat.reduceLeDiff, Nat.reduceAdd, Nat.reduceSub, reduceIte]
    refine callK_i ds ?_
    simp only [bs, htR, Change.frz, EV, Nat.reduceEqDiff, Nat.reduceBEq, Nat.reduceLT, Nat.reduceLeDiff, Nat.reduceAdd, Nat.reduceSub, reduceIte]
    refine callK_i (d14 R (by omega)) ?_
    simp only [Bool.not_true, htR, Change.frz, EV, Nat.reduceEqDiff, Nat.reduceBEq, Nat.reduceLT, Nat.reduceLeDiff, Nat.reduceAdd, Nat.reduceSub, reduceIte]
    refine callK_i (d12 R (by omega) hok) ?_
    have e4 : chTextR R = s := by simp only [chTextR, hR.1.1, if_true]; exact hR.1.2
    simp only [e4, hR.1.1, beq, htR, Change.frz, EV, Nat.reduceEqDiff, Nat.reduceBEq, Nat.reduceLT, Nat.reduceLeDiff, Nat.reduceAdd, Nat.reduceSub, reduceIte]
    simp only [EV, Nat.reduceEqDiff, Nat.reduceBEq, Nat.reduceLT, Nat.reduceLeDiff, Nat.reduceAdd, Nat.reduceSub, reduceIte, evRE, retVC, cellV', evR, nfz, nfzs, nfzss, List.contains_nil, List.contains_cons, Bool.or_false, or_true]
end Go.AM
