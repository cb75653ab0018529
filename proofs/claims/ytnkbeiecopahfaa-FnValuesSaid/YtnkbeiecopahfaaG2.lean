/- Contracts of functions of the given program, for the law FnValues: what they return and what they write, under the bounds that each theorem states. -/
import Derived.Test.YtnkbeiecopahfaaG1
namespace Go.AM
set_option linter.unusedVariables false
set_option linter.unusedSimpArgs false
theorem modify_get {l : List (List AV)} {i : Nat} {a : List AV} {f : List AV → List AV} (h : l[i]? = some a) : l.modify i f = l.set i (f a) := by
  apply List.ext_getElem?
  intro j
  rw [List.getElem?_modify]
  by_cases hj : i = j
  · subst hj
    have hi : i < l.length := by
      rcases Nat.lt_or_ge i l.length with h1 | h1
      · exact h1
      · rw [List.getElem?_eq_none h1] at h; cases h
    have hl : l[i] = a := by rw [List.getElem?_eq_getElem hi] at h; exact Option.some.inj h
    simp [hi, hl]
  · simp [hj, List.getElem?_set_ne hj]
def iv (n : Int) : List AV := [.v (.int .i64 n)]
def m33 : MC :=
 (.seq (.reg [Xb 4 (.asg (.i 0))]) (.seq (.reg [Xm 5 1, Xm 6 0, Xm 7 1, Xn 8 7, Xb 9 (.call (.fn 32) false [.io (.t 6), .lend (.t 8)]), Xi 10 1 5 9, Xl 11 1 10, Xa 4 11]) .ret))
theorem p33 (c : Cur) (n : Int) (l : List Int) (hc : c.ok n) (hn : n ≤ 1152921504606846) (h0 : 0 < l.length) (hk : (l.length : Int) ≤ 1048577) :
    Draws 33 [.fsl 1 (l.map iv)] c n 2 fun r => ∃ s ∈ l, r = .v (.int .i64 s) := by
  refine doesE_intro (mc := m33) (N := 12) (rs := [4]) (fx := [0]) 2 rfl (by decide +kernel) ?_
  simp only [m33, EV, Nat.reduceEqDiff, Nat.reduceBEq, Nat.reduceLT, Nat.reduceLeDiff, Nat.reduceAdd, Nat.reduceSub, reduceIte]
  refine (p32 c n l.length hc hn hk).call (fun _ => rfl) ?_
  rintro _ c' hc' ⟨v, rfl, v0, v1, v2⟩
  have hv : v < (l.length : Int) := by
    by_cases h : 1 < (l.length : Int)
    · exact v1 h
    · have := v2 (by omega); omega
  have hn' : v.toNat < l.length := by omega
  simp only [v0, hv, nth_map hn', iv, EV, Nat.reduceEqDiff, Nat.reduceBEq, Nat.reduceLT, Nat.reduceLeDiff, Nat.reduceAdd, Nat.reduceSub, reduceIte]
  simp only [EV, Nat.reduceEqDiff, Nat.reduceBEq, Nat.reduceLT, Nat.reduceLeDiff, Nat.reduceAdd, Nat.reduceSub, reduceIte, evRE, retVC, cellV', evR, nfz, nfzs, nfzss, List.contains_nil, List.contains_cons, Bool.or_false, or_true]
  exact ⟨c', rfl, hc', _, List.getElem_mem hn', rfl⟩
def m19 : MC :=
 (.seq (.reg [Xb 2 (.asg (.i 0))]) (.seq (.reg [Xm 3 0, Xb 4 (.bsl 3 1 [.i 0, .i 1, .i (-1), .i 63, .i (-64), .i 64, .i 127, .i 128, .i (-300), .i 8191, .i 8192, .i 1000000, .i 1000000000, .i (-1000000000)]), Xb 5 (.call (.fn 33) false [.io (.t 3), .give (.t 4)]), Xa 2 5]) .ret))
theorem p19 (c : Cur) (n : Int) (hc : c.ok n) (hn : n ≤ 1152921504606846) :
    Draws 19 [] c n 2 fun r => ∃ s : Int, -1000000000 ≤ s ∧ s ≤ 1000000000 ∧ r = .v (.int .i64 s) := by
  refine doesE_intro (mc := m19) (N := 6) (rs := [2]) (fx := [0]) 1 rfl (by decide +kernel) ?_
  simp only [m19, EV, Nat.reduceEqDiff, Nat.reduceBEq, Nat.reduceLT, Nat.reduceLeDiff, Nat.reduceAdd, Nat.reduceSub, reduceIte]
  refine (p33 c n [0, 1, -1, 63, -64, 64, 127, 128, -300, 8191, 8192, 1000000, 1000000000, -1000000000] hc (by omega) (by decide) (by decide)).call (fun _ => rfl) ?_
  rintro _ c' hc' ⟨v, hv, rfl⟩
  have hb : -1000000000 ≤ v ∧ v ≤ 1000000000 := by
    simp only [List.mem_cons, List.not_mem_nil, or_false] at hv
    omega
  simp only [EV, Nat.reduceEqDiff, Nat.reduceBEq, Nat.reduceLT, Nat.reduceLeDiff, Nat.reduceAdd, Nat.reduceSub, reduceIte]
  simp only [EV, Nat.reduceEqDiff, Nat.reduceBEq, Nat.reduceLT, Nat.reduceLeDiff, Nat.reduceAdd, Nat.reduceSub, reduceIte, evRE, retVC, cellV', evR, nfz, nfzs, nfzss, List.contains_nil, List.contains_cons, Bool.or_false, or_true]
  exact ⟨c', rfl, hc', v, hb.1, hb.2, rfl⟩
def bbE : Nat → Nat
  | 0 => 9
  | d + 1 => 2 * bbE d + 7
def kkE : Nat → Int
  | 0 => 4
  | d + 1 => 2 * kkE d + 8
theorem bbE_9 : ∀ d, 9 ≤ bbE d
  | 0 => Nat.le_refl _
  | d + 1 => by have := bbE_9 d; simp only [bbE]; omega
theorem kkE_4 : ∀ d, 4 ≤ kkE d
  | 0 => Int.le_refl _
  | d + 1 => by have := kkE_4 d; simp only [kkE]; omega
def m30 : MC :=
 (.seq (.reg [Xb 4 (.asg (.z #[]))]) (.seq (.seq (.reg [Xm 6 1, Xq 7 (.bin false .eql (.t 6) (.i 0)), Xm 8 7, Xu 9 8 (.mov (.t 0)), XU 10 8 (.call (.fn 18) false [.io (.t 9), .lend (.i 3)]), Xq 11 (.pick (.t 8) .tb (.t 10))]) (.cond (.t 11) (.seq (.reg [Xm 12 0, Xb 13 (.bsl 9 1 [.z #[49], .z #[50], .z #[49, 48], .z #[48, 70, 70, 72], .z #[110], .z #[66, 46, 107], .z #[45, 32, 51], .z #[57, 57, 57,
 57, 57, 57, 57, 57, 57], .z #[48]]), Xb 14 (.call (.fn 48) false [.io (.t 12), .give (.t 13)]), Xa 4 14]) .ret) .skip)) (.seq (.reg [Xm 15 0, Xm 16 1, Xq 17 (.bin false .sub (.t 16) (.i 1)), Xb 18 (.call (.fn 30) false [.io (.t 15), .lend (.t 17)]), Xq 19 (.bin false .add (.t 18) (.z #[32])), Xm 20 0, Xb 21 (.bsl 9 1 [.z #[43], .z #[45], .z #[42], .z #[68, 73, 86], .z #[77, 79, 68]]), Xb 22 (.call
 (.fn 48) false [.io (.t 20), .give (.t 21)]), Xq 23 (.bin false .add (.t 19) (.t 22)), Xq 24 (.bin false .add (.t 23) (.z #[32])), Xm 25 0, Xm 26 1, Xq 27 (.bin false .sub (.t 26) (.i 1)), Xb 28 (.call (.fn 30) false [.io (.t 25), .lend (.t 27)]), Xq 29 (.bin false .add (.t 24) (.t 28)), Xa 5 29]) (.seq (.seq (.reg [Xm 30 0, Xb 31 (.call (.fn 18) false [.io (.t 30), .lend (.i 2)])]) (.cond (.t 31)
 (.seq (.reg [Xm 32 5, Xq 33 (.bin false .add (.z #[40]) (.t 32)), Xq 34 (.bin false .add (.t 33) (.z #[41])), Xa 4 34]) .ret) .skip)) (.seq (.reg [Xm 35 5, Xa 4 35]) .ret)))))
set_option maxHeartbeats 4000000 in
set_option maxRecDepth 100000 in
theorem p30 : ∀ (d : Nat) (hd : d ≤ 3) (c : Cur) (n : Int) (hc : c.ok n) (hn : n + kkE d ≤ 20000000000), Draws 30 [.v (.int .i64 (d : Int))] c n (kkE d) fun r => ∃ s : ByteArray, r = .v (.string s) ∧ s.size ≤ bbE d := by
  intro d
  induction d with
  | zero =>
    intro hd c n hc hn
    have hk0 : kkE 0 = 4 := rfl
    rw [hk0] at hn
    have z0 : (((0 : Nat) : Int) == 0) = true := rfl
    refine doesE_intro (mc := m30) (N := 36) (rs := [4]) (fx := [0]) 2 rfl (by decide +kernel) ?_
    simp only [m30, z0, EV, Nat.reduceEqDiff, Nat.reduceBEq, Nat.reduceLT, Nat.reduceLeDiff, Nat.reduceAdd, Nat.reduceSub, reduceIte]
    refine (p48 c n [⟨#[49]⟩, ⟨#[50]⟩, ⟨#[49, 48]⟩, ⟨#[48, 70, 70, 72]⟩, ⟨#[110]⟩, ⟨#[66, 46, 107]⟩, ⟨#[45, 32, 51]⟩, ⟨#[57, 57, 57, 57, 57, 57, 57, 57, 57]⟩, ⟨#[48]⟩] hc (by omega) (by decide) (by decide)).call (fun _ => rfl) ?_
    rintro _ c1 hc1 ⟨s, hs, rfl⟩
    have hsz : s.size ≤ 9 := by
      simp only [List.mem_cons, List.not_mem_nil, or_false] at hs
      rcases hs with rfl | rfl | rfl | rfl | rfl | rfl | rfl | rfl | rfl <;> decide
    simp only [EV, Nat.reduceEqDiff, Nat.reduceBEq, Nat.reduceLT, Nat.reduceLeDiff, Nat.reduceAdd, Nat.reduceSub, reduceIte]
    simp only [EV, Nat.reduceEqDiff, Nat.reduceBEq, Nat.reduceLT, Nat.reduceLeDiff, Nat.reduceAdd, Nat.reduceSub, reduceIte, evRE, retVC, cellV', evR, nfz, nfzs, nfzss, List.contains_nil, List.contains_cons, Bool.or_false, or_true]
    exact ⟨c1, rfl, hc1.up (by simp only [kkE]; omega), s, rfl, hsz⟩
  | succ d ih =>
    intro hd c n hc hn
    have h9 := bbE_9 d
    have h4 := kkE_4 d
    have hks : kkE (d + 1) = 2 * kkE d + 8 := rfl
    rw [hks] at hn
    have hk3 : kkE d ≤ 100000 := by
      have : d = 0 ∨ d = 1 ∨ d = 2 := by omega
      rcases this with rfl | rfl | rfl <;> decide
    have z0 : (((d + 1 : Nat) : Int) == 0) = false := by simp; omega
    have wd : IntKind.i64.wrap (((d + 1 : Nat) : Int) - 1) = (d : Int) := by rw [w64 _ (by omega)]; omega
    refine doesE_intro (mc := m30) (N := 36) (rs := [4]) (fx := [0]) 2 rfl (by decide +kernel) ?_
    simp only [m30, z0, EV, Nat.reduceEqDiff, Nat.reduceBEq, Nat.reduceLT, Nat.reduceLeDiff, Nat.reduceAdd, Nat.reduceSub, reduceIte]
    refine (p18 c n 3 hc (by omega) (by omega)).call (fun _ => rfl) ?_
    rintro _ c1 hc1 ⟨b, rfl⟩
    cases b
    rotate_left
    · simp only [EV, Nat.reduceEqDiff, Nat.reduceBEq, Nat.reduceLT, Nat.reduceLeDiff, Nat.reduceAdd, Nat.reduceSub, reduceIte]
      refine (p48 c1 _ [⟨#[49]⟩, ⟨#[50]⟩, ⟨#[49, 48]⟩, ⟨#[48, 70, 70, 72]⟩, ⟨#[110]⟩, ⟨#[66, 46, 107]⟩, ⟨#[45, 32, 51]⟩, ⟨#[57, 57, 57, 57, 57, 57, 57, 57, 57]⟩, ⟨#[48]⟩] hc1 (by omega) (by decide) (by decide)).call (fun _ => rfl) ?_
      rintro _ c2 hc2 ⟨s, hs, rfl⟩
      have hsz : s.size ≤ 9 := by
        simp only [List.mem_cons, List.not_mem_nil, or_false] at hs
        rcases hs with rfl | rfl | rfl | rfl | rfl | rfl | rfl | rfl | rfl <;> decide
      simp only [EV, Nat.reduceEqDiff, Nat.reduceBEq, Nat.reduceLT, Nat.reduceLeDiff, Nat.reduceAdd, Nat.reduceSub, reduceIte]
      simp only [EV, Nat.reduceEqDiff, Nat.reduceBEq, Nat.reduceLT, Nat.reduceLeDiff, Nat.reduceAdd, Nat.reduceSub, reduceIte, evRE, retVC, cellV', evR, nfz, nfzs, nfzss, List.contains_nil, List.contains_cons, Bool.or_false, or_true]
      exact ⟨c2, rfl, hc2.up (by simp only [kkE]; omega), s, rfl, by simp only [bbE]; omega⟩
    simp only [wd, EV, Nat.reduceEqDiff, Nat.reduceBEq, Nat.reduceLT, Nat.reduceLeDiff, Nat.reduceAdd, Nat.reduceSub, reduceIte]
    refine (ih (by omega) c1 _ hc1 (by omega)).call (fun _ => rfl) ?_
    rintro _ c2 hc2 ⟨s, rfl, hs⟩
    simp only [EV, Nat.reduceEqDiff, Nat.reduceBEq, Nat.reduceLT, Nat.reduceLeDiff, Nat.reduceAdd, Nat.reduceSub, reduceIte]
    have q1 : ByteArray.size ⟨#[32]⟩ = 1 := rfl
    have q2 : ByteArray.size ⟨#[40]⟩ = 1 := rfl
    have q3 : ByteArray.size ⟨#[41]⟩ = 1 := rfl
    have hbd : bbE d ≤ 1000 := by
      have : d = 0 ∨ d = 1 ∨ d = 2 := by omega
      rcases this with rfl | rfl | rfl <;> decide
    refine ⟨by simp only [q1]; omega, ?_⟩
    refine (p48 c2 _ [⟨#[43]⟩, ⟨#[45]⟩, ⟨#[42]⟩, ⟨#[68, 73, 86]⟩, ⟨#[77, 79, 68]⟩] hc2 (by omega) (by decide) (by decide)).call (fun _ => rfl) ?_
    rintro _ c3 hc3 ⟨o, ho, rfl⟩
    have hoz : o.size ≤ 3 := by
      simp only [List.mem_cons, List.not_mem_nil, or_false] at ho
      rcases ho with rfl | rfl | rfl | rfl | rfl <;> decide
    simp only [wd, EV, Nat.reduceEqDiff, Nat.reduceBEq, Nat.reduceLT, Nat.reduceLeDiff, Nat.reduceAdd, Nat.reduceSub, reduceIte]
    refine ⟨by simp only [ByteArray.size_append, q1]; omega, by simp only [ByteArray.size_append, q1]; omega, ?_⟩
    refine (ih (by omega) c3 _ hc3 (by omega)).call (fun _ => rfl) ?_
    rintro _ c4 hc4 ⟨u, rfl, hu⟩
    simp only [EV, Nat.reduceEqDiff, Nat.reduceBEq, Nat.reduceLT, Nat.reduceLeDiff, Nat.reduceAdd, Nat.reduceSub, reduceIte]
    refine ⟨by simp only [ByteArray.size_append, q1]; omega, ?_⟩
    refine (p18 c4 _ 2 hc4 (by omega) (by omega)).call (fun _ => rfl) ?_
    rintro _ c5 hc5 ⟨b, rfl⟩
    cases b
    · simp only [EV, Nat.reduceEqDiff, Nat.reduceBEq, Nat.reduceLT, Nat.reduceLeDiff, Nat.reduceAdd, Nat.reduceSub, reduceIte]
      simp only [EV, Nat.reduceEqDiff, Nat.reduceBEq, Nat.reduceLT, Nat.reduceLeDiff, Nat.reduceAdd, Nat.reduceSub, reduceIte, evRE, retVC, cellV', evR, nfz, nfzs, nfzss, List.contains_nil, List.contains_cons, Bool.or_false, or_true]
      exact ⟨c5, rfl, hc5.up (by simp only [kkE]; omega), _, rfl, by simp only [ByteArray.size_append, q1, bbE]; omega⟩
    · simp only [EV, Nat.reduceEqDiff, Nat.reduceBEq, Nat.reduceLT, Nat.reduceLeDiff, Nat.reduceAdd, Nat.reduceSub, reduceIte]
      refine ⟨by simp only [ByteArray.size_append, q1, q2]; omega, by simp only [ByteArray.size_append, q1, q2, q3]; omega, ?_⟩
      simp only [EV, Nat.reduceEqDiff, Nat.reduceBEq, Nat.reduceLT, Nat.reduceLeDiff, Nat.reduceAdd, Nat.reduceSub, reduceIte, evRE, retVC, cellV', evR, nfz, nfzs, nfzss, List.contains_nil, List.contains_cons, Bool.or_false, or_true]
      exact ⟨c5, rfl, hc5.up (by simp only [kkE]; omega), _, rfl, by simp only [ByteArray.size_append, q1, q2, q3, bbE]; omega⟩
def m17 : MC :=
 (.seq (.reg [Xb 2 (.asg (.nils 54 4))]) (.seq (.reg [Xm 12 0, Xb 13 (.call (.fn 30) false [.io (.t 12), .lend (.i 3)]), Xb 14 (.call (.fn 29) false [.lend (.t 13)]), Xa 11 14, Xq 15 (.ext 11 0), Xq 16 (.ext 11 1), Xq 17 (.ext 11 2), Xq 18 (.ext 11 3), Xa 3 15, Xa 4 16, Xa 5 17, Xa 6 18]) (.seq (.reg [Xm 20 3, Xb 21 (.call (.fn 31) false [.lend (.t 20)]), Xa 19 21, Xq 22 (.ext 19 0), Xq 23 (.ext 19
 1), Xq 24 (.ext 19 2), Xa 7 22, Xa 8 23, Xa 9 24]) (.seq (.reg [Xb 25 (.bsl 54 4 []), Xm 26 7, Xb 27 (.app false 54 4 48 (.t 25) (.t 26)), Xa 7 27]) (.join [0, 7, 19, 21, 22, 27, 62] (.seq (.reg [Xm 28 7, Xn 29 28, Xq 30 (.bin false .gtr (.t 29) (.i 0))]) (.cond (.t 30) (.seq (.reg [Xm 31 0, Xm 32 7, Xn 33 32, Xb 34 (.call (.fn 32) false [.io (.t 31), .lend (.t 33)]), Xa 10 34]) (.seq (.reg [Xm 35
 0, Xb 36 (.call (.fn 32) false [.io (.t 35), .lend (.i 20)])]) (.block 0 (.seq (.reg [Xq 38 (.bin false .eql (.t 36) (.i 0)), Xa 37 38]) (.cond (.t 37) (.reg [Xm 39 7, Xm 40 10, Xm 41 0, Xb 42 (.call (.fn 32) false [.io (.t 41), .lend (.i 10)]), Xi 43 4 39 40, Xf 44 0 43, Xz (.store 1 (.t 44) (.t 42))]) (.seq (.reg [Xq 46 (.bin false .eql (.t 36) (.i 1)), Xa 45 46]) (.cond (.t 45) (.reg [Xm 47 7,
 Xm 48 10, Xm 49 0, Xb 50 (.bsl 3 1 [.i 1000000000, .i 1000000001, .i (-1)]), Xb 51 (.call (.fn 33) false [.io (.t 49), .give (.t 50)]), Xi 52 4 47 48, Xf 53 1 52, Xz (.store 1 (.t 53) (.t 51))]) (.seq (.reg [Xq 55 (.bin false .eql (.t 36) (.i 2)), Xa 54 55]) (.cond (.t 54) (.reg [Xm 56 7, Xm 57 7, Xm 58 10, Xi 59 4 57 58, XL 60 4 59, Xb 61 (.bsl 54 4 [.t 60]), Xb 62 (.app true 54 4 48 (.t 56) (.t
 61)), Xa 7 62]) .skip))))))))) .skip)) (.seq (.reg [Xm 63 7, Xa 2 63]) .ret))))))
set_option maxHeartbeats 4000000 in
set_option maxRecDepth 100000 in
theorem p17 (c : Cur) (n : Int) (hc : c.ok n) (hn : n ≤ 10000000000) : Draws 17 [] c n 200 fun r => ∃ e : List Step, r = .usl 54 4 (e.map Step.c) ∧ e.length ≤ 301 ∧ ∀ s ∈ e, s.ok := by
  have k3 : kkE 3 = 88 := rfl
  have b3 : bbE 3 = 121 := rfl
  refine doesE_intro (mc := m17) (N := 64) (rs := [2]) (fx := [0]) 1 rfl (by decide +kernel) ?_
  simp only [m17, EV, Nat.reduceEqDiff, Nat.reduceBEq, Nat.reduceLT, Nat.reduceLeDiff, Nat.reduceAdd, Nat.reduceSub, reduceIte]
  refine (p30 3 (by omega) c n hc (by omega)).call (fun _ => rfl) ?_
  rintro _ c1 hc1 ⟨s, rfl, hs⟩
  simp only [EV, Nat.reduceEqDiff, Nat.reduceBEq, Nat.reduceLT, Nat.reduceLeDiff, Nat.reduceAdd, Nat.reduceSub, reduceIte]
  refine callE_i (e29 s (by omega)) (fun r o h => ⟨h.2, h.1⟩) ?_
  rintro _ ⟨l, a1, a2, a3, rfl, hl, hb⟩
  simp only [Tok.frz, EV, Nat.reduceEqDiff, Nat.reduceBEq, Nat.reduceLT, Nat.reduceLeDiff, Nat.reduceAdd, Nat.reduceSub, reduceIte]
  refine callE_i (e31 l hl hb) (fun r o h => ⟨h.2, h.1⟩) ?_
  rintro _ ⟨e, a4, a5, rfl, he, hso⟩
  simp only [Step.frz, EV, Nat.reduceEqDiff, Nat.reduceBEq, Nat.reduceLT, Nat.reduceLeDiff, Nat.reduceAdd, Nat.reduceSub, reduceIte]
  refine ⟨fun x hx u hu => ?_, by omega, by omega, ?_⟩
  · obtain ⟨y, _, rfl⟩ := List.mem_map.1 hx
    simp only [Step.c, List.mem_cons, List.not_mem_nil, or_false] at hu
    rcases hu with rfl | rfl | rfl | rfl <;> rfl
  have hcc : c1.ok (n + 88) := by rw [k3] at hc1; exact hc1
  refine awp_join (fun p : List Step × Cur => (p.1.length ≤ 301 ∧ ∀ s ∈ p.1, s.ok) ∧ p.2.ok (n + 100)) (fun p => stl [(0, .box 45 p.2.z), (7, .usl 54 4 (p.1.map Step.c)), (19, .tup [.dead, .v (.int .i64 a4), .v (.bool a5)]), (21, .dead), (22, .dead), (27, .dead), (62, .dead)]) ?_ ?_
  · simp only [EV, Nat.reduceEqDiff, Nat.reduceBEq, Nat.reduceLT, Nat.reduceLeDiff, Nat.reduceAdd, Nat.reduceSub, reduceIte]
    rcases f0 : decide (0 < (e.length : Int)) with _ | _
    · simp only [f0, EV, Nat.reduceEqDiff, Nat.reduceBEq, Nat.reduceLT, Nat.reduceLeDiff, Nat.reduceAdd, Nat.reduceSub, reduceIte]
      exact ⟨(e, c1), ⟨⟨by simp only; omega, hso⟩, hcc.up (by omega)⟩, rfl⟩
    simp only [f0, EV, Nat.reduceEqDiff, Nat.reduceBEq, Nat.reduceLT, Nat.reduceLeDiff, Nat.reduceAdd, Nat.reduceSub, reduceIte]
    refine (p32 c1 _ (e.length : Int) hcc (by omega) (by omega)).call (fun _ => rfl) ?_
    rintro _ c2 hc2 ⟨k, rfl, k0, k1, k2⟩
    have f1 : (0 : Int) < e.length := by simpa using f0
    have hkI : k < (e.length : Int) := by
      by_cases h : 1 < (e.length : Int)
      · exact k1 h
      · have := k2 (by omega); omega
    obtain ⟨j, rfl⟩ : ∃ j : Nat, k = (j : Int) := ⟨k.toNat, by omega⟩
    have hj : j < e.length := by omega
    simp only [EV, Nat.reduceEqDiff, Nat.reduceBEq, Nat.reduceLT, Nat.reduceLeDiff, Nat.reduceAdd, Nat.reduceSub, reduceIte]
    refine (p32 c2 _ 20 hc2 (by omega) (by omega)).call (fun _ => rfl) ?_
    rintro _ c3 hc3 ⟨q, rfl, _⟩
    simp only [EV, Nat.reduceEqDiff, Nat.reduceBEq, Nat.reduceLT, Nat.reduceLeDiff, Nat.reduceAdd, Nat.reduceSub, reduceIte]
    have hos := hso _ (List.getElem_mem hj)
    have hjm : j < (e.map Step.c).length := by simp; exact hj
    have h1 : (e.map Step.c)[j]? = some (Step.c e[j]) := by simp [hj]
    have fin : ∀ (c4 : Cur) (o : Step), c4.ok (n + 100) → o.ok → ∃ a : List Step × Cur, ((a.1.length ≤ 301 ∧ ∀ s ∈ a.1, s.ok) ∧ a.2.ok (n + 100)) ∧ stl [(0, AV.box 45 c4.z), (7, .usl 54 4 ((e.map Step.c).set j (Step.c o))), (19, .tup [.dead, .v (.int .i64 a4), .v (.bool a5)]), (21, .dead), (22, .dead), (27, .dead), (62, .dead)] = stl [(0, .box 45 a.2.z), (7, .usl 54 4 (a.1.map Step.c)), (19, .tup [.dead, .v (.int .i64 a4), .v (.bool a5)]), (21, .dead), (22, .dead), (27, .dead), (62, .dead)] := by
      intro c4 o h4 ho
      refine ⟨(e.set j o, c4), ⟨⟨by simp only [List.length_set]; omega, fun x hx => ?_⟩, h4⟩, ?_⟩
      · rcases List.mem_or_eq_of_mem_set hx with h | h
        · exact hso x h
        · rw [h]; exact ho
      · simp only [List.map_set]
    rcases e0 : (q == 0) with _ | _
    rotate_left
    · simp only [e0, EV, Nat.reduceEqDiff, Nat.reduceBEq, Nat.reduceLT, Nat.reduceLeDiff, Nat.reduceAdd, Nat.reduceSub, reduceIte]
      refine (p32 c3 _ 10 hc3 (by omega) (by omega)).call (fun _ => rfl) ?_
      rintro _ c4 hc4 ⟨v, rfl, v0, v1, _⟩
      have v2 := v1 (by omega)
      simp only [hj, hkI, hjm, nth_map hj, nth_set hjm, List.getElem?_set_self hjm, h1, modify_get h1, modify_set, Step.c, EV, Nat.reduceEqDiff, Nat.reduceBEq, Nat.reduceLT, Nat.reduceLeDiff, Nat.reduceAdd, Nat.reduceSub, reduceIte]
      exact fin c4 ⟨v, e[j].value, e[j].mod, e[j].name⟩ (hc4.up (by omega)) ⟨by simp only; omega, by simp only; omega, hos.2.2⟩
    rcases e1 : (q == 1) with _ | _
    rotate_left
    · simp only [e0, e1, EV, Nat.reduceEqDiff, Nat.reduceBEq, Nat.reduceLT, Nat.reduceLeDiff, Nat.reduceAdd, Nat.reduceSub, reduceIte]
      refine (p33 c3 _ [1000000000, 1000000001, -1] hc3 (by omega) (by decide) (by decide)).call (fun _ => rfl) ?_
      rintro _ c4 hc4 ⟨v, hv, rfl⟩
      have v2 : -1 ≤ v ∧ v ≤ 1000000001 := by
        simp only [List.mem_cons, List.not_mem_nil, or_false] at hv
        omega
      simp only [hj, hkI, hjm, nth_map hj, nth_set hjm, List.getElem?_set_self hjm, h1, modify_get h1, modify_set, Step.c, EV, Nat.reduceEqDiff, Nat.reduceBEq, Nat.reduceLT, Nat.reduceLeDiff, Nat.reduceAdd, Nat.reduceSub, reduceIte]
      exact fin c4 ⟨e[j].kind, v, e[j].mod, e[j].name⟩ (hc4.up (by omega)) ⟨hos.1, hos.2.1, by simp only; omega, by simp only; omega, hos.2.2.2.2⟩
    rcases e2 : (q == 2) with _ | _
    rotate_left
    · simp only [e0, e1, e2, hj, hkI, hjm, nth_map hj, nth_set hjm, List.getElem?_set_self hjm, h1, modify_get h1, modify_set, Step.c, EV, Nat.reduceEqDiff, Nat.reduceBEq, Nat.reduceLT, Nat.reduceLeDiff, Nat.reduceAdd, Nat.reduceSub, reduceIte]
      refine ⟨by omega, by omega, (e ++ [e[j]], c3), ⟨⟨by simp; omega, fun x hx => ?_⟩, hc3.up (by omega)⟩, ?_⟩
      · rcases List.mem_append.1 hx with h | h
        · exact hso x h
        · rw [List.mem_singleton] at h; rw [h]; exact hos
      · simp only [List.map_append, List.map_cons, List.map_nil, Step.c]
    · simp only [e0, e1, e2, EV, Nat.reduceEqDiff, Nat.reduceBEq, Nat.reduceLT, Nat.reduceLeDiff, Nat.reduceAdd, Nat.reduceSub, reduceIte]
      exact ⟨(e, c3), ⟨⟨by simp only; omega, hso⟩, hc3.up (by omega)⟩, rfl⟩
  rintro ⟨e, c2⟩ ⟨⟨he, hso⟩, hc2⟩
  simp only at he hso hc2
  simp only [EV, Nat.reduceEqDiff, Nat.reduceBEq, Nat.reduceLT, Nat.reduceLeDiff, Nat.reduceAdd, Nat.reduceSub, reduceIte]
  simp only [Step.nfz, EV, Nat.reduceEqDiff, Nat.reduceBEq, Nat.reduceLT, Nat.reduceLeDiff, Nat.reduceAdd, Nat.reduceSub, reduceIte, evRE, retVC, cellV', evR, nfz, nfzs, nfzss, List.contains_nil, List.contains_cons, Bool.or_false, or_true]
  exact ⟨c2, rfl, hc2.up (by omega), e, rfl, he, hso⟩
end Go.AM
namespace Go.AM
set_option linter.unusedVariables false
set_option linter.unusedSimpArgs false
structure Use where
  mod : ByteArray
  name : ByteArray
def Use.c (s : Use) : List AV := [.v (.string s.mod), .v (.string s.name)]
theorem UseE : (∀ f : Use, f.c.length = 2) ∧ (∀ f : Use, f.c.take 2 = f.c) ∧ (∀ (st : St) (f : Use), frzBs st f.c = f.c) ∧ (∀ f : Use, bares f.c = true) ∧ (∀ f : Use, plains f.c = true) ∧ (∀ f : Use, frzRow f.c = f.c) ∧ (∀ (f : Use) (K : Nat → List (Nat × Nat) → Bool), killVs K f.c = f.c) ∧ (∀ (f : Use) (n : Nat) (p : List (Nat × Nat)) (i : Nat), brws n p i 0 f.c = f.c) ∧ (∀ f : Use, f.c.all storL = true) ∧ (∀ (f : Use) (l : List AV), l.length = 2 → ovw l 0 f.c = f.c) :=
  ⟨fun _ => rfl, fun _ => rfl, fun _ _ => rfl, fun _ => rfl, fun _ => rfl, fun _ => rfl, fun _ _ => rfl, fun _ _ _ _ => rfl, fun _ => rfl, fun f l h => ovw_all (by rw [h]; rfl)⟩
theorem Use.nfz : ∀ l : List Use, nfzss (l.map Use.c) = true
  | [] => rfl
  | s :: l => by simp only [List.map_cons, nfzss, Use.nfz l]; rfl
theorem Use.frz : ∀ l : List Use, frzRows (l.map Use.c) = l.map Use.c
  | [] => rfl
  | s :: l => by simp [frzRows, UseE, Use.frz l]
end Go.AM
namespace Go.AM
set_option linter.unusedVariables false
set_option linter.unusedSimpArgs false
structure Known where
  mod : ByteArray
  name : ByteArray
  value : Int
def Known.c (s : Known) : List AV := [.v (.string s.mod), .v (.string s.name), .v (.int .i64 s.value)]
theorem KnownE : (∀ f : Known, f.c.length = 3) ∧ (∀ f : Known, f.c.take 3 = f.c) ∧ (∀ (st : St) (f : Known), frzBs st f.c = f.c) ∧ (∀ f : Known, bares f.c = true) ∧ (∀ f : Known, plains f.c = true) ∧ (∀ f : Known, frzRow f.c = f.c) ∧ (∀ (f : Known) (K : Nat → List (Nat × Nat) → Bool), killVs K f.c = f.c) ∧ (∀ (f : Known) (n : Nat) (p : List (Nat × Nat)) (i : Nat), brws n p i 0 f.c = f.c) ∧ (∀ f : Known, f.c.all storL = true) ∧ (∀ (f : Known) (l : List AV), l.length = 3 → ovw l 0 f.c = f.c) :=
  ⟨fun _ => rfl, fun _ => rfl, fun _ _ => rfl, fun _ => rfl, fun _ => rfl, fun _ => rfl, fun _ _ => rfl, fun _ _ _ _ => rfl, fun _ => rfl, fun f l h => ovw_all (by rw [h]; rfl)⟩
theorem Known.nfz : ∀ l : List Known, nfzss (l.map Known.c) = true
  | [] => rfl
  | s :: l => by simp only [List.map_cons, nfzss, Known.nfz l]; rfl
theorem Known.frz : ∀ l : List Known, frzRows (l.map Known.c) = l.map Known.c
  | [] => rfl
  | s :: l => by simp [frzRows, KnownE, Known.frz l]
end Go.AM
namespace Go.AM
set_option linter.unusedVariables false
set_option linter.unusedSimpArgs false
def emp (s : ByteArray) : Bool := s.toList == (⟨#[]⟩ : ByteArray).toList
noncomputable def stepOk (s : Step) : Bool :=
  if s.kind = 1 then (decide (0 ≤ s.value) && decide (s.value ≤ 1000000000)) && emp s.mod && emp s.name
  else if s.kind = 2 then s.value == 0 && nameOk s.name && (emp s.mod || nameOk s.mod)
  else (decide (3 ≤ s.kind) && decide (s.kind ≤ 8)) && (s.value == 0 && (emp s.mod && emp s.name))
def m41 : MC :=
 (.seq (.reg [Xb 1 (.box 54 (.t 0)), Xb 2 (.asg .fb)]) (.seq (.seq (.reg [Xf 3 0 1, Xl 4 1 3]) (.block 0 (.seq (.reg [Xq 6 (.bin false .eql (.t 4) (.i 1)), Xa 5 6]) (.cond (.t 5) (.seq (.reg [Xf 7 1 1, Xl 8 1 7, Xb 9 (.call (.fn 43) false [.lend (.t 8), .lend (.i 0), .lend (.i 1000000000)]), Xm 10 9, Xt 11 10 (.fad 2 (.t 1)), Xt 12 10 (.load false 1 (.t 11)), Xt 13 10 (.bin false .eql (.t 12) (.z
 #[])), Xq 14 (.pick (.t 10) (.t 13) .fb), Xm 15 14, Xt 16 15 (.fad 3 (.t 1)), Xt 17 15 (.load false 1 (.t 16)), Xt 18 15 (.bin false .eql (.t 17) (.z #[])), Xq 19 (.pick (.t 15) (.t 18) .fb), Xa 2 19]) .ret) (.seq (.reg [Xq 21 (.bin false .eql (.t 4) (.i 2)), Xa 20 21]) (.cond (.t 20) (.seq (.reg [Xf 22 1 1, Xl 23 1 22, Xq 24 (.bin false .eql (.t 23) (.i 0)), Xm 25 24, Xt 26 25 (.fad 3 (.t 1)), Xt
 27 25 (.load false 1 (.t 26)), XT 28 25 (.call (.fn 55) false [.lend (.t 27)]), Xq 29 (.pick (.t 25) (.t 28) .fb), Xm 30 29, Xt 31 30 (.fad 2 (.t 1)), Xt 32 30 (.load false 1 (.t 31)), Xt 33 30 (.bin false .eql (.t 32) (.z #[])), Xt 34 30 (.mov (.t 33)), Xu 35 34 (.fad 2 (.t 1)), Xu 36 34 (.load false 1 (.t 35)), XU 37 34 (.call (.fn 55) false [.lend (.t 36)]), Xt 38 30 (.pick (.t 34) .tb (.t
 37)), Xq 39 (.pick (.t 30) (.t 38) .fb), Xa 2 39]) .ret) .skip)))))) (.seq (.reg [Xf 40 0 1, Xl 41 1 40, Xb 42 (.call (.fn 43) false [.lend (.t 41), .lend (.i 3), .lend (.i 8)]), Xm 43 42, Xt 44 43 (.load true 4 (.t 1)), Xt 45 43 (.fad 0 (.t 1)), Xt 46 43 (.load false 1 (.t 45)), XT 47 43 (.build [0] [0] [1] [.i, .i, .z, .z] [.t 46]), Xt 48 43 (.eqa false [0, 0, 1, 1] (.t 44) (.t 47)), Xq 49
 (.pick (.t 43) (.t 48) .fb), Xa 2 49]) .ret)))
theorem d41 (s : Step) (h : s.ok) : Does Go.Proofs.Try.prog 41 [.agg s.c] false (.v (.bool (stepOk s))) [.dead] := by
  simp only [Step.ok] at h
  refine does_intro (mc := m41) (N := 50) (rs := [2]) (fx := []) 1 rfl (by decide +kernel) ?_
  simp only [m41, Step.c, EV, Nat.reduceEqDiff, Nat.reduceBEq, Nat.reduceLT, Nat.reduceLeDiff, Nat.reduceAdd, Nat.reduceSub, reduceIte]
  refine cK_cut (fun h1 => ?_) (fun h1 => ?_)
  · have k1 : s.kind = 1 := by simpa using h1
    simp only [EV, Nat.reduceEqDiff, Nat.reduceBEq, Nat.reduceLT, Nat.reduceLeDiff, Nat.reduceAdd, Nat.reduceSub, reduceIte]
    refine callK_i (d43 _ _ _) ?_
    simp only [EV, Nat.reduceEqDiff, Nat.reduceBEq, Nat.reduceLT, Nat.reduceLeDiff, Nat.reduceAdd, Nat.reduceSub, reduceIte]
    repeat' (first
    | (refine gK_cut (fun h => ?_) (fun h => ?_) <;> simp only [h, EV, Nat.reduceEqDiff, Nat.reduceBEq, Nat.reduceLT, Nat.reduceLeDiff, Nat.reduceAdd, Nat.reduceSub, reduceIte])
    | (refine cK_cut (fun h => ?_) (fun h => ?_) <;> simp only [h, EV, Nat.reduceEqDiff, Nat.reduceBEq, Nat.reduceLT, Nat.reduceLeDiff, Nat.reduceAdd, Nat.reduceSub, reduceIte]))
    all_goals simp only [stepOk, emp, *, Int.reduceEq, Bool.and_true, Bool.true_and, Bool.and_false, Bool.false_and, Bool.true_or, Bool.or_true, Bool.false_or, Bool.or_false, EV, Nat.reduceEqDiff, Nat.reduceBEq, Nat.reduceLT, Nat.reduceLeDiff, Nat.reduceAdd, Nat.reduceSub, reduceIte, evRE, retVC, cellV', evR, nfz, nfzs, nfzss, List.contains_nil, List.contains_cons, Bool.or_false, or_true]
  · have k1 : ¬ s.kind = 1 := by simpa using h1
    simp only [EV, Nat.reduceEqDiff, Nat.reduceBEq, Nat.reduceLT, Nat.reduceLeDiff, Nat.reduceAdd, Nat.reduceSub, reduceIte]
    refine cK_cut (fun h2 => ?_) (fun h2 => ?_)
    · have k2 : s.kind = 2 := by simpa using h2
      simp only [EV, Nat.reduceEqDiff, Nat.reduceBEq, Nat.reduceLT, Nat.reduceLeDiff, Nat.reduceAdd, Nat.reduceSub, reduceIte]
      repeat' (first
    | (refine gK_cut (fun h => ?_) (fun h => ?_) <;> simp only [h, EV, Nat.reduceEqDiff, Nat.reduceBEq, Nat.reduceLT, Nat.reduceLeDiff, Nat.reduceAdd, Nat.reduceSub, reduceIte])
    | (refine cK_cut (fun h => ?_) (fun h => ?_) <;> simp only [h, EV, Nat.reduceEqDiff, Nat.reduceBEq, Nat.reduceLT, Nat.reduceLeDiff, Nat.reduceAdd, Nat.reduceSub, reduceIte])
    | (refine callK_i (d55 _ (by omega)) ?_ <;> simp only [h, EV, Nat.reduceEqDiff, Nat.reduceBEq, Nat.reduceLT, Nat.reduceLeDiff, Nat.reduceAdd, Nat.reduceSub, reduceIte]))
      all_goals simp only [stepOk, emp, *, Int.reduceEq, Bool.and_true, Bool.true_and, Bool.and_false, Bool.false_and, Bool.true_or, Bool.or_true, Bool.false_or, Bool.or_false, EV, Nat.reduceEqDiff, Nat.reduceBEq, Nat.reduceLT, Nat.reduceLeDiff, Nat.reduceAdd, Nat.reduceSub, reduceIte, evRE, retVC, cellV', evR, nfz, nfzs, nfzss, List.contains_nil, List.contains_cons, Bool.or_false, or_true]
    · have k2 : ¬ s.kind = 2 := by simpa using h2
      simp only [EV, Nat.reduceEqDiff, Nat.reduceBEq, Nat.reduceLT, Nat.reduceLeDiff, Nat.reduceAdd, Nat.reduceSub, reduceIte]
      refine callK_i (d43 _ _ _) ?_
      simp only [EV, Nat.reduceEqDiff, Nat.reduceBEq, Nat.reduceLT, Nat.reduceLeDiff, Nat.reduceAdd, Nat.reduceSub, reduceIte]
      repeat' (first
    | (refine gK_cut (fun h => ?_) (fun h => ?_) <;> simp only [h, EV, Nat.reduceEqDiff, Nat.reduceBEq, Nat.reduceLT, Nat.reduceLeDiff, Nat.reduceAdd, Nat.reduceSub, reduceIte])
    | (refine cK_cut (fun h => ?_) (fun h => ?_) <;> simp only [h, EV, Nat.reduceEqDiff, Nat.reduceBEq, Nat.reduceLT, Nat.reduceLeDiff, Nat.reduceAdd, Nat.reduceSub, reduceIte]))
      all_goals simp only [stepOk, emp, *, Int.reduceEq, Bool.and_true, Bool.true_and, Bool.and_false, Bool.false_and, Bool.true_or, Bool.or_true, Bool.false_or, Bool.or_false, EV, Nat.reduceEqDiff, Nat.reduceBEq, Nat.reduceLT, Nat.reduceLeDiff, Nat.reduceAdd, Nat.reduceSub, reduceIte, evRE, retVC, cellV', evR, nfz, nfzs, nfzss, List.contains_nil, List.contains_cons, Bool.or_false, or_true]
def m34 : MC :=
 (.seq (.reg [Xb 1 (.box 54 (.t 0)), Xb 2 (.asg .fb)]) (.seq (.seq (.reg [Xf 3 0 1, Xl 4 1 3]) (.block 0 (.seq (.reg [Xq 6 (.bin false .eql (.t 4) (.i 1)), Xa 5 6]) (.cond (.t 5) (.seq (.reg [Xf 7 1 1, Xl 8 1 7, Xb 9 (.call (.fn 53) false [.lend (.t 8), .lend (.i 0), .lend (.i 1000000000)]), Xm 10 9, Xt 11 10 (.fad 2 (.t 1)), Xt 12 10 (.load false 1 (.t 11)), Xt 13 10 (.bin false .eql (.t 12) (.z
 #[])), Xq 14 (.pick (.t 10) (.t 13) .fb), Xm 15 14, Xt 16 15 (.fad 3 (.t 1)), Xt 17 15 (.load false 1 (.t 16)), Xt 18 15 (.bin false .eql (.t 17) (.z #[])), Xq 19 (.pick (.t 15) (.t 18) .fb), Xa 2 19]) .ret) (.seq (.reg [Xq 21 (.bin false .eql (.t 4) (.i 2)), Xa 20 21]) (.cond (.t 20) (.seq (.reg [Xf 22 1 1, Xl 23 1 22, Xq 24 (.bin false .eql (.t 23) (.i 0)), Xm 25 24, Xt 26 25 (.fad 3 (.t 1)), Xt
 27 25 (.load false 1 (.t 26)), XT 28 25 (.call (.fn 54) false [.lend (.t 27)]), Xq 29 (.pick (.t 25) (.t 28) .fb), Xm 30 29, Xt 31 30 (.fad 2 (.t 1)), Xt 32 30 (.load false 1 (.t 31)), Xt 33 30 (.bin false .eql (.t 32) (.z #[])), Xt 34 30 (.mov (.t 33)), Xu 35 34 (.fad 2 (.t 1)), Xu 36 34 (.load false 1 (.t 35)), XU 37 34 (.call (.fn 54) false [.lend (.t 36)]), Xt 38 30 (.pick (.t 34) .tb (.t
 37)), Xq 39 (.pick (.t 30) (.t 38) .fb), Xa 2 39]) .ret) .skip)))))) (.seq (.reg [Xf 40 0 1, Xl 41 1 40, Xb 42 (.call (.fn 53) false [.lend (.t 41), .lend (.i 3), .lend (.i 8)]), Xm 43 42, Xt 44 43 (.load true 4 (.t 1)), Xt 45 43 (.fad 0 (.t 1)), Xt 46 43 (.load false 1 (.t 45)), XT 47 43 (.build [0] [0] [1] [.i, .i, .z, .z] [.t 46]), Xt 48 43 (.eqa false [0, 0, 1, 1] (.t 44) (.t 47)), Xq 49
 (.pick (.t 43) (.t 48) .fb), Xa 2 49]) .ret)))
theorem d34 (s : Step) (h : s.ok) : Does Go.Proofs.Try.prog 34 [.agg s.c] false (.v (.bool (stepOk s))) [.dead] := by
  simp only [Step.ok] at h
  refine does_intro (mc := m34) (N := 50) (rs := [2]) (fx := []) 1 rfl (by decide +kernel) ?_
  simp only [m34, Step.c, EV, Nat.reduceEqDiff, Nat.reduceBEq, Nat.reduceLT, Nat.reduceLeDiff, Nat.reduceAdd, Nat.reduceSub, reduceIte]
  refine cK_cut (fun h1 => ?_) (fun h1 => ?_)
  · have k1 : s.kind = 1 := by simpa using h1
    simp only [EV, Nat.reduceEqDiff, Nat.reduceBEq, Nat.reduceLT, Nat.reduceLeDiff, Nat.reduceAdd, Nat.reduceSub, reduceIte]
    refine callK_i (d53 _ _ _) ?_
    simp only [EV, Nat.reduceEqDiff, Nat.reduceBEq, Nat.reduceLT, Nat.reduceLeDiff, Nat.reduceAdd, Nat.reduceSub, reduceIte]
    repeat' (first
    | (refine gK_cut (fun h => ?_) (fun h => ?_) <;> simp only [h, EV, Nat.reduceEqDiff, Nat.reduceBEq, Nat.reduceLT, Nat.reduceLeDiff, Nat.reduceAdd, Nat.reduceSub, reduceIte])
    | (refine cK_cut (fun h => ?_) (fun h => ?_) <;> simp only [h, EV, Nat.reduceEqDiff, Nat.reduceBEq, Nat.reduceLT, Nat.reduceLeDiff, Nat.reduceAdd, Nat.reduceSub, reduceIte]))
    all_goals simp only [stepOk, emp, *, Int.reduceEq, Bool.and_true, Bool.true_and, Bool.and_false, Bool.false_and, Bool.true_or, Bool.or_true, Bool.false_or, Bool.or_false, EV, Nat.reduceEqDiff, Nat.reduceBEq, Nat.reduceLT, Nat.reduceLeDiff, Nat.reduceAdd, Nat.reduceSub, reduceIte, evRE, retVC, cellV', evR, nfz, nfzs, nfzss, List.contains_nil, List.contains_cons, Bool.or_false, or_true]
  · have k1 : ¬ s.kind = 1 := by simpa using h1
    simp only [EV, Nat.reduceEqDiff, Nat.reduceBEq, Nat.reduceLT, Nat.reduceLeDiff, Nat.reduceAdd, Nat.reduceSub, reduceIte]
    refine cK_cut (fun h2 => ?_) (fun h2 => ?_)
    · have k2 : s.kind = 2 := by simpa using h2
      simp only [EV, Nat.reduceEqDiff, Nat.reduceBEq, Nat.reduceLT, Nat.reduceLeDiff, Nat.reduceAdd, Nat.reduceSub, reduceIte]
      repeat' (first
    | (refine gK_cut (fun h => ?_) (fun h => ?_) <;> simp only [h, EV, Nat.reduceEqDiff, Nat.reduceBEq, Nat.reduceLT, Nat.reduceLeDiff, Nat.reduceAdd, Nat.reduceSub, reduceIte])
    | (refine cK_cut (fun h => ?_) (fun h => ?_) <;> simp only [h, EV, Nat.reduceEqDiff, Nat.reduceBEq, Nat.reduceLT, Nat.reduceLeDiff, Nat.reduceAdd, Nat.reduceSub, reduceIte])
    | (refine callK_i (d54 _ (by omega)) ?_ <;> simp only [h, EV, Nat.reduceEqDiff, Nat.reduceBEq, Nat.reduceLT, Nat.reduceLeDiff, Nat.reduceAdd, Nat.reduceSub, reduceIte]))
      all_goals simp only [stepOk, emp, *, Int.reduceEq, Bool.and_true, Bool.true_and, Bool.and_false, Bool.false_and, Bool.true_or, Bool.or_true, Bool.false_or, Bool.or_false, EV, Nat.reduceEqDiff, Nat.reduceBEq, Nat.reduceLT, Nat.reduceLeDiff, Nat.reduceAdd, Nat.reduceSub, reduceIte, evRE, retVC, cellV', evR, nfz, nfzs, nfzss, List.contains_nil, List.contains_cons, Bool.or_false, or_true]
    · have k2 : ¬ s.kind = 2 := by simpa using h2
      simp only [EV, Nat.reduceEqDiff, Nat.reduceBEq, Nat.reduceLT, Nat.reduceLeDiff, Nat.reduceAdd, Nat.reduceSub, reduceIte]
      refine callK_i (d53 _ _ _) ?_
      simp only [EV, Nat.reduceEqDiff, Nat.reduceBEq, Nat.reduceLT, Nat.reduceLeDiff, Nat.reduceAdd, Nat.reduceSub, reduceIte]
      repeat' (first
    | (refine gK_cut (fun h => ?_) (fun h => ?_) <;> simp only [h, EV, Nat.reduceEqDiff, Nat.reduceBEq, Nat.reduceLT, Nat.reduceLeDiff, Nat.reduceAdd, Nat.reduceSub, reduceIte])
    | (refine cK_cut (fun h => ?_) (fun h => ?_) <;> simp only [h, EV, Nat.reduceEqDiff, Nat.reduceBEq, Nat.reduceLT, Nat.reduceLeDiff, Nat.reduceAdd, Nat.reduceSub, reduceIte]))
      all_goals simp only [stepOk, emp, *, Int.reduceEq, Bool.and_true, Bool.true_and, Bool.and_false, Bool.false_and, Bool.true_or, Bool.or_true, Bool.false_or, Bool.or_false, EV, Nat.reduceEqDiff, Nat.reduceBEq, Nat.reduceLT, Nat.reduceLeDiff, Nat.reduceAdd, Nat.reduceSub, reduceIte, evRE, retVC, cellV', evR, nfz, nfzs, nfzss, List.contains_nil, List.contains_cons, Bool.or_false, or_true]
end Go.AM
namespace Go.AM
set_option linter.unusedVariables false
set_option linter.unusedSimpArgs false
noncomputable def exStep (n : Int) (s : Step) : Option Int :=
  if stepOk s = false then none
  else if 3 ≤ s.kind ∧ s.kind ≤ 7 then (if n < 2 then none else some (n - 1))
  else if s.kind = 8 then (if n < 1 then none else some n)
  else some (n + 1)
noncomputable def exRun : Int → List Step → Option Int
  | n, [] => some n
  | n, s :: r => match exStep n s with | some m => exRun m r | none => none
noncomputable def exprOk (l : List Step) : Bool := match exRun 0 l with | some n => n == 1 && decide ((l.length : Int) ≤ 40) | none => false
theorem exStep_le {n m : Int} {s : Step} (h : exStep n s = some m) (h0 : 0 ≤ n) : 0 ≤ m ∧ m ≤ n + 1 := by
  unfold exStep at h
  repeat' split at h
  all_goals first | (cases h; done) | (simp only [Option.some.injEq] at h; omega)
theorem stepOk_kind {s : Step} (h : stepOk s = true) : 1 ≤ s.kind ∧ s.kind ≤ 8 := by
  unfold stepOk at h
  split at h
  · omega
  · split at h
    · omega
    · simp only [Bool.and_eq_true, decide_eq_true_eq] at h; omega
theorem exS0 {n : Int} {s : Step} (h : stepOk s = false) : exStep n s = none := by simp [exStep, h]
theorem exS1 {n : Int} {s : Step} (h : stepOk s = true) (h1 : 3 ≤ s.kind) (h2 : s.kind ≤ 7) (h3 : n < 2) : exStep n s = none := by simp [exStep, h1, h2, h3]
theorem exS2 {n : Int} {s : Step} (h : stepOk s = true) (h1 : 3 ≤ s.kind) (h2 : s.kind ≤ 7) (h3 : ¬ n < 2) : exStep n s = some (n - 1) := by simp [exStep, h, h1, h2, h3]
theorem exS3 {n : Int} {s : Step} (h : stepOk s = true) (h1 : s.kind = 8) (h3 : n < 1) : exStep n s = none := by simp [exStep, h, h1, h3]
theorem exS4 {n : Int} {s : Step} (h : stepOk s = true) (h1 : s.kind = 8) (h3 : ¬ n < 1) : exStep n s = some n := by simp [exStep, h, h1, h3]
theorem exS5 {n : Int} {s : Step} (h : stepOk s = true) (h1 : ¬ (3 ≤ s.kind ∧ s.kind ≤ 7)) (h2 : ¬ s.kind = 8) : exStep n s = some (n + 1) := by simp only [exStep, h, h1, h2, if_false, Bool.true_eq_false]
def m42 : MC :=
 (.seq (.reg [Xb 2 (.asg .fb)]) (.seq (.reg [Xm 3 0, Xb 4 (.call (.fn 43) false [.lend (.t 3), .lend (.i 3), .lend (.i 7)]), Xa 2 4]) .ret))
theorem d42 (k : Int) : Does Go.Proofs.Try.prog 42 [.v (.int .i64 k)] false (.v (.bool (decide (3 ≤ k) && decide (k ≤ 7)))) [.dead] := by
  refine does_intro (mc := m42) (N := 5) (rs := [2]) (fx := []) 1 rfl (by decide +kernel) ?_
  simp only [m42, EV, Nat.reduceEqDiff, Nat.reduceBEq, Nat.reduceLT, Nat.reduceLeDiff, Nat.reduceAdd, Nat.reduceSub, reduceIte]
  refine callK_i (d43 _ _ _) ?_
  simp only [EV, Nat.reduceEqDiff, Nat.reduceBEq, Nat.reduceLT, Nat.reduceLeDiff, Nat.reduceAdd, Nat.reduceSub, reduceIte]
  simp only [EV, Nat.reduceEqDiff, Nat.reduceBEq, Nat.reduceLT, Nat.reduceLeDiff, Nat.reduceAdd, Nat.reduceSub, reduceIte, evRE, retVC, cellV', evR, nfz, nfzs, nfzss, List.contains_nil, List.contains_cons, Bool.or_false, or_true]
def m23 : MC :=
 (.seq (.reg [Xb 2 (.asg .fb)]) (.seq (.reg [Xb 3 (.asg (.i 0))]) (.seq (.seq (.reg [Xm 6 0, Xn 7 6, Xq 8 (.mov (.i 0))]) (.block 0 (.loop [0, 3, 6, 7, 8] (.seq (.reg [Xq 9 (.bin false .lss (.t 8) (.t 7))]) (.seq (.cond (.t 9) .skip (.exit 0)) (.join [0, 3, 6, 7, 8] (.block 1 (.seq (.reg [Xi 10 4 6 8, XL 11 4 10, Xb 5 (.alloc 54 [.i, .i, .z, .z]), Xz (.store 4 (.t 5) (.t 11))]) (.block 2 (.seq
 (.reg [XL 13 4 5, Xb 14 (.call (.fn 41) false [.lend (.t 13)]), Xq 15 (.un .not (.t 14)), Xm 16 15, Xu 17 16 (.fad 0 (.t 5)), Xu 18 16 (.load false 1 (.t 17)), XU 19 16 (.call (.fn 42) false [.lend (.t 18)]), Xu 20 16 (.mov (.t 19)), Xt 21 20 (.mov (.t 3)), Xt 22 20 (.bin false .lss (.t 21) (.i 2)), Xu 23 16 (.pick (.t 20) (.t 22) .fb), Xq 24 (.pick (.t 16) .tb (.t 23)), Xm 25 24, Xu 26 25 (.fad 0
 (.t 5)), Xu 27 25 (.load false 1 (.t 26)), Xu 28 25 (.bin false .eql (.t 27) (.i 8)), Xu 29 25 (.mov (.t 28)), Xt 30 29 (.mov (.t 3)), Xt 31 29 (.bin false .lss (.t 30) (.i 1)), Xu 32 25 (.pick (.t 29) (.t 31) .fb), Xq 33 (.pick (.t 25) .tb (.t 32)), Xa 12 33]) (.cond (.t 12) (.seq (.reg [Xb 2 (.asg .fb)]) .ret) (.seq (.reg [Xf 35 0 5, Xl 36 1 35, Xb 37 (.call (.fn 42) false [.lend (.t 36)]), Xa
 34 37]) (.cond (.t 34) (.reg [Xm 38 3, Xq 39 (.bin false .sub (.t 38) (.i 1)), Xa 3 39]) (.seq (.reg [Xf 41 0 5, Xl 42 1 41, Xq 43 (.bin false .neq (.t 42) (.i 8)), Xa 40 43]) (.cond (.t 40) (.reg [Xm 44 3, Xq 45 (.bin false .add (.t 44) (.i 1)), Xa 3 45]) .skip))))))))) (.reg [Xq 46 (.bin false .add (.t 8) (.i 1)), Xm 8 46]))))))) (.seq (.reg [Xm 47 3, Xq 48 (.bin false .eql (.t 47) (.i 1)), Xm
 49 48, Xt 50 49 (.mov (.t 0)), Xt 51 49 (.len false (.t 50)), Xt 52 49 (.bin false .leq (.t 51) (.i 40)), Xq 53 (.pick (.t 49) (.t 52) .fb), Xa 2 53]) .ret))))
set_option maxRecDepth 100000 in
theorem d23 (l : List Step) (hl : (l.length : Int) ≤ 1048576) (hs : ∀ s ∈ l, s.ok) : Does Go.Proofs.Try.prog 23 [.fsl 4 (l.map Step.c)] false (.v (.bool (exprOk l))) [.dead] := by
  refine does_intro (mc := m23) (N := 54) (rs := [2]) (fx := []) 1 rfl (by decide +kernel) ?_
  simp only [m23, EV, Nat.reduceEqDiff, Nat.reduceBEq, Nat.reduceLT, Nat.reduceLeDiff, Nat.reduceAdd, Nat.reduceSub, reduceIte]
  refine awp_loop (fun p : Nat × Int => p.1 ≤ l.length ∧ exRun p.2 (l.drop p.1) = exRun 0 l ∧ 0 ≤ p.2 ∧ p.2 ≤ p.1) (fun p => stl [(0, .fsl 4 (l.map Step.c)), (3, .v (.int .i64 p.2)), (6, .fsl 4 (l.map Step.c)), (7, .v (.int .i64 (l.length : Int))), (8, .v (.int .i64 (p.1 : Int)))]) (fun p => l.length - p.1) (0, 0) ⟨by simp, rfl, by simp, by simp⟩ ?_ ?_
  · simp only [EV, Nat.reduceEqDiff, Nat.reduceBEq, Nat.reduceLT, Nat.reduceLeDiff, Nat.reduceAdd, Nat.reduceSub, reduceIte]
    rfl
  · rintro ⟨i, n⟩ ⟨p0, p1, p2, p3⟩
    simp only at p0 p1 p2 p3
    simp only [EV, Nat.reduceEqDiff, Nat.reduceBEq, Nat.reduceLT, Nat.reduceLeDiff, Nat.reduceAdd, Nat.reduceSub, reduceIte]
    refine cK_cut (fun h => ?_) (fun h => ?_)
    · have h1 : i < l.length := by simpa using h
      have h2 : (i : Int) < (l.length : Int) := by omega
      have hso := hs l[i] (List.getElem_mem h1)
      rw [List.drop_eq_getElem_cons h1] at p1
      simp only [exRun] at p1
      have p9 : exStep n l[i] = none → exprOk l = false := by
        intro hc
        simp only [exprOk, ← p1, hc]
      refine awp_join (fun m : Int => exStep n l[i] = some m) (fun m => stl [(0, .fsl 4 (l.map Step.c)), (3, .v (.int .i64 m)), (6, .fsl 4 (l.map Step.c)), (7, .v (.int .i64 (l.length : Int))), (8, .v (.int .i64 (i : Int)))]) ?_ ?_
      · simp only [StepE, nth_map h1, h2, EV, Nat.reduceEqDiff, Nat.reduceBEq, Nat.reduceLT, Nat.reduceLeDiff, Nat.reduceAdd, Nat.reduceSub, reduceIte]
        refine callK_i (d41 _ hso) ?_
        simp only [Step.c, EV, Nat.reduceEqDiff, Nat.reduceBEq, Nat.reduceLT, Nat.reduceLeDiff, Nat.reduceAdd, Nat.reduceSub, reduceIte]
        repeat' (first
    | (refine gK_cut (fun h => ?_) (fun h => ?_) <;> simp only [h, EV, Nat.reduceEqDiff, Nat.reduceBEq, Nat.reduceLT, Nat.reduceLeDiff, Nat.reduceAdd, Nat.reduceSub, reduceIte])
    | (refine cK_cut (fun h => ?_) (fun h => ?_) <;> simp only [h, EV, Nat.reduceEqDiff, Nat.reduceBEq, Nat.reduceLT, Nat.reduceLeDiff, Nat.reduceAdd, Nat.reduceSub, reduceIte])
    | (refine callK_i (d42 _) ?_ <;> simp only [h, EV, Nat.reduceEqDiff, Nat.reduceBEq, Nat.reduceLT, Nat.reduceLeDiff, Nat.reduceAdd, Nat.reduceSub, reduceIte]))
        all_goals clear p1
        all_goals simp only [Bool.not_eq_true', Bool.not_eq_false', Bool.and_eq_true, Bool.and_eq_false_iff, decide_eq_true_eq, decide_eq_false_iff_not, beq_iff_eq, beq_eq_false_iff_ne, bne_iff_ne, ne_eq, bne_eq_false_iff_eq] at *
        all_goals (try have hk := stepOk_kind (s := l[i]) (by assumption))
        all_goals first
          | (exfalso; omega)
          | (have hc : exStep n l[i] = none := by
               first
                 | exact exS0 (by assumption)
                 | exact exS1 (by assumption) (by omega) (by omega) (by omega)
                 | exact exS3 (by assumption) (by omega) (by omega)
             simp only [p9 hc, EV, Nat.reduceEqDiff, Nat.reduceBEq, Nat.reduceLT, Nat.reduceLeDiff, Nat.reduceAdd, Nat.reduceSub, reduceIte, evRE, retVC, cellV', evR, nfz, nfzs, nfzss, List.contains_nil, List.contains_cons, Bool.or_false, or_true]
             done)
          | (rw [w64 _ (by omega)]
             exact ⟨n - 1, exS2 (by assumption) (by omega) (by omega) (by omega), rfl⟩)
          | (rw [w64 _ (by omega)]
             exact ⟨n + 1, exS5 (by assumption) (by omega) (by omega), rfl⟩)
          | exact ⟨n, exS4 (by assumption) (by omega) (by omega), rfl⟩
      · rintro m hm
        have := exStep_le hm p2
        simp only [EV, Nat.reduceEqDiff, Nat.reduceBEq, Nat.reduceLT, Nat.reduceLeDiff, Nat.reduceAdd, Nat.reduceSub, reduceIte]
        rw [w64 _ (by omega)]
        refine ⟨(i + 1, m), ⟨by simp only; omega, ?_, by simp only; omega, by simp only; omega⟩, by simp only; omega, rfl⟩
        simp only [hm] at p1
        exact p1
    · have h1 : i = l.length := by have : ¬ (i : Int) < l.length := by simpa using h
                                   omega
      subst h1
      rw [List.drop_length] at p1
      simp only [exRun] at p1
      have e : exprOk l = (n == 1 && decide ((l.length : Int) ≤ 40)) := by simp only [exprOk, ← p1]
      simp only [EV, Nat.reduceEqDiff, Nat.reduceBEq, Nat.reduceLT, Nat.reduceLeDiff, Nat.reduceAdd, Nat.reduceSub, reduceIte]
      repeat' (first
    | (refine gK_cut (fun h => ?_) (fun h => ?_) <;> simp only [h, EV, Nat.reduceEqDiff, Nat.reduceBEq, Nat.reduceLT, Nat.reduceLeDiff, Nat.reduceAdd, Nat.reduceSub, reduceIte])
    | (refine cK_cut (fun h => ?_) (fun h => ?_) <;> simp only [h, EV, Nat.reduceEqDiff, Nat.reduceBEq, Nat.reduceLT, Nat.reduceLeDiff, Nat.reduceAdd, Nat.reduceSub, reduceIte]))
      all_goals simp only [e, h, EV, Nat.reduceEqDiff, Nat.reduceBEq, Nat.reduceLT, Nat.reduceLeDiff, Nat.reduceAdd, Nat.reduceSub, reduceIte, evRE, retVC, cellV', evR, nfz, nfzs, nfzss, List.contains_nil, List.contains_cons, Bool.or_false, or_true]
def m20 : MC :=
 (.seq (.reg [Xb 2 (.asg .fb)]) (.seq (.reg [Xb 3 (.asg (.i 0))]) (.seq (.seq (.reg [Xm 6 0, Xn 7 6, Xq 8 (.mov (.i 0))]) (.block 0 (.loop [0, 3, 6, 7, 8] (.seq (.reg [Xq 9 (.bin false .lss (.t 8) (.t 7))]) (.seq (.cond (.t 9) .skip (.exit 0)) (.join [0, 3, 6, 7, 8] (.block 1 (.seq (.reg [Xi 10 4 6 8, XL 11 4 10, Xb 5 (.alloc 54 [.i, .i, .z, .z]), Xz (.store 4 (.t 5) (.t 11))]) (.block 2 (.seq
 (.reg [XL 17 4 5, Xb 18 (.call (.fn 34) false [.lend (.t 17)]), Xq 19 (.un .not (.t 18)), Xa 16 19]) (.cond (.t 16) (.seq (.reg [Xb 2 (.asg .fb)]) .ret) (.seq (.reg [Xf 21 0 5, Xl 22 1 21, Xq 23 (.bin false .leq (.t 22) (.i 2)), Xa 20 23]) (.cond (.t 20) (.reg [Xm 24 3, Xq 25 (.bin false .add (.t 24) (.i 1)), Xa 3 25]) (.seq (.reg [Xf 27 0 5, Xl 28 1 27, Xq 29 (.bin false .eql (.t 28) (.i 8)), Xa
 26 29]) (.cond (.t 26) (.seq (.reg [Xm 30 3, Xq 31 (.bin false .lss (.t 30) (.i 1))]) (.cond (.t 31) (.seq (.reg [Xb 2 (.asg .fb)]) .ret) .skip)) (.seq (.seq (.reg [Xm 12 3, Xq 13 (.bin false .lss (.t 12) (.i 2))]) (.cond (.t 13) (.seq (.reg [Xb 2 (.asg .fb)]) .ret) .skip)) (.reg [Xm 14 3, Xq 15 (.bin false .sub (.t 14) (.i 1)), Xa 3 15]))))))))))) (.reg [Xq 32 (.bin false .add (.t 8) (.i 1)), Xm
 8 32]))))))) (.seq (.reg [Xm 33 3, Xq 34 (.bin false .eql (.t 33) (.i 1)), Xm 35 34, Xt 36 35 (.mov (.t 0)), Xt 37 35 (.len false (.t 36)), Xt 38 35 (.bin false .leq (.t 37) (.i 40)), Xq 39 (.pick (.t 35) (.t 38) .fb), Xa 2 39]) .ret))))
set_option maxRecDepth 100000 in
theorem d20 (l : List Step) (hl : (l.length : Int) ≤ 1048576) (hs : ∀ s ∈ l, s.ok) : Does Go.Proofs.Try.prog 20 [.fsl 4 (l.map Step.c)] false (.v (.bool (exprOk l))) [.dead] := by
  refine does_intro (mc := m20) (N := 40) (rs := [2]) (fx := []) 1 rfl (by decide +kernel) ?_
  simp only [m20, EV, Nat.reduceEqDiff, Nat.reduceBEq, Nat.reduceLT, Nat.reduceLeDiff, Nat.reduceAdd, Nat.reduceSub, reduceIte]
  refine awp_loop (fun p : Nat × Int => p.1 ≤ l.length ∧ exRun p.2 (l.drop p.1) = exRun 0 l ∧ 0 ≤ p.2 ∧ p.2 ≤ p.1) (fun p => stl [(0, .fsl 4 (l.map Step.c)), (3, .v (.int .i64 p.2)), (6, .fsl 4 (l.map Step.c)), (7, .v (.int .i64 (l.length : Int))), (8, .v (.int .i64 (p.1 : Int)))]) (fun p => l.length - p.1) (0, 0) ⟨by simp, rfl, by simp, by simp⟩ ?_ ?_
  · simp only [EV, Nat.reduceEqDiff, Nat.reduceBEq, Nat.reduceLT, Nat.reduceLeDiff, Nat.reduceAdd, Nat.reduceSub, reduceIte]
    rfl
  · rintro ⟨i, n⟩ ⟨p0, p1, p2, p3⟩
    simp only at p0 p1 p2 p3
    simp only [EV, Nat.reduceEqDiff, Nat.reduceBEq, Nat.reduceLT, Nat.reduceLeDiff, Nat.reduceAdd, Nat.reduceSub, reduceIte]
    refine cK_cut (fun h => ?_) (fun h => ?_)
    · have h1 : i < l.length := by simpa using h
      have h2 : (i : Int) < (l.length : Int) := by omega
      have hso := hs l[i] (List.getElem_mem h1)
      rw [List.drop_eq_getElem_cons h1] at p1
      simp only [exRun] at p1
      have p9 : exStep n l[i] = none → exprOk l = false := by
        intro hc
        simp only [exprOk, ← p1, hc]
      refine awp_join (fun m : Int => exStep n l[i] = some m) (fun m => stl [(0, .fsl 4 (l.map Step.c)), (3, .v (.int .i64 m)), (6, .fsl 4 (l.map Step.c)), (7, .v (.int .i64 (l.length : Int))), (8, .v (.int .i64 (i : Int)))]) ?_ ?_
      · simp only [StepE, nth_map h1, h2, EV, Nat.reduceEqDiff, Nat.reduceBEq, Nat.reduceLT, Nat.reduceLeDiff, Nat.reduceAdd, Nat.reduceSub, reduceIte]
        refine callK_i (d34 _ hso) ?_
        simp only [Step.c, EV, Nat.reduceEqDiff, Nat.reduceBEq, Nat.reduceLT, Nat.reduceLeDiff, Nat.reduceAdd, Nat.reduceSub, reduceIte]
        repeat' (first
    | (refine gK_cut (fun h => ?_) (fun h => ?_) <;> simp only [h, EV, Nat.reduceEqDiff, Nat.reduceBEq, Nat.reduceLT, Nat.reduceLeDiff, Nat.reduceAdd, Nat.reduceSub, reduceIte])
    | (refine cK_cut (fun h => ?_) (fun h => ?_) <;> simp only [h, EV, Nat.reduceEqDiff, Nat.reduceBEq, Nat.reduceLT, Nat.reduceLeDiff, Nat.reduceAdd, Nat.reduceSub, reduceIte])
    | (refine callK_i (d42 _) ?_ <;> simp only [h, EV, Nat.reduceEqDiff, Nat.reduceBEq, Nat.reduceLT, Nat.reduceLeDiff, Nat.reduceAdd, Nat.reduceSub, reduceIte]))
        all_goals clear p1
        all_goals simp only [Bool.not_eq_true', Bool.not_eq_false', Bool.and_eq_true, Bool.and_eq_false_iff, decide_eq_true_eq, decide_eq_false_iff_not, beq_iff_eq, beq_eq_false_iff_ne, bne_iff_ne, ne_eq, bne_eq_false_iff_eq] at *
        all_goals (try have hk := stepOk_kind (s := l[i]) (by assumption))
        all_goals first
          | (exfalso; omega)
          | (have hc : exStep n l[i] = none := by
               first
                 | exact exS0 (by assumption)
                 | exact exS1 (by assumption) (by omega) (by omega) (by omega)
                 | exact exS3 (by assumption) (by omega) (by omega)
             simp only [p9 hc, EV, Nat.reduceEqDiff, Nat.reduceBEq, Nat.reduceLT, Nat.reduceLeDiff, Nat.reduceAdd, Nat.reduceSub, reduceIte, evRE, retVC, cellV', evR, nfz, nfzs, nfzss, List.contains_nil, List.contains_cons, Bool.or_false, or_true]
             done)
          | (rw [w64 _ (by omega)]
             exact ⟨n - 1, exS2 (by assumption) (by omega) (by omega) (by omega), rfl⟩)
          | (rw [w64 _ (by omega)]
             exact ⟨n + 1, exS5 (by assumption) (by omega) (by omega), rfl⟩)
          | exact ⟨n, exS4 (by assumption) (by omega) (by omega), rfl⟩
      · rintro m hm
        have := exStep_le hm p2
        simp only [EV, Nat.reduceEqDiff, Nat.reduceBEq, Nat.reduceLT, Nat.reduceLeDiff, Nat.reduceAdd, Nat.reduceSub, reduceIte]
        rw [w64 _ (by omega)]
        refine ⟨(i + 1, m), ⟨by simp only; omega, ?_, by simp only; omega, by simp only; omega⟩, by simp only; omega, rfl⟩
        simp only [hm] at p1
        exact p1
    · have h1 : i = l.length := by have : ¬ (i : Int) < l.length := by simpa using h
                                   omega
      subst h1
      rw [List.drop_length] at p1
      simp only [exRun] at p1
      have e : exprOk l = (n == 1 && decide ((l.length : Int) ≤ 40)) := by simp only [exprOk, ← p1]
      simp only [EV, Nat.reduceEqDiff, Nat.reduceBEq, Nat.reduceLT, Nat.reduceLeDiff, Nat.reduceAdd, Nat.reduceSub, reduceIte]
      repeat' (first
    | (refine gK_cut (fun h => ?_) (fun h => ?_) <;> simp only [h, EV, Nat.reduceEqDiff, Nat.reduceBEq, Nat.reduceLT, Nat.reduceLeDiff, Nat.reduceAdd, Nat.reduceSub, reduceIte])
    | (refine cK_cut (fun h => ?_) (fun h => ?_) <;> simp only [h, EV, Nat.reduceEqDiff, Nat.reduceBEq, Nat.reduceLT, Nat.reduceLeDiff, Nat.reduceAdd, Nat.reduceSub, reduceIte]))
      all_goals simp only [e, h, EV, Nat.reduceEqDiff, Nat.reduceBEq, Nat.reduceLT, Nat.reduceLeDiff, Nat.reduceAdd, Nat.reduceSub, reduceIte, evRE, retVC, cellV', evR, nfz, nfzs, nfzss, List.contains_nil, List.contains_cons, Bool.or_false, or_true]
end Go.AM
namespace Go.AM
set_option linter.unusedVariables false
set_option linter.unusedSimpArgs false
def whole (n : Int) : Bool := decide (-1000000000 ≤ n) && decide (n ≤ 1000000000)
theorem whole_iff {n : Int} : whole n = true ↔ -1000000000 ≤ n ∧ n ≤ 1000000000 := by simp [whole]
def knOk (l : List Known) : Bool := decide ((l.length : Int) ≤ 40) && l.all fun k => whole k.value
theorem knOk_no {l : List Known} {i : Nat} (h : i < l.length) (h2 : whole l[i].value = false) : knOk l = false := by
  have : (l.all fun k => whole k.value) = false := by
    rw [List.all_eq_false]
    exact ⟨l[i], List.getElem_mem h, by simp [h2]⟩
  simp [knOk, this]
def m37 : MC :=
 (.seq (.reg [Xb 2 (.asg .fb)]) (.seq (.reg [Xm 3 0, Xb 4 (.call (.fn 53) false [.lend (.t 3), .lend (.i (-1000000000)), .lend (.i 1000000000)]), Xa 2 4]) .ret))
theorem d37 (n : Int) : Does Go.Proofs.Try.prog 37 [.v (.int .i64 n)] false (.v (.bool (whole n))) [.dead] := by
  refine does_intro (mc := m37) (N := 5) (rs := [2]) (fx := []) 1 rfl (by decide +kernel) ?_
  simp only [m37, EV, Nat.reduceEqDiff, Nat.reduceBEq, Nat.reduceLT, Nat.reduceLeDiff, Nat.reduceAdd, Nat.reduceSub, reduceIte]
  refine callK_i (d53 _ _ _) ?_
  simp only [EV, Nat.reduceEqDiff, Nat.reduceBEq, Nat.reduceLT, Nat.reduceLeDiff, Nat.reduceAdd, Nat.reduceSub, reduceIte]
  simp only [whole, EV, Nat.reduceEqDiff, Nat.reduceBEq, Nat.reduceLT, Nat.reduceLeDiff, Nat.reduceAdd, Nat.reduceSub, reduceIte, evRE, retVC, cellV', evR, nfz, nfzs, nfzss, List.contains_nil, List.contains_cons, Bool.or_false, or_true]
def m36 : MC :=
 (.seq (.reg [Xb 1 (.box 34 (.t 0)), Xb 2 (.asg .fb)]) (.seq (.reg [Xf 3 2 1, Xl 4 1 3, Xb 5 (.call (.fn 37) false [.lend (.t 4)]), Xq 6 (.un .not (.t 5)), Xa 2 6]) .ret))
theorem d36 (k : Known) : Does Go.Proofs.Try.prog 36 [.agg k.c] false (.v (.bool (!whole k.value))) [.dead] := by
  refine does_intro (mc := m36) (N := 7) (rs := [2]) (fx := []) 1 rfl (by decide +kernel) ?_
  simp only [m36, Known.c, EV, Nat.reduceEqDiff, Nat.reduceBEq, Nat.reduceLT, Nat.reduceLeDiff, Nat.reduceAdd, Nat.reduceSub, reduceIte]
  refine callK_i (d37 _) ?_
  simp only [EV, Nat.reduceEqDiff, Nat.reduceBEq, Nat.reduceLT, Nat.reduceLeDiff, Nat.reduceAdd, Nat.reduceSub, reduceIte]
  simp only [EV, Nat.reduceEqDiff, Nat.reduceBEq, Nat.reduceLT, Nat.reduceLeDiff, Nat.reduceAdd, Nat.reduceSub, reduceIte, evRE, retVC, cellV', evR, nfz, nfzs, nfzss, List.contains_nil, List.contains_cons, Bool.or_false, or_true]
def m38 : MC :=
 (.seq (.reg [Xb 4 (.asg (.i 0))]) (.seq (.seq (.reg [Xm 6 0, Xn 7 6, Xq 8 (.mov (.i 0))]) (.block 0 (.loop [0, 1, 7, 8] (.seq (.reg [Xq 9 (.bin false .lss (.t 8) (.t 7))]) (.seq (.cond (.t 9) .skip (.exit 0)) (.seq (.block 1 (.seq (.reg [Xm 10 8, Xa 5 10]) (.seq (.reg [Xm 11 1, Xm 12 0, Xm 13 5, Xi 14 3 12 13, XL 15 3 14, Xb 16 (.call (.t 11) false [.lend (.t 15)])]) (.cond (.t 16) (.seq (.reg [Xm
 17 5, Xa 4 17]) .ret) .skip)))) (.reg [Xq 18 (.bin false .add (.t 8) (.i 1)), Xm 8 18]))))))) (.seq (.reg [Xb 4 (.asg (.i (-1)))]) .ret)))
theorem d38 (l : List Known) (hl : l.length < 9223372036854775807) (f : Nat) (caps : List AV) (q : Known → Bool) (hp : plains caps = true) (hb : bares caps = true) (hk : ∀ K, killVs K caps = caps) (hf : ∀ (st : St), frzBs st caps = caps)
    (hq : ∀ s ∈ l, Does Go.Proofs.Try.prog f (.agg s.c :: caps) false (.v (.bool (q s))) (.dead :: caps.map fun _ => .dead)) :
    Does Go.Proofs.Try.prog 38 [.fsl 3 (l.map Known.c), .clo f caps] false (.v (.int .i64 (findI q l))) [.dead, .dead] := by
  refine does_intro (mc := m38) (N := 19) (rs := [4]) (fx := []) 2 rfl (by decide +kernel) ?_
  simp only [m38, EV, Nat.reduceEqDiff, Nat.reduceBEq, Nat.reduceLT, Nat.reduceLeDiff, Nat.reduceAdd, Nat.reduceSub, reduceIte]
  refine awp_loop (fun i : Nat => i ≤ l.length ∧ ∀ j (hj : j < l.length), j < i → q l[j] = false) (fun i => stl [(0, .fsl 3 (l.map Known.c)), (1, .clo f caps), (7, .v (.int .i64 (l.length : Int))), (8, .v (.int .i64 (i : Int)))]) (fun i => l.length - i) 0 ⟨Nat.zero_le _, fun j hj h => absurd h (by omega)⟩ ?_ ?_
  · simp only [hp, hb, hk, EV, Nat.reduceEqDiff, Nat.reduceBEq, Nat.reduceLT, Nat.reduceLeDiff, Nat.reduceAdd, Nat.reduceSub, reduceIte]
    rfl
  · rintro i ⟨hi, hno⟩
    simp only [EV, Nat.reduceEqDiff, Nat.reduceBEq, Nat.reduceLT, Nat.reduceLeDiff, Nat.reduceAdd, Nat.reduceSub, reduceIte]
    refine cK_cut (fun h => ?_) (fun h => ?_)
    · have h1 : i < l.length := by simpa using h
      have h2 : (i : Int) < (l.length : Int) := by omega
      simp only [KnownE, nth_map h1, h2, hp, hb, EV, Nat.reduceEqDiff, Nat.reduceBEq, Nat.reduceLT, Nat.reduceLeDiff, Nat.reduceAdd, Nat.reduceSub, reduceIte]
      refine callK_i (hq l[i] (List.getElem_mem h1)) ?_
      simp only [EV, Nat.reduceEqDiff, Nat.reduceBEq, Nat.reduceLT, Nat.reduceLeDiff, Nat.reduceAdd, Nat.reduceSub, reduceIte]
      refine cK_cut (fun h => ?_) (fun h => ?_)
      · simp only [EV, Nat.reduceEqDiff, Nat.reduceBEq, Nat.reduceLT, Nat.reduceLeDiff, Nat.reduceAdd, Nat.reduceSub, reduceIte]
        simp only [findI_at h1 h hno, EV, Nat.reduceEqDiff, Nat.reduceBEq, Nat.reduceLT, Nat.reduceLeDiff, Nat.reduceAdd, Nat.reduceSub, reduceIte, evRE, retVC, cellV', evR, nfz, nfzs, nfzss, List.contains_nil, List.contains_cons, Bool.or_false, or_true]
      · simp only [hp, hb, hk, EV, Nat.reduceEqDiff, Nat.reduceBEq, Nat.reduceLT, Nat.reduceLeDiff, Nat.reduceAdd, Nat.reduceSub, reduceIte]
        rw [w64 _ (by omega)]
        refine ⟨i + 1, ⟨by omega, ?_⟩, by omega, rfl⟩
        intro j hj hji
        by_cases e : j = i
        · subst e; exact h
        · exact hno j hj (by omega)
    · have h1 : i = l.length := by have : ¬ (i : Int) < l.length := by simpa using h
                                   omega
      subst h1
      simp only [EV, Nat.reduceEqDiff, Nat.reduceBEq, Nat.reduceLT, Nat.reduceLeDiff, Nat.reduceAdd, Nat.reduceSub, reduceIte]
      simp only [findI_no (fun j hj => hno j hj hj), EV, Nat.reduceEqDiff, Nat.reduceBEq, Nat.reduceLT, Nat.reduceLeDiff, Nat.reduceAdd, Nat.reduceSub, reduceIte, evRE, retVC, cellV', evR, nfz, nfzs, nfzss, List.contains_nil, List.contains_cons, Bool.or_false, or_true]
def m35 : MC :=
 (.seq (.reg [Xb 4 (.asg .fb)]) (.seq (.reg [Xm 5 0, Xm 6 1, Xb 7 (.call (.fn 38) false [.lend (.t 5), .lend (.t 6)]), Xq 8 (.bin false .geq (.t 7) (.i 0)), Xa 4 8]) .ret))
theorem d35 (l : List Known) (hl : l.length < 9223372036854775807) (f : Nat) (caps : List AV) (q : Known → Bool) (hp : plains caps = true) (hb : bares caps = true) (hk : ∀ K, killVs K caps = caps) (hf : ∀ (st : St), frzBs st caps = caps)
    (hq : ∀ s ∈ l, Does Go.Proofs.Try.prog f (.agg s.c :: caps) false (.v (.bool (q s))) (.dead :: caps.map fun _ => .dead)) :
    Does Go.Proofs.Try.prog 35 [.fsl 3 (l.map Known.c), .clo f caps] false (.v (.bool (l.any q))) [.dead, .dead] := by
  refine does_intro (mc := m35) (N := 9) (rs := [4]) (fx := []) 2 rfl (by decide +kernel) ?_
  simp only [m35, hp, hb, hk, hf, EV, Nat.reduceEqDiff, Nat.reduceBEq, Nat.reduceLT, Nat.reduceLeDiff, Nat.reduceAdd, Nat.reduceSub, reduceIte]
  refine callK_i (d38 l hl f caps q hp hb hk hf hq) ?_
  simp only [EV, Nat.reduceEqDiff, Nat.reduceBEq, Nat.reduceLT, Nat.reduceLeDiff, Nat.reduceAdd, Nat.reduceSub, reduceIte]
  simp only [findI_any, EV, Nat.reduceEqDiff, Nat.reduceBEq, Nat.reduceLT, Nat.reduceLeDiff, Nat.reduceAdd, Nat.reduceSub, reduceIte, evRE, retVC, cellV', evR, nfz, nfzs, nfzss, List.contains_nil, List.contains_cons, Bool.or_false, or_true]
def m21 : MC :=
 (.seq (.reg [Xb 2 (.asg .fb)]) (.seq (.reg [Xm 3 0, Xn 4 3, Xq 5 (.bin false .leq (.t 4) (.i 40)), Xm 6 5, Xt 7 6 (.mov (.t 0)), XT 8 6 (.call (.fn 35) false [.lend (.t 7), .lend (.fn 36)]), Xt 9 6 (.un .not (.t 8)), Xq 10 (.pick (.t 6) (.t 9) .fb), Xa 2 10]) .ret))
theorem d21 (l : List Known) (hl : l.length < 9223372036854775807) : Does Go.Proofs.Try.prog 21 [.fsl 3 (l.map Known.c)] false (.v (.bool (knOk l))) [.dead] := by
  refine does_intro (mc := m21) (N := 11) (rs := [2]) (fx := []) 1 rfl (by decide +kernel) ?_
  simp only [m21, EV, Nat.reduceEqDiff, Nat.reduceBEq, Nat.reduceLT, Nat.reduceLeDiff, Nat.reduceAdd, Nat.reduceSub, reduceIte]
  have e : (!l.any fun k => !whole k.value) = l.all fun k => whole k.value := by simp [List.all_eq_not_any_not]
  have dk := d35 l hl 36 [] (fun k => !whole k.value) rfl rfl (fun _ => rfl) (fun _ => rfl) (fun s _ => d36 s)
  repeat' (first
    | (refine gK_cut (fun h => ?_) (fun h => ?_) <;> simp only [h, EV, Nat.reduceEqDiff, Nat.reduceBEq, Nat.reduceLT, Nat.reduceLeDiff, Nat.reduceAdd, Nat.reduceSub, reduceIte])
    | (refine cK_cut (fun h => ?_) (fun h => ?_) <;> simp only [h, EV, Nat.reduceEqDiff, Nat.reduceBEq, Nat.reduceLT, Nat.reduceLeDiff, Nat.reduceAdd, Nat.reduceSub, reduceIte])
    | (refine callK_i dk ?_ <;> simp only [h, EV, Nat.reduceEqDiff, Nat.reduceBEq, Nat.reduceLT, Nat.reduceLeDiff, Nat.reduceAdd, Nat.reduceSub, reduceIte]))
  all_goals simp only [knOk, e, h, Bool.true_and, Bool.false_and, EV, Nat.reduceEqDiff, Nat.reduceBEq, Nat.reduceLT, Nat.reduceLeDiff, Nat.reduceAdd, Nat.reduceSub, reduceIte, evRE, retVC, cellV', evR, nfz, nfzs, nfzss, List.contains_nil, List.contains_cons, Bool.or_false, or_true]
def m24 : MC :=
 (.seq (.reg [Xb 2 (.asg .fb)]) (.seq (.seq (.reg [Xm 5 0, Xn 6 5, Xq 7 (.mov (.i 0))]) (.block 0 (.loop [0, 5, 6, 7] (.seq (.reg [Xq 8 (.bin false .lss (.t 7) (.t 6))]) (.seq (.cond (.t 8) .skip (.exit 0)) (.seq (.block 1 (.seq (.reg [Xi 9 3 5 7, XL 10 3 9, Xb 4 (.alloc 34 [.z, .z, .i]), Xz (.store 3 (.t 4) (.t 10))]) (.seq (.reg [Xf 11 2 4, Xl 12 1 11, Xb 13 (.call (.fn 43) false [.lend (.t 12),
 .lend (.i (-1000000000)), .lend (.i 1000000000)]), Xq 14 (.un .not (.t 13))]) (.cond (.t 14) (.seq (.reg [Xb 2 (.asg .fb)]) .ret) .skip)))) (.reg [Xq 15 (.bin false .add (.t 7) (.i 1)), Xm 7 15]))))))) (.seq (.reg [Xm 16 0, Xn 17 16, Xq 18 (.bin false .leq (.t 17) (.i 40)), Xa 2 18]) .ret)))
set_option maxRecDepth 100000 in
theorem d24 (l : List Known) (hl : l.length < 9223372036854775807) : Does Go.Proofs.Try.prog 24 [.fsl 3 (l.map Known.c)] false (.v (.bool (knOk l))) [.dead] := by
  refine does_intro (mc := m24) (N := 19) (rs := [2]) (fx := []) 1 rfl (by decide +kernel) ?_
  simp only [m24, EV, Nat.reduceEqDiff, Nat.reduceBEq, Nat.reduceLT, Nat.reduceLeDiff, Nat.reduceAdd, Nat.reduceSub, reduceIte]
  refine awp_loop (fun i : Nat => i ≤ l.length ∧ (l.take i).all (fun k => whole k.value) = true) (fun i => stl [(0, .fsl 3 (l.map Known.c)), (5, .fsl 3 (l.map Known.c)), (6, .v (.int .i64 (l.length : Int))), (7, .v (.int .i64 (i : Int)))]) (fun i => l.length - i) 0 ⟨Nat.zero_le _, by simp⟩ ?_ ?_
  · simp only [EV, Nat.reduceEqDiff, Nat.reduceBEq, Nat.reduceLT, Nat.reduceLeDiff, Nat.reduceAdd, Nat.reduceSub, reduceIte]
    rfl
  · rintro i ⟨hi, hok⟩
    simp only [EV, Nat.reduceEqDiff, Nat.reduceBEq, Nat.reduceLT, Nat.reduceLeDiff, Nat.reduceAdd, Nat.reduceSub, reduceIte]
    refine cK_cut (fun h => ?_) (fun h => ?_)
    · have h1 : i < l.length := by simpa using h
      have h2 : (i : Int) < (l.length : Int) := by omega
      simp only [nth_map h1, h2, Known.c, EV, Nat.reduceEqDiff, Nat.reduceBEq, Nat.reduceLT, Nat.reduceLeDiff, Nat.reduceAdd, Nat.reduceSub, reduceIte]
      refine callK_i (d43 _ _ _) ?_
      simp only [EV, Nat.reduceEqDiff, Nat.reduceBEq, Nat.reduceLT, Nat.reduceLeDiff, Nat.reduceAdd, Nat.reduceSub, reduceIte]
      refine cK_cut (fun h => ?_) (fun h => ?_)
      · have hw : whole l[i].value = false := by simp only [Bool.not_eq_true'] at h; exact h
        simp only [EV, Nat.reduceEqDiff, Nat.reduceBEq, Nat.reduceLT, Nat.reduceLeDiff, Nat.reduceAdd, Nat.reduceSub, reduceIte]
        simp only [knOk_no h1 hw, EV, Nat.reduceEqDiff, Nat.reduceBEq, Nat.reduceLT, Nat.reduceLeDiff, Nat.reduceAdd, Nat.reduceSub, reduceIte, evRE, retVC, cellV', evR, nfz, nfzs, nfzss, List.contains_nil, List.contains_cons, Bool.or_false, or_true]
      · have hw : whole l[i].value = true := by simp only [Bool.not_eq_false'] at h; exact h
        simp only [EV, Nat.reduceEqDiff, Nat.reduceBEq, Nat.reduceLT, Nat.reduceLeDiff, Nat.reduceAdd, Nat.reduceSub, reduceIte]
        rw [w64 _ (by omega)]
        refine ⟨i + 1, ⟨by omega, ?_⟩, by omega, rfl⟩
        rw [List.take_succ_eq_append_getElem h1, List.all_append, hok]
        simp [hw]
    · have h1 : i = l.length := by have : ¬ (i : Int) < l.length := by simpa using h
                                   omega
      subst h1
      rw [List.take_length] at hok
      simp only [EV, Nat.reduceEqDiff, Nat.reduceBEq, Nat.reduceLT, Nat.reduceLeDiff, Nat.reduceAdd, Nat.reduceSub, reduceIte]
      simp only [knOk, hok, Bool.and_true, EV, Nat.reduceEqDiff, Nat.reduceBEq, Nat.reduceLT, Nat.reduceLeDiff, Nat.reduceAdd, Nat.reduceSub, reduceIte, evRE, retVC, cellV', evR, nfz, nfzs, nfzss, List.contains_nil, List.contains_cons, Bool.or_false, or_true]
theorem tdiv_b {a : Int} (b : Int) (ha : whole a = true) : -1000000000 ≤ a.tdiv b ∧ a.tdiv b ≤ 1000000000 := by
  have h := whole_iff.1 ha
  have e : (a.tdiv b).natAbs = a.natAbs / b.natAbs := Int.natAbs_tdiv a b
  have e2 : a.natAbs / b.natAbs ≤ a.natAbs := Nat.div_le_self _ _
  omega
theorem tmod_b {a : Int} (b : Int) (ha : whole a = true) : -1000000000 ≤ a.tmod b ∧ a.tmod b ≤ 1000000000 := by
  have h := whole_iff.1 ha
  have e : (a.tmod b).natAbs = a.natAbs % b.natAbs := Int.natAbs_tmod a b
  have e2 : a.natAbs % b.natAbs ≤ a.natAbs := Nat.mod_le _ _
  omega
theorem tmod_neg {a b : Int} (h : a.tmod b ≠ 0) : decide (a.tmod b < 0) = decide (a < 0) := by
  by_cases g : a < 0
  · have e : (-a).tmod b = -(a.tmod b) := Int.neg_tmod ..
    have e2 : 0 ≤ (-a).tmod b := Int.tmod_nonneg b (by omega)
    have : a.tmod b < 0 := by omega
    simp [this, g]
  · have e2 : 0 ≤ a.tmod b := Int.tmod_nonneg b (by omega)
    have g2 : ¬ a.tmod b < 0 := by omega
    simp [g, g2]
def adj (a b : Int) : Bool := (a.tmod b != 0) && (decide (a < 0) != decide (b < 0))
def flo (a b : Int) : Int := if adj a b = true then a.tdiv b - 1 else a.tdiv b
def rst (a b : Int) : Int := if adj a b = true then a.tmod b + b else a.tmod b
theorem rst_eq (a b : Int) : b * flo a b = a - rst a b := by
  have e := Int.mul_tdiv_add_tmod a b
  unfold flo rst
  split
  · rw [Int.mul_sub, Int.mul_one]; omega
  · omega
theorem rst_b {a b : Int} (ha : whole a = true) (hb : whole b = true) : -2000000000 ≤ rst a b ∧ rst a b ≤ 2000000000 := by
  have := tmod_b b ha
  have h := whole_iff.1 hb
  unfold rst; split <;> omega
def m56 : MC :=
 (.seq (.reg [Xb 4 (.asg (.i 0))]) (.seq (.reg [Xm 6 0, Xm 7 1, Xq 8 (.bin false .quo (.t 6) (.t 7)), Xa 5 8]) (.join [5] (.seq (.reg [Xm 9 0, Xm 10 1, Xq 11 (.bin false .rem (.t 9) (.t 10)), Xq 12 (.bin false .neq (.t 11) (.i 0)), Xm 13 12, Xt 14 13 (.mov (.t 0)), Xt 15 13 (.bin false .lss (.t 14) (.i 0)), Xt 16 13 (.mov (.t 1)), Xt 17 13 (.bin false .lss (.t 16) (.i 0)), Xt 18 13 (.bin true .neq
 (.t 15) (.t 17)), Xq 19 (.pick (.t 13) (.t 18) .fb)]) (.cond (.t 19) (.reg [Xm 20 5, Xq 21 (.bin false .sub (.t 20) (.i 1)), Xa 5 21]) .skip)) (.seq (.reg [Xm 22 5, Xa 4 22]) .ret))))
set_option maxRecDepth 100000 in
theorem d56 (a b : Int) (ha : whole a = true) (hb : whole b = true) (h0 : b ≠ 0) : Does Go.Proofs.Try.prog 56 [.v (.int .i64 a), .v (.int .i64 b)] false (.v (.int .i64 (flo a b))) [.dead, .dead] := by
  have hq := tdiv_b b ha
  have hr := tmod_b b ha
  refine does_intro (mc := m56) (N := 23) (rs := [4]) (fx := []) 2 rfl (by decide +kernel) ?_
  simp only [m56, EV, Nat.reduceEqDiff, Nat.reduceBEq, Nat.reduceLT, Nat.reduceLeDiff, Nat.reduceAdd, Nat.reduceSub, reduceIte]
  refine ⟨h0, ?_⟩
  rw [w64 (a.tdiv b) (by omega)]
  refine awp_join (fun q : Int => q = flo a b) (fun q => stl [(5, .v (.int .i64 q))]) ?_ ?_
  · simp only [EV, Nat.reduceEqDiff, Nat.reduceBEq, Nat.reduceLT, Nat.reduceLeDiff, Nat.reduceAdd, Nat.reduceSub, reduceIte]
    refine ⟨h0, ?_⟩
    refine gK_cut (fun h => ?_) (fun h => ?_)
    · simp only [h, EV, Nat.reduceEqDiff, Nat.reduceBEq, Nat.reduceLT, Nat.reduceLeDiff, Nat.reduceAdd, Nat.reduceSub, reduceIte]
      refine cK_cut (fun g => ?_) (fun g => ?_)
      · simp only [EV, Nat.reduceEqDiff, Nat.reduceBEq, Nat.reduceLT, Nat.reduceLeDiff, Nat.reduceAdd, Nat.reduceSub, reduceIte]
        rw [w64 (a.tdiv b - 1) (by omega)]
        refine ⟨_, ?_, rfl⟩
        simp_all [flo, adj]
      · simp only [EV, Nat.reduceEqDiff, Nat.reduceBEq, Nat.reduceLT, Nat.reduceLeDiff, Nat.reduceAdd, Nat.reduceSub, reduceIte]
        refine ⟨_, ?_, rfl⟩
        simp_all [flo, adj]
    · simp only [h, EV, Nat.reduceEqDiff, Nat.reduceBEq, Nat.reduceLT, Nat.reduceLeDiff, Nat.reduceAdd, Nat.reduceSub, reduceIte]
      refine ⟨_, ?_, rfl⟩
      simp_all [flo, adj]
  · rintro q rfl
    simp only [EV, Nat.reduceEqDiff, Nat.reduceBEq, Nat.reduceLT, Nat.reduceLeDiff, Nat.reduceAdd, Nat.reduceSub, reduceIte]
    simp only [EV, Nat.reduceEqDiff, Nat.reduceBEq, Nat.reduceLT, Nat.reduceLeDiff, Nat.reduceAdd, Nat.reduceSub, reduceIte, evRE, retVC, cellV', evR, nfz, nfzs, nfzss, List.contains_nil, List.contains_cons, Bool.or_false, or_true]
def m40 : MC :=
 (.seq (.reg [Xb 4 (.asg (.i 0)), Xb 5 (.asg (.i 0))]) (.seq (.dreg [Xm 8 0, Xm 9 1, Xq 10 (.bin false .quo (.t 8) (.t 9)), Xm 11 0, Xm 12 1, Xq 13 (.bin false .rem (.t 11) (.t 12)), Xm 6 10, Xm 7 13]) (.join [6, 7] (.seq (.reg [Xm 14 7, Xq 15 (.bin false .neq (.t 14) (.i 0)), Xm 16 15, Xt 17 16 (.mov (.t 7)), Xt 18 16 (.bin false .lss (.t 17) (.i 0)), Xt 19 16 (.mov (.t 1)), Xt 20 16 (.bin false
 .lss (.t 19) (.i 0)), Xt 21 16 (.bin true .neq (.t 18) (.t 20)), Xq 22 (.pick (.t 16) (.t 21) .fb)]) (.cond (.t 22) (.reg [Xm 23 6, Xq 24 (.bin false .sub (.t 23) (.i 1)), Xm 25 7, Xm 26 1, Xq 27 (.bin false .add (.t 25) (.t 26)), Xa 6 24, Xa 7 27]) .skip)) (.seq (.reg [Xm 28 6, Xm 29 7, Xa 4 28, Xa 5 29]) .ret))))
set_option maxRecDepth 100000 in
theorem d40 (a b : Int) (ha : whole a = true) (hb : whole b = true) (h0 : b ≠ 0) : Does Go.Proofs.Try.prog 40 [.v (.int .i64 a), .v (.int .i64 b)] false (.tup [.v (.int .i64 (flo a b)), .v (.int .i64 (rst a b))]) [.dead, .dead] := by
  have hq := tdiv_b b ha
  have hr := tmod_b b ha
  have hb2 := whole_iff.1 hb
  refine does_intro (mc := m40) (N := 30) (rs := [4, 5]) (fx := []) 2 rfl (by decide +kernel) ?_
  simp only [m40, EV, Nat.reduceEqDiff, Nat.reduceBEq, Nat.reduceLT, Nat.reduceLeDiff, Nat.reduceAdd, Nat.reduceSub, reduceIte]
  refine ⟨h0, ?_⟩
  try refine ⟨h0, ?_⟩
  rw [w64 (a.tdiv b) (by omega)]
  refine awp_join (fun q : Int × Int => q = (flo a b, rst a b)) (fun q => stl [(6, .v (.int .i64 q.1)), (7, .v (.int .i64 q.2))]) ?_ ?_
  · simp only [EV, Nat.reduceEqDiff, Nat.reduceBEq, Nat.reduceLT, Nat.reduceLeDiff, Nat.reduceAdd, Nat.reduceSub, reduceIte]
    refine gK_cut (fun h => ?_) (fun h => ?_)
    · have hm : a.tmod b ≠ 0 := by simpa using h
      simp only [h, tmod_neg hm, EV, Nat.reduceEqDiff, Nat.reduceBEq, Nat.reduceLT, Nat.reduceLeDiff, Nat.reduceAdd, Nat.reduceSub, reduceIte]
      refine cK_cut (fun g => ?_) (fun g => ?_)
      · simp only [EV, Nat.reduceEqDiff, Nat.reduceBEq, Nat.reduceLT, Nat.reduceLeDiff, Nat.reduceAdd, Nat.reduceSub, reduceIte]
        rw [w64 (a.tdiv b - 1) (by omega), w64 (a.tmod b + b) (by omega)]
        refine ⟨(a.tdiv b - 1, a.tmod b + b), ?_, rfl⟩
        simp_all [flo, rst, adj]
      · simp only [EV, Nat.reduceEqDiff, Nat.reduceBEq, Nat.reduceLT, Nat.reduceLeDiff, Nat.reduceAdd, Nat.reduceSub, reduceIte]
        refine ⟨(a.tdiv b, a.tmod b), ?_, rfl⟩
        simp_all [flo, rst, adj]
    · simp only [h, EV, Nat.reduceEqDiff, Nat.reduceBEq, Nat.reduceLT, Nat.reduceLeDiff, Nat.reduceAdd, Nat.reduceSub, reduceIte]
      refine ⟨(a.tdiv b, a.tmod b), ?_, rfl⟩
      simp_all [flo, rst, adj]
  · rintro q rfl
    simp only [EV, Nat.reduceEqDiff, Nat.reduceBEq, Nat.reduceLT, Nat.reduceLeDiff, Nat.reduceAdd, Nat.reduceSub, reduceIte]
    simp only [EV, Nat.reduceEqDiff, Nat.reduceBEq, Nat.reduceLT, Nat.reduceLeDiff, Nat.reduceAdd, Nat.reduceSub, reduceIte, evRE, retVC, cellV', evR, nfz, nfzs, nfzss, List.contains_nil, List.contains_cons, Bool.or_false, or_true]
def opOf (k a b : Int) : Int := if k = 3 then a + b else if k = 4 then a - b else if k = 5 then a * b else if k = 6 then flo a b else rst a b
theorem mul_b {a b : Int} (ha : whole a = true) (hb : whole b = true) : -1000000000000000000 ≤ a * b ∧ a * b ≤ 1000000000000000000 := by
  have h := whole_iff.1 ha
  have g := whole_iff.1 hb
  have e : (a * b).natAbs = a.natAbs * b.natAbs := Int.natAbs_mul a b
  have e2 : a.natAbs * b.natAbs ≤ 1000000000 * 1000000000 := Nat.mul_le_mul (by omega) (by omega)
  omega
def m44 : MC :=
 (.seq (.reg [Xb 6 (.asg (.i 0))]) (.seq (.seq (.reg [Xm 7 0]) (.block 0 (.seq (.reg [Xq 9 (.bin false .eql (.t 7) (.i 3)), Xa 8 9]) (.cond (.t 8) (.seq (.reg [Xm 10 1, Xm 11 2, Xq 12 (.bin false .add (.t 10) (.t 11)), Xa 6 12]) .ret) (.seq (.reg [Xq 14 (.bin false .eql (.t 7) (.i 4)), Xa 13 14]) (.cond (.t 13) (.seq (.reg [Xm 15 1, Xm 16 2, Xq 17 (.bin false .sub (.t 15) (.t 16)), Xa 6 17]) .ret)
 (.seq (.reg [Xq 19 (.bin false .eql (.t 7) (.i 5)), Xa 18 19]) (.cond (.t 18) (.seq (.reg [Xm 20 1, Xm 21 2, Xq 22 (.bin false .mul (.t 20) (.t 21)), Xa 6 22]) .ret) (.seq (.reg [Xq 24 (.bin false .eql (.t 7) (.i 6)), Xa 23 24]) (.cond (.t 23) (.seq (.reg [Xm 25 1, Xm 26 2, Xb 27 (.call (.fn 56) false [.lend (.t 25), .lend (.t 26)]), Xa 6 27]) .ret) .skip)))))))))) (.seq (.reg [Xm 28 1, Xm 29 2,
 Xm 30 1, Xm 31 2, Xb 32 (.call (.fn 56) false [.lend (.t 30), .lend (.t 31)]), Xq 33 (.bin false .mul (.t 29) (.t 32)), Xq 34 (.bin false .sub (.t 28) (.t 33)), Xa 6 34]) .ret)))
set_option maxRecDepth 100000 in
theorem d44 (k a b : Int) (ha : whole a = true) (hb : whole b = true) (hk : 3 ≤ k ∧ k ≤ 7) (h0 : ¬ (k = 3 ∨ k = 4 ∨ k = 5) → b ≠ 0) : Does Go.Proofs.Try.prog 44 [.v (.int .i64 k), .v (.int .i64 a), .v (.int .i64 b)] false (.v (.int .i64 (opOf k a b))) [.dead, .dead, .dead] := by
  have wa := whole_iff.1 ha
  have wb := whole_iff.1 hb
  have wm := mul_b ha hb
  refine does_intro (mc := m44) (N := 35) (rs := [6]) (fx := []) 3 rfl (by decide +kernel) ?_
  simp only [m44, EV, Nat.reduceEqDiff, Nat.reduceBEq, Nat.reduceLT, Nat.reduceLeDiff, Nat.reduceAdd, Nat.reduceSub, reduceIte]
  refine cK_cut (fun h => ?_) (fun h => ?_)
  · have e : k = 3 := by simpa using h
    subst e
    simp only [EV, Nat.reduceEqDiff, Nat.reduceBEq, Nat.reduceLT, Nat.reduceLeDiff, Nat.reduceAdd, Nat.reduceSub, reduceIte]
    rw [w64 (a + b) (by omega)]
    simp only [opOf, EV, Nat.reduceEqDiff, Nat.reduceBEq, Nat.reduceLT, Nat.reduceLeDiff, Nat.reduceAdd, Nat.reduceSub, reduceIte, evRE, retVC, cellV', evR, nfz, nfzs, nfzss, List.contains_nil, List.contains_cons, Bool.or_false, or_true]
  have n3 : ¬ k = 3 := by simpa using h
  clear h
  simp only [EV, Nat.reduceEqDiff, Nat.reduceBEq, Nat.reduceLT, Nat.reduceLeDiff, Nat.reduceAdd, Nat.reduceSub, reduceIte]
  refine cK_cut (fun h => ?_) (fun h => ?_)
  · have e : k = 4 := by simpa using h
    subst e
    simp only [EV, Nat.reduceEqDiff, Nat.reduceBEq, Nat.reduceLT, Nat.reduceLeDiff, Nat.reduceAdd, Nat.reduceSub, reduceIte]
    rw [w64 (a - b) (by omega)]
    simp only [opOf, n3, EV, Nat.reduceEqDiff, Nat.reduceBEq, Nat.reduceLT, Nat.reduceLeDiff, Nat.reduceAdd, Nat.reduceSub, reduceIte, evRE, retVC, cellV', evR, nfz, nfzs, nfzss, List.contains_nil, List.contains_cons, Bool.or_false, or_true]
  have n4 : ¬ k = 4 := by simpa using h
  clear h
  simp only [EV, Nat.reduceEqDiff, Nat.reduceBEq, Nat.reduceLT, Nat.reduceLeDiff, Nat.reduceAdd, Nat.reduceSub, reduceIte]
  refine cK_cut (fun h => ?_) (fun h => ?_)
  · have e : k = 5 := by simpa using h
    subst e
    simp only [EV, Nat.reduceEqDiff, Nat.reduceBEq, Nat.reduceLT, Nat.reduceLeDiff, Nat.reduceAdd, Nat.reduceSub, reduceIte]
    rw [w64 (a * b) (by omega)]
    simp only [opOf, n3, n4, EV, Nat.reduceEqDiff, Nat.reduceBEq, Nat.reduceLT, Nat.reduceLeDiff, Nat.reduceAdd, Nat.reduceSub, reduceIte, evRE, retVC, cellV', evR, nfz, nfzs, nfzss, List.contains_nil, List.contains_cons, Bool.or_false, or_true]
  have n5 : ¬ k = 5 := by simpa using h
  clear h
  have hb0 : b ≠ 0 := h0 (by omega)
  simp only [EV, Nat.reduceEqDiff, Nat.reduceBEq, Nat.reduceLT, Nat.reduceLeDiff, Nat.reduceAdd, Nat.reduceSub, reduceIte]
  refine cK_cut (fun h => ?_) (fun h => ?_)
  · have e : k = 6 := by simpa using h
    subst e
    simp only [EV, Nat.reduceEqDiff, Nat.reduceBEq, Nat.reduceLT, Nat.reduceLeDiff, Nat.reduceAdd, Nat.reduceSub, reduceIte]
    refine callK_i (d56 a b ha hb hb0) ?_
    simp only [EV, Nat.reduceEqDiff, Nat.reduceBEq, Nat.reduceLT, Nat.reduceLeDiff, Nat.reduceAdd, Nat.reduceSub, reduceIte]
    simp only [opOf, n3, n4, n5, EV, Nat.reduceEqDiff, Nat.reduceBEq, Nat.reduceLT, Nat.reduceLeDiff, Nat.reduceAdd, Nat.reduceSub, reduceIte, evRE, retVC, cellV', evR, nfz, nfzs, nfzss, List.contains_nil, List.contains_cons, Bool.or_false, or_true]
  have n6 : ¬ k = 6 := by simpa using h
  clear h
  have hr := rst_b ha hb
  have he := rst_eq a b
  simp only [EV, Nat.reduceEqDiff, Nat.reduceBEq, Nat.reduceLT, Nat.reduceLeDiff, Nat.reduceAdd, Nat.reduceSub, reduceIte]
  refine callK_i (d56 a b ha hb hb0) ?_
  simp only [EV, Nat.reduceEqDiff, Nat.reduceBEq, Nat.reduceLT, Nat.reduceLeDiff, Nat.reduceAdd, Nat.reduceSub, reduceIte]
  rw [he, w64 (a - rst a b) (by omega), show a - (a - rst a b) = rst a b by omega, w64 (rst a b) (by omega)]
  simp only [opOf, n3, n4, n5, n6, EV, Nat.reduceEqDiff, Nat.reduceBEq, Nat.reduceLT, Nat.reduceLeDiff, Nat.reduceAdd, Nat.reduceSub, reduceIte, evRE, retVC, cellV', evR, nfz, nfzs, nfzss, List.contains_nil, List.contains_cons, Bool.or_false, or_true]
end Go.AM
namespace Go.AM
set_option linter.unusedVariables false
set_option linter.unusedSimpArgs false
def rows (r : List Int) : List (List AV) := r.reverse.map fun n => [.v (.int .i64 n)]
theorem rows_nil : rows [] = [] := rfl
theorem rows_cons (a : Int) (r : List Int) : rows (a :: r) = rows r ++ [[.v (.int .i64 a)]] := by simp [rows]
theorem nth_zero (x : List AV) (l : List (List AV)) : nth (x :: l) 0 = x := rfl
theorem rows_len (r : List Int) : (rows r).length = r.length := by simp [rows]
theorem rows_all (r : List Int) : (rows r).take r.length = rows r := by rw [← rows_len r, List.take_length]
theorem rows_top (a : Int) (r : List Int) : nth (rows (a :: r)) r.length = [.v (.int .i64 a)] := by
  simp [rows_cons, nth, rows_len, List.getElem?_append_right]
theorem rows_top2 (a b : Int) (r : List Int) : nth (rows (b :: a :: r)) (r.length + 1) = [.v (.int .i64 b)] := rows_top b (a :: r)
theorem rows_sub (a b : Int) (r : List Int) : nth (rows (b :: a :: r)) r.length = [.v (.int .i64 a)] := by
  simp [rows_cons, nth, rows_len, List.getElem?_append_right]
theorem rows_set (a c : Int) (r : List Int) : (rows (a :: r)).set r.length [.v (.int .i64 c)] = rows (c :: r) := by
  simp [rows_cons, rows_len, List.set_append]
theorem rows_take (a b : Int) (r : List Int) : (rows (b :: a :: r)).take r.length = rows r := by
  simp [rows_cons, rows_len, List.take_append]
def isOf (s : Step) (k : Known) : Bool := k.mod.toList == s.mod.toList && k.name.toList == s.name.toList
def evPre (K : List Known) (r : List Int) (s : Step) : Sum Int (List Int) :=
  if s.kind = 1 then .inr (s.value :: r)
  else if s.kind = 8 then match r with
    | a :: r => .inr (-a :: r)
    | [] => .inl 9
  else if s.kind = 2 then match K.find? (isOf s) with
    | some k => .inr (k.value :: r)
    | none => .inl 1
  else match r with
    | b :: a :: r => if b = 0 ∧ (s.kind = 6 ∨ s.kind = 7) then .inl 2 else .inr (opOf s.kind a b :: r)
    | _ => .inl 9
def evTop : Sum Int (List Int) → Sum Int (List Int)
  | .inl c => .inl c
  | .inr (n :: r) => if whole n = true then .inr (n :: r) else .inl 3
  | .inr [] => .inr []
def evRun (K : List Known) : List Int → List Step → Sum Int (List Int)
  | r, [] => .inr r
  | r, s :: l => match evTop (evPre K r s) with
    | .inl c => .inl c
    | .inr r => evRun K r l
def outOf : Sum Int (List Int) → Int × Int
  | .inl c => (0, c)
  | .inr (n :: _) => (n, 0)
  | .inr [] => (0, 0)
def evalOf (K : List Known) (l : List Step) : Int × Int := outOf (evRun K [] l)
theorem evRun_no {K : List Known} {r : List Int} {s : Step} {l : List Step} {c : Int} (h : evTop (evPre K r s) = .inl c) : evRun K r (s :: l) = .inl c := by
  simp only [evRun, h]
theorem evRun_go {K : List Known} {r r' : List Int} {s : Step} {l : List Step} (h : evTop (evPre K r s) = .inr r') : evRun K r (s :: l) = evRun K r' l := by
  simp only [evRun, h]
theorem exRun_go {n : Int} {s : Step} {l : List Step} (h : exRun n (s :: l) = some 1) : stepOk s = true ∧ ((s.kind = 1 ∨ s.kind = 2) ∧ exRun (n + 1) l = some 1 ∨ s.kind = 8 ∧ 1 ≤ n ∧ exRun n l = some 1 ∨ 3 ≤ s.kind ∧ s.kind ≤ 7 ∧ 2 ≤ n ∧ exRun (n - 1) l = some 1) := by
  rcases hs : stepOk s with _ | _
  · simp [exRun, exS0 hs] at h
  refine ⟨rfl, ?_⟩
  have hk := stepOk_kind hs
  by_cases c1 : 3 ≤ s.kind ∧ s.kind ≤ 7
  · by_cases c2 : n < 2
    · simp [exRun, exS1 hs c1.1 c1.2 c2] at h
    · simp only [exRun, exS2 hs c1.1 c1.2 c2] at h
      exact .inr (.inr ⟨c1.1, c1.2, by omega, h⟩)
  · by_cases c8 : s.kind = 8
    · by_cases c2 : n < 1
      · simp [exRun, exS3 hs c8 c2] at h
      · simp only [exRun, exS4 hs c8 c2] at h
        exact .inr (.inl ⟨c8, by omega, h⟩)
    · simp only [exRun, exS5 hs c1 c8] at h
      exact .inl ⟨by omega, h⟩
theorem stepOk_num {s : Step} (h : stepOk s = true) (h1 : s.kind = 1) : whole s.value = true := by
  simp only [stepOk, h1, if_true, Bool.and_eq_true, decide_eq_true_eq] at h
  rw [whole_iff]; omega
theorem exprOk_run {l : List Step} (h : exprOk l = true) : exRun 0 l = some 1 ∧ (l.length : Int) ≤ 40 := by
  unfold exprOk at h
  split at h
  · rename_i n e
    simp only [Bool.and_eq_true, beq_iff_eq, decide_eq_true_eq] at h
    rw [e, h.1]; exact ⟨rfl, h.2⟩
  · cases h
theorem knOk_find {K : List Known} {s : Step} {k : Known} (h : knOk K = true) (h1 : K.find? (isOf s) = some k) : whole k.value = true := by
  simp only [knOk, Bool.and_eq_true, List.all_eq_true] at h
  exact h.2 _ (List.mem_of_find?_eq_some h1)
theorem findI_find {α : Type} (q : α → Bool) (l : List α) : (findI q l < 0 ∧ l.find? q = none) ∨ ∃ (j : Nat) (h : j < l.length), findI q l = j ∧ l.find? q = some l[j] := by
  unfold findI
  cases h : l.findIdx? q with
  | none =>
    left
    rw [List.findIdx?_eq_none_iff] at h
    exact ⟨by simp, by rw [List.find?_eq_none]; intro x hx; simp [h x hx]⟩
  | some i =>
    right
    rw [List.findIdx?_eq_some_iff_getElem] at h
    obtain ⟨hi, h1, h2⟩ := h
    refine ⟨i, hi, rfl, ?_⟩
    rw [List.find?_eq_some_iff_getElem]
    exact ⟨h1, i, hi, rfl, fun j hj => by simpa using h2 j hj⟩
def m39 : MC :=
 (.seq (.reg [Xb 2 (.box 34 (.t 0)), Xb 3 (.asg .fb)]) (.seq (.reg [Xf 4 0 2, Xl 5 1 4, Xf 6 2 1, Xl 7 1 6, Xq 8 (.bin false .eql (.t 5) (.t 7)), Xm 9 8, Xt 10 9 (.fad 1 (.t 2)), Xt 11 9 (.load false 1 (.t 10)), Xt 12 9 (.fad 3 (.t 1)), Xt 13 9 (.load false 1 (.t 12)), Xt 14 9 (.bin false .eql (.t 11) (.t 13)), Xq 15 (.pick (.t 9) (.t 14) .fb), Xa 3 15]) .ret))
theorem d39 (k : Known) (s : Step) : Does Go.Proofs.Try.prog 39 [.agg k.c, .fptr s.c] false (.v (.bool (isOf s k))) [.dead, .dead] := by
  refine does_intro (mc := m39) (N := 16) (rs := [3]) (fx := []) 2 rfl (by decide +kernel) ?_
  simp only [m39, Known.c, Step.c, EV, Nat.reduceEqDiff, Nat.reduceBEq, Nat.reduceLT, Nat.reduceLeDiff, Nat.reduceAdd, Nat.reduceSub, reduceIte]
  repeat' (first
    | (refine gK_cut (fun h => ?_) (fun h => ?_) <;> simp only [h, EV, Nat.reduceEqDiff, Nat.reduceBEq, Nat.reduceLT, Nat.reduceLeDiff, Nat.reduceAdd, Nat.reduceSub, reduceIte])
    | (refine cK_cut (fun h => ?_) (fun h => ?_) <;> simp only [h, EV, Nat.reduceEqDiff, Nat.reduceBEq, Nat.reduceLT, Nat.reduceLeDiff, Nat.reduceAdd, Nat.reduceSub, reduceIte]))
  all_goals simp only [isOf, h, Bool.true_and, Bool.false_and, EV, Nat.reduceEqDiff, Nat.reduceBEq, Nat.reduceLT, Nat.reduceLeDiff, Nat.reduceAdd, Nat.reduceSub, reduceIte, evRE, retVC, cellV', evR, nfz, nfzs, nfzss, List.contains_nil, List.contains_cons, Bool.or_false, or_true]
def m22 : MC :=
 (.seq (.reg [Xb 4 (.asg (.i 0)), Xb 5 (.asg (.i 0))]) (.seq (.reg [Xb 16 (.bsl 3 1 []), Xa 6 16]) (.seq (.seq (.reg [Xm 17 0, Xn 18 17, Xq 19 (.mov (.i 0))]) (.block 0 (.loop [0, 1, 6, 16, 17, 18, 19, 34, 49, 108] (.seq (.reg [Xq 20 (.bin false .lss (.t 19) (.t 18))]) (.seq (.cond (.t 20) .skip (.exit 0)) (.join [0, 1, 6, 16, 17, 18, 19, 34, 49, 108] (.block 1 (.seq (.reg [Xi 21 4 17 19, XL 22 4
 21, Xb 8 (.alloc 54 [.i, .i, .z, .z]), Xz (.store 4 (.t 8) (.t 22))]) (.seq (.reg [Xm 23 6, Xn 24 23, Xq 25 (.bin false .sub (.t 24) (.i 1)), Xb 9 (.asg (.i 0)), Xa 10 25]) (.seq (.seq (.reg [Xf 26 0 8, Xl 27 1 26]) (.block 2 (.seq (.reg [Xq 29 (.bin false .eql (.t 27) (.i 1)), Xa 28 29]) (.cond (.t 28) (.seq (.reg [Xm 30 6, Xf 31 1 8, Xl 32 1 31, Xb 33 (.bsl 3 1 [.t 32]), Xb 34 (.app true 3 1 8
 (.t 30) (.t 33)), Xa 6 34]) (.exit 1)) (.seq (.reg [Xq 36 (.bin false .eql (.t 27) (.i 2)), Xa 35 36]) (.cond (.t 35) (.seq (.reg [Xm 37 1, Xq 38 (.mkf 39 [.t 8]), Xb 39 (.call (.fn 38) false [.lend (.t 37), .lend (.t 38)]), Xa 11 39]) (.seq (.seq (.reg [Xm 40 11, Xq 41 (.bin false .lss (.t 40) (.i 0))]) (.cond (.t 41) (.seq (.reg [Xb 4 (.asg (.i 0)), Xb 5 (.asg (.i 1))]) .ret) .skip)) (.seq (.reg
 [Xm 42 6, Xm 43 1, Xm 44 11, Xi 45 3 43 44, Xf 46 2 45, Xl 47 1 46, Xb 48 (.bsl 3 1 [.t 47]), Xb 49 (.app true 3 1 8 (.t 42) (.t 48)), Xa 6 49]) (.exit 1)))) (.seq (.reg [Xq 51 (.bin false .eql (.t 27) (.i 8)), Xa 50 51]) (.cond (.t 50) (.seq (.reg [Xm 52 6, Xm 53 10, Xm 54 6, Xm 55 10, Xi 56 1 54 55, Xl 57 1 56, Xq 58 (.un .neg (.t 57)), Xi 59 1 52 53, Xz (.store 1 (.t 59) (.t 58))]) (.exit 1))
 .skip)))))))) (.seq (.dreg [Xm 60 6, Xm 61 10, Xq 62 (.bin false .sub (.t 61) (.i 1)), Xi 63 1 60 62, Xl 64 1 63, Xm 65 6, Xm 66 10, Xi 67 1 65 66, Xl 68 1 67, Xm 12 64, Xm 13 68]) (.join [0, 1, 6, 9, 10, 16, 17, 18, 19, 34, 49, 108] (.seq (.reg [Xf 69 0 8, Xl 70 1 69]) (.block 3 (.seq (.reg [Xq 85 (.bin false .eql (.t 70) (.i 3)), Xa 84 85]) (.cond (.t 84) (.reg [Xm 86 12, Xm 87 13, Xq 88 (.bin
 false .add (.t 86) (.t 87)), Xa 9 88]) (.seq (.reg [Xq 90 (.bin false .eql (.t 70) (.i 4)), Xa 89 90]) (.cond (.t 89) (.reg [Xm 91 12, Xm 92 13, Xq 93 (.bin false .sub (.t 91) (.t 92)), Xa 9 93]) (.seq (.reg [Xq 95 (.bin false .eql (.t 70) (.i 5)), Xa 94 95]) (.cond (.t 94) (.reg [Xm 96 12, Xm 97 13, Xq 98 (.bin false .mul (.t 96) (.t 97)), Xa 9 98]) (.seq (.seq (.reg [Xm 71 13, Xq 72 (.bin false
 .eql (.t 71) (.i 0))]) (.cond (.t 72) (.seq (.reg [Xb 4 (.asg (.i 0)), Xb 5 (.asg (.i 2))]) .ret) .skip)) (.seq (.reg [Xm 74 12, Xm 75 13, Xb 76 (.call (.fn 40) false [.lend (.t 74), .lend (.t 75)]), Xm 73 76, Xq 77 (.ext 73 0), Xq 78 (.ext 73 1), Xa 14 77, Xa 15 78]) (.seq (.reg [Xm 79 14, Xa 9 79]) (.seq (.reg [Xf 80 0 8, Xl 81 1 80, Xq 82 (.bin false .eql (.t 81) (.i 7))]) (.cond (.t 82) (.reg
 [Xm 83 15, Xa 9 83]) .skip))))))))))))) (.seq (.seq (.reg [Xm 99 9, Xb 100 (.call (.fn 37) false [.lend (.t 99)]), Xq 101 (.un .not (.t 100))]) (.cond (.t 101) (.seq (.reg [Xb 4 (.asg (.i 0)), Xb 5 (.asg (.i 3))]) .ret) .skip)) (.reg [Xm 102 6, Xm 103 10, Xq 104 (.bin false .sub (.t 103) (.i 1)), Xq 105 (.slc false 1 (.t 102) none (some (.t 104))), Xm 106 9, Xb 107 (.bsl 3 1 [.t 106]), Xb 108
 (.app true 3 1 8 (.t 105) (.t 107)), Xa 6 108])))))))) (.reg [Xq 109 (.bin false .add (.t 19) (.i 1)), Xm 19 109]))))))) (.seq (.reg [Xm 110 6, Xq 111 (.iad 1 (.t 110) (.i 0)), Xl 112 1 111, Xa 4 112, Xb 5 (.asg (.i 0))]) .ret))))
set_option maxHeartbeats 1000000 in
set_option maxRecDepth 100000 in
theorem d22 (l : List Step) (K : List Known) (hl : exprOk l = true) (hK : knOk K = true) :
    Does Go.Proofs.Try.prog 22 [.fsl 4 (l.map Step.c), .fsl 3 (K.map Known.c)] false (.tup [.v (.int .i64 (evalOf K l).1), .v (.int .i64 (evalOf K l).2)]) [.dead, .dead] := by
  obtain ⟨hx, hll⟩ := exprOk_run hl
  refine does_intro (mc := m22) (N := 113) (rs := [4, 5]) (fx := []) 2 rfl (by decide +kernel) ?_
  simp only [m22, EV, Nat.reduceEqDiff, Nat.reduceBEq, Nat.reduceLT, Nat.reduceLeDiff, Nat.reduceAdd, Nat.reduceSub, reduceIte]
  refine awp_loop (fun p : Nat × List Int => p.1 ≤ l.length ∧ evRun K p.2 (l.drop p.1) = evRun K [] l ∧ exRun p.2.length (l.drop p.1) = some 1 ∧ (p.2.length ≤ p.1) ∧ ∀ n ∈ p.2, whole n = true)
    (fun p => stl [(0, .fsl 4 (l.map Step.c)), (1, .fsl 3 (K.map Known.c)), (6, .usl 3 1 (rows p.2)), (16, .dead), (17, .fsl 4 (l.map Step.c)), (18, .v (.int .i64 (l.length : Int))), (19, .v (.int .i64 (p.1 : Int))), (34, .dead), (49, .dead), (108, .dead)]) (fun p => l.length - p.1) (0, []) ⟨Nat.zero_le _, by simp, by simpa using hx, by simp, by simp⟩ ?_ ?_
  · simp only [rows_nil, EV, Nat.reduceEqDiff, Nat.reduceBEq, Nat.reduceLT, Nat.reduceLeDiff, Nat.reduceAdd, Nat.reduceSub, reduceIte]
    rfl
  · rintro ⟨i, r⟩ ⟨p0, p1, p2, p3, p4⟩
    simp only at p0 p1 p2 p3 p4
    simp only [EV, Nat.reduceEqDiff, Nat.reduceBEq, Nat.reduceLT, Nat.reduceLeDiff, Nat.reduceAdd, Nat.reduceSub, reduceIte]
    refine cK_cut (fun h => ?_) (fun h => ?_)
    · have h1 : i < l.length := by simpa using h
      have h2 : (i : Int) < (l.length : Int) := by omega
      rw [List.drop_eq_getElem_cons h1] at p1 p2
      have p9 : ∀ {c : Int}, evTop (evPre K r l[i]) = .inl c → evalOf K l = (0, c) := by
        intro c hc
        simp only [evalOf, ← p1, evRun_no hc, outOf]
      obtain ⟨hso, hkind⟩ := exRun_go p2
      clear h p2
      refine awp_join (fun r' : List Int => evTop (evPre K r l[i]) = .inr r' ∧ exRun r'.length (l.drop (i + 1)) = some 1 ∧ r'.length ≤ i + 1 ∧ ∀ n ∈ r', whole n = true)
        (fun r' => stl [(0, .fsl 4 (l.map Step.c)), (1, .fsl 3 (K.map Known.c)), (6, .usl 3 1 (rows r')), (16, .dead), (17, .fsl 4 (l.map Step.c)), (18, .v (.int .i64 (l.length : Int))), (19, .v (.int .i64 (i : Int))), (34, .dead), (49, .dead), (108, .dead)]) ?_ ?_
      · rcases hkind with ⟨k | k, hx1⟩ | ⟨k, hn, hx1⟩ | ⟨k3, k7, hn, hx1⟩
        · have e1 : (l[i].kind == 1) = true := by simp [k]
          have hw1 := stepOk_num hso k
          simp only [nth_map h1, h2, Step.c, rows_len, rows_all, e1, EV, Nat.reduceEqDiff, Nat.reduceBEq, Nat.reduceLT, Nat.reduceLeDiff, Nat.reduceAdd, Nat.reduceSub, reduceIte]
          refine ⟨by omega, by omega, l[i].value :: r, ⟨?_, ?_, ?_, ?_⟩, ?_⟩
          · simp only [evPre, k, evTop, hw1, if_true]
          · simpa using hx1
          · simp only [List.length_cons]; omega
          · intro n hn
            rcases List.mem_cons.1 hn with rfl | hn
            · exact hw1
            · exact p4 n hn
          · rw [rows_cons]
        · have e1 : (l[i].kind == 1) = false := by simp [k]
          have e2 : (l[i].kind == 2) = true := by simp [k]
          simp only [nth_map h1, h2, Step.c, rows_len, rows_all, e1, e2, EV, Nat.reduceEqDiff, Nat.reduceBEq, Nat.reduceLT, Nat.reduceLeDiff, Nat.reduceAdd, Nat.reduceSub, reduceIte]
          refine callK_i (d38 K (by simp only [knOk, Bool.and_eq_true, decide_eq_true_eq] at hK; omega) 39 [.fptr l[i].c] (isOf l[i]) rfl rfl (fun _ => rfl) (fun _ => rfl) (fun k _ => d39 k l[i])) ?_
          simp only [Step.c, rows_len, rows_all, EV, Nat.reduceEqDiff, Nat.reduceBEq, Nat.reduceLT, Nat.reduceLeDiff, Nat.reduceAdd, Nat.reduceSub, reduceIte]
          rcases findI_find (isOf l[i]) K with ⟨f0, ff⟩ | ⟨j, hj, f0, ff⟩
          · have e : evTop (evPre K r l[i]) = .inl 1 := by
              have n1 : ¬ l[i].kind = 1 := by omega
              have n8 : ¬ l[i].kind = 8 := by omega
              simp only [evPre, k, ff, evTop, Int.reduceEq, if_true, if_false]
            simp only [f0, decide_true, rows_len, rows_all, EV, Nat.reduceEqDiff, Nat.reduceBEq, Nat.reduceLT, Nat.reduceLeDiff, Nat.reduceAdd, Nat.reduceSub, reduceIte]
            simp only [p9 e, EV, Nat.reduceEqDiff, Nat.reduceBEq, Nat.reduceLT, Nat.reduceLeDiff, Nat.reduceAdd, Nat.reduceSub, reduceIte, evRE, retVC, cellV', evR, nfz, nfzs, nfzss, List.contains_nil, List.contains_cons, Bool.or_false, or_true]
          · have hj2 : (j : Int) < (K.length : Int) := by omega
            have hj3 : ¬ ((j : Int) < 0) := by omega
            have hw1 := knOk_find hK ff
            simp only [f0, hj2, hj3, decide_false, nth_map hj, Known.c, rows_len, rows_all, EV, Nat.reduceEqDiff, Nat.reduceBEq, Nat.reduceLT, Nat.reduceLeDiff, Nat.reduceAdd, Nat.reduceSub, reduceIte]
            refine ⟨by omega, by omega, K[j].value :: r, ⟨?_, ?_, ?_, ?_⟩, ?_⟩
            · simp only [evPre, k, ff, evTop, hw1, Int.reduceEq, if_true, if_false]
            · simpa using hx1
            · simp only [List.length_cons]; omega
            · intro n hn
              rcases List.mem_cons.1 hn with rfl | hn
              · exact hw1
              · exact p4 n hn
            · rw [rows_cons]
        · have e1 : (l[i].kind == 1) = false := by simp [k]
          have e2 : (l[i].kind == 2) = false := by simp [k]
          have e8 : (l[i].kind == 8) = true := by simp [k]
          rcases r with _ | ⟨a, r⟩
          · simp at hn
          have hw : IntKind.i64.wrap (((a :: r).length : Int) - 1) = (r.length : Int) := by
            rw [w64 _ (by simp only [List.length_cons] at *; omega)]; simp
          simp only [List.length_cons] at hw
          have hr : r.length < r.length + 1 := by omega
          have hr2 : (r.length : Int) < ((r.length + 1 : Nat) : Int) := by omega
          have wa := p4 a (by simp)
          have wa2 := whole_iff.1 wa
          simp only [nth_map h1, h2, Step.c, rows_len, hw, hr, hr2, e1, e2, e8, rows_top, rows_set, EV, Nat.reduceEqDiff, Nat.reduceBEq, Nat.reduceLT, Nat.reduceLeDiff, Nat.reduceAdd, Nat.reduceSub, reduceIte]
          have wn : whole (-a) = true := whole_iff.2 (by omega)
          rw [w64 (0 - a) (by omega), Int.zero_sub]
          refine ⟨-a :: r, ⟨?_, ?_, ?_, ?_⟩, rfl⟩
          · simp only [evPre, k, evTop, wn, Int.reduceEq, if_true, if_false]
          · simpa using hx1
          · simp only [List.length_cons] at *; omega
          · intro n hn
            rcases List.mem_cons.1 hn with rfl | hn
            · exact wn
            · exact p4 n (by simp [hn])
        · have e1 : (l[i].kind == 1) = false := by simp; omega
          have e2 : (l[i].kind == 2) = false := by simp; omega
          have e8 : (l[i].kind == 8) = false := by simp; omega
          rcases r with _ | ⟨b, _ | ⟨a, r⟩⟩
          · simp at hn
          · simp at hn
          have hw : IntKind.i64.wrap (((b :: a :: r).length : Int) - 1) = ((r.length + 1 : Nat) : Int) := by
            rw [w64 _ (by simp only [List.length_cons] at *; omega)]; simp
          have hw2 : IntKind.i64.wrap (((r.length + 1 : Nat) : Int) - 1) = (r.length : Int) := by
            rw [w64 _ (by simp only [List.length_cons] at *; omega)]; simp
          simp only [List.length_cons] at hw
          have hr : r.length < r.length + 1 + 1 := by omega
          have hr1 : r.length + 1 < r.length + 1 + 1 := by omega
          have hr2 : (r.length : Int) < ((r.length + 1 + 1 : Nat) : Int) := by omega
          have hr3 : ((r.length + 1 : Nat) : Int) < ((r.length + 1 + 1 : Nat) : Int) := by omega
          have wb := p4 b (by simp)
          have wa := p4 a (by simp)
          have wm := mul_b wa wb
          have wa2 := whole_iff.1 wa
          have wb2 := whole_iff.1 wb
          have n1 : ¬ l[i].kind = 1 := by omega
          have n2 : ¬ l[i].kind = 2 := by omega
          have n8 : ¬ l[i].kind = 8 := by omega
          simp only [nth_map h1, h2, Step.c, rows_len, hw, hw2, hr, hr1, hr2, hr3, e1, e2, e8, rows_top2, rows_sub, EV, Nat.reduceEqDiff, Nat.reduceBEq, Nat.reduceLT, Nat.reduceLeDiff, Nat.reduceAdd, Nat.reduceSub, reduceIte]
          refine awp_join (fun n : Int => n = opOf l[i].kind a b ∧ ¬ (b = 0 ∧ (l[i].kind = 6 ∨ l[i].kind = 7)))
            (fun n => stl [(0, .fsl 4 (l.map Step.c)), (1, .fsl 3 (K.map Known.c)), (6, .usl 3 1 (rows (b :: a :: r))), (9, .v (.int .i64 n)), (10, .v (.int .i64 ((r.length + 1 : Nat) : Int))), (16, .dead), (17, .fsl 4 (l.map Step.c)), (18, .v (.int .i64 (l.length : Int))), (19, .v (.int .i64 (i : Int))), (34, .dead), (49, .dead), (108, .dead)]) ?_ ?_
          · simp only [EV, Nat.reduceEqDiff, Nat.reduceBEq, Nat.reduceLT, Nat.reduceLeDiff, Nat.reduceAdd, Nat.reduceSub, reduceIte]
            refine cK_cut (fun h => ?_) (fun h => ?_)
            · have q : l[i].kind = 3 := by simpa using h
              simp only [EV, Nat.reduceEqDiff, Nat.reduceBEq, Nat.reduceLT, Nat.reduceLeDiff, Nat.reduceAdd, Nat.reduceSub, reduceIte]
              rw [w64 (a + b) (by omega)]
              exact ⟨a + b, ⟨by simp [opOf, q], by omega⟩, rfl⟩
            have q3 : ¬ l[i].kind = 3 := by simpa using h
            clear h
            simp only [EV, Nat.reduceEqDiff, Nat.reduceBEq, Nat.reduceLT, Nat.reduceLeDiff, Nat.reduceAdd, Nat.reduceSub, reduceIte]
            refine cK_cut (fun h => ?_) (fun h => ?_)
            · have q : l[i].kind = 4 := by simpa using h
              simp only [EV, Nat.reduceEqDiff, Nat.reduceBEq, Nat.reduceLT, Nat.reduceLeDiff, Nat.reduceAdd, Nat.reduceSub, reduceIte]
              rw [w64 (a - b) (by omega)]
              exact ⟨a - b, ⟨by simp [opOf, q], by omega⟩, rfl⟩
            have q4 : ¬ l[i].kind = 4 := by simpa using h
            clear h
            simp only [EV, Nat.reduceEqDiff, Nat.reduceBEq, Nat.reduceLT, Nat.reduceLeDiff, Nat.reduceAdd, Nat.reduceSub, reduceIte]
            refine cK_cut (fun h => ?_) (fun h => ?_)
            · have q : l[i].kind = 5 := by simpa using h
              simp only [EV, Nat.reduceEqDiff, Nat.reduceBEq, Nat.reduceLT, Nat.reduceLeDiff, Nat.reduceAdd, Nat.reduceSub, reduceIte]
              rw [w64 (a * b) (by omega)]
              exact ⟨a * b, ⟨by simp [opOf, q], by omega⟩, rfl⟩
            have q5 : ¬ l[i].kind = 5 := by simpa using h
            have q67 : l[i].kind = 6 ∨ l[i].kind = 7 := by omega
            clear h
            simp only [EV, Nat.reduceEqDiff, Nat.reduceBEq, Nat.reduceLT, Nat.reduceLeDiff, Nat.reduceAdd, Nat.reduceSub, reduceIte]
            refine cK_cut (fun h => ?_) (fun h => ?_)
            · have q : b = 0 := by simpa using h
              have e : evTop (evPre K (b :: a :: r) l[i]) = .inl 2 := by
                simp only [evPre, n1, n2, n8, if_false, q, q67, true_and, if_true, evTop]
              simp only [EV, Nat.reduceEqDiff, Nat.reduceBEq, Nat.reduceLT, Nat.reduceLeDiff, Nat.reduceAdd, Nat.reduceSub, reduceIte]
              simp only [p9 e, EV, Nat.reduceEqDiff, Nat.reduceBEq, Nat.reduceLT, Nat.reduceLeDiff, Nat.reduceAdd, Nat.reduceSub, reduceIte, evRE, retVC, cellV', evR, nfz, nfzs, nfzss, List.contains_nil, List.contains_cons, Bool.or_false, or_true]
            have qb : ¬ b = 0 := by simpa using h
            clear h
            simp only [EV, Nat.reduceEqDiff, Nat.reduceBEq, Nat.reduceLT, Nat.reduceLeDiff, Nat.reduceAdd, Nat.reduceSub, reduceIte]
            refine callK_i (d40 a b wa wb qb) ?_
            simp only [EV, Nat.reduceEqDiff, Nat.reduceBEq, Nat.reduceLT, Nat.reduceLeDiff, Nat.reduceAdd, Nat.reduceSub, reduceIte]
            refine cK_cut (fun h => ?_) (fun h => ?_)
            · have q : l[i].kind = 7 := by simpa using h
              simp only [EV, Nat.reduceEqDiff, Nat.reduceBEq, Nat.reduceLT, Nat.reduceLeDiff, Nat.reduceAdd, Nat.reduceSub, reduceIte]
              exact ⟨rst a b, ⟨by simp [opOf, q], by omega⟩, rfl⟩
            · have q : ¬ l[i].kind = 7 := by simpa using h
              have q6 : l[i].kind = 6 := by omega
              simp only [EV, Nat.reduceEqDiff, Nat.reduceBEq, Nat.reduceLT, Nat.reduceLeDiff, Nat.reduceAdd, Nat.reduceSub, reduceIte]
              exact ⟨flo a b, ⟨by simp [opOf, q6], by omega⟩, rfl⟩
          · rintro n ⟨hn1, hn2⟩
            have ep : evPre K (b :: a :: r) l[i] = .inr (n :: r) := by
              simp only [evPre, n1, n2, n8, if_false, hn2, hn1]
            simp only [EV, Nat.reduceEqDiff, Nat.reduceBEq, Nat.reduceLT, Nat.reduceLeDiff, Nat.reduceAdd, Nat.reduceSub, reduceIte]
            refine callK_i (d37 n) ?_
            simp only [EV, Nat.reduceEqDiff, Nat.reduceBEq, Nat.reduceLT, Nat.reduceLeDiff, Nat.reduceAdd, Nat.reduceSub, reduceIte]
            refine cK_cut (fun h => ?_) (fun h => ?_)
            · have q : whole n = false := by simpa using h
              have e : evTop (evPre K (b :: a :: r) l[i]) = .inl 3 := by
                simp [ep, evTop, q]
              simp only [EV, Nat.reduceEqDiff, Nat.reduceBEq, Nat.reduceLT, Nat.reduceLeDiff, Nat.reduceAdd, Nat.reduceSub, reduceIte]
              simp only [p9 e, EV, Nat.reduceEqDiff, Nat.reduceBEq, Nat.reduceLT, Nat.reduceLeDiff, Nat.reduceAdd, Nat.reduceSub, reduceIte, evRE, retVC, cellV', evR, nfz, nfzs, nfzss, List.contains_nil, List.contains_cons, Bool.or_false, or_true]
            have wn : whole n = true := by simpa using h
            clear h
            simp only [hw2, rows_len, rows_take, List.length_cons, EV, Nat.reduceEqDiff, Nat.reduceBEq, Nat.reduceLT, Nat.reduceLeDiff, Nat.reduceAdd, Nat.reduceSub, reduceIte]
            simp only [List.length_cons] at hx1 p3
            refine ⟨by omega, by omega, by omega, by omega, n :: r, ⟨?_, ?_, ?_, ?_⟩, ?_⟩
            · simp only [ep, evTop, wn, if_true]
            · have : (((n :: r).length : Nat) : Int) = ((r.length + 1 + 1 : Nat) : Int) - 1 := by simp only [List.length_cons]; omega
              rw [this]; exact hx1
            · simp only [List.length_cons]; omega
            · intro m hm
              rcases List.mem_cons.1 hm with rfl | hm
              · exact wn
              · exact p4 m (by simp [hm])
            · rw [rows_cons]
      · rintro r' ⟨q1, q2, q3, q4⟩
        simp only [EV, Nat.reduceEqDiff, Nat.reduceBEq, Nat.reduceLT, Nat.reduceLeDiff, Nat.reduceAdd, Nat.reduceSub, reduceIte]
        rw [w64 _ (by omega)]
        refine ⟨(i + 1, r'), ⟨h1, ?_, q2, q3, q4⟩, by simp only; omega, rfl⟩
        rw [← p1, evRun_go q1]
    · have h1 : i = l.length := by have : ¬ (i : Int) < l.length := by simpa using h
                                   omega
      subst h1
      rw [List.drop_length] at p1 p2
      simp only [exRun, Option.some.injEq] at p2
      have e0 : ∃ n, r = [n] := List.length_eq_one_iff.1 (by omega)
      obtain ⟨n, rfl⟩ := e0
      have e : evalOf K l = (n, 0) := by simp only [evalOf, ← p1, evRun, outOf]
      simp only [rows_cons, rows_nil, EV, Nat.reduceEqDiff, Nat.reduceBEq, Nat.reduceLT, Nat.reduceLeDiff, Nat.reduceAdd, Nat.reduceSub, reduceIte]
      refine ⟨by omega, by simp, ?_⟩
      simp only [nth_zero, EV, Nat.reduceEqDiff, Nat.reduceBEq, Nat.reduceLT, Nat.reduceLeDiff, Nat.reduceAdd, Nat.reduceSub, reduceIte]
      simp only [e, EV, Nat.reduceEqDiff, Nat.reduceBEq, Nat.reduceLT, Nat.reduceLeDiff, Nat.reduceAdd, Nat.reduceSub, reduceIte, evRE, retVC, cellV', evR, nfz, nfzs, nfzss, List.contains_nil, List.contains_cons, Bool.or_false, or_true]
end Go.AM
namespace Go.AM
set_option linter.unusedVariables false
set_option linter.unusedSimpArgs false
def pushO : Option Known → List Int → List Int
  | some k, r => k.value :: r
  | none, r => r
theorem pushO_n (r : List Int) : pushO none r = r := rfl
theorem pushO_s (k : Known) (r : List Int) : pushO (some k) r = k.value :: r := rfl
theorem pushO_len (fd : Option Known) (r : List Int) : (pushO fd r).length ≤ r.length + 1 := by
  cases fd <;> simp [pushO]
theorem find_take {q : Known → Bool} {K : List Known} {j : Nat} (h : j < K.length) : (K.take (j + 1)).find? q = match (K.take j).find? q with
    | some k => some k
    | none => if q K[j] = true then some K[j] else none := by
  rw [List.take_succ_eq_append_getElem h, List.find?_append]
  cases (K.take j).find? q <;> simp [List.find?_cons]
  split <;> simp_all
def m25 : MC :=
 (.seq (.reg [Xb 4 (.asg (.i 0)), Xb 5 (.asg (.i 0))]) (.seq (.reg [Xb 6 (.asg (.nils 3 1))]) (.seq (.seq (.reg [Xm 16 0, Xn 17 16, Xq 18 (.mov (.i 0))]) (.block 0 (.loop [0, 1, 6, 16, 17, 18, 56, 65, 110] (.seq (.reg [Xq 19 (.bin false .lss (.t 18) (.t 17))]) (.seq (.cond (.t 19) .skip (.exit 0)) (.join [0, 1, 6, 16, 17, 18, 56, 65, 110] (.block 1 (.seq (.reg [Xi 20 4 16 18, XL 21 4 20, Xb 8
 (.alloc 54 [.i, .i, .z, .z]), Xz (.store 4 (.t 8) (.t 21))]) (.seq (.reg [Xm 22 6, Xn 23 22, Xa 9 23]) (.join [0, 1, 6, 16, 17, 18, 56, 65, 110] (.block 2 (.seq (.reg [Xf 58 0 8, Xl 59 1 58, Xq 60 (.bin false .eql (.t 59) (.i 1)), Xa 57 60]) (.cond (.t 57) (.reg [Xm 61 6, Xf 62 1 8, Xl 63 1 62, Xb 64 (.bsl 3 1 [.t 63]), Xb 65 (.app true 3 1 8 (.t 61) (.t 64)), Xa 6 65]) (.seq (.reg [Xf 67 0 8, Xl
 68 1 67, Xq 69 (.bin false .eql (.t 68) (.i 8)), Xa 66 69]) (.cond (.t 66) (.reg [Xm 70 6, Xm 71 9, Xq 72 (.bin false .sub (.t 71) (.i 1)), Xm 73 6, Xm 74 9, Xq 75 (.bin false .sub (.t 74) (.i 1)), Xi 76 1 73 75, Xl 77 1 76, Xq 78 (.un .neg (.t 77)), Xi 79 1 70 72, Xz (.store 1 (.t 79) (.t 78))]) (.seq (.reg [Xf 81 0 8, Xl 82 1 81, Xq 83 (.bin false .eql (.t 82) (.i 2)), Xa 80 83]) (.cond (.t 80)
 (.seq (.reg [Xb 10 (.asg .fb)]) (.seq (.seq (.reg [Xm 84 1, Xn 85 84, Xq 86 (.mov (.i 0))]) (.block 3 (.loop [0, 1, 6, 8, 10, 16, 17, 18, 56, 65, 84, 85, 86, 110] (.seq (.reg [Xq 87 (.bin false .lss (.t 86) (.t 85))]) (.seq (.cond (.t 87) .skip (.exit 3)) (.join [0, 1, 6, 8, 10, 16, 17, 18, 56, 65, 84, 85, 86, 110] (.block 4 (.seq (.reg [Xi 88 3 84 86, XL 89 3 88, Xb 12 (.alloc 34 [.z, .z, .i]),
 Xz (.store 3 (.t 12) (.t 89))]) (.seq (.reg [Xm 90 10, Xq 91 (.un .not (.t 90)), Xm 92 91, Xt 93 92 (.fad 0 (.t 12)), Xt 94 92 (.load false 1 (.t 93)), Xt 95 92 (.fad 2 (.t 8)), Xt 96 92 (.load false 1 (.t 95)), Xt 97 92 (.bin false .eql (.t 94) (.t 96)), Xq 98 (.pick (.t 92) (.t 97) .fb), Xm 99 98, Xt 100 99 (.fad 1 (.t 12)), Xt 101 99 (.load false 1 (.t 100)), Xt 102 99 (.fad 3 (.t 8)), Xt 103
 99 (.load false 1 (.t 102)), Xt 104 99 (.bin false .eql (.t 101) (.t 103)), Xq 105 (.pick (.t 99) (.t 104) .fb)]) (.cond (.t 105) (.seq (.reg [Xb 10 (.asg .tb)]) (.reg [Xm 106 6, Xf 107 2 12, Xl 108 1 107, Xb 109 (.bsl 3 1 [.t 108]), Xb 110 (.app true 3 1 8 (.t 106) (.t 109)), Xa 6 110])) .skip)))) (.reg [Xq 111 (.bin false .add (.t 86) (.i 1)), Xm 86 111]))))))) (.seq (.reg [Xm 112 10, Xq 113
 (.un .not (.t 112))]) (.cond (.t 113) (.seq (.reg [Xb 4 (.asg (.i 0)), Xb 5 (.asg (.i 1))]) .ret) .skip)))) (.seq (.dreg [Xm 24 6, Xm 25 9, Xq 26 (.bin false .sub (.t 25) (.i 2)), Xi 27 1 24 26, Xl 28 1 27, Xm 29 6, Xm 30 9, Xq 31 (.bin false .sub (.t 30) (.i 1)), Xi 32 1 29 31, Xl 33 1 32, Xm 13 28, Xm 14 33]) (.seq (.seq (.reg [Xm 34 14, Xq 35 (.bin false .eql (.t 34) (.i 0)), Xm 36 35, Xt 37 36
 (.fad 0 (.t 8)), Xt 38 36 (.load false 1 (.t 37)), Xt 39 36 (.bin false .eql (.t 38) (.i 6)), Xt 40 36 (.mov (.t 39)), Xu 41 40 (.fad 0 (.t 8)), Xu 42 40 (.load false 1 (.t 41)), Xu 43 40 (.bin false .eql (.t 42) (.i 7)), Xt 44 36 (.pick (.t 40) .tb (.t 43)), Xq 45 (.pick (.t 36) (.t 44) .fb)]) (.cond (.t 45) (.seq (.reg [Xb 4 (.asg (.i 0)), Xb 5 (.asg (.i 2))]) .ret) .skip)) (.mix [8] [0, 1, 6,
 9, 13, 14, 16, 17, 18, 56, 65, 110] [] [] [4, 5] [0, 1, 2, 3, 6, 7, 8, 9, 10, 11] [Xf 50 0 8, Xl 51 1 50] [Xm 46 6, Xm 47 9, Xq 48 (.bin false .sub (.t 47) (.i 2)), Xq 49 (.slc false 1 (.t 46) none (some (.t 48))), Xm 52 13, Xm 53 14, Xb 54 (.call (.fn 44) false [.lend (.t 51), .lend (.t 52), .lend (.t 53)]), Xb 55 (.bsl 3 1 [.t 54]), Xb 56 (.app true 3 1 8 (.t 49) (.t 55)), Xa 6 56]))))))))))
 (.seq (.reg [Xm 114 6, Xm 115 6, Xn 116 115, Xq 117 (.bin false .sub (.t 116) (.i 1)), Xi 118 1 114 117, Xl 119 1 118, Xa 15 119]) (.seq (.reg [Xm 120 15, Xb 121 (.call (.fn 43) false [.lend (.t 120), .lend (.i (-1000000000)), .lend (.i 1000000000)]), Xq 122 (.un .not (.t 121))]) (.cond (.t 122) (.seq (.reg [Xb 4 (.asg (.i 0)), Xb 5 (.asg (.i 3))]) .ret) .skip))))))) (.reg [Xq 123 (.bin false .add
 (.t 18) (.i 1)), Xm 18 123]))))))) (.seq (.reg [Xm 124 6, Xq 125 (.iad 1 (.t 124) (.i 0)), Xl 126 1 125, Xa 4 126, Xb 5 (.asg (.i 0))]) .ret))))
set_option maxHeartbeats 1000000 in
set_option maxRecDepth 100000 in
theorem d25 (l : List Step) (K : List Known) (hl : exprOk l = true) (hK : knOk K = true) :
    Does Go.Proofs.Try.prog 25 [.fsl 4 (l.map Step.c), .fsl 3 (K.map Known.c)] false (.tup [.v (.int .i64 (evalOf K l).1), .v (.int .i64 (evalOf K l).2)]) [.dead, .dead] := by
  obtain ⟨hx, hll⟩ := exprOk_run hl
  have hKl : (K.length : Int) ≤ 40 := by simp only [knOk, Bool.and_eq_true, decide_eq_true_eq] at hK; omega
  refine does_intro (mc := m25) (N := 127) (rs := [4, 5]) (fx := []) 2 rfl (by decide +kernel) ?_
  simp only [m25, EV, Nat.reduceEqDiff, Nat.reduceBEq, Nat.reduceLT, Nat.reduceLeDiff, Nat.reduceAdd, Nat.reduceSub, reduceIte]
  refine awp_loop (fun p : Nat × List Int => p.1 ≤ l.length ∧ evRun K p.2 (l.drop p.1) = evRun K [] l ∧ exRun p.2.length (l.drop p.1) = some 1 ∧ (p.2.length ≤ p.1) ∧ ∀ n ∈ p.2, whole n = true)
    (fun p => stl [(0, .fsl 4 (l.map Step.c)), (1, .fsl 3 (K.map Known.c)), (6, .usl 3 1 (rows p.2)), (16, .fsl 4 (l.map Step.c)), (17, .v (.int .i64 (l.length : Int))), (18, .v (.int .i64 (p.1 : Int))), (56, .dead), (65, .dead), (110, .dead)]) (fun p => l.length - p.1) (0, []) ⟨Nat.zero_le _, by simp, by simpa using hx, by simp, by simp⟩ ?_ ?_
  · simp only [rows_nil, EV, Nat.reduceEqDiff, Nat.reduceBEq, Nat.reduceLT, Nat.reduceLeDiff, Nat.reduceAdd, Nat.reduceSub, reduceIte]
    rfl
  · rintro ⟨i, r⟩ ⟨p0, p1, p2, p3, p4⟩
    simp only at p0 p1 p2 p3 p4
    simp only [EV, Nat.reduceEqDiff, Nat.reduceBEq, Nat.reduceLT, Nat.reduceLeDiff, Nat.reduceAdd, Nat.reduceSub, reduceIte]
    refine cK_cut (fun h => ?_) (fun h => ?_)
    · have h1 : i < l.length := by simpa using h
      have h2 : (i : Int) < (l.length : Int) := by omega
      rw [List.drop_eq_getElem_cons h1] at p1 p2
      have p9 : ∀ {c : Int}, evTop (evPre K r l[i]) = .inl c → evalOf K l = (0, c) := by
        intro c hc
        simp only [evalOf, ← p1, evRun_no hc, outOf]
      obtain ⟨hso, hkind⟩ := exRun_go p2
      clear h p2
      refine awp_join (fun r' : List Int => evTop (evPre K r l[i]) = .inr r' ∧ exRun r'.length (l.drop (i + 1)) = some 1 ∧ r'.length ≤ i + 1 ∧ ∀ n ∈ r', whole n = true)
        (fun r' => stl [(0, .fsl 4 (l.map Step.c)), (1, .fsl 3 (K.map Known.c)), (6, .usl 3 1 (rows r')), (16, .fsl 4 (l.map Step.c)), (17, .v (.int .i64 (l.length : Int))), (18, .v (.int .i64 (i : Int))), (56, .dead), (65, .dead), (110, .dead)]) ?_ ?_
      · simp only [nth_map h1, h2, Step.c, rows_len, EV, Nat.reduceEqDiff, Nat.reduceBEq, Nat.reduceLT, Nat.reduceLeDiff, Nat.reduceAdd, Nat.reduceSub, reduceIte]
        refine awp_join (fun q : Int × List Int => evPre K r l[i] = .inr (q.1 :: q.2) ∧ exRun (q.2.length + 1) (l.drop (i + 1)) = some 1 ∧ q.2.length ≤ i ∧ ∀ n ∈ q.2, whole n = true)
          (fun q => stl [(0, .fsl 4 (l.map Step.c)), (1, .fsl 3 (K.map Known.c)), (6, .usl 3 1 (rows (q.1 :: q.2))), (16, .fsl 4 (l.map Step.c)), (17, .v (.int .i64 (l.length : Int))), (18, .v (.int .i64 (i : Int))), (56, .dead), (65, .dead), (110, .dead)]) ?_ ?_
        · rcases hkind with ⟨k | k, hx1⟩ | ⟨k, hn, hx1⟩ | ⟨k3, k7, hn, hx1⟩
          · have e1 : (l[i].kind == 1) = true := by simp [k]
            simp only [rows_len, rows_all, e1, EV, Nat.reduceEqDiff, Nat.reduceBEq, Nat.reduceLT, Nat.reduceLeDiff, Nat.reduceAdd, Nat.reduceSub, reduceIte]
            refine ⟨by omega, by omega, (l[i].value, r), ⟨?_, hx1, p3, p4⟩, by rw [rows_cons]⟩
            simp only [evPre, k, Int.reduceEq, if_true, if_false]
          · have e1 : (l[i].kind == 1) = false := by simp [k]
            have e2 : (l[i].kind == 2) = true := by simp [k]
            have e8 : (l[i].kind == 8) = false := by simp [k]
            simp only [rows_len, rows_all, e1, e2, e8, EV, Nat.reduceEqDiff, Nat.reduceBEq, Nat.reduceLT, Nat.reduceLeDiff, Nat.reduceAdd, Nat.reduceSub, reduceIte]
            refine awp_loop (fun p : Nat × Option Known => p.1 ≤ K.length ∧ p.2 = (K.take p.1).find? (isOf l[i]))
              (fun p => stl [(0, .fsl 4 (l.map Step.c)), (1, .fsl 3 (K.map Known.c)), (6, .usl 3 1 (rows (pushO p.2 r))), (8, .box 54 l[i].c), (10, .v (.bool p.2.isSome)), (16, .fsl 4 (l.map Step.c)), (17, .v (.int .i64 (l.length : Int))), (18, .v (.int .i64 (i : Int))), (56, .dead), (65, .dead), (84, .fsl 3 (K.map Known.c)), (85, .v (.int .i64 (K.length : Int))), (86, .v (.int .i64 (p.1 : Int))), (110, .dead)]) (fun p => K.length - p.1) (0, none) ⟨Nat.zero_le _, by simp⟩ ?_ ?_
            · simp only [pushO, Option.isSome_none, Step.c, EV, Nat.reduceEqDiff, Nat.reduceBEq, Nat.reduceLT, Nat.reduceLeDiff, Nat.reduceAdd, Nat.reduceSub, reduceIte]
              rfl
            · rintro ⟨j, fd⟩ ⟨j0, j1⟩
              simp only at j0 j1
              have hpl := pushO_len fd r
              simp only [Step.c, EV, Nat.reduceEqDiff, Nat.reduceBEq, Nat.reduceLT, Nat.reduceLeDiff, Nat.reduceAdd, Nat.reduceSub, reduceIte]
              refine cK_cut (fun h => ?_) (fun h => ?_)
              · have g1 : j < K.length := by simpa using h
                have g2 : (j : Int) < (K.length : Int) := by omega
                clear h
                have ft := find_take (q := isOf l[i]) g1
                rw [← j1] at ft
                refine awp_join (fun fd' : Option Known => fd' = (K.take (j + 1)).find? (isOf l[i]))
                  (fun fd' => stl [(0, .fsl 4 (l.map Step.c)), (1, .fsl 3 (K.map Known.c)), (6, .usl 3 1 (rows (pushO fd' r))), (8, .box 54 l[i].c), (10, .v (.bool fd'.isSome)), (16, .fsl 4 (l.map Step.c)), (17, .v (.int .i64 (l.length : Int))), (18, .v (.int .i64 (i : Int))), (56, .dead), (65, .dead), (84, .fsl 3 (K.map Known.c)), (85, .v (.int .i64 (K.length : Int))), (86, .v (.int .i64 (j : Int))), (110, .dead)]) ?_ ?_
                · rcases fd with _ | k0
                  · simp only at ft
                    simp only [nth_map g1, g2, Known.c, Step.c, Option.isSome_none, pushO_n, pushO_s, EV, Nat.reduceEqDiff, Nat.reduceBEq, Nat.reduceLT, Nat.reduceLeDiff, Nat.reduceAdd, Nat.reduceSub, reduceIte]
                    repeat' (first
    | (refine gK_cut (fun h => ?_) (fun h => ?_) <;> simp only [h, rows_len, rows_all, EV, Nat.reduceEqDiff, Nat.reduceBEq, Nat.reduceLT, Nat.reduceLeDiff, Nat.reduceAdd, Nat.reduceSub, reduceIte])
    | (refine cK_cut (fun h => ?_) (fun h => ?_) <;> simp only [h, rows_len, rows_all, EV, Nat.reduceEqDiff, Nat.reduceBEq, Nat.reduceLT, Nat.reduceLeDiff, Nat.reduceAdd, Nat.reduceSub, reduceIte]))
                    all_goals first
                      | (refine ⟨by omega, by omega, some K[j], ?_, ?_⟩
                         · have hq : isOf l[i] K[j] = true := by
                             unfold isOf; rw [Bool.and_eq_true]; constructor <;> assumption
                           rw [ft, if_pos hq]
                         · rw [pushO_s, rows_cons]; rfl
                         done)
                      | (refine ⟨none, ?_, rfl⟩
                         have hq : (K[j].mod.toList == l[i].mod.toList && K[j].name.toList == l[i].name.toList) = false := by
                           rw [Bool.and_eq_false_iff]
                           first | (left; assumption) | (right; assumption)
                         rw [ft, if_neg (by unfold isOf; rw [hq]; exact Bool.false_ne_true)]
                         done)
                  · simp only at ft
                    simp only [nth_map g1, g2, Known.c, Step.c, Option.isSome_some, pushO_n, pushO_s, EV, Nat.reduceEqDiff, Nat.reduceBEq, Nat.reduceLT, Nat.reduceLeDiff, Nat.reduceAdd, Nat.reduceSub, reduceIte]
                    exact ⟨some k0, ft.symm, rfl⟩
                · rintro fd' hfd'
                  simp only [Step.c, EV, Nat.reduceEqDiff, Nat.reduceBEq, Nat.reduceLT, Nat.reduceLeDiff, Nat.reduceAdd, Nat.reduceSub, reduceIte]
                  rw [w64 _ (by omega)]
                  exact ⟨(j + 1, fd'), ⟨g1, hfd'⟩, by simp only; omega, rfl⟩
              · have g1 : j = K.length := by have : ¬ (j : Int) < K.length := by simpa using h
                                             omega
                subst g1
                clear h
                rw [List.take_length] at j1
                rcases fd with _ | k0
                · have e : evTop (evPre K r l[i]) = .inl 1 := by
                    simp only [evPre, k, ← j1, evTop, Int.reduceEq, if_true, if_false]
                  simp only [Option.isSome_none, pushO_n, pushO_s, EV, Nat.reduceEqDiff, Nat.reduceBEq, Nat.reduceLT, Nat.reduceLeDiff, Nat.reduceAdd, Nat.reduceSub, reduceIte]
                  simp only [p9 e, EV, Nat.reduceEqDiff, Nat.reduceBEq, Nat.reduceLT, Nat.reduceLeDiff, Nat.reduceAdd, Nat.reduceSub, reduceIte, evRE, retVC, cellV', evR, nfz, nfzs, nfzss, List.contains_nil, List.contains_cons, Bool.or_false, or_true]
                · simp only [Option.isSome_some, pushO_n, pushO_s, EV, Nat.reduceEqDiff, Nat.reduceBEq, Nat.reduceLT, Nat.reduceLeDiff, Nat.reduceAdd, Nat.reduceSub, reduceIte]
                  refine ⟨(k0.value, r), ⟨?_, hx1, p3, p4⟩, rfl⟩
                  simp only [evPre, k, ← j1, Int.reduceEq, if_true, if_false]
          · have e1 : (l[i].kind == 1) = false := by simp [k]
            have e2 : (l[i].kind == 2) = false := by simp [k]
            have e8 : (l[i].kind == 8) = true := by simp [k]
            rcases r with _ | ⟨a, r⟩
            · simp at hn
            have hw : IntKind.i64.wrap (((r.length + 1 : Nat) : Int) - 1) = (r.length : Int) := by
              rw [w64 _ (by simp only [List.length_cons] at *; omega)]; simp
            have hr : r.length < r.length + 1 := by omega
            have hr2 : (r.length : Int) < ((r.length + 1 : Nat) : Int) := by omega
            have wa := p4 a (by simp)
            have wa2 := whole_iff.1 wa
            simp only [rows_len, hw, hr, hr2, e1, e2, e8, rows_top, rows_set, EV, Nat.reduceEqDiff, Nat.reduceBEq, Nat.reduceLT, Nat.reduceLeDiff, Nat.reduceAdd, Nat.reduceSub, reduceIte]
            rw [w64 (0 - a) (by omega), Int.zero_sub]
            refine ⟨(-a, r), ⟨?_, by simpa using hx1, ?_, ?_⟩, rfl⟩
            · simp only [evPre, k, Int.reduceEq, if_true, if_false]
            · show r.length ≤ i
              simp only [List.length_cons] at p3; omega
            · exact fun n hn => p4 n (by simp [hn])
          · have e1 : (l[i].kind == 1) = false := by simp; omega
            have e2 : (l[i].kind == 2) = false := by simp; omega
            have e8 : (l[i].kind == 8) = false := by simp; omega
            rcases r with _ | ⟨b, _ | ⟨a, r⟩⟩
            · simp at hn
            · simp at hn
            have hw : IntKind.i64.wrap (((r.length + 1 + 1 : Nat) : Int) - 1) = ((r.length + 1 : Nat) : Int) := by
              rw [w64 _ (by simp only [List.length_cons] at *; omega)]; simp
            have hw2 : IntKind.i64.wrap (((r.length + 1 + 1 : Nat) : Int) - 2) = (r.length : Int) := by
              rw [w64 _ (by simp only [List.length_cons] at *; omega)]; omega
            have hr : r.length < r.length + 1 + 1 := by omega
            have hr1 : r.length + 1 < r.length + 1 + 1 := by omega
            have hr2 : (r.length : Int) < ((r.length + 1 + 1 : Nat) : Int) := by omega
            have hr3 : ((r.length + 1 : Nat) : Int) < ((r.length + 1 + 1 : Nat) : Int) := by omega
            have wb := p4 b (by simp)
            have wa := p4 a (by simp)
            have wm := mul_b wa wb
            have wa2 := whole_iff.1 wa
            have wb2 := whole_iff.1 wb
            have n1 : ¬ l[i].kind = 1 := by omega
            have n2 : ¬ l[i].kind = 2 := by omega
            have n8 : ¬ l[i].kind = 8 := by omega
            simp only [rows_len, hw, hw2, hr, hr1, hr2, hr3, e1, e2, e8, rows_top2, rows_sub, EV, Nat.reduceEqDiff, Nat.reduceBEq, Nat.reduceLT, Nat.reduceLeDiff, Nat.reduceAdd, Nat.reduceSub, reduceIte]
            have hlr : r.length + 2 ≤ i := by simpa using p3
            have hx2 : exRun ((r.length : Int) + 1) (l.drop (i + 1)) = some 1 := by
              have : (((b :: a :: r).length : Nat) : Int) - 1 = (r.length : Int) + 1 := by simp only [List.length_cons]; omega
              rw [← this]; exact hx1
            have fin : ¬ (b = 0 ∧ (l[i].kind = 6 ∨ l[i].kind = 7)) → evPre K (b :: a :: r) l[i] = .inr (opOf l[i].kind a b :: r) := by
              intro hz
              simp only [evPre, n1, n2, n8, if_false, hz]
            repeat' (first
    | (refine gK_cut (fun h => ?_) (fun h => ?_) <;> simp only [h, hw2, rows_len, EV, Nat.reduceEqDiff, Nat.reduceBEq, Nat.reduceLT, Nat.reduceLeDiff, Nat.reduceAdd, Nat.reduceSub, reduceIte])
    | (refine cK_cut (fun h => ?_) (fun h => ?_) <;> simp only [h, hw2, rows_len, EV, Nat.reduceEqDiff, Nat.reduceBEq, Nat.reduceLT, Nat.reduceLeDiff, Nat.reduceAdd, Nat.reduceSub, reduceIte]))
            all_goals simp only [beq_iff_eq, beq_eq_false_iff_ne, ne_eq] at *
            all_goals first
              | (have hz : b = 0 ∧ (l[i].kind = 6 ∨ l[i].kind = 7) := by omega
                 have e : evTop (evPre K (b :: a :: r) l[i]) = .inl 2 := by
                   simp only [evPre, n1, n2, n8, if_false, if_pos hz, evTop]
                 simp only [p9 e, EV, Nat.reduceEqDiff, Nat.reduceBEq, Nat.reduceLT, Nat.reduceLeDiff, Nat.reduceAdd, Nat.reduceSub, reduceIte, evRE, retVC, cellV', evR, nfz, nfzs, nfzss, List.contains_nil, List.contains_cons, Bool.or_false, or_true]
                 done)
              | (have hz : ¬ (b = 0 ∧ (l[i].kind = 6 ∨ l[i].kind = 7)) := by omega
                 have e := fin hz
                 refine ⟨by omega, by omega, ?_⟩
                 refine callK_i (d44 l[i].kind a b wa wb ⟨k3, k7⟩ (by omega)) ?_
                 simp only [rows_len, rows_take, hw2, EV, Nat.reduceEqDiff, Nat.reduceBEq, Nat.reduceLT, Nat.reduceLeDiff, Nat.reduceAdd, Nat.reduceSub, reduceIte]
                 refine ⟨by omega, by omega, (opOf l[i].kind a b, r), ⟨e, hx2, by show r.length ≤ i; omega, fun n hn => p4 n (by simp [hn])⟩, by rw [rows_cons]⟩)
        · rintro ⟨n, r'⟩ ⟨q1, q2, q3, q4⟩
          simp only at q1 q2 q3 q4
          have hw : IntKind.i64.wrap (((r'.length + 1 : Nat) : Int) - 1) = (r'.length : Int) := by
            rw [w64 _ (by omega)]; simp
          have hr : r'.length < r'.length + 1 := by omega
          have hr2 : (r'.length : Int) < ((r'.length + 1 : Nat) : Int) := by omega
          simp only [rows_len, rows_top, hw, hr, hr2, EV, Nat.reduceEqDiff, Nat.reduceBEq, Nat.reduceLT, Nat.reduceLeDiff, Nat.reduceAdd, Nat.reduceSub, reduceIte]
          refine callK_i (d43 _ _ _) ?_
          simp only [EV, Nat.reduceEqDiff, Nat.reduceBEq, Nat.reduceLT, Nat.reduceLeDiff, Nat.reduceAdd, Nat.reduceSub, reduceIte]
          refine cK_cut (fun h => ?_) (fun h => ?_)
          · have w : whole n = false := by simp only [Bool.not_eq_true'] at h; exact h
            have e : evTop (evPre K r l[i]) = .inl 3 := by simp [q1, evTop, w]
            simp only [EV, Nat.reduceEqDiff, Nat.reduceBEq, Nat.reduceLT, Nat.reduceLeDiff, Nat.reduceAdd, Nat.reduceSub, reduceIte]
            simp only [p9 e, EV, Nat.reduceEqDiff, Nat.reduceBEq, Nat.reduceLT, Nat.reduceLeDiff, Nat.reduceAdd, Nat.reduceSub, reduceIte, evRE, retVC, cellV', evR, nfz, nfzs, nfzss, List.contains_nil, List.contains_cons, Bool.or_false, or_true]
          · have w : whole n = true := by simp only [Bool.not_eq_false'] at h; exact h
            simp only [EV, Nat.reduceEqDiff, Nat.reduceBEq, Nat.reduceLT, Nat.reduceLeDiff, Nat.reduceAdd, Nat.reduceSub, reduceIte]
            refine ⟨n :: r', ⟨by simp [q1, evTop, w], by simpa using q2, by simp only [List.length_cons]; omega, ?_⟩, rfl⟩
            intro m hm
            rcases List.mem_cons.1 hm with rfl | hm
            · exact w
            · exact q4 m hm
      · rintro r' ⟨q1, q2, q3, q4⟩
        simp only [EV, Nat.reduceEqDiff, Nat.reduceBEq, Nat.reduceLT, Nat.reduceLeDiff, Nat.reduceAdd, Nat.reduceSub, reduceIte]
        rw [w64 _ (by omega)]
        refine ⟨(i + 1, r'), ⟨h1, ?_, q2, q3, q4⟩, by simp only; omega, rfl⟩
        rw [← p1, evRun_go q1]
    · have h1 : i = l.length := by have : ¬ (i : Int) < l.length := by simpa using h
                                   omega
      subst h1
      rw [List.drop_length] at p1 p2
      simp only [exRun, Option.some.injEq] at p2
      have e0 : ∃ n, r = [n] := List.length_eq_one_iff.1 (by omega)
      obtain ⟨n, rfl⟩ := e0
      have e : evalOf K l = (n, 0) := by simp only [evalOf, ← p1, evRun, outOf]
      simp only [rows_cons, rows_nil, EV, Nat.reduceEqDiff, Nat.reduceBEq, Nat.reduceLT, Nat.reduceLeDiff, Nat.reduceAdd, Nat.reduceSub, reduceIte]
      refine ⟨by omega, by simp, ?_⟩
      simp only [nth_zero, EV, Nat.reduceEqDiff, Nat.reduceBEq, Nat.reduceLT, Nat.reduceLeDiff, Nat.reduceAdd, Nat.reduceSub, reduceIte]
      simp only [e, EV, Nat.reduceEqDiff, Nat.reduceBEq, Nat.reduceLT, Nat.reduceLeDiff, Nat.reduceAdd, Nat.reduceSub, reduceIte, evRE, retVC, cellV', evR, nfz, nfzs, nfzss, List.contains_nil, List.contains_cons, Bool.or_false, or_true]
end Go.AM
namespace Go.AM
set_option linter.unusedVariables false
set_option linter.unusedSimpArgs false
theorem evTop_ok {x : Sum Int (List Int)} (h : ∀ c, x = .inl c → 0 < c) : (∀ c, evTop x = .inl c → 0 < c) ∧ ∀ n r, evTop x = .inr (n :: r) → whole n = true := by
  rcases x with c | _ | ⟨n, r⟩
  · refine ⟨fun d e => ?_, fun n r e => ?_⟩
    · simp only [evTop, Sum.inl.injEq] at e
      exact h d (by rw [e])
    · simp only [evTop] at e; cases e
  · refine ⟨fun d e => ?_, fun n r e => ?_⟩
    · simp only [evTop] at e; cases e
    · simp only [evTop] at e; cases e
  · refine ⟨fun d e => ?_, fun m q e => ?_⟩
    · simp only [evTop] at e
      split at e
      · cases e
      · simp only [Sum.inl.injEq] at e; omega
    · simp only [evTop] at e
      split at e
      · rename_i hw
        simp only [Sum.inr.injEq, List.cons.injEq] at e
        rw [← e.1]; exact hw
      · cases e
theorem evPre_ok (K : List Known) (r : List Int) (s : Step) : ∀ c, evPre K r s = .inl c → 0 < c := by
  intro c h
  unfold evPre at h
  repeat' split at h
  all_goals first | (cases h; done) | (simp only [Sum.inl.injEq] at h; omega)
theorem evRun_ok (K : List Known) : ∀ (l : List Step) (r : List Int), (∀ n q, r = n :: q → whole n = true) → (∀ c, evRun K r l = .inl c → 0 < c) ∧ ∀ n q, evRun K r l = .inr (n :: q) → whole n = true
  | [], r, h => by
    refine ⟨fun c e => ?_, fun n q e => ?_⟩
    · simp only [evRun] at e; cases e
    · simp only [evRun, Sum.inr.injEq] at e; exact h n q e
  | s :: l, r, h => by
    have ht := evTop_ok (evPre_ok K r s)
    rcases hp : evTop (evPre K r s) with c | r'
    · rw [evRun_no hp]
      refine ⟨fun d e => ?_, fun n q e => ?_⟩
      · simp only [Sum.inl.injEq] at e
        rw [← e]; exact ht.1 c hp
      · cases e
    · rw [evRun_go hp]
      exact evRun_ok K l r' (fun n q e => ht.2 n q (by rw [hp, e]))
theorem evalOf_ok (K : List Known) (l : List Step) : 0 ≤ (evalOf K l).2 ∧ whole (evalOf K l).1 = true := by
  have h := evRun_ok K l [] (fun n q e => by cases e)
  unfold evalOf
  rcases he : evRun K [] l with c | _ | ⟨n, r⟩
  · have := h.1 c he
    exact ⟨by simp only [outOf]; omega, by simp [outOf, whole]⟩
  · exact ⟨by simp [outOf], by simp [outOf, whole]⟩
  · exact ⟨by simp [outOf], by simp only [outOf]; exact h.2 n r he⟩
def m8 : MC :=
 (.seq (.reg [Xb 4 (.asg (.i 0)), Xb 5 (.asg (.i 0)), Xb 6 (.asg .fb)]) (.seq (.seq (.reg [Xm 9 0, Xb 10 (.call (.fn 23) false [.lend (.t 9)]), Xq 11 (.un .not (.t 10)), Xm 12 11, Xu 13 12 (.mov (.t 1)), XU 14 12 (.call (.fn 24) false [.lend (.t 13)]), Xu 15 12 (.un .not (.t 14)), Xq 16 (.pick (.t 12) .tb (.t 15))]) (.cond (.t 16) (.seq (.reg [Xb 4 (.asg (.i 0)), Xb 5 (.asg (.i 0)), Xb 6 (.asg
 .fb)]) .ret) .skip)) (.seq (.reg [Xm 18 0, Xm 19 1, Xb 20 (.call (.fn 25) false [.lend (.t 18), .lend (.t 19)]), Xm 17 20, Xq 21 (.ext 17 0), Xq 22 (.ext 17 1), Xa 7 21, Xa 8 22]) (.seq (.reg [Xm 23 7, Xm 24 8, Xa 4 23, Xa 5 24, Xb 6 (.asg .tb)]) .ret))))
theorem d8 (l : List Step) (K : List Known) (hl : (l.length : Int) ≤ 1048576) (hs : ∀ s ∈ l, s.ok) (hK : K.length < 9223372036854775807) :
    Does Go.Proofs.Try.prog 8 [.fsl 4 (l.map Step.c), .fsl 3 (K.map Known.c)] false (.tup (if (exprOk l && knOk K) = true then [.v (.int .i64 (evalOf K l).1), .v (.int .i64 (evalOf K l).2), .v (.bool true)] else [.v (.int .i64 0), .v (.int .i64 0), .v (.bool false)])) [.dead, .dead] := by
  refine does_intro (mc := m8) (N := 25) (rs := [4, 5, 6]) (fx := []) 2 rfl (by decide +kernel) ?_
  simp only [m8, EV, Nat.reduceEqDiff, Nat.reduceBEq, Nat.reduceLT, Nat.reduceLeDiff, Nat.reduceAdd, Nat.reduceSub, reduceIte]
  refine callK_i (d23 l hl hs) ?_
  simp only [EV, Nat.reduceEqDiff, Nat.reduceBEq, Nat.reduceLT, Nat.reduceLeDiff, Nat.reduceAdd, Nat.reduceSub, reduceIte]
  rcases e1 : exprOk l with _ | _
  · simp only [EV, Nat.reduceEqDiff, Nat.reduceBEq, Nat.reduceLT, Nat.reduceLeDiff, Nat.reduceAdd, Nat.reduceSub, reduceIte]
    simp only [e1, Bool.false_and, Bool.false_eq_true, if_false, EV, Nat.reduceEqDiff, Nat.reduceBEq, Nat.reduceLT, Nat.reduceLeDiff, Nat.reduceAdd, Nat.reduceSub, reduceIte, evRE, retVC, cellV', evR, nfz, nfzs, nfzss, List.contains_nil, List.contains_cons, Bool.or_false, or_true]
  simp only [EV, Nat.reduceEqDiff, Nat.reduceBEq, Nat.reduceLT, Nat.reduceLeDiff, Nat.reduceAdd, Nat.reduceSub, reduceIte]
  refine callK_i (d24 K hK) ?_
  simp only [EV, Nat.reduceEqDiff, Nat.reduceBEq, Nat.reduceLT, Nat.reduceLeDiff, Nat.reduceAdd, Nat.reduceSub, reduceIte]
  rcases e2 : knOk K with _ | _
  · simp only [EV, Nat.reduceEqDiff, Nat.reduceBEq, Nat.reduceLT, Nat.reduceLeDiff, Nat.reduceAdd, Nat.reduceSub, reduceIte]
    simp only [e1, e2, Bool.and_false, Bool.false_eq_true, if_false, EV, Nat.reduceEqDiff, Nat.reduceBEq, Nat.reduceLT, Nat.reduceLeDiff, Nat.reduceAdd, Nat.reduceSub, reduceIte, evRE, retVC, cellV', evR, nfz, nfzs, nfzss, List.contains_nil, List.contains_cons, Bool.or_false, or_true]
  simp only [EV, Nat.reduceEqDiff, Nat.reduceBEq, Nat.reduceLT, Nat.reduceLeDiff, Nat.reduceAdd, Nat.reduceSub, reduceIte]
  refine callK_i (d25 l K e1 e2) ?_
  simp only [EV, Nat.reduceEqDiff, Nat.reduceBEq, Nat.reduceLT, Nat.reduceLeDiff, Nat.reduceAdd, Nat.reduceSub, reduceIte]
  simp only [e1, e2, Bool.and_self, if_true, EV, Nat.reduceEqDiff, Nat.reduceBEq, Nat.reduceLT, Nat.reduceLeDiff, Nat.reduceAdd, Nat.reduceSub, reduceIte, evRE, retVC, cellV', evR, nfz, nfzs, nfzss, List.contains_nil, List.contains_cons, Bool.or_false, or_true]
def numStep (n : Int) : Step := ⟨1, n, ⟨#[]⟩, ⟨#[]⟩⟩
def negStep : Step := ⟨8, 0, ⟨#[]⟩, ⟨#[]⟩⟩
noncomputable def foldL (K : List Known) (l : List Step) : List Step :=
  if (exprOk l && knOk K) = false then []
  else if 0 < (evalOf K l).2 then l
  else if (evalOf K l).1 < 0 then [numStep (-(evalOf K l).1), negStep]
  else [numStep (evalOf K l).1]
noncomputable def foldB (K : List Known) (l : List Step) : Bool := exprOk l && knOk K
def m14 : MC :=
 (.seq (.reg [Xb 4 (.asg (.nils 54 4)), Xb 5 (.asg .fb)]) (.seq (.reg [Xm 10 0, Xm 11 1, Xb 12 (.call (.fn 8) false [.lend (.t 10), .lend (.t 11)]), Xm 9 12, Xq 13 (.ext 9 0), Xq 14 (.ext 9 1), Xq 15 (.ext 9 2), Xa 6 13, Xa 7 14, Xa 8 15]) (.seq (.block 0 (.seq (.reg [Xm 17 8, Xq 18 (.un .not (.t 17)), Xa 16 18]) (.cond (.t 16) (.seq (.reg [Xb 4 (.asg (.nils 54 4)), Xb 5 (.asg .fb)]) .ret) (.seq
 (.reg [Xm 20 7, Xq 21 (.bin false .gtr (.t 20) (.i 0)), Xa 19 21]) (.cond (.t 19) (.seq (.reg [Xb 22 (.bsl 54 4 []), Xm 23 0, Xb 24 (.app false 54 4 48 (.t 22) (.t 23)), Xa 4 24, Xb 5 (.asg .tb)]) .ret) (.seq (.reg [Xm 26 6, Xq 27 (.bin false .lss (.t 26) (.i 0)), Xa 25 27]) (.cond (.t 25) (.seq (.reg [Xm 28 6, Xq 29 (.un .neg (.t 28)), Xb 30 (.build [0, 1] [0, 1] [1, 1] [.i, .i, .z, .z] [.i 1, .t
 29]), Xb 31 (.build [0] [0] [1] [.i, .i, .z, .z] [.i 8]), Xb 32 (.bsl 54 4 [.t 30, .t 31]), Xa 4 32, Xb 5 (.asg .tb)]) .ret) .skip))))))) (.seq (.reg [Xm 33 6, Xb 34 (.build [0, 1] [0, 1] [1, 1] [.i, .i, .z, .z] [.i 1, .t 33]), Xb 35 (.bsl 54 4 [.t 34]), Xa 4 35, Xb 5 (.asg .tb)]) .ret))))
set_option maxRecDepth 100000 in
theorem d14 (l : List Step) (K : List Known) (hl : (l.length : Int) ≤ 1048576) (hs : ∀ s ∈ l, s.ok) (hK : K.length < 9223372036854775807) :
    Does Go.Proofs.Try.prog 14 [.fsl 4 (l.map Step.c), .fsl 3 (K.map Known.c)] false (.tup [.usl 54 4 ((foldL K l).map Step.c), .v (.bool (foldB K l))]) [.dead, .dead] := by
  have ho := evalOf_ok K l
  have hw := whole_iff.1 ho.2
  refine does_intro (mc := m14) (N := 36) (rs := [4, 5]) (fx := []) 2 rfl (by decide +kernel) ?_
  simp only [m14, EV, Nat.reduceEqDiff, Nat.reduceBEq, Nat.reduceLT, Nat.reduceLeDiff, Nat.reduceAdd, Nat.reduceSub, reduceIte]
  refine callK_i (d8 l K hl hs hK) ?_
  rcases e1 : (exprOk l && knOk K) with _ | _
  · simp only [Bool.false_eq_true, if_false, EV, Nat.reduceEqDiff, Nat.reduceBEq, Nat.reduceLT, Nat.reduceLeDiff, Nat.reduceAdd, Nat.reduceSub, reduceIte]
    simp only [foldL, foldB, e1, Bool.false_eq_true, if_false, if_true, EV, Nat.reduceEqDiff, Nat.reduceBEq, Nat.reduceLT, Nat.reduceLeDiff, Nat.reduceAdd, Nat.reduceSub, reduceIte, evRE, retVC, cellV', evR, nfz, nfzs, nfzss, List.contains_nil, List.contains_cons, Bool.or_false, or_true]
  simp only [Bool.false_eq_true, if_false, if_true, EV, Nat.reduceEqDiff, Nat.reduceBEq, Nat.reduceLT, Nat.reduceLeDiff, Nat.reduceAdd, Nat.reduceSub, reduceIte]
  refine cK_cut (fun h => ?_) (fun h => ?_)
  · have q : 0 < (evalOf K l).2 := by simpa using h
    have e : foldL K l = l := by simp only [foldL, e1, if_pos q, Bool.true_eq_false, if_false]
    simp only [EV, Nat.reduceEqDiff, Nat.reduceBEq, Nat.reduceLT, Nat.reduceLeDiff, Nat.reduceAdd, Nat.reduceSub, reduceIte]
    refine ⟨Or.inl trivial, by omega, by omega, ?_⟩
    simp only [e, foldB, e1, StepE, Step.nfz, EV, Nat.reduceEqDiff, Nat.reduceBEq, Nat.reduceLT, Nat.reduceLeDiff, Nat.reduceAdd, Nat.reduceSub, reduceIte, evRE, retVC, cellV', evR, nfz, nfzs, nfzss, List.contains_nil, List.contains_cons, Bool.or_false, or_true]
  have q : ¬ 0 < (evalOf K l).2 := by simpa using h
  clear h
  simp only [EV, Nat.reduceEqDiff, Nat.reduceBEq, Nat.reduceLT, Nat.reduceLeDiff, Nat.reduceAdd, Nat.reduceSub, reduceIte]
  refine cK_cut (fun h => ?_) (fun h => ?_)
  · have n : (evalOf K l).1 < 0 := by simpa using h
    have e : foldL K l = [numStep (-(evalOf K l).1), negStep] := by simp only [foldL, e1, if_neg q, if_pos n, Bool.true_eq_false, if_false]
    simp only [EV, Nat.reduceEqDiff, Nat.reduceBEq, Nat.reduceLT, Nat.reduceLeDiff, Nat.reduceAdd, Nat.reduceSub, reduceIte]
    rw [w64 (0 - (evalOf K l).1) (by omega), Int.zero_sub]
    simp only [e, foldB, e1, numStep, negStep, Step.c, EV, Nat.reduceEqDiff, Nat.reduceBEq, Nat.reduceLT, Nat.reduceLeDiff, Nat.reduceAdd, Nat.reduceSub, reduceIte, evRE, retVC, cellV', evR, nfz, nfzs, nfzss, List.contains_nil, List.contains_cons, Bool.or_false, or_true]
  have n : ¬ (evalOf K l).1 < 0 := by simpa using h
  have e : foldL K l = [numStep (evalOf K l).1] := by simp only [foldL, e1, if_neg q, if_neg n, Bool.true_eq_false, if_false]
  simp only [EV, Nat.reduceEqDiff, Nat.reduceBEq, Nat.reduceLT, Nat.reduceLeDiff, Nat.reduceAdd, Nat.reduceSub, reduceIte]
  simp only [e, foldB, e1, numStep, Step.c, EV, Nat.reduceEqDiff, Nat.reduceBEq, Nat.reduceLT, Nat.reduceLeDiff, Nat.reduceAdd, Nat.reduceSub, reduceIte, evRE, retVC, cellV', evR, nfz, nfzs, nfzss, List.contains_nil, List.contains_cons, Bool.or_false, or_true]
def m28 : MC :=
 (.seq (.reg [Xb 2 (.asg (.nils 54 4))]) (.seq (.seq (.reg [Xm 3 0, Xq 4 (.isnil false (.t 3))]) (.cond (.t 4) (.seq (.reg [Xb 2 (.asg (.nils 54 4))]) .ret) .skip)) (.seq (.reg [Xb 5 (.bsl 54 4 []), Xm 6 0, Xb 7 (.app false 54 4 48 (.t 5) (.t 6)), Xa 2 7]) .ret)))
theorem d28 (l : List Step) (hl : (l.length : Int) ≤ 1048576) : Does Go.Proofs.Try.prog 28 [.fsl 4 (l.map Step.c)] false (.usl 54 4 (l.map Step.c)) [.dead] := by
  refine does_intro (mc := m28) (N := 8) (rs := [2]) (fx := []) 1 rfl (by decide +kernel) ?_
  simp only [m28, EV, Nat.reduceEqDiff, Nat.reduceBEq, Nat.reduceLT, Nat.reduceLeDiff, Nat.reduceAdd, Nat.reduceSub, reduceIte]
  refine ⟨fun h b => ?_, fun h => ⟨Or.inl trivial, by omega, by omega, ?_⟩⟩
  · have hl0 : l = [] := by simpa using h
    subst hl0
    cases b
    · simp only [EV, Nat.reduceEqDiff, Nat.reduceBEq, Nat.reduceLT, Nat.reduceLeDiff, Nat.reduceAdd, Nat.reduceSub, reduceIte]
      refine ⟨Or.inl trivial, by decide, ?_⟩
      simp only [nfzss, EV, Nat.reduceEqDiff, Nat.reduceBEq, Nat.reduceLT, Nat.reduceLeDiff, Nat.reduceAdd, Nat.reduceSub, reduceIte, evRE, retVC, cellV', evR, nfz, nfzs, nfzss, List.contains_nil, List.contains_cons, Bool.or_false, or_true]
    · simp only [EV, Nat.reduceEqDiff, Nat.reduceBEq, Nat.reduceLT, Nat.reduceLeDiff, Nat.reduceAdd, Nat.reduceSub, reduceIte]
      simp only [nfzss, EV, Nat.reduceEqDiff, Nat.reduceBEq, Nat.reduceLT, Nat.reduceLeDiff, Nat.reduceAdd, Nat.reduceSub, reduceIte, evRE, retVC, cellV', evR, nfz, nfzs, nfzss, List.contains_nil, List.contains_cons, Bool.or_false, or_true]
  · simp only [StepE, Step.nfz, EV, Nat.reduceEqDiff, Nat.reduceBEq, Nat.reduceLT, Nat.reduceLeDiff, Nat.reduceAdd, Nat.reduceSub, reduceIte, evRE, retVC, cellV', evR, nfz, nfzs, nfzss, List.contains_nil, List.contains_cons, Bool.or_false, or_true]
def m13 : MC :=
 (.seq (.reg [Xb 4 (.asg (.nils 54 4)), Xb 5 (.asg .fb)]) (.seq (.seq (.reg [Xm 8 0, Xb 9 (.call (.fn 20) false [.lend (.t 8)]), Xq 10 (.un .not (.t 9)), Xm 11 10, Xu 12 11 (.mov (.t 1)), XU 13 11 (.call (.fn 21) false [.lend (.t 12)]), Xu 14 11 (.un .not (.t 13)), Xq 15 (.pick (.t 11) .tb (.t 14))]) (.cond (.t 15) (.seq (.reg [Xb 4 (.asg (.nils 54 4)), Xb 5 (.asg .fb)]) .ret) .skip)) (.seq (.reg
 [Xm 17 0, Xm 18 1, Xb 19 (.call (.fn 22) false [.lend (.t 17), .lend (.t 18)]), Xm 16 19, Xq 20 (.ext 16 0), Xq 21 (.ext 16 1), Xa 6 20, Xa 7 21]) (.seq (.block 0 (.seq (.reg [Xm 23 7, Xq 24 (.bin false .neq (.t 23) (.i 0)), Xa 22 24]) (.cond (.t 22) (.seq (.reg [Xm 25 0, Xb 26 (.call (.fn 28) false [.lend (.t 25)]), Xa 4 26, Xb 5 (.asg .tb)]) .ret) (.seq (.reg [Xm 28 6, Xq 29 (.bin false .lss (.t
 28) (.i 0)), Xa 27 29]) (.cond (.t 27) (.seq (.reg [Xm 30 6, Xq 31 (.un .neg (.t 30)), Xb 32 (.build [0, 1] [0, 1] [1, 1] [.i, .i, .z, .z] [.i 1, .t 31]), Xb 33 (.build [0] [0] [1] [.i, .i, .z, .z] [.i 8]), Xb 34 (.bsl 54 4 [.t 32, .t 33]), Xa 4 34, Xb 5 (.asg .tb)]) .ret) .skip))))) (.seq (.reg [Xm 35 6, Xb 36 (.build [0, 1] [0, 1] [1, 1] [.i, .i, .z, .z] [.i 1, .t 35]), Xb 37 (.bsl 54 4 [.t
 36]), Xa 4 37, Xb 5 (.asg .tb)]) .ret)))))
set_option maxRecDepth 100000 in
theorem d13 (l : List Step) (K : List Known) (hl : (l.length : Int) ≤ 1048576) (hs : ∀ s ∈ l, s.ok) (hK : K.length < 9223372036854775807) :
    Does Go.Proofs.Try.prog 13 [.fsl 4 (l.map Step.c), .fsl 3 (K.map Known.c)] false (.tup [.usl 54 4 ((foldL K l).map Step.c), .v (.bool (foldB K l))]) [.dead, .dead] := by
  have ho := evalOf_ok K l
  have hw := whole_iff.1 ho.2
  refine does_intro (mc := m13) (N := 38) (rs := [4, 5]) (fx := []) 2 rfl (by decide +kernel) ?_
  simp only [m13, EV, Nat.reduceEqDiff, Nat.reduceBEq, Nat.reduceLT, Nat.reduceLeDiff, Nat.reduceAdd, Nat.reduceSub, reduceIte]
  refine callK_i (d20 l hl hs) ?_
  simp only [EV, Nat.reduceEqDiff, Nat.reduceBEq, Nat.reduceLT, Nat.reduceLeDiff, Nat.reduceAdd, Nat.reduceSub, reduceIte]
  rcases e1 : exprOk l with _ | _
  · simp only [EV, Nat.reduceEqDiff, Nat.reduceBEq, Nat.reduceLT, Nat.reduceLeDiff, Nat.reduceAdd, Nat.reduceSub, reduceIte]
    simp only [foldL, foldB, e1, Bool.false_and, Bool.false_eq_true, if_false, if_true, EV, Nat.reduceEqDiff, Nat.reduceBEq, Nat.reduceLT, Nat.reduceLeDiff, Nat.reduceAdd, Nat.reduceSub, reduceIte, evRE, retVC, cellV', evR, nfz, nfzs, nfzss, List.contains_nil, List.contains_cons, Bool.or_false, or_true]
  simp only [EV, Nat.reduceEqDiff, Nat.reduceBEq, Nat.reduceLT, Nat.reduceLeDiff, Nat.reduceAdd, Nat.reduceSub, reduceIte]
  refine callK_i (d21 K hK) ?_
  simp only [EV, Nat.reduceEqDiff, Nat.reduceBEq, Nat.reduceLT, Nat.reduceLeDiff, Nat.reduceAdd, Nat.reduceSub, reduceIte]
  rcases e2 : knOk K with _ | _
  · simp only [EV, Nat.reduceEqDiff, Nat.reduceBEq, Nat.reduceLT, Nat.reduceLeDiff, Nat.reduceAdd, Nat.reduceSub, reduceIte]
    simp only [foldL, foldB, e1, e2, Bool.and_false, Bool.false_eq_true, if_false, if_true, EV, Nat.reduceEqDiff, Nat.reduceBEq, Nat.reduceLT, Nat.reduceLeDiff, Nat.reduceAdd, Nat.reduceSub, reduceIte, evRE, retVC, cellV', evR, nfz, nfzs, nfzss, List.contains_nil, List.contains_cons, Bool.or_false, or_true]
  simp only [EV, Nat.reduceEqDiff, Nat.reduceBEq, Nat.reduceLT, Nat.reduceLeDiff, Nat.reduceAdd, Nat.reduceSub, reduceIte]
  refine callK_i (d22 l K e1 e2) ?_
  simp only [EV, Nat.reduceEqDiff, Nat.reduceBEq, Nat.reduceLT, Nat.reduceLeDiff, Nat.reduceAdd, Nat.reduceSub, reduceIte]
  refine cK_cut (fun h => ?_) (fun h => ?_)
  · have q : 0 < (evalOf K l).2 := by simp only [bne_iff_ne, ne_eq] at h; omega
    have e : foldL K l = l := by simp only [foldL, e1, e2, Bool.and_self, if_pos q, Bool.true_eq_false, if_false]
    simp only [EV, Nat.reduceEqDiff, Nat.reduceBEq, Nat.reduceLT, Nat.reduceLeDiff, Nat.reduceAdd, Nat.reduceSub, reduceIte]
    refine callK_i (d28 l hl) ?_
    simp only [EV, Nat.reduceEqDiff, Nat.reduceBEq, Nat.reduceLT, Nat.reduceLeDiff, Nat.reduceAdd, Nat.reduceSub, reduceIte]
    simp only [e, foldB, e1, e2, Bool.and_self, StepE, Step.nfz, EV, Nat.reduceEqDiff, Nat.reduceBEq, Nat.reduceLT, Nat.reduceLeDiff, Nat.reduceAdd, Nat.reduceSub, reduceIte, evRE, retVC, cellV', evR, nfz, nfzs, nfzss, List.contains_nil, List.contains_cons, Bool.or_false, or_true]
  have q : ¬ 0 < (evalOf K l).2 := by simp only [bne_eq_false_iff_eq] at h; omega
  clear h
  simp only [EV, Nat.reduceEqDiff, Nat.reduceBEq, Nat.reduceLT, Nat.reduceLeDiff, Nat.reduceAdd, Nat.reduceSub, reduceIte]
  refine cK_cut (fun h => ?_) (fun h => ?_)
  · have n : (evalOf K l).1 < 0 := by simpa using h
    have e : foldL K l = [numStep (-(evalOf K l).1), negStep] := by simp only [foldL, e1, e2, Bool.and_self, if_neg q, if_pos n, Bool.true_eq_false, if_false]
    simp only [EV, Nat.reduceEqDiff, Nat.reduceBEq, Nat.reduceLT, Nat.reduceLeDiff, Nat.reduceAdd, Nat.reduceSub, reduceIte]
    rw [w64 (0 - (evalOf K l).1) (by omega), Int.zero_sub]
    simp only [e, foldB, e1, e2, Bool.and_self, numStep, negStep, Step.c, EV, Nat.reduceEqDiff, Nat.reduceBEq, Nat.reduceLT, Nat.reduceLeDiff, Nat.reduceAdd, Nat.reduceSub, reduceIte, evRE, retVC, cellV', evR, nfz, nfzs, nfzss, List.contains_nil, List.contains_cons, Bool.or_false, or_true]
  have n : ¬ (evalOf K l).1 < 0 := by simpa using h
  have e : foldL K l = [numStep (evalOf K l).1] := by simp only [foldL, e1, e2, Bool.and_self, if_neg q, if_neg n, Bool.true_eq_false, if_false]
  simp only [EV, Nat.reduceEqDiff, Nat.reduceBEq, Nat.reduceLT, Nat.reduceLeDiff, Nat.reduceAdd, Nat.reduceSub, reduceIte]
  simp only [e, foldB, e1, e2, Bool.and_self, numStep, Step.c, EV, Nat.reduceEqDiff, Nat.reduceBEq, Nat.reduceLT, Nat.reduceLeDiff, Nat.reduceAdd, Nat.reduceSub, reduceIte, evRE, retVC, cellV', evR, nfz, nfzs, nfzss, List.contains_nil, List.contains_cons, Bool.or_false, or_true]
end Go.AM
namespace Go.AM
set_option linter.unusedVariables false
set_option linter.unusedSimpArgs false
def useEq (u x : Use) : Bool := u.mod.toList == x.mod.toList && u.name.toList == x.name.toList
theorem useEq_comm (u x : Use) : useEq u x = useEq x u := by
  unfold useEq
  rw [Bool.beq_comm (a := u.mod.toList), Bool.beq_comm (a := u.name.toList)]
def nmStep (out : List Use) (s : Step) : List Use := if s.kind = 2 ∧ out.any (useEq ⟨s.mod, s.name⟩) = false then out ++ [⟨s.mod, s.name⟩] else out
def namesOf (l : List Step) : List Use := l.foldl nmStep []
theorem nmStep_len (out : List Use) (s : Step) : (nmStep out s).length ≤ out.length + 1 := by unfold nmStep; split <;> simp
theorem nm_take {l : List Step} {i : Nat} (h : i < l.length) (out : List Use) : (l.take (i + 1)).foldl nmStep out = nmStep ((l.take i).foldl nmStep out) l[i] := by
  rw [List.take_succ_eq_append_getElem h, List.foldl_append]; rfl
theorem nm_len : ∀ (l : List Step) (out : List Use), (l.foldl nmStep out).length ≤ out.length + l.length
  | [], out => by simp
  | s :: r, out => by
    have h1 := nm_len r (nmStep out s)
    have h2 := nmStep_len out s
    simp only [List.foldl_cons, List.length_cons]; omega
theorem any_take_succ {α : Type} {q : α → Bool} {l : List α} {k : Nat} (h : k < l.length) : (l.take (k + 1)).any q = ((l.take k).any q || q l[k]) := by
  rw [List.take_succ_eq_append_getElem h, List.any_append]
  simp
def m57 : MC :=
 (.seq (.reg [Xb 3 (.box 36 (.t 1)), Xb 4 (.asg (.i 0))]) (.seq (.seq (.reg [Xm 6 0, Xn 7 6, Xq 8 (.mov (.i 0))]) (.block 0 (.loop [0, 3, 7, 8] (.seq (.reg [Xq 9 (.bin false .lss (.t 8) (.t 7))]) (.seq (.cond (.t 9) .skip (.exit 0)) (.seq (.block 1 (.seq (.reg [Xm 10 8, Xa 5 10]) (.seq (.dreg [XL 11 2 3, Xm 12 0, Xm 13 5, Xi 14 2 12 13, XL 15 2 14, Xq 16 (.eqa false [1, 1] (.t 11) (.t 15))]) (.cond
 (.t 16) (.seq (.reg [Xm 17 5, Xa 4 17]) .ret) .skip)))) (.reg [Xq 18 (.bin false .add (.t 8) (.i 1)), Xm 8 18]))))))) (.seq (.reg [Xb 4 (.asg (.i (-1)))]) .ret)))
theorem d57 (l : List Use) (hl : l.length < 9223372036854775807) (u : Use) : Does Go.Proofs.Try.prog 57 [.fsl 2 (l.map Use.c), .agg u.c] false (.v (.int .i64 (findI (useEq u) l))) [.dead, .dead] := by
  refine does_intro (mc := m57) (N := 19) (rs := [4]) (fx := []) 2 rfl (by decide +kernel) ?_
  simp only [m57, Use.c, EV, Nat.reduceEqDiff, Nat.reduceBEq, Nat.reduceLT, Nat.reduceLeDiff, Nat.reduceAdd, Nat.reduceSub, reduceIte]
  refine awp_loop (fun i : Nat => i ≤ l.length ∧ ∀ j (hj : j < l.length), j < i → useEq u l[j] = false) (fun i => stl [(0, .fsl 2 (l.map Use.c)), (3, .box 36 u.c), (7, .v (.int .i64 (l.length : Int))), (8, .v (.int .i64 (i : Int)))]) (fun i => l.length - i) 0 ⟨Nat.zero_le _, fun j hj h => absurd h (by omega)⟩ ?_ ?_
  · simp only [EV, Nat.reduceEqDiff, Nat.reduceBEq, Nat.reduceLT, Nat.reduceLeDiff, Nat.reduceAdd, Nat.reduceSub, reduceIte]
    rfl
  · rintro i ⟨hi, hno⟩
    simp only [EV, Nat.reduceEqDiff, Nat.reduceBEq, Nat.reduceLT, Nat.reduceLeDiff, Nat.reduceAdd, Nat.reduceSub, reduceIte]
    refine cK_cut (fun h => ?_) (fun h => ?_)
    · have h1 : i < l.length := by simpa using h
      have h2 : (i : Int) < (l.length : Int) := by omega
      simp only [nth_map h1, h2, Use.c, eqaV, leafOk, leaf1, eqRow, eqLeaf, EV, Nat.reduceEqDiff, Nat.reduceBEq, Nat.reduceLT, Nat.reduceLeDiff, Nat.reduceAdd, Nat.reduceSub, reduceIte]
      refine cK_cut (fun h => ?_) (fun h => ?_)
      · have hc : useEq u l[i] = true := by simpa [useEq] using h
        simp only [EV, Nat.reduceEqDiff, Nat.reduceBEq, Nat.reduceLT, Nat.reduceLeDiff, Nat.reduceAdd, Nat.reduceSub, reduceIte]
        simp only [findI_at h1 hc hno, EV, Nat.reduceEqDiff, Nat.reduceBEq, Nat.reduceLT, Nat.reduceLeDiff, Nat.reduceAdd, Nat.reduceSub, reduceIte, evRE, retVC, cellV', evR, nfz, nfzs, nfzss, List.contains_nil, List.contains_cons, Bool.or_false, or_true]
      · have hc : useEq u l[i] = false := by rw [← h]; simp [useEq]
        simp only [EV, Nat.reduceEqDiff, Nat.reduceBEq, Nat.reduceLT, Nat.reduceLeDiff, Nat.reduceAdd, Nat.reduceSub, reduceIte]
        rw [w64 _ (by omega)]
        refine ⟨i + 1, ⟨by omega, ?_⟩, by omega, rfl⟩
        intro j hj hji
        by_cases e : j = i
        · subst e; exact hc
        · exact hno j hj (by omega)
    · have h1 : i = l.length := by have : ¬ (i : Int) < l.length := by simpa using h
                                   omega
      subst h1
      simp only [EV, Nat.reduceEqDiff, Nat.reduceBEq, Nat.reduceLT, Nat.reduceLeDiff, Nat.reduceAdd, Nat.reduceSub, reduceIte]
      simp only [findI_no (fun j hj => hno j hj hj), EV, Nat.reduceEqDiff, Nat.reduceBEq, Nat.reduceLT, Nat.reduceLeDiff, Nat.reduceAdd, Nat.reduceSub, reduceIte, evRE, retVC, cellV', evR, nfz, nfzs, nfzss, List.contains_nil, List.contains_cons, Bool.or_false, or_true]
def m45 : MC :=
 (.seq (.reg [Xb 3 (.box 36 (.t 1)), Xb 4 (.asg .fb)]) (.seq (.reg [Xm 5 0, XL 6 2 3, Xb 7 (.call (.fn 57) false [.lend (.t 5), .lend (.t 6)]), Xq 8 (.bin false .geq (.t 7) (.i 0)), Xa 4 8]) .ret))
theorem d45 (l : List Use) (hl : l.length < 9223372036854775807) (u : Use) : Does Go.Proofs.Try.prog 45 [.fsl 2 (l.map Use.c), .agg u.c] false (.v (.bool (l.any (useEq u)))) [.dead, .dead] := by
  refine does_intro (mc := m45) (N := 9) (rs := [4]) (fx := []) 2 rfl (by decide +kernel) ?_
  simp only [m45, Use.c, EV, Nat.reduceEqDiff, Nat.reduceBEq, Nat.reduceLT, Nat.reduceLeDiff, Nat.reduceAdd, Nat.reduceSub, reduceIte]
  refine callK_i (d57 l hl u) ?_
  simp only [EV, Nat.reduceEqDiff, Nat.reduceBEq, Nat.reduceLT, Nat.reduceLeDiff, Nat.reduceAdd, Nat.reduceSub, reduceIte]
  simp only [findI_any, EV, Nat.reduceEqDiff, Nat.reduceBEq, Nat.reduceLT, Nat.reduceLeDiff, Nat.reduceAdd, Nat.reduceSub, reduceIte, evRE, retVC, cellV', evR, nfz, nfzs, nfzss, List.contains_nil, List.contains_cons, Bool.or_false, or_true]
def m26 : MC :=
 (.seq (.reg [Xb 2 (.asg (.nils 36 2))]) (.seq (.reg [Xb 7 (.bsl 36 2 []), Xa 3 7]) (.seq (.seq (.reg [Xm 8 0, Xn 9 8, Xq 10 (.mov (.i 0))]) (.block 0 (.loop [0, 3, 7, 8, 9, 10, 31] (.seq (.reg [Xq 11 (.bin false .lss (.t 10) (.t 9))]) (.seq (.cond (.t 11) .skip (.exit 0)) (.join [0, 3, 7, 8, 9, 10, 31] (.block 1 (.seq (.reg [Xi 12 4 8 10, XL 13 4 12, Xb 5 (.alloc 54 [.i, .i, .z, .z]), Xz (.store 4
 (.t 5) (.t 13))]) (.seq (.reg [Xf 14 2 5, Xl 15 1 14, Xf 16 3 5, Xl 17 1 16, Xb 18 (.build [0, 1] [0, 1] [1, 1] [.z, .z] [.t 15, .t 17]), Xb 6 (.alloc 36 [.z, .z]), Xz (.store 2 (.t 6) (.t 18))]) (.seq (.reg [Xf 19 0 5, Xl 20 1 19, Xq 21 (.bin false .eql (.t 20) (.i 2)), Xm 22 21, Xt 23 22 (.mov (.t 3)), Xt 24 22 (.load true 2 (.t 6)), XT 25 22 (.call (.fn 45) false [.lend (.t 23), .lend (.t
 24)]), Xt 26 22 (.un .not (.t 25)), Xq 27 (.pick (.t 22) (.t 26) .fb)]) (.cond (.t 27) (.reg [Xm 28 3, XL 29 2 6, Xb 30 (.bsl 36 2 [.t 29]), Xb 31 (.app true 36 2 32 (.t 28) (.t 30)), Xa 3 31]) .skip))))) (.reg [Xq 32 (.bin false .add (.t 10) (.i 1)), Xm 10 32]))))))) (.seq (.reg [Xm 33 3, Xa 2 33]) .ret))))
set_option maxRecDepth 100000 in
theorem d26 (l : List Step) (hl : (l.length : Int) ≤ 1048576) : Does Go.Proofs.Try.prog 26 [.fsl 4 (l.map Step.c)] false (.usl 36 2 ((namesOf l).map Use.c)) [.dead] := by
  refine does_intro (mc := m26) (N := 34) (rs := [2]) (fx := []) 1 rfl (by decide +kernel) ?_
  simp only [m26, EV, Nat.reduceEqDiff, Nat.reduceBEq, Nat.reduceLT, Nat.reduceLeDiff, Nat.reduceAdd, Nat.reduceSub, reduceIte]
  refine awp_loop (fun i : Nat => i ≤ l.length) (fun i => stl [(0, .fsl 4 (l.map Step.c)), (3, .usl 36 2 ((namesOf (l.take i)).map Use.c)), (7, .dead), (8, .fsl 4 (l.map Step.c)), (9, .v (.int .i64 (l.length : Int))), (10, .v (.int .i64 (i : Int))), (31, .dead)]) (fun i => l.length - i) 0 (Nat.zero_le _) ?_ ?_
  · simp only [EV, Nat.reduceEqDiff, Nat.reduceBEq, Nat.reduceLT, Nat.reduceLeDiff, Nat.reduceAdd, Nat.reduceSub, reduceIte]
    rfl
  · intro i hi
    simp only [EV, Nat.reduceEqDiff, Nat.reduceBEq, Nat.reduceLT, Nat.reduceLeDiff, Nat.reduceAdd, Nat.reduceSub, reduceIte]
    refine cK_cut (fun h => ?_) (fun h => ?_)
    · have h1 : i < l.length := by simpa using h
      have h2 : (i : Int) < (l.length : Int) := by omega
      have hol : (namesOf (l.take i)).length ≤ i := by
        have := nm_len (l.take i) []
        simp only [List.length_nil, List.length_take] at this
        unfold namesOf; omega
      have hst : namesOf (l.take (i + 1)) = nmStep (namesOf (l.take i)) l[i] := nm_take h1 []
      refine awp_join (fun _ : Unit => True) (fun _ => stl [(0, .fsl 4 (l.map Step.c)), (3, .usl 36 2 ((namesOf (l.take (i + 1))).map Use.c)), (7, .dead), (8, .fsl 4 (l.map Step.c)), (9, .v (.int .i64 (l.length : Int))), (10, .v (.int .i64 (i : Int))), (31, .dead)]) ?_ ?_
      · rw [hst]
        generalize namesOf (l.take i) = out at hol ⊢
        simp only [nth_map h1, h2, Step.c, List.zip_cons_cons, List.zip_nil_right, List.zip_nil_left, List.foldl_cons, List.foldl_nil, EV, Nat.reduceEqDiff, Nat.reduceBEq, Nat.reduceLT, Nat.reduceLeDiff, Nat.reduceAdd, Nat.reduceSub, reduceIte]
        refine gK_cut (fun h => ?_) (fun h => ?_)
        · have k2 : l[i].kind = 2 := by simpa using h
          simp only [h, Use.frz, EV, Nat.reduceEqDiff, Nat.reduceBEq, Nat.reduceLT, Nat.reduceLeDiff, Nat.reduceAdd, Nat.reduceSub, reduceIte]
          refine callK_i (d45 out (by omega) ⟨l[i].mod, l[i].name⟩) ?_
          simp only [h, EV, Nat.reduceEqDiff, Nat.reduceBEq, Nat.reduceLT, Nat.reduceLeDiff, Nat.reduceAdd, Nat.reduceSub, reduceIte]
          refine cK_cut (fun h3 => ?_) (fun h3 => ?_)
          · have k3 : out.any (useEq ⟨l[i].mod, l[i].name⟩) = false := by simpa using h3
            have e : nmStep out l[i] = out ++ [⟨l[i].mod, l[i].name⟩] := by simp only [nmStep, k2, k3, and_self, if_true]
            simp only [h, EV, Nat.reduceEqDiff, Nat.reduceBEq, Nat.reduceLT, Nat.reduceLeDiff, Nat.reduceAdd, Nat.reduceSub, reduceIte]
            refine ⟨by omega, by omega, (), ?_⟩
            rw [e, List.map_append]
            rfl
          · have k3 : out.any (useEq ⟨l[i].mod, l[i].name⟩) = true := by simpa using h3
            have e : nmStep out l[i] = out := by simp only [nmStep, k3, Bool.true_eq_false, and_false, if_false]
            simp only [h, EV, Nat.reduceEqDiff, Nat.reduceBEq, Nat.reduceLT, Nat.reduceLeDiff, Nat.reduceAdd, Nat.reduceSub, reduceIte]
            exact ⟨(), by rw [e]⟩
        · have k2 : ¬ l[i].kind = 2 := by simpa using h
          have e : nmStep out l[i] = out := by simp only [nmStep, k2, false_and, if_false]
          simp only [h, EV, Nat.reduceEqDiff, Nat.reduceBEq, Nat.reduceLT, Nat.reduceLeDiff, Nat.reduceAdd, Nat.reduceSub, reduceIte]
          exact ⟨(), by rw [e]⟩
      · rintro _ _
        simp only [EV, Nat.reduceEqDiff, Nat.reduceBEq, Nat.reduceLT, Nat.reduceLeDiff, Nat.reduceAdd, Nat.reduceSub, reduceIte]
        rw [w64 _ (by omega)]
        exact ⟨i + 1, by omega, by omega, rfl⟩
    · have h1 : i = l.length := by have : ¬ (i : Int) < l.length := by simpa using h
                                   omega
      subst h1
      simp only [EV, Nat.reduceEqDiff, Nat.reduceBEq, Nat.reduceLT, Nat.reduceLeDiff, Nat.reduceAdd, Nat.reduceSub, reduceIte]
      simp only [Use.nfz, EV, Nat.reduceEqDiff, Nat.reduceBEq, Nat.reduceLT, Nat.reduceLeDiff, Nat.reduceAdd, Nat.reduceSub, reduceIte, evRE, retVC, cellV', evR, nfz, nfzs, nfzss, List.contains_nil, List.contains_cons, Bool.or_false, or_true]
def m10 : MC :=
 (.seq (.reg [Xb 2 (.asg (.nils 36 2)), Xb 3 (.asg .fb)]) (.seq (.seq (.reg [Xm 11 0, Xb 12 (.call (.fn 23) false [.lend (.t 11)]), Xq 13 (.un .not (.t 12))]) (.cond (.t 13) (.seq (.reg [Xb 2 (.asg (.nils 36 2)), Xb 3 (.asg .fb)]) .ret) .skip)) (.seq (.reg [Xb 4 (.asg (.nils 36 2))]) (.seq (.seq (.reg [Xm 14 0, Xn 15 14, Xq 16 (.mov (.i 0))]) (.block 0 (.loop [0, 4, 14, 15, 16, 46] (.seq (.reg [Xq
 17 (.bin false .lss (.t 16) (.t 15))]) (.seq (.cond (.t 17) .skip (.exit 0)) (.join [0, 4, 14, 15, 16, 46] (.block 1 (.seq (.reg [Xi 18 4 14 16, XL 19 4 18, Xb 6 (.alloc 54 [.i, .i, .z, .z]), Xz (.store 4 (.t 6) (.t 19))]) (.seq (.reg [Xf 20 2 6, Xl 21 1 20, Xf 22 3 6, Xl 23 1 22, Xb 24 (.build [0, 1] [0, 1] [1, 1] [.z, .z] [.t 21, .t 23]), Xb 7 (.alloc 36 [.z, .z]), Xz (.store 2 (.t 7) (.t 24))])
 (.seq (.reg [Xf 25 0 6, Xl 26 1 25, Xq 27 (.bin false .neq (.t 26) (.i 2)), Xa 8 27]) (.seq (.seq (.reg [Xm 28 4, Xn 29 28, Xq 30 (.mov (.i 0))]) (.block 2 (.loop [0, 4, 7, 8, 14, 15, 16, 28, 29, 30, 46] (.seq (.reg [Xq 31 (.bin false .lss (.t 30) (.t 29))]) (.seq (.cond (.t 31) .skip (.exit 2)) (.seq (.block 3 (.seq (.reg [Xi 32 2 28 30, XL 33 2 32, Xb 10 (.alloc 36 [.z, .z]), Xz (.store 2 (.t
 10) (.t 33))]) (.reg [Xm 34 8, Xm 35 34, Xu 36 35 (.load true 2 (.t 10)), Xu 37 35 (.load true 2 (.t 7)), Xu 38 35 (.eqa false [1, 1] (.t 36) (.t 37)), Xq 39 (.pick (.t 35) .tb (.t 38)), Xa 8 39]))) (.reg [Xq 40 (.bin false .add (.t 30) (.i 1)), Xm 30 40]))))))) (.seq (.reg [Xm 41 8, Xq 42 (.un .not (.t 41))]) (.cond (.t 42) (.reg [Xm 43 4, XL 44 2 7, Xb 45 (.bsl 36 2 [.t 44]), Xb 46 (.app true 36
 2 32 (.t 43) (.t 45)), Xa 4 46]) .skip))))))) (.reg [Xq 47 (.bin false .add (.t 16) (.i 1)), Xm 16 47]))))))) (.seq (.reg [Xm 48 4, Xa 2 48, Xb 3 (.asg .tb)]) .ret)))))
set_option maxRecDepth 100000 in
theorem d10 (l : List Step) (hl : (l.length : Int) ≤ 1048576) (hs : ∀ s ∈ l, s.ok) : Does Go.Proofs.Try.prog 10 [.fsl 4 (l.map Step.c)] false (.tup [.usl 36 2 ((if exprOk l then namesOf l else []).map Use.c), .v (.bool (exprOk l))]) [.dead] := by
  refine does_intro (mc := m10) (N := 49) (rs := [2, 3]) (fx := []) 1 rfl (by decide +kernel) ?_
  simp only [m10, EV, Nat.reduceEqDiff, Nat.reduceBEq, Nat.reduceLT, Nat.reduceLeDiff, Nat.reduceAdd, Nat.reduceSub, reduceIte]
  refine callK_i (d23 l hl hs) ?_
  simp only [EV, Nat.reduceEqDiff, Nat.reduceBEq, Nat.reduceLT, Nat.reduceLeDiff, Nat.reduceAdd, Nat.reduceSub, reduceIte]
  refine cK_cut (fun h => ?_) (fun h => ?_)
  · have e : exprOk l = false := by simpa using h
    simp only [EV, Nat.reduceEqDiff, Nat.reduceBEq, Nat.reduceLT, Nat.reduceLeDiff, Nat.reduceAdd, Nat.reduceSub, reduceIte]
    simp only [e, EV, Nat.reduceEqDiff, Nat.reduceBEq, Nat.reduceLT, Nat.reduceLeDiff, Nat.reduceAdd, Nat.reduceSub, reduceIte, evRE, retVC, cellV', evR, nfz, nfzs, nfzss, List.contains_nil, List.contains_cons, Bool.or_false, or_true]
  · have e : exprOk l = true := by simpa using h
    simp only [EV, Nat.reduceEqDiff, Nat.reduceBEq, Nat.reduceLT, Nat.reduceLeDiff, Nat.reduceAdd, Nat.reduceSub, reduceIte]
    refine awp_loop (fun i : Nat => i ≤ l.length) (fun i => stl [(0, .fsl 4 (l.map Step.c)), (4, .usl 36 2 ((namesOf (l.take i)).map Use.c)), (14, .fsl 4 (l.map Step.c)), (15, .v (.int .i64 (l.length : Int))), (16, .v (.int .i64 (i : Int))), (46, .dead)]) (fun i => l.length - i) 0 (Nat.zero_le _) ?_ ?_
    · simp only [EV, Nat.reduceEqDiff, Nat.reduceBEq, Nat.reduceLT, Nat.reduceLeDiff, Nat.reduceAdd, Nat.reduceSub, reduceIte]
      rfl
    · intro i hi
      simp only [EV, Nat.reduceEqDiff, Nat.reduceBEq, Nat.reduceLT, Nat.reduceLeDiff, Nat.reduceAdd, Nat.reduceSub, reduceIte]
      refine cK_cut (fun h => ?_) (fun h => ?_)
      · have h1 : i < l.length := by simpa using h
        have h2 : (i : Int) < (l.length : Int) := by omega
        have hol : (namesOf (l.take i)).length ≤ i := by
          have := nm_len (l.take i) []
          simp only [List.length_nil, List.length_take] at this
          unfold namesOf; omega
        have hst : namesOf (l.take (i + 1)) = nmStep (namesOf (l.take i)) l[i] := nm_take h1 []
        refine awp_join (fun _ : Unit => True) (fun _ => stl [(0, .fsl 4 (l.map Step.c)), (4, .usl 36 2 ((namesOf (l.take (i + 1))).map Use.c)), (14, .fsl 4 (l.map Step.c)), (15, .v (.int .i64 (l.length : Int))), (16, .v (.int .i64 (i : Int))), (46, .dead)]) ?_ ?_
        · rw [hst]
          generalize namesOf (l.take i) = out at hol ⊢
          simp only [nth_map h1, h2, Step.c, EV, Nat.reduceEqDiff, Nat.reduceBEq, Nat.reduceLT, Nat.reduceLeDiff, Nat.reduceAdd, Nat.reduceSub, reduceIte]
          refine awp_loop (fun k : Nat => k ≤ out.length) (fun k => stl [(0, .fsl 4 (l.map Step.c)), (4, .usl 36 2 (out.map Use.c)), (7, .box 36 [.v (.string l[i].mod), .v (.string l[i].name)]), (8, .v (.bool (l[i].kind != 2 || (out.take k).any (useEq ⟨l[i].mod, l[i].name⟩)))), (14, .fsl 4 (l.map Step.c)), (15, .v (.int .i64 (l.length : Int))), (16, .v (.int .i64 (i : Int))), (28, .sref 4 [] 0 out.length), (29, .v (.int .i64 (out.length : Int))), (30, .v (.int .i64 (k : Int))), (46, .dead)]) (fun k => out.length - k) 0 (Nat.zero_le _) ?_ ?_
          · simp only [EV, Nat.reduceEqDiff, Nat.reduceBEq, Nat.reduceLT, Nat.reduceLeDiff, Nat.reduceAdd, Nat.reduceSub, reduceIte]
            simp only [List.any_nil, Bool.or_false]
            rfl
          · intro k hk
            simp only [EV, Nat.reduceEqDiff, Nat.reduceBEq, Nat.reduceLT, Nat.reduceLeDiff, Nat.reduceAdd, Nat.reduceSub, reduceIte]
            refine cK_cut (fun h => ?_) (fun h => ?_)
            · have k1 : k < out.length := by simpa using h
              have k2 : (k : Int) < (out.length : Int) := by omega
              simp only [UseE, nth_map k1, k1, k2, Use.c, EV, Nat.reduceEqDiff, Nat.reduceBEq, Nat.reduceLT, Nat.reduceLeDiff, Nat.reduceAdd, Nat.reduceSub, reduceIte]
              have ha := any_take_succ (q := useEq ⟨l[i].mod, l[i].name⟩) k1
              refine gK_cut (fun h3 => ?_) (fun h3 => ?_)
              · simp only [h3, EV, Nat.reduceEqDiff, Nat.reduceBEq, Nat.reduceLT, Nat.reduceLeDiff, Nat.reduceAdd, Nat.reduceSub, reduceIte]
                rw [w64 _ (by omega)]
                refine ⟨k + 1, by omega, by omega, ?_⟩
                have hv : (l[i].kind != 2 || (out.take (k + 1)).any (useEq ⟨l[i].mod, l[i].name⟩)) = true := by
                  rw [ha, ← Bool.or_assoc, h3]; rfl
                rw [hv]
                rfl
              · simp only [h3, Use.c, UseE, nth_map k1, EV, Nat.reduceEqDiff, Nat.reduceBEq, Nat.reduceLT, Nat.reduceLeDiff, Nat.reduceAdd, Nat.reduceSub, reduceIte]
                rw [w64 _ (by omega)]
                refine ⟨k + 1, by omega, by omega, ?_⟩
                have hv : (l[i].kind != 2 || (out.take (k + 1)).any (useEq ⟨l[i].mod, l[i].name⟩)) = (out[k].mod.toList == l[i].mod.toList && out[k].name.toList == l[i].name.toList) := by
                  rw [ha, ← Bool.or_assoc, h3, Bool.false_or, useEq_comm]; rfl
                rw [hv]
                rfl
            · have k1 : k = out.length := by have : ¬ (k : Int) < out.length := by simpa using h
                                             omega
              subst k1
              simp only [EV, Nat.reduceEqDiff, Nat.reduceBEq, Nat.reduceLT, Nat.reduceLeDiff, Nat.reduceAdd, Nat.reduceSub, reduceIte]
              refine cK_cut (fun h3 => ?_) (fun h3 => ?_)
              · have k4 : (l[i].kind != 2) = false ∧ out.any (useEq ⟨l[i].mod, l[i].name⟩) = false := by
                  revert h3
                  cases (l[i].kind != 2) <;> cases (out.any (useEq ⟨l[i].mod, l[i].name⟩)) <;> simp
                have k2 : l[i].kind = 2 := by simpa using k4.1
                have e : nmStep out l[i] = out ++ [⟨l[i].mod, l[i].name⟩] := by simp only [nmStep, k2, k4.2, and_self, if_true]
                simp only [EV, Nat.reduceEqDiff, Nat.reduceBEq, Nat.reduceLT, Nat.reduceLeDiff, Nat.reduceAdd, Nat.reduceSub, reduceIte]
                refine ⟨by omega, by omega, (), ?_⟩
                rw [e, List.map_append]
                rfl
              · have e : nmStep out l[i] = out := by
                  unfold nmStep
                  rw [if_neg]
                  rintro ⟨c1, c2⟩
                  rw [c2] at h3
                  simp [c1] at h3
                simp only [EV, Nat.reduceEqDiff, Nat.reduceBEq, Nat.reduceLT, Nat.reduceLeDiff, Nat.reduceAdd, Nat.reduceSub, reduceIte]
                exact ⟨(), by rw [e]⟩
        · rintro _ _
          simp only [EV, Nat.reduceEqDiff, Nat.reduceBEq, Nat.reduceLT, Nat.reduceLeDiff, Nat.reduceAdd, Nat.reduceSub, reduceIte]
          rw [w64 _ (by omega)]
          exact ⟨i + 1, by omega, by omega, rfl⟩
      · have h1 : i = l.length := by have : ¬ (i : Int) < l.length := by simpa using h
                                     omega
        subst h1
        simp only [EV, Nat.reduceEqDiff, Nat.reduceBEq, Nat.reduceLT, Nat.reduceLeDiff, Nat.reduceAdd, Nat.reduceSub, reduceIte]
        simp only [e, Use.nfz, EV, Nat.reduceEqDiff, Nat.reduceBEq, Nat.reduceLT, Nat.reduceLeDiff, Nat.reduceAdd, Nat.reduceSub, reduceIte, evRE, retVC, cellV', evR, nfz, nfzs, nfzss, List.contains_nil, List.contains_cons, Bool.or_false, or_true]
def m9 : MC :=
 (.seq (.reg [Xb 2 (.asg (.nils 36 2)), Xb 3 (.asg .fb)]) (.seq (.seq (.reg [Xm 4 0, Xb 5 (.call (.fn 20) false [.lend (.t 4)]), Xq 6 (.un .not (.t 5))]) (.cond (.t 6) (.seq (.reg [Xb 2 (.asg (.nils 36 2)), Xb 3 (.asg .fb)]) .ret) .skip)) (.seq (.reg [Xm 7 0, Xb 8 (.call (.fn 26) false [.lend (.t 7)]), Xa 2 8, Xb 3 (.asg .tb)]) .ret)))
theorem d9 (l : List Step) (hl : (l.length : Int) ≤ 1048576) (hs : ∀ s ∈ l, s.ok) : Does Go.Proofs.Try.prog 9 [.fsl 4 (l.map Step.c)] false (.tup [.usl 36 2 ((if exprOk l then namesOf l else []).map Use.c), .v (.bool (exprOk l))]) [.dead] := by
  refine does_intro (mc := m9) (N := 9) (rs := [2, 3]) (fx := []) 1 rfl (by decide +kernel) ?_
  simp only [m9, EV, Nat.reduceEqDiff, Nat.reduceBEq, Nat.reduceLT, Nat.reduceLeDiff, Nat.reduceAdd, Nat.reduceSub, reduceIte]
  refine callK_i (d20 l hl hs) ?_
  simp only [EV, Nat.reduceEqDiff, Nat.reduceBEq, Nat.reduceLT, Nat.reduceLeDiff, Nat.reduceAdd, Nat.reduceSub, reduceIte]
  refine cK_cut (fun h => ?_) (fun h => ?_)
  · have e : exprOk l = false := by simpa using h
    simp only [EV, Nat.reduceEqDiff, Nat.reduceBEq, Nat.reduceLT, Nat.reduceLeDiff, Nat.reduceAdd, Nat.reduceSub, reduceIte]
    simp only [e, EV, Nat.reduceEqDiff, Nat.reduceBEq, Nat.reduceLT, Nat.reduceLeDiff, Nat.reduceAdd, Nat.reduceSub, reduceIte, evRE, retVC, cellV', evR, nfz, nfzs, nfzss, List.contains_nil, List.contains_cons, Bool.or_false, or_true]
  · have e : exprOk l = true := by simpa using h
    simp only [EV, Nat.reduceEqDiff, Nat.reduceBEq, Nat.reduceLT, Nat.reduceLeDiff, Nat.reduceAdd, Nat.reduceSub, reduceIte]
    refine callK_i (d26 l hl) ?_
    simp only [EV, Nat.reduceEqDiff, Nat.reduceBEq, Nat.reduceLT, Nat.reduceLeDiff, Nat.reduceAdd, Nat.reduceSub, reduceIte]
    simp only [e, Use.nfz, EV, Nat.reduceEqDiff, Nat.reduceBEq, Nat.reduceLT, Nat.reduceLeDiff, Nat.reduceAdd, Nat.reduceSub, reduceIte, evRE, retVC, cellV', evR, nfz, nfzs, nfzss, List.contains_nil, List.contains_cons, Bool.or_false, or_true]
end Go.AM
