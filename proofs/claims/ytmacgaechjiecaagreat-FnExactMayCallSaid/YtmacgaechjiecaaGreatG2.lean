/- Contracts of functions of the given program, for the law FnExactMayCall: what they return and what they write, under the bounds that each theorem states. -/
import Derived.Test.YtmacgaechjiecaaGreatG1
namespace Go.AM
set_option linter.unusedVariables false
set_option linter.unusedSimpArgs false
structure Us where
  mod : ByteArray
  name : ByteArray

def Us.z (s : Us) : List AV := [.v (.string s.mod), .v (.string s.name)]

def Us.o (s : Us) : List AV := [.v (.string s.mod), .v (.string s.name)]

def Us.zr : List AV := [.v (.string ⟨#[]⟩), .v (.string ⟨#[]⟩)]

theorem Us.fr (s : Us) : frzRow s.o = s.z := by
  simp only [Us.o, Us.z, frzRow, frzL, List.cons_append, List.nil_append]

theorem Us.frz : ∀ l : List Us, frzRows (l.map Us.o) = l.map Us.z
  | [] => rfl
  | s :: l => by simp only [List.map_cons, frzRows, Us.fr, Us.frz l]

theorem Us.nf (s : Us) : nfzs s.o = true := by
  simp only [Us.o, nfzs, nfz, List.cons_append, List.nil_append, Bool.and_self]

theorem Us.nfz : ∀ l : List Us, nfzss (l.map Us.o) = true
  | [] => rfl
  | s :: l => by simp only [List.map_cons, nfzss, Us.nf, Us.nfz l, Bool.and_self]

theorem UsE : (∀ f : Us, f.z.length = 2) ∧ (∀ f : Us, f.z.take 2 = f.z) ∧ (∀ (st : St) (f : Us), frzBs st f.z = f.z) ∧ (∀ f : Us, bares f.z = true) ∧ (∀ f : Us, plains f.z = true) ∧
    (∀ (f : Us) (K : Nat → List (Nat × Nat) → Bool), killVs K f.z = f.z) ∧ (∀ f : Us, f.z.all storL = true) ∧ (∀ f : Us, f.o.length = 2) ∧ (∀ f : Us, f.o.take 2 = f.o) ∧ (∀ f : Us, bares f.o = true) ∧
    (∀ f : Us, plains f.o = true) ∧ (∀ (f : Us) (K : Nat → List (Nat × Nat) → Bool), killVs K f.o = f.o) ∧ (∀ f : Us, f.o.all storL = true) :=
  ⟨fun _ => rfl, fun _ => rfl, fun _ _ => rfl, fun _ => rfl, fun _ => rfl, fun _ _ => rfl, fun _ => rfl, fun _ => rfl, fun _ => rfl, fun _ => rfl, fun _ => rfl, fun _ _ => rfl, fun _ => rfl⟩

def Us.ok (s : Us) : Prop := (s.mod.size : Int) ≤ 9223372036854775807 ∧ (s.name.size : Int) ≤ 9223372036854775807

def Us.sm (s : Us) : Prop := (s.mod.size : Int) ≤ 1048576 ∧ (s.name.size : Int) ≤ 1048576

def szUs (s : Us) (k : Int) : Int := if k - s.mod.size < 0 then -1 else if k - s.mod.size - s.name.size < 0 then -1 else k - s.mod.size - s.name.size

def totUs (s : Us) : Int := (s.mod.size : Int) + (s.name.size : Int)

theorem szUs_le (s : Us) (k : Int) (h : 0 ≤ k) : szUs s k ≤ k := by
  unfold szUs
  by_cases g0 : k - s.mod.size < 0
  · rw [if_pos g0]; omega
  rw [if_neg g0]
  by_cases g1 : k - s.mod.size - s.name.size < 0
  · rw [if_pos g1]; omega
  rw [if_neg g1]
  omega

theorem szUs_tot (s : Us) (k : Int) (h : 0 ≤ szUs s k) : totUs s + szUs s k = k := by
  unfold szUs at h ⊢
  unfold totUs
  by_cases g0 : k - s.mod.size < 0
  · rw [if_pos g0] at h; omega
  rw [if_neg g0] at h ⊢
  by_cases g1 : k - s.mod.size - s.name.size < 0
  · rw [if_pos g1] at h; omega
  rw [if_neg g1] at h ⊢
  omega

theorem totUs_nn (s : Us) : 0 ≤ totUs s := by
  unfold totUs
  omega

theorem Us.sm_of (s : Us) (h : totUs s ≤ 1048576) : s.sm := by
  unfold totUs at h
  exact ⟨by omega, by omega⟩

/-- loop.example/g00837/laws.szUse -/
def m154 : MC :=
  (.seq
   (.reg [⟨(some 2), none, .a (.box 173 (.t 0))⟩,
     ⟨(some 4), none, .a (.asg (.c (.int .i64 0)))⟩])
   (.seq
    (.reg [⟨(some 5), none, .q (.mov (.t 1))⟩,
      ⟨(some 6), none, .q (.fad 0 (.t 2))⟩,
      ⟨(some 7), none, .q (.load false 1 (.t 6))⟩,
      ⟨(some 8), none, .q (.len true (.t 7))⟩,
      ⟨(some 9), none, .q (.bin false .sub (.t 5) (.t 8))⟩,
      ⟨(some 1), none, .a (.asg (.t 9))⟩])
    (.seq
     (.seq
      (.reg [⟨(some 10), none, .q (.mov (.t 1))⟩,
        ⟨(some 11), none, .q (.bin false .lss (.t 10) (.c (.int .i64 0)))⟩])
      (.cond (.t 11)
       (.seq
        (.reg [⟨(some 4), none, .a (.asg (.c (.int .i64 (-1))))⟩])
        .ret)
       .skip))
     (.seq
      (.reg [⟨(some 12), none, .q (.mov (.t 1))⟩,
        ⟨(some 13), none, .q (.fad 1 (.t 2))⟩,
        ⟨(some 14), none, .q (.load false 1 (.t 13))⟩,
        ⟨(some 15), none, .q (.len true (.t 14))⟩,
        ⟨(some 16), none, .q (.bin false .sub (.t 12) (.t 15))⟩,
        ⟨(some 1), none, .a (.asg (.t 16))⟩])
      (.seq
       (.seq
        (.reg [⟨(some 17), none, .q (.mov (.t 1))⟩,
          ⟨(some 18), none, .q (.bin false .lss (.t 17) (.c (.int .i64 0)))⟩])
        (.cond (.t 18)
         (.seq
          (.reg [⟨(some 4), none, .a (.asg (.c (.int .i64 (-1))))⟩])
          .ret)
         .skip))
       (.seq
        (.reg [⟨(some 19), none, .q (.mov (.t 1))⟩,
          ⟨(some 4), none, .a (.asg (.t 19))⟩])
        .ret))))))

set_option maxRecDepth 100000 in
theorem d154 (s : Us) (k : Int) (h0 : 0 ≤ k) (h1 : k ≤ 1048576) (hok : s.ok) : Does Go.Proofs.Tryz.prog 154 [.agg s.z, .v (.int .i64 k)] false (.v (.int .i64 (szUs s k))) [.dead, .dead] := by
  unfold Us.ok at hok
  refine does_intro (mc := m154) (N := 20) (rs := [4]) (fx := []) 2 rfl (by decide +kernel) ?_
  simp only [m154, Us.z, EV, Nat.reduceEqDiff, Nat.reduceBEq, Nat.reduceLT, Nat.reduceLeDiff, Nat.reduceAdd, Nat.reduceSub, reduceIte]
  have b0 := hok.1
  have w0 := w64 (k - s.mod.size) (by omega)
  simp only [w0, EV, Nat.reduceEqDiff, Nat.reduceBEq, Nat.reduceLT, Nat.reduceLeDiff, Nat.reduceAdd, Nat.reduceSub, reduceIte]
  refine cK_cut (fun h => ?_) (fun h => ?_)
  · have g0 : k - s.mod.size < 0 := by simpa using h
    have e : szUs s k = -1 := by unfold szUs; rw [if_pos g0]
    simp only [EV, Nat.reduceEqDiff, Nat.reduceBEq, Nat.reduceLT, Nat.reduceLeDiff, Nat.reduceAdd, Nat.reduceSub, reduceIte]
    simp only [e, EV, Nat.reduceEqDiff, Nat.reduceBEq, Nat.reduceLT, Nat.reduceLeDiff, Nat.reduceAdd, Nat.reduceSub, reduceIte, evRE, retVC, cellV', evR, nfz, nfzs, nfzss, List.contains_nil, List.contains_cons, Bool.or_false, or_true]
  · have g0 : ¬ k - s.mod.size < 0 := by simpa using h
    simp only [EV, Nat.reduceEqDiff, Nat.reduceBEq, Nat.reduceLT, Nat.reduceLeDiff, Nat.reduceAdd, Nat.reduceSub, reduceIte]
    have b1 := hok.2
    have w1 := w64 (k - s.mod.size - s.name.size) (by omega)
    simp only [w1, EV, Nat.reduceEqDiff, Nat.reduceBEq, Nat.reduceLT, Nat.reduceLeDiff, Nat.reduceAdd, Nat.reduceSub, reduceIte]
    refine cK_cut (fun h => ?_) (fun h => ?_)
    · have g1 : k - s.mod.size - s.name.size < 0 := by simpa using h
      have e : szUs s k = -1 := by unfold szUs; rw [if_neg g0, if_pos g1]
      simp only [EV, Nat.reduceEqDiff, Nat.reduceBEq, Nat.reduceLT, Nat.reduceLeDiff, Nat.reduceAdd, Nat.reduceSub, reduceIte]
      simp only [e, EV, Nat.reduceEqDiff, Nat.reduceBEq, Nat.reduceLT, Nat.reduceLeDiff, Nat.reduceAdd, Nat.reduceSub, reduceIte, evRE, retVC, cellV', evR, nfz, nfzs, nfzss, List.contains_nil, List.contains_cons, Bool.or_false, or_true]
    · have g1 : ¬ k - s.mod.size - s.name.size < 0 := by simpa using h
      simp only [EV, Nat.reduceEqDiff, Nat.reduceBEq, Nat.reduceLT, Nat.reduceLeDiff, Nat.reduceAdd, Nat.reduceSub, reduceIte]
      have e : szUs s k = k - s.mod.size - s.name.size := by unfold szUs; rw [if_neg g0, if_neg g1]
      simp only [e, EV, Nat.reduceEqDiff, Nat.reduceBEq, Nat.reduceLT, Nat.reduceLeDiff, Nat.reduceAdd, Nat.reduceSub, reduceIte, evRE, retVC, cellV', evR, nfz, nfzs, nfzss, List.contains_nil, List.contains_cons, Bool.or_false, or_true]

def szUss : List Us → Int → Int
  | [], k => k
  | s :: r, k => if szUs s k < 0 then -1 else szUss r (szUs s k)

def szUsS (l : List Us) (k : Int) : Int := if k - l.length < 0 then -1 else szUss l (k - l.length)

theorem szUss_le : ∀ (l : List Us) (k : Int), 0 ≤ k → szUss l k ≤ k
  | [], k, h => by simp [szUss]
  | s :: r, k, h => by
    simp only [szUss]
    have h1 := szUs_le s k h
    split
    · omega
    · have := szUss_le r (szUs s k) (by omega)
      omega

theorem szUsS_le (l : List Us) (k : Int) (h : 0 ≤ k) : szUsS l k ≤ k := by
  unfold szUsS
  split
  · omega
  · have := szUss_le l (k - l.length) (by omega); omega

def totUss : List Us → Int
  | [] => 0
  | s :: r => 1 + totUs s + totUss r

theorem szUss_tot : ∀ (l : List Us) (k : Int), 0 ≤ szUss l k → totUss l + szUss l k = k + l.length
  | [], k, h => by simp [szUss, totUss]
  | s :: r, k, h => by
    simp only [szUss] at h ⊢
    split
    · rename_i h1; rw [if_pos h1] at h; omega
    · rename_i h1
      rw [if_neg h1] at h
      have h2 := szUs_tot s k (by omega)
      have h3 := szUss_tot r _ h
      simp only [totUss, List.length_cons]
      omega

theorem szUsS_tot (l : List Us) (k : Int) (h : 0 ≤ szUsS l k) : totUss l + szUsS l k = k := by
  unfold szUsS at h ⊢
  split
  · rename_i h1; rw [if_pos h1] at h; omega
  · rename_i h1
    rw [if_neg h1] at h
    have := szUss_tot l _ h
    omega

theorem totUss_nn : ∀ l : List Us, (l.length : Int) ≤ totUss l
  | [] => by simp [totUss]
  | s :: r => by
    have := totUss_nn r
    have := totUs_nn s
    simp only [totUss, List.length_cons]
    omega

theorem totUss_mem : ∀ (l : List Us) (s : Us), s ∈ l → totUs s ≤ totUss l
  | x :: r, s, h => by
    simp only [totUss]
    have h3 := totUs_nn x
    have h2 := totUss_nn r
    rcases List.mem_cons.1 h with h | h
    · subst h; omega
    · have := totUss_mem r s h; omega

/-- loop.example/g00837/laws.szUseS -/
def m88 : MC :=
  (.seq
   (.reg [⟨(some 4), none, .a (.asg (.c (.int .i64 0)))⟩])
   (.seq
    (.reg [⟨(some 6), none, .q (.mov (.t 1))⟩,
      ⟨(some 7), none, .q (.mov (.t 0))⟩,
      ⟨(some 8), none, .q (.len false (.t 7))⟩,
      ⟨(some 9), none, .q (.bin false .sub (.t 6) (.t 8))⟩,
      ⟨(some 1), none, .a (.asg (.t 9))⟩])
    (.seq
     (.seq
      (.reg [⟨(some 10), none, .q (.mov (.t 1))⟩,
        ⟨(some 11), none, .q (.bin false .lss (.t 10) (.c (.int .i64 0)))⟩])
      (.cond (.t 11)
       (.seq
        (.reg [⟨(some 4), none, .a (.asg (.c (.int .i64 (-1))))⟩])
        .ret)
       .skip))
     (.seq
      (.seq
       (.reg [⟨(some 5), none, .a (.asg (.c (.int .i64 0)))⟩])
       (.block 0
        (.loop [0, 1, 5]
         (.seq
          (.seq
           (.reg [⟨(some 12), none, .q (.mov (.t 5))⟩,
             ⟨(some 13), none, .q (.mov (.t 0))⟩,
             ⟨(some 14), none, .q (.len false (.t 13))⟩,
             ⟨(some 15), none, .q (.bin false .lss (.t 12) (.t 14))⟩])
           (.cond (.t 15)
            .skip
            (.exit 0)))
          (.seq
           (.block 1
            (.seq
             (.reg [⟨(some 18), none, .q (.mov (.t 0))⟩,
               ⟨(some 19), none, .q (.mov (.t 5))⟩,
               ⟨(some 20), none, .q (.iad 2 (.t 18) (.t 19))⟩,
               ⟨(some 21), none, .q (.load true 2 (.t 20))⟩,
               ⟨(some 22), none, .q (.mov (.t 1))⟩,
               ⟨(some 23), none, .a (.call (.fn 154) false [.lend (.t 21), .lend (.t 22)])⟩,
               ⟨(some 1), none, .a (.asg (.t 23))⟩])
             (.seq
              (.reg [⟨(some 24), none, .q (.mov (.t 1))⟩,
                ⟨(some 25), none, .q (.bin false .lss (.t 24) (.c (.int .i64 0)))⟩])
              (.cond (.t 25)
               (.seq
                (.reg [⟨(some 4), none, .a (.asg (.c (.int .i64 (-1))))⟩])
                .ret)
               .skip))))
           (.reg [⟨(some 16), none, .q (.mov (.t 5))⟩,
             ⟨(some 17), none, .q (.bin false .add (.t 16) (.c (.int .i64 1)))⟩,
             ⟨(some 5), none, .a (.asg (.t 17))⟩]))))))
      (.seq
       (.reg [⟨(some 26), none, .q (.mov (.t 1))⟩,
         ⟨(some 4), none, .a (.asg (.t 26))⟩])
       .ret)))))

theorem d88 (l : List Us) (k : Int) (h0 : 0 ≤ k) (h1 : k ≤ 1048576) (hl : (l.length : Int) ≤ 9223372036854775807) (hs : ∀ s ∈ l, s.ok) :
    Does Go.Proofs.Tryz.prog 88 [.fsl 2 (l.map Us.z), .v (.int .i64 k)] false (.v (.int .i64 (szUsS l k))) [.dead, .dead] := by
  refine does_intro (mc := m88) (N := 27) (rs := [4]) (fx := []) 2 rfl (by decide +kernel) ?_
  simp only [m88, EV, Nat.reduceEqDiff, Nat.reduceBEq, Nat.reduceLT, Nat.reduceLeDiff, Nat.reduceAdd, Nat.reduceSub, reduceIte]
  have w1 := w64 (k - l.length) (by omega)
  simp only [w1]
  refine cK_cut (fun h => ?_) (fun h => ?_)
  · have h2 : k - l.length < 0 := by simpa using h
    have e : szUsS l k = -1 := by simp [szUsS, h2]
    simp only [EV, Nat.reduceEqDiff, Nat.reduceBEq, Nat.reduceLT, Nat.reduceLeDiff, Nat.reduceAdd, Nat.reduceSub, reduceIte]
    simp only [e, EV, Nat.reduceEqDiff, Nat.reduceBEq, Nat.reduceLT, Nat.reduceLeDiff, Nat.reduceAdd, Nat.reduceSub, reduceIte, evRE, retVC, cellV', evR, nfz, nfzs, nfzss, List.contains_nil, List.contains_cons, Bool.or_false, or_true]
  · have h2 : ¬ k - l.length < 0 := by simpa using h
    have e : szUsS l k = szUss l (k - l.length) := by simp [szUsS, h2]
    simp only [EV, Nat.reduceEqDiff, Nat.reduceBEq, Nat.reduceLT, Nat.reduceLeDiff, Nat.reduceAdd, Nat.reduceSub, reduceIte]
    refine awp_loop (fun p : Nat × Int => p.1 ≤ l.length ∧ 0 ≤ p.2 ∧ p.2 ≤ 1048576 ∧ szUss (l.drop p.1) p.2 = szUsS l k)
      (fun p => stl [(0, .fsl 2 (l.map Us.z)), (1, .v (.int .i64 p.2)), (5, .v (.int .i64 (p.1 : Int)))]) (fun p => l.length - p.1) (0, k - l.length) ⟨by simp, by simp only; omega, by simp only; omega, by simp [e]⟩ ?_ ?_
    · simp only [EV, Nat.reduceEqDiff, Nat.reduceBEq, Nat.reduceLT, Nat.reduceLeDiff, Nat.reduceAdd, Nat.reduceSub, reduceIte]
      rfl
    · rintro ⟨i, n⟩ ⟨p0, p1, p2, p3⟩
      simp only at p0 p1 p2 p3
      simp only [EV, Nat.reduceEqDiff, Nat.reduceBEq, Nat.reduceLT, Nat.reduceLeDiff, Nat.reduceAdd, Nat.reduceSub, reduceIte]
      refine cK_cut (fun h => ?_) (fun h => ?_)
      · have h3 : i < l.length := by simpa using h
        have h4 : (i : Int) < (l.length : Int) := by omega
        rw [List.drop_eq_getElem_cons h3] at p3
        simp only [szUss] at p3
        have hle := szUs_le l[i] n p1
        simp only [UsE, nth_map h3, h4, EV, Nat.reduceEqDiff, Nat.reduceBEq, Nat.reduceLT, Nat.reduceLeDiff, Nat.reduceAdd, Nat.reduceSub, reduceIte]
        refine callK_i (d154 l[i] n p1 p2 (hs l[i] (List.getElem_mem h3))) ?_
        simp only [UsE, nth_map h3, h4, EV, Nat.reduceEqDiff, Nat.reduceBEq, Nat.reduceLT, Nat.reduceLeDiff, Nat.reduceAdd, Nat.reduceSub, reduceIte]
        refine cK_cut (fun h => ?_) (fun h => ?_)
        · have h5 : szUs l[i] n < 0 := by simpa using h
          rw [if_pos h5] at p3
          simp only [EV, Nat.reduceEqDiff, Nat.reduceBEq, Nat.reduceLT, Nat.reduceLeDiff, Nat.reduceAdd, Nat.reduceSub, reduceIte]
          simp only [← p3, EV, Nat.reduceEqDiff, Nat.reduceBEq, Nat.reduceLT, Nat.reduceLeDiff, Nat.reduceAdd, Nat.reduceSub, reduceIte, evRE, retVC, cellV', evR, nfz, nfzs, nfzss, List.contains_nil, List.contains_cons, Bool.or_false, or_true]
        · have h5 : ¬ szUs l[i] n < 0 := by simpa using h
          rw [if_neg h5] at p3
          have w2 := w64 ((i : Int) + 1) (by omega)
          simp only [w2, EV, Nat.reduceEqDiff, Nat.reduceBEq, Nat.reduceLT, Nat.reduceLeDiff, Nat.reduceAdd, Nat.reduceSub, reduceIte]
          exact ⟨(i + 1, szUs l[i] n), ⟨by simp only; omega, by simp only; omega, by simp only; omega, p3⟩, by simp only; omega, rfl⟩
      · have h3 : i = l.length := by have : ¬ (i : Int) < l.length := by simpa using h
                                     omega
        subst h3
        rw [List.drop_length] at p3
        simp only [szUss] at p3
        simp only [EV, Nat.reduceEqDiff, Nat.reduceBEq, Nat.reduceLT, Nat.reduceLeDiff, Nat.reduceAdd, Nat.reduceSub, reduceIte]
        simp only [← p3, EV, Nat.reduceEqDiff, Nat.reduceBEq, Nat.reduceLT, Nat.reduceLeDiff, Nat.reduceAdd, Nat.reduceSub, reduceIte, evRE, retVC, cellV', evR, nfz, nfzs, nfzss, List.contains_nil, List.contains_cons, Bool.or_false, or_true]

/-- loop.example/g00837/laws.toUse -/
def m157 : MC :=
  (.seq
   (.reg [⟨(some 1), none, .a (.box 173 (.t 0))⟩,
     ⟨(some 2), none, .a (.alloc 155 [.v (.string ({ data := #[] })), .v (.string ({ data := #[] }))])⟩])
   (.seq
    (.reg [⟨(some 3), none, .a (.alloc 155 [.v (.string ({ data := #[] })), .v (.string ({ data := #[] }))])⟩])
    (.seq
     (.reg [⟨(some 4), none, .q (.fad 0 (.t 1))⟩,
       ⟨(some 5), none, .q (.load false 1 (.t 4))⟩,
       ⟨(some 6), none, .q (.fad 0 (.t 3))⟩,
       ⟨none, none, .a (.store 1 (.t 6) (.t 5))⟩])
     (.seq
      (.reg [⟨(some 7), none, .q (.fad 1 (.t 1))⟩,
        ⟨(some 8), none, .q (.load false 1 (.t 7))⟩,
        ⟨(some 9), none, .q (.fad 1 (.t 3))⟩,
        ⟨none, none, .a (.store 1 (.t 9) (.t 8))⟩])
      (.seq
       (.reg [⟨(some 10), none, .q (.load true 2 (.t 3))⟩,
         ⟨none, none, .a (.store 2 (.t 2) (.t 10))⟩])
       .ret)))))

set_option maxRecDepth 100000 in
theorem d157 (s : Us) (hs : s.sm) : Does Go.Proofs.Tryz.prog 157 [.agg s.z] false (.agg s.o) [.dead] := by
  unfold Us.sm at hs
  refine does_introC (mc := m157) (N := 11) (r := 2) (ty := 155) (agg := true) (sz := 2) (fx := []) 1 rfl (by decide +kernel) ?_
  simp only [m157, Us.z, Us.o, EV, Nat.reduceEqDiff, Nat.reduceBEq, Nat.reduceLT, Nat.reduceLeDiff, Nat.reduceAdd, Nat.reduceSub, reduceIte]
  simp only [EV, Nat.reduceEqDiff, Nat.reduceBEq, Nat.reduceLT, Nat.reduceLeDiff, Nat.reduceAdd, Nat.reduceSub, reduceIte, evRE, retVC, cellV', evR, nfz, nfzs, nfzss, List.contains_nil, List.contains_cons, Bool.or_false, or_true]

/-- loop.example/g00837/laws.toUseS -/
def m92 : MC :=
  (.seq
   (.reg [⟨(some 2), none, .a (.asg (.nils 155 2))⟩])
   (.seq
    (.reg [⟨(some 5), none, .q (.mov (.t 0))⟩,
      ⟨(some 6), none, .q (.len false (.t 5))⟩,
      ⟨(some 7), none, .a (.mks 155 2 32 [.v (.string ({ data := #[] })), .v (.string ({ data := #[] }))] (.t 6) (.t 6))⟩,
      ⟨(some 3), none, .a (.asg (.t 7))⟩])
    (.seq
     (.seq
      (.reg [⟨(some 4), none, .a (.asg (.c (.int .i64 0)))⟩])
      (.block 0
       (.loop [0, 3, 4, 7]
        (.seq
         (.seq
          (.reg [⟨(some 8), none, .q (.mov (.t 4))⟩,
            ⟨(some 9), none, .q (.mov (.t 0))⟩,
            ⟨(some 10), none, .q (.len false (.t 9))⟩,
            ⟨(some 11), none, .q (.bin false .lss (.t 8) (.t 10))⟩])
          (.cond (.t 11)
           .skip
           (.exit 0)))
         (.seq
          (.block 1
           (.reg [⟨(some 14), none, .q (.mov (.t 3))⟩,
             ⟨(some 15), none, .q (.mov (.t 4))⟩,
             ⟨(some 16), none, .q (.mov (.t 0))⟩,
             ⟨(some 17), none, .q (.mov (.t 4))⟩,
             ⟨(some 18), none, .q (.iad 2 (.t 16) (.t 17))⟩,
             ⟨(some 19), none, .q (.load true 2 (.t 18))⟩,
             ⟨(some 20), none, .a (.call (.fn 157) false [.lend (.t 19)])⟩,
             ⟨(some 21), none, .q (.iad 2 (.t 14) (.t 15))⟩,
             ⟨none, none, .a (.store 2 (.t 21) (.t 20))⟩]))
          (.reg [⟨(some 12), none, .q (.mov (.t 4))⟩,
            ⟨(some 13), none, .q (.bin false .add (.t 12) (.c (.int .i64 1)))⟩,
            ⟨(some 4), none, .a (.asg (.t 13))⟩]))))))
     (.seq
      (.reg [⟨(some 22), none, .q (.mov (.t 3))⟩,
        ⟨(some 2), none, .a (.asg (.t 22))⟩])
      .ret))))

theorem d92 (l : List Us) (hl : (l.length : Int) ≤ 1048576) (hs : ∀ s ∈ l, s.sm) : Does Go.Proofs.Tryz.prog 92 [.fsl 2 (l.map Us.z)] false (.usl 155 2 (l.map Us.o)) [.dead] := by
  refine does_intro (mc := m92) (N := 23) (rs := [2]) (fx := []) 1 rfl (by decide +kernel) ?_
  simp only [m92, EV, Nat.reduceEqDiff, Nat.reduceBEq, Nat.reduceLT, Nat.reduceLeDiff, Nat.reduceAdd, Nat.reduceSub, reduceIte]
  refine ⟨by omega, by omega, ?_⟩
  refine awp_loop (fun i : Nat => i ≤ l.length) (fun i => stl [(0, .fsl 2 (l.map Us.z)), (3, .usl 155 2 ((l.take i).map Us.o ++ List.replicate (l.length - i) Us.zr)), (4, .v (.int .i64 (i : Int))), (7, .dead)]) (fun i => l.length - i) 0 (Nat.zero_le _) ?_ ?_
  · simp only [EV, Nat.reduceEqDiff, Nat.reduceBEq, Nat.reduceLT, Nat.reduceLeDiff, Nat.reduceAdd, Nat.reduceSub, reduceIte]
    rfl
  · intro i hi
    simp only [EV, Nat.reduceEqDiff, Nat.reduceBEq, Nat.reduceLT, Nat.reduceLeDiff, Nat.reduceAdd, Nat.reduceSub, reduceIte]
    refine cK_cut (fun h => ?_) (fun h => ?_)
    · have h1 : i < l.length := by simpa using h
      have h2 : (i : Int) < (l.length : Int) := by omega
      have h3 : ((l.take i).map Us.o ++ List.replicate (l.length - i) Us.zr).length = l.length := by simp; omega
      simp only [UsE, nth_map h1, h2, EV, Nat.reduceEqDiff, Nat.reduceBEq, Nat.reduceLT, Nat.reduceLeDiff, Nat.reduceAdd, Nat.reduceSub, reduceIte]
      refine callK_i (d157 l[i] (hs l[i] (List.getElem_mem h1))) ?_
      simp only [UsE, h2, h3, EV, Nat.reduceEqDiff, Nat.reduceBEq, Nat.reduceLT, Nat.reduceLeDiff, Nat.reduceAdd, Nat.reduceSub, reduceIte]
      refine ⟨h1, i + 1, by omega, by omega, ?_⟩
      have ez : l[i].o ++ List.drop 2 Us.zr = l[i].o := List.append_nil _
      rw [fill_nth h1, w64 _ (by omega), ez, fill_set h1]
      rfl
    · have h1 : i = l.length := by have : ¬ (i : Int) < l.length := by simpa using h
                                   omega
      subst h1
      simp only [EV, Nat.reduceEqDiff, Nat.reduceBEq, Nat.reduceLT, Nat.reduceLeDiff, Nat.reduceAdd, Nat.reduceSub, reduceIte]
      simp only [Nat.sub_self, List.replicate_zero, Us.nfz, EV, Nat.reduceEqDiff, Nat.reduceBEq, Nat.reduceLT, Nat.reduceLeDiff, Nat.reduceAdd, Nat.reduceSub, reduceIte, evRE, retVC, cellV', evR, nfz, nfzs, nfzss, List.contains_nil, List.contains_cons, Bool.or_false, or_true]

/-- loop.example/g00837/laws.eqUse -/
def m160 : MC :=
  (.seq
   (.reg [⟨(some 2), none, .a (.box 155 (.t 0))⟩,
     ⟨(some 3), none, .a (.box 155 (.t 1))⟩,
     ⟨(some 4), none, .a (.asg (.c (.bool false)))⟩])
   (.seq
    (.seq
     (.reg [⟨(some 5), none, .q (.fad 0 (.t 2))⟩,
       ⟨(some 6), none, .q (.load false 1 (.t 5))⟩,
       ⟨(some 7), none, .q (.fad 0 (.t 3))⟩,
       ⟨(some 8), none, .q (.load false 1 (.t 7))⟩,
       ⟨(some 9), none, .q (.bin false .neq (.t 6) (.t 8))⟩])
     (.cond (.t 9)
      (.seq
       (.reg [⟨(some 4), none, .a (.asg (.c (.bool false)))⟩])
       .ret)
      .skip))
    (.seq
     (.seq
      (.reg [⟨(some 10), none, .q (.fad 1 (.t 2))⟩,
        ⟨(some 11), none, .q (.load false 1 (.t 10))⟩,
        ⟨(some 12), none, .q (.fad 1 (.t 3))⟩,
        ⟨(some 13), none, .q (.load false 1 (.t 12))⟩,
        ⟨(some 14), none, .q (.bin false .neq (.t 11) (.t 13))⟩])
      (.cond (.t 14)
       (.seq
        (.reg [⟨(some 4), none, .a (.asg (.c (.bool false)))⟩])
        .ret)
       .skip))
     (.seq
      (.reg [⟨(some 4), none, .a (.asg (.c (.bool true)))⟩])
      .ret))))

set_option maxRecDepth 100000 in
theorem d160 (s : Us) (hs : s.sm) : Does Go.Proofs.Tryz.prog 160 [.agg s.z, .agg s.z] false (.v (.bool true)) [.dead, .dead] := by
  unfold Us.sm at hs
  refine does_intro (mc := m160) (N := 15) (rs := [4]) (fx := []) 2 rfl (by decide +kernel) ?_
  simp only [m160, Us.z, EV, Nat.reduceEqDiff, Nat.reduceBEq, Nat.reduceLT, Nat.reduceLeDiff, Nat.reduceAdd, Nat.reduceSub, reduceIte]
  simp only [EV, Nat.reduceEqDiff, Nat.reduceBEq, Nat.reduceLT, Nat.reduceLeDiff, Nat.reduceAdd, Nat.reduceSub, reduceIte, evRE, retVC, cellV', evR, nfz, nfzs, nfzss, List.contains_nil, List.contains_cons, Bool.or_false, or_true]

/-- loop.example/g00837/laws.eqUseS -/
def m96 : MC :=
  (.seq
   (.reg [⟨(some 4), none, .a (.asg (.c (.bool false)))⟩])
   (.seq
    (.seq
     (.reg [⟨(some 6), none, .q (.mov (.t 0))⟩,
       ⟨(some 7), none, .q (.len false (.t 6))⟩,
       ⟨(some 8), none, .q (.mov (.t 1))⟩,
       ⟨(some 9), none, .q (.len false (.t 8))⟩,
       ⟨(some 10), none, .q (.bin false .neq (.t 7) (.t 9))⟩])
     (.cond (.t 10)
      (.seq
       (.reg [⟨(some 4), none, .a (.asg (.c (.bool false)))⟩])
       .ret)
      .skip))
    (.seq
     (.seq
      (.reg [⟨(some 5), none, .a (.asg (.c (.int .i64 0)))⟩])
      (.block 0
       (.loop [0, 1, 5]
        (.seq
         (.seq
          (.reg [⟨(some 11), none, .q (.mov (.t 5))⟩,
            ⟨(some 12), none, .q (.mov (.t 0))⟩,
            ⟨(some 13), none, .q (.len false (.t 12))⟩,
            ⟨(some 14), none, .q (.bin false .lss (.t 11) (.t 13))⟩])
          (.cond (.t 14)
           .skip
           (.exit 0)))
         (.seq
          (.block 1
           (.seq
            (.dreg [⟨(some 17), none, .q (.mov (.t 0))⟩,
              ⟨(some 18), none, .q (.mov (.t 5))⟩,
              ⟨(some 19), none, .q (.iad 2 (.t 17) (.t 18))⟩,
              ⟨(some 20), none, .q (.load true 2 (.t 19))⟩,
              ⟨(some 21), none, .q (.mov (.t 1))⟩,
              ⟨(some 22), none, .q (.mov (.t 5))⟩,
              ⟨(some 23), none, .q (.iad 2 (.t 21) (.t 22))⟩,
              ⟨(some 24), none, .q (.load true 2 (.t 23))⟩,
              ⟨(some 25), none, .a (.call (.fn 160) false [.lend (.t 20), .lend (.t 24)])⟩,
              ⟨(some 26), none, .q (.un .not (.t 25))⟩])
            (.cond (.t 26)
             (.seq
              (.reg [⟨(some 4), none, .a (.asg (.c (.bool false)))⟩])
              .ret)
             .skip)))
          (.reg [⟨(some 15), none, .q (.mov (.t 5))⟩,
            ⟨(some 16), none, .q (.bin false .add (.t 15) (.c (.int .i64 1)))⟩,
            ⟨(some 5), none, .a (.asg (.t 16))⟩]))))))
     (.seq
      (.reg [⟨(some 4), none, .a (.asg (.c (.bool true)))⟩])
      .ret))))

theorem d96 (l : List Us) (hl : (l.length : Int) ≤ 1048576) (hs : ∀ s ∈ l, s.sm) : Does Go.Proofs.Tryz.prog 96 [.fsl 2 (l.map Us.z), .fsl 2 (l.map Us.z)] false (.v (.bool true)) [.dead, .dead] := by
  refine does_intro (mc := m96) (N := 27) (rs := [4]) (fx := []) 2 rfl (by decide +kernel) ?_
  simp only [m96, EV, Nat.reduceEqDiff, Nat.reduceBEq, Nat.reduceLT, Nat.reduceLeDiff, Nat.reduceAdd, Nat.reduceSub, reduceIte]
  refine awp_loop (fun i : Nat => i ≤ l.length) (fun i => stl [(0, .fsl 2 (l.map Us.z)), (1, .fsl 2 (l.map Us.z)), (5, .v (.int .i64 (i : Int)))]) (fun i => l.length - i) 0 (Nat.zero_le _) ?_ ?_
  · simp only [EV, Nat.reduceEqDiff, Nat.reduceBEq, Nat.reduceLT, Nat.reduceLeDiff, Nat.reduceAdd, Nat.reduceSub, reduceIte]
    rfl
  · intro i hi
    simp only [EV, Nat.reduceEqDiff, Nat.reduceBEq, Nat.reduceLT, Nat.reduceLeDiff, Nat.reduceAdd, Nat.reduceSub, reduceIte]
    refine cK_cut (fun h => ?_) (fun h => ?_)
    · have h1 : i < l.length := by simpa using h
      have h2 : (i : Int) < (l.length : Int) := by omega
      simp only [UsE, nth_map h1, h2, EV, Nat.reduceEqDiff, Nat.reduceBEq, Nat.reduceLT, Nat.reduceLeDiff, Nat.reduceAdd, Nat.reduceSub, reduceIte]
      refine callD_i (d160 l[i] (hs l[i] (List.getElem_mem h1))) rfl ?_
      simp only [EV, Nat.reduceEqDiff, Nat.reduceBEq, Nat.reduceLT, Nat.reduceLeDiff, Nat.reduceAdd, Nat.reduceSub, reduceIte]
      refine ⟨i + 1, by omega, by omega, ?_⟩
      rw [w64 _ (by omega)]
      rfl
    · have h1 : i = l.length := by have : ¬ (i : Int) < l.length := by simpa using h
                                   omega
      simp only [EV, Nat.reduceEqDiff, Nat.reduceBEq, Nat.reduceLT, Nat.reduceLeDiff, Nat.reduceAdd, Nat.reduceSub, reduceIte]
      simp only [EV, Nat.reduceEqDiff, Nat.reduceBEq, Nat.reduceLT, Nat.reduceLeDiff, Nat.reduceAdd, Nat.reduceSub, reduceIte, evRE, retVC, cellV', evR, nfz, nfzs, nfzss, List.contains_nil, List.contains_cons, Bool.or_false, or_true]

structure Seen where
  mod : ByteArray
  name : ByteArray
  sum : Int

def Seen.z (s : Seen) : List AV := [.v (.string s.mod), .v (.string s.name), .v (.int .i64 s.sum)]

def Seen.o (s : Seen) : List AV := [.v (.string s.mod), .v (.string s.name), .v (.int .i64 s.sum)]

def Seen.zr : List AV := [.v (.string ⟨#[]⟩), .v (.string ⟨#[]⟩), .v (.int .i64 0)]

theorem Seen.fr (s : Seen) : frzRow s.o = s.z := by
  simp only [Seen.o, Seen.z, frzRow, frzL, List.cons_append, List.nil_append]

theorem Seen.frz : ∀ l : List Seen, frzRows (l.map Seen.o) = l.map Seen.z
  | [] => rfl
  | s :: l => by simp only [List.map_cons, frzRows, Seen.fr, Seen.frz l]

theorem Seen.nf (s : Seen) : nfzs s.o = true := by
  simp only [Seen.o, nfzs, nfz, List.cons_append, List.nil_append, Bool.and_self]

theorem Seen.nfz : ∀ l : List Seen, nfzss (l.map Seen.o) = true
  | [] => rfl
  | s :: l => by simp only [List.map_cons, nfzss, Seen.nf, Seen.nfz l, Bool.and_self]

def Seen.ok (s : Seen) : Prop := (s.mod.size : Int) ≤ 9223372036854775807 ∧ (s.name.size : Int) ≤ 9223372036854775807 ∧ (-9223372036854775808 ≤ s.sum ∧ s.sum ≤ 9223372036854775807)

def Seen.sm (s : Seen) : Prop := (s.mod.size : Int) ≤ 1048576 ∧ (s.name.size : Int) ≤ 1048576 ∧ True

def totSeen (s : Seen) : Int := (s.mod.size : Int) + (s.name.size : Int)

theorem Seen.sm_of (s : Seen) (h : totSeen s ≤ 1048576) : s.sm := by
  unfold totSeen at h
  exact ⟨by omega, by omega, trivial⟩

structure Str where
  s : ByteArray

def Str.z (s : Str) : List AV := [.v (.string s.s)]

def Str.o (s : Str) : List AV := [.v (.string s.s)]

def Str.zr : List AV := [.v (.string ⟨#[]⟩)]

theorem Str.fr (s : Str) : frzRow s.o = s.z := by
  simp only [Str.o, Str.z, frzRow, frzL, List.cons_append, List.nil_append]

theorem Str.frz : ∀ l : List Str, frzRows (l.map Str.o) = l.map Str.z
  | [] => rfl
  | s :: l => by simp only [List.map_cons, frzRows, Str.fr, Str.frz l]

theorem Str.nf (s : Str) : nfzs s.o = true := by
  simp only [Str.o, nfzs, nfz, List.cons_append, List.nil_append, Bool.and_self]

theorem Str.nfz : ∀ l : List Str, nfzss (l.map Str.o) = true
  | [] => rfl
  | s :: l => by simp only [List.map_cons, nfzss, Str.nf, Str.nfz l, Bool.and_self]

theorem StrE : (∀ f : Str, f.z.length = 1) ∧ (∀ f : Str, f.z.take 1 = f.z) ∧ (∀ (st : St) (f : Str), frzBs st f.z = f.z) ∧ (∀ f : Str, bares f.z = true) ∧ (∀ f : Str, plains f.z = true) ∧
    (∀ (f : Str) (K : Nat → List (Nat × Nat) → Bool), killVs K f.z = f.z) ∧ (∀ f : Str, f.z.all storL = true) ∧ (∀ f : Str, f.o.length = 1) ∧ (∀ f : Str, f.o.take 1 = f.o) ∧ (∀ f : Str, bares f.o = true) ∧
    (∀ f : Str, plains f.o = true) ∧ (∀ (f : Str) (K : Nat → List (Nat × Nat) → Bool), killVs K f.o = f.o) ∧ (∀ f : Str, f.o.all storL = true) :=
  ⟨fun _ => rfl, fun _ => rfl, fun _ _ => rfl, fun _ => rfl, fun _ => rfl, fun _ _ => rfl, fun _ => rfl, fun _ => rfl, fun _ => rfl, fun _ => rfl, fun _ => rfl, fun _ _ => rfl, fun _ => rfl⟩

def Str.ok (s : Str) : Prop := (s.s.size : Int) ≤ 9223372036854775807

def Str.sm (s : Str) : Prop := (s.s.size : Int) ≤ 1048576

def szStr (s : Str) (k : Int) : Int := if k - s.s.size < 0 then -1 else k - s.s.size

def totStr (s : Str) : Int := (s.s.size : Int)

theorem szStr_le (s : Str) (k : Int) (h : 0 ≤ k) : szStr s k ≤ k := by
  unfold szStr
  by_cases g0 : k - s.s.size < 0
  · rw [if_pos g0]; omega
  rw [if_neg g0]
  omega

theorem szStr_tot (s : Str) (k : Int) (h : 0 ≤ szStr s k) : totStr s + szStr s k = k := by
  unfold szStr at h ⊢
  unfold totStr
  by_cases g0 : k - s.s.size < 0
  · rw [if_pos g0] at h; omega
  rw [if_neg g0] at h ⊢
  omega

theorem totStr_nn (s : Str) : 0 ≤ totStr s := by
  unfold totStr
  omega

theorem Str.sm_of (s : Str) (h : totStr s ≤ 1048576) : s.sm := by
  unfold totStr at h
  unfold Str.sm
  omega

def szStrs : List Str → Int → Int
  | [], k => k
  | s :: r, k => if szStr s k < 0 then -1 else szStrs r (szStr s k)

def szStrS (l : List Str) (k : Int) : Int := if k - l.length < 0 then -1 else szStrs l (k - l.length)

theorem szStrs_le : ∀ (l : List Str) (k : Int), 0 ≤ k → szStrs l k ≤ k
  | [], k, h => by simp [szStrs]
  | s :: r, k, h => by
    simp only [szStrs]
    have h1 := szStr_le s k h
    split
    · omega
    · have := szStrs_le r (szStr s k) (by omega)
      omega

theorem szStrS_le (l : List Str) (k : Int) (h : 0 ≤ k) : szStrS l k ≤ k := by
  unfold szStrS
  split
  · omega
  · have := szStrs_le l (k - l.length) (by omega); omega

def totStrs : List Str → Int
  | [] => 0
  | s :: r => 1 + totStr s + totStrs r

theorem szStrs_tot : ∀ (l : List Str) (k : Int), 0 ≤ szStrs l k → totStrs l + szStrs l k = k + l.length
  | [], k, h => by simp [szStrs, totStrs]
  | s :: r, k, h => by
    simp only [szStrs] at h ⊢
    split
    · rename_i h1; rw [if_pos h1] at h; omega
    · rename_i h1
      rw [if_neg h1] at h
      have h2 := szStr_tot s k (by omega)
      have h3 := szStrs_tot r _ h
      simp only [totStrs, List.length_cons]
      omega

theorem szStrS_tot (l : List Str) (k : Int) (h : 0 ≤ szStrS l k) : totStrs l + szStrS l k = k := by
  unfold szStrS at h ⊢
  split
  · rename_i h1; rw [if_pos h1] at h; omega
  · rename_i h1
    rw [if_neg h1] at h
    have := szStrs_tot l _ h
    omega

theorem totStrs_nn : ∀ l : List Str, (l.length : Int) ≤ totStrs l
  | [] => by simp [totStrs]
  | s :: r => by
    have := totStrs_nn r
    have := totStr_nn s
    simp only [totStrs, List.length_cons]
    omega

theorem totStrs_mem : ∀ (l : List Str) (s : Str), s ∈ l → totStr s ≤ totStrs l
  | x :: r, s, h => by
    simp only [totStrs]
    have h3 := totStr_nn x
    have h2 := totStrs_nn r
    rcases List.mem_cons.1 h with h | h
    · subst h; omega
    · have := totStrs_mem r s h; omega

theorem szStr_neg {s : Str} {k : Int} (h : k - s.s.size < 0) : szStr s k < 0 := by
  unfold szStr
  rw [if_pos h]
  omega

theorem szStr_pos {s : Str} {k : Int} (h : ¬ k - s.s.size < 0) : ¬ szStr s k < 0 := by
  unfold szStr
  rw [if_neg h]
  exact h

theorem szStr_val {s : Str} {k : Int} (h : ¬ k - s.s.size < 0) : k - s.s.size = szStr s k := by
  unfold szStr
  rw [if_neg h]

/-- loop.example/g00837/laws.szStringS -/
def m85 : MC :=
  (.seq
   (.reg [⟨(some 4), none, .a (.asg (.c (.int .i64 0)))⟩])
   (.seq
    (.reg [⟨(some 6), none, .q (.mov (.t 1))⟩,
      ⟨(some 7), none, .q (.mov (.t 0))⟩,
      ⟨(some 8), none, .q (.len false (.t 7))⟩,
      ⟨(some 9), none, .q (.bin false .sub (.t 6) (.t 8))⟩,
      ⟨(some 1), none, .a (.asg (.t 9))⟩])
    (.seq
     (.seq
      (.reg [⟨(some 10), none, .q (.mov (.t 1))⟩,
        ⟨(some 11), none, .q (.bin false .lss (.t 10) (.c (.int .i64 0)))⟩])
      (.cond (.t 11)
       (.seq
        (.reg [⟨(some 4), none, .a (.asg (.c (.int .i64 (-1))))⟩])
        .ret)
       .skip))
     (.seq
      (.seq
       (.reg [⟨(some 5), none, .a (.asg (.c (.int .i64 0)))⟩])
       (.block 0
        (.loop [0, 1, 5]
         (.seq
          (.seq
           (.reg [⟨(some 12), none, .q (.mov (.t 5))⟩,
             ⟨(some 13), none, .q (.mov (.t 0))⟩,
             ⟨(some 14), none, .q (.len false (.t 13))⟩,
             ⟨(some 15), none, .q (.bin false .lss (.t 12) (.t 14))⟩])
           (.cond (.t 15)
            .skip
            (.exit 0)))
          (.seq
           (.block 1
            (.seq
             (.reg [⟨(some 18), none, .q (.mov (.t 1))⟩,
               ⟨(some 19), none, .q (.mov (.t 0))⟩,
               ⟨(some 20), none, .q (.mov (.t 5))⟩,
               ⟨(some 21), none, .q (.iad 1 (.t 19) (.t 20))⟩,
               ⟨(some 22), none, .q (.load false 1 (.t 21))⟩,
               ⟨(some 23), none, .q (.len true (.t 22))⟩,
               ⟨(some 24), none, .q (.bin false .sub (.t 18) (.t 23))⟩,
               ⟨(some 1), none, .a (.asg (.t 24))⟩])
             (.seq
              (.reg [⟨(some 25), none, .q (.mov (.t 1))⟩,
                ⟨(some 26), none, .q (.bin false .lss (.t 25) (.c (.int .i64 0)))⟩])
              (.cond (.t 26)
               (.seq
                (.reg [⟨(some 4), none, .a (.asg (.c (.int .i64 (-1))))⟩])
                .ret)
               .skip))))
           (.reg [⟨(some 16), none, .q (.mov (.t 5))⟩,
             ⟨(some 17), none, .q (.bin false .add (.t 16) (.c (.int .i64 1)))⟩,
             ⟨(some 5), none, .a (.asg (.t 17))⟩]))))))
      (.seq
       (.reg [⟨(some 27), none, .q (.mov (.t 1))⟩,
         ⟨(some 4), none, .a (.asg (.t 27))⟩])
       .ret)))))

theorem d85 (l : List Str) (k : Int) (h0 : 0 ≤ k) (h1 : k ≤ 1048576) (hl : (l.length : Int) ≤ 9223372036854775807) (hs : ∀ s ∈ l, s.ok) :
    Does Go.Proofs.Tryz.prog 85 [.fsl 1 (l.map Str.z), .v (.int .i64 k)] false (.v (.int .i64 (szStrS l k))) [.dead, .dead] := by
  refine does_intro (mc := m85) (N := 28) (rs := [4]) (fx := []) 2 rfl (by decide +kernel) ?_
  simp only [m85, EV, Nat.reduceEqDiff, Nat.reduceBEq, Nat.reduceLT, Nat.reduceLeDiff, Nat.reduceAdd, Nat.reduceSub, reduceIte]
  have w1 := w64 (k - l.length) (by omega)
  simp only [w1]
  refine cK_cut (fun h => ?_) (fun h => ?_)
  · have h2 : k - l.length < 0 := by simpa using h
    have e : szStrS l k = -1 := by simp [szStrS, h2]
    simp only [EV, Nat.reduceEqDiff, Nat.reduceBEq, Nat.reduceLT, Nat.reduceLeDiff, Nat.reduceAdd, Nat.reduceSub, reduceIte]
    simp only [e, EV, Nat.reduceEqDiff, Nat.reduceBEq, Nat.reduceLT, Nat.reduceLeDiff, Nat.reduceAdd, Nat.reduceSub, reduceIte, evRE, retVC, cellV', evR, nfz, nfzs, nfzss, List.contains_nil, List.contains_cons, Bool.or_false, or_true]
  · have h2 : ¬ k - l.length < 0 := by simpa using h
    have e : szStrS l k = szStrs l (k - l.length) := by simp [szStrS, h2]
    simp only [EV, Nat.reduceEqDiff, Nat.reduceBEq, Nat.reduceLT, Nat.reduceLeDiff, Nat.reduceAdd, Nat.reduceSub, reduceIte]
    refine awp_loop (fun p : Nat × Int => p.1 ≤ l.length ∧ 0 ≤ p.2 ∧ p.2 ≤ 1048576 ∧ szStrs (l.drop p.1) p.2 = szStrS l k)
      (fun p => stl [(0, .fsl 1 (l.map Str.z)), (1, .v (.int .i64 p.2)), (5, .v (.int .i64 (p.1 : Int)))]) (fun p => l.length - p.1) (0, k - l.length) ⟨by simp, by simp only; omega, by simp only; omega, by simp [e]⟩ ?_ ?_
    · simp only [EV, Nat.reduceEqDiff, Nat.reduceBEq, Nat.reduceLT, Nat.reduceLeDiff, Nat.reduceAdd, Nat.reduceSub, reduceIte]
      rfl
    · rintro ⟨i, n⟩ ⟨p0, p1, p2, p3⟩
      simp only at p0 p1 p2 p3
      simp only [EV, Nat.reduceEqDiff, Nat.reduceBEq, Nat.reduceLT, Nat.reduceLeDiff, Nat.reduceAdd, Nat.reduceSub, reduceIte]
      refine cK_cut (fun h => ?_) (fun h => ?_)
      · have h3 : i < l.length := by simpa using h
        have h4 : (i : Int) < (l.length : Int) := by omega
        rw [List.drop_eq_getElem_cons h3] at p3
        simp only [szStrs] at p3
        have hle := szStr_le l[i] n p1
        simp only [StrE, nth_map h3, h4, Str.z, EV, Nat.reduceEqDiff, Nat.reduceBEq, Nat.reduceLT, Nat.reduceLeDiff, Nat.reduceAdd, Nat.reduceSub, reduceIte]
        have hok := hs l[i] (List.getElem_mem h3)
        unfold Str.ok at hok
        have w9 := w64 (n - l[i].s.size) (by omega)
        simp only [w9]
        refine cK_cut (fun h => ?_) (fun h => ?_)
        · have h5 : szStr l[i] n < 0 := szStr_neg (by simpa using h)
          rw [if_pos h5] at p3
          simp only [EV, Nat.reduceEqDiff, Nat.reduceBEq, Nat.reduceLT, Nat.reduceLeDiff, Nat.reduceAdd, Nat.reduceSub, reduceIte]
          simp only [← p3, EV, Nat.reduceEqDiff, Nat.reduceBEq, Nat.reduceLT, Nat.reduceLeDiff, Nat.reduceAdd, Nat.reduceSub, reduceIte, evRE, retVC, cellV', evR, nfz, nfzs, nfzss, List.contains_nil, List.contains_cons, Bool.or_false, or_true]
        · have h5 : ¬ szStr l[i] n < 0 := szStr_pos (by simpa using h)
          rw [if_neg h5] at p3
          have w2 := w64 ((i : Int) + 1) (by omega)
          rw [szStr_val (by simpa using h)]
          simp only [w2, EV, Nat.reduceEqDiff, Nat.reduceBEq, Nat.reduceLT, Nat.reduceLeDiff, Nat.reduceAdd, Nat.reduceSub, reduceIte]
          exact ⟨(i + 1, szStr l[i] n), ⟨by simp only; omega, by simp only; omega, by simp only; omega, p3⟩, by simp only; omega, rfl⟩
      · have h3 : i = l.length := by have : ¬ (i : Int) < l.length := by simpa using h
                                     omega
        subst h3
        rw [List.drop_length] at p3
        simp only [szStrs] at p3
        simp only [EV, Nat.reduceEqDiff, Nat.reduceBEq, Nat.reduceLT, Nat.reduceLeDiff, Nat.reduceAdd, Nat.reduceSub, reduceIte]
        simp only [← p3, EV, Nat.reduceEqDiff, Nat.reduceBEq, Nat.reduceLT, Nat.reduceLeDiff, Nat.reduceAdd, Nat.reduceSub, reduceIte, evRE, retVC, cellV', evR, nfz, nfzs, nfzss, List.contains_nil, List.contains_cons, Bool.or_false, or_true]

/-- loop.example/g00837/laws.toStringS -/
def m89 : MC :=
  (.seq
   (.reg [⟨(some 2), none, .a (.asg (.nils 9 1))⟩])
   (.seq
    (.reg [⟨(some 5), none, .q (.mov (.t 0))⟩,
      ⟨(some 6), none, .q (.len false (.t 5))⟩,
      ⟨(some 7), none, .a (.mks 9 1 16 [.v (.string ({ data := #[] }))] (.t 6) (.t 6))⟩,
      ⟨(some 3), none, .a (.asg (.t 7))⟩])
    (.seq
     (.seq
      (.reg [⟨(some 4), none, .a (.asg (.c (.int .i64 0)))⟩])
      (.block 0
       (.loop [0, 3, 4, 7]
        (.seq
         (.seq
          (.reg [⟨(some 8), none, .q (.mov (.t 4))⟩,
            ⟨(some 9), none, .q (.mov (.t 0))⟩,
            ⟨(some 10), none, .q (.len false (.t 9))⟩,
            ⟨(some 11), none, .q (.bin false .lss (.t 8) (.t 10))⟩])
          (.cond (.t 11)
           .skip
           (.exit 0)))
         (.seq
          (.block 1
           (.reg [⟨(some 14), none, .q (.mov (.t 3))⟩,
             ⟨(some 15), none, .q (.mov (.t 4))⟩,
             ⟨(some 16), none, .q (.mov (.t 0))⟩,
             ⟨(some 17), none, .q (.mov (.t 4))⟩,
             ⟨(some 18), none, .q (.iad 1 (.t 16) (.t 17))⟩,
             ⟨(some 19), none, .q (.load false 1 (.t 18))⟩,
             ⟨(some 20), none, .q (.iad 1 (.t 14) (.t 15))⟩,
             ⟨none, none, .a (.store 1 (.t 20) (.t 19))⟩]))
          (.reg [⟨(some 12), none, .q (.mov (.t 4))⟩,
            ⟨(some 13), none, .q (.bin false .add (.t 12) (.c (.int .i64 1)))⟩,
            ⟨(some 4), none, .a (.asg (.t 13))⟩]))))))
     (.seq
      (.reg [⟨(some 21), none, .q (.mov (.t 3))⟩,
        ⟨(some 2), none, .a (.asg (.t 21))⟩])
      .ret))))

theorem d89 (l : List Str) (hl : (l.length : Int) ≤ 1048576) (hs : ∀ s ∈ l, s.sm) : Does Go.Proofs.Tryz.prog 89 [.fsl 1 (l.map Str.z)] false (.usl 9 1 (l.map Str.o)) [.dead] := by
  refine does_intro (mc := m89) (N := 22) (rs := [2]) (fx := []) 1 rfl (by decide +kernel) ?_
  simp only [m89, EV, Nat.reduceEqDiff, Nat.reduceBEq, Nat.reduceLT, Nat.reduceLeDiff, Nat.reduceAdd, Nat.reduceSub, reduceIte]
  refine ⟨by omega, by omega, ?_⟩
  refine awp_loop (fun i : Nat => i ≤ l.length) (fun i => stl [(0, .fsl 1 (l.map Str.z)), (3, .usl 9 1 ((l.take i).map Str.o ++ List.replicate (l.length - i) Str.zr)), (4, .v (.int .i64 (i : Int))), (7, .dead)]) (fun i => l.length - i) 0 (Nat.zero_le _) ?_ ?_
  · simp only [EV, Nat.reduceEqDiff, Nat.reduceBEq, Nat.reduceLT, Nat.reduceLeDiff, Nat.reduceAdd, Nat.reduceSub, reduceIte]
    rfl
  · intro i hi
    simp only [EV, Nat.reduceEqDiff, Nat.reduceBEq, Nat.reduceLT, Nat.reduceLeDiff, Nat.reduceAdd, Nat.reduceSub, reduceIte]
    refine cK_cut (fun h => ?_) (fun h => ?_)
    · have h1 : i < l.length := by simpa using h
      have h2 : (i : Int) < (l.length : Int) := by omega
      have h3 : ((l.take i).map Str.o ++ List.replicate (l.length - i) Str.zr).length = l.length := by simp; omega
      simp only [StrE, Str.z, nth_map h1, h2, h3, EV, Nat.reduceEqDiff, Nat.reduceBEq, Nat.reduceLT, Nat.reduceLeDiff, Nat.reduceAdd, Nat.reduceSub, reduceIte]
      refine ⟨h1, i + 1, by omega, by omega, ?_⟩
      have ez : l[i].o ++ List.drop 1 Str.zr = l[i].o := List.append_nil _
      have eo : [AV.v (Value.string l[i].s)] = l[i].o := rfl
      have ez2 : AV.v (Value.string l[i].s) :: List.drop 1 Str.zr = l[i].o := rfl
      rw [fill_nth h1, w64 _ (by omega), ez2, fill_set h1]
      rfl
    · have h1 : i = l.length := by have : ¬ (i : Int) < l.length := by simpa using h
                                   omega
      subst h1
      simp only [EV, Nat.reduceEqDiff, Nat.reduceBEq, Nat.reduceLT, Nat.reduceLeDiff, Nat.reduceAdd, Nat.reduceSub, reduceIte]
      simp only [Nat.sub_self, List.replicate_zero, Str.nfz, EV, Nat.reduceEqDiff, Nat.reduceBEq, Nat.reduceLT, Nat.reduceLeDiff, Nat.reduceAdd, Nat.reduceSub, reduceIte, evRE, retVC, cellV', evR, nfz, nfzs, nfzss, List.contains_nil, List.contains_cons, Bool.or_false, or_true]

/-- loop.example/g00837/laws.eqStringS -/
def m93 : MC :=
  (.seq
   (.reg [⟨(some 4), none, .a (.asg (.c (.bool false)))⟩])
   (.seq
    (.seq
     (.reg [⟨(some 6), none, .q (.mov (.t 0))⟩,
       ⟨(some 7), none, .q (.len false (.t 6))⟩,
       ⟨(some 8), none, .q (.mov (.t 1))⟩,
       ⟨(some 9), none, .q (.len false (.t 8))⟩,
       ⟨(some 10), none, .q (.bin false .neq (.t 7) (.t 9))⟩])
     (.cond (.t 10)
      (.seq
       (.reg [⟨(some 4), none, .a (.asg (.c (.bool false)))⟩])
       .ret)
      .skip))
    (.seq
     (.seq
      (.reg [⟨(some 5), none, .a (.asg (.c (.int .i64 0)))⟩])
      (.block 0
       (.loop [0, 1, 5]
        (.seq
         (.seq
          (.reg [⟨(some 11), none, .q (.mov (.t 5))⟩,
            ⟨(some 12), none, .q (.mov (.t 0))⟩,
            ⟨(some 13), none, .q (.len false (.t 12))⟩,
            ⟨(some 14), none, .q (.bin false .lss (.t 11) (.t 13))⟩])
          (.cond (.t 14)
           .skip
           (.exit 0)))
         (.seq
          (.block 1
           (.seq
            (.dreg [⟨(some 17), none, .q (.mov (.t 0))⟩,
              ⟨(some 18), none, .q (.mov (.t 5))⟩,
              ⟨(some 19), none, .q (.iad 1 (.t 17) (.t 18))⟩,
              ⟨(some 20), none, .q (.load false 1 (.t 19))⟩,
              ⟨(some 21), none, .q (.mov (.t 1))⟩,
              ⟨(some 22), none, .q (.mov (.t 5))⟩,
              ⟨(some 23), none, .q (.iad 1 (.t 21) (.t 22))⟩,
              ⟨(some 24), none, .q (.load false 1 (.t 23))⟩,
              ⟨(some 25), none, .q (.bin false .neq (.t 20) (.t 24))⟩])
            (.cond (.t 25)
             (.seq
              (.reg [⟨(some 4), none, .a (.asg (.c (.bool false)))⟩])
              .ret)
             .skip)))
          (.reg [⟨(some 15), none, .q (.mov (.t 5))⟩,
            ⟨(some 16), none, .q (.bin false .add (.t 15) (.c (.int .i64 1)))⟩,
            ⟨(some 5), none, .a (.asg (.t 16))⟩]))))))
     (.seq
      (.reg [⟨(some 4), none, .a (.asg (.c (.bool true)))⟩])
      .ret))))

theorem d93 (l : List Str) (hl : (l.length : Int) ≤ 1048576) (hs : ∀ s ∈ l, s.sm) : Does Go.Proofs.Tryz.prog 93 [.fsl 1 (l.map Str.z), .fsl 1 (l.map Str.z)] false (.v (.bool true)) [.dead, .dead] := by
  refine does_intro (mc := m93) (N := 26) (rs := [4]) (fx := []) 2 rfl (by decide +kernel) ?_
  simp only [m93, EV, Nat.reduceEqDiff, Nat.reduceBEq, Nat.reduceLT, Nat.reduceLeDiff, Nat.reduceAdd, Nat.reduceSub, reduceIte]
  refine awp_loop (fun i : Nat => i ≤ l.length) (fun i => stl [(0, .fsl 1 (l.map Str.z)), (1, .fsl 1 (l.map Str.z)), (5, .v (.int .i64 (i : Int)))]) (fun i => l.length - i) 0 (Nat.zero_le _) ?_ ?_
  · simp only [EV, Nat.reduceEqDiff, Nat.reduceBEq, Nat.reduceLT, Nat.reduceLeDiff, Nat.reduceAdd, Nat.reduceSub, reduceIte]
    rfl
  · intro i hi
    simp only [EV, Nat.reduceEqDiff, Nat.reduceBEq, Nat.reduceLT, Nat.reduceLeDiff, Nat.reduceAdd, Nat.reduceSub, reduceIte]
    refine cK_cut (fun h => ?_) (fun h => ?_)
    · have h1 : i < l.length := by simpa using h
      have h2 : (i : Int) < (l.length : Int) := by omega
      simp only [StrE, Str.z, nth_map h1, h2, EV, Nat.reduceEqDiff, Nat.reduceBEq, Nat.reduceLT, Nat.reduceLeDiff, Nat.reduceAdd, Nat.reduceSub, reduceIte]
      refine ⟨i + 1, by omega, by omega, ?_⟩
      rw [w64 _ (by omega)]
      rfl
    · have h1 : i = l.length := by have : ¬ (i : Int) < l.length := by simpa using h
                                   omega
      simp only [EV, Nat.reduceEqDiff, Nat.reduceBEq, Nat.reduceLT, Nat.reduceLeDiff, Nat.reduceAdd, Nat.reduceSub, reduceIte]
      simp only [EV, Nat.reduceEqDiff, Nat.reduceBEq, Nat.reduceLT, Nat.reduceLeDiff, Nat.reduceAdd, Nat.reduceSub, reduceIte, evRE, retVC, cellV', evR, nfz, nfzs, nfzss, List.contains_nil, List.contains_cons, Bool.or_false, or_true]

end Go.AM
namespace Go.AM
set_option linter.unusedVariables false
set_option linter.unusedSimpArgs false
theorem pbeq (a b c d : Nat) : ((a, b) == (c, d)) = (a == c && b == d) := rfl

structure Scope where
  name : ByteArray
  imports : List Str
  types : List Ty
  objects : List Ob
  uses : List Us

def Scope.z (s : Scope) : List AV := [.v (.string s.name), .fsl 1 (s.imports.map Str.z), .fsl 6 (s.types.map Ty.z), .fsl 6 (s.objects.map Ob.z), .fsl 2 (s.uses.map Us.z)]

def Scope.o (s : Scope) : List AV := [.v (.string s.name), .usl 9 1 (s.imports.map Str.o), .usl 40 6 (s.types.map Ty.o), .usl 52 6 (s.objects.map Ob.o), .usl 155 2 (s.uses.map Us.o)]

def Scope.zr : List AV := [.v (.string ⟨#[]⟩), .usl 9 1 [], .usl 40 6 [], .usl 52 6 [], .usl 155 2 []]

theorem Scope.fr (s : Scope) : frzRow s.o = s.z := by
  simp only [Scope.o, Scope.z, frzRow, frzL, List.cons_append, List.nil_append, Str.frz, Ty.frz, Fd.frz, Ob.frz, Par.frz, Us.frz]

theorem Scope.frz : ∀ l : List Scope, frzRows (l.map Scope.o) = l.map Scope.z
  | [] => rfl
  | s :: l => by simp only [List.map_cons, frzRows, Scope.fr, Scope.frz l]

theorem Scope.nf (s : Scope) : nfzs s.o = true := by
  simp only [Scope.o, nfzs, nfz, List.cons_append, List.nil_append, Bool.and_self, Str.nfz, Ty.nfz, Fd.nfz, Ob.nfz, Par.nfz, Us.nfz]

theorem Scope.nfz : ∀ l : List Scope, nfzss (l.map Scope.o) = true
  | [] => rfl
  | s :: l => by simp only [List.map_cons, nfzss, Scope.nf, Scope.nfz l, Bool.and_self]

def Scope.ok (s : Scope) : Prop := (s.name.size : Int) ≤ 9223372036854775807 ∧ ((s.imports.length : Int) ≤ 9223372036854775807 ∧ ∀ y ∈ s.imports, y.ok) ∧ ((s.types.length : Int) ≤ 9223372036854775807 ∧ ∀ y ∈ s.types, y.ok) ∧ ((s.objects.length : Int) ≤ 9223372036854775807 ∧ ∀ y ∈ s.objects, y.ok) ∧ ((s.uses.length : Int) ≤ 9223372036854775807 ∧ ∀ y ∈ s.uses, y.ok)

def Scope.sm (s : Scope) : Prop := (s.name.size : Int) ≤ 1048576 ∧ ((s.imports.length : Int) ≤ 1048576 ∧ ∀ y ∈ s.imports, y.sm) ∧ ((s.types.length : Int) ≤ 1048576 ∧ ∀ y ∈ s.types, y.sm) ∧ ((s.objects.length : Int) ≤ 1048576 ∧ ∀ y ∈ s.objects, y.sm) ∧ ((s.uses.length : Int) ≤ 1048576 ∧ ∀ y ∈ s.uses, y.sm)

def szScope (s : Scope) (k : Int) : Int := if k - s.name.size < 0 then -1 else if szStrS s.imports (k - s.name.size) < 0 then -1 else if szTyS s.types (szStrS s.imports (k - s.name.size)) < 0 then -1 else if szObS s.objects (szTyS s.types (szStrS s.imports (k - s.name.size))) < 0 then -1 else if szUsS s.uses (szObS s.objects (szTyS s.types (szStrS s.imports (k - s.name.size)))) < 0 then -1 else szUsS s.uses (szObS s.objects (szTyS s.types (szStrS s.imports (k - s.name.size))))

def totScope (s : Scope) : Int := (s.name.size : Int) + totStrs s.imports + totTys s.types + totObs s.objects + totUss s.uses

theorem szScope_tot (s : Scope) (k : Int) (h : 0 ≤ szScope s k) : totScope s + szScope s k = k := by
  unfold szScope at h ⊢
  unfold totScope
  by_cases g0 : k - s.name.size < 0
  · rw [if_pos g0] at h; omega
  rw [if_neg g0] at h ⊢
  by_cases g1 : szStrS s.imports (k - s.name.size) < 0
  · rw [if_pos g1] at h; omega
  rw [if_neg g1] at h ⊢
  have t1 := szStrS_tot s.imports (k - s.name.size) (by omega)
  by_cases g2 : szTyS s.types (szStrS s.imports (k - s.name.size)) < 0
  · rw [if_pos g2] at h; omega
  rw [if_neg g2] at h ⊢
  have t2 := szTyS_tot s.types (szStrS s.imports (k - s.name.size)) (by omega)
  by_cases g3 : szObS s.objects (szTyS s.types (szStrS s.imports (k - s.name.size))) < 0
  · rw [if_pos g3] at h; omega
  rw [if_neg g3] at h ⊢
  have t3 := szObS_tot s.objects (szTyS s.types (szStrS s.imports (k - s.name.size))) (by omega)
  by_cases g4 : szUsS s.uses (szObS s.objects (szTyS s.types (szStrS s.imports (k - s.name.size)))) < 0
  · rw [if_pos g4] at h; omega
  rw [if_neg g4] at h ⊢
  have t4 := szUsS_tot s.uses (szObS s.objects (szTyS s.types (szStrS s.imports (k - s.name.size)))) (by omega)
  omega

theorem Scope.sm_of (s : Scope) (h : totScope s ≤ 1048576) : s.sm := by
  unfold totScope at h
  have n1 := totStrs_nn s.imports
  have n2 := totTys_nn s.types
  have n3 := totObs_nn s.objects
  have n4 := totUss_nn s.uses
  exact ⟨by omega, ⟨by omega, fun y hy => Str.sm_of y (by have := totStrs_mem s.imports y hy; omega)⟩, ⟨by omega, fun y hy => Ty.sm_of y (by have := totTys_mem s.types y hy; omega)⟩, ⟨by omega, fun y hy => Ob.sm_of y (by have := totObs_mem s.objects y hy; omega)⟩, ⟨by omega, fun y hy => Us.sm_of y (by have := totUss_mem s.uses y hy; omega)⟩⟩

/-- loop.example/g00837/laws.szScope -/
def m27 : MC :=
  (.seq
   (.reg [⟨(some 2), none, .a (.box 59 (.t 0))⟩,
     ⟨(some 4), none, .a (.asg (.c (.int .i64 0)))⟩])
   (.seq
    (.reg [⟨(some 5), none, .q (.mov (.t 1))⟩,
      ⟨(some 6), none, .q (.fad 0 (.t 2))⟩,
      ⟨(some 7), none, .q (.load false 1 (.t 6))⟩,
      ⟨(some 8), none, .q (.len true (.t 7))⟩,
      ⟨(some 9), none, .q (.bin false .sub (.t 5) (.t 8))⟩,
      ⟨(some 1), none, .a (.asg (.t 9))⟩])
    (.seq
     (.seq
      (.reg [⟨(some 10), none, .q (.mov (.t 1))⟩,
        ⟨(some 11), none, .q (.bin false .lss (.t 10) (.c (.int .i64 0)))⟩])
      (.cond (.t 11)
       (.seq
        (.reg [⟨(some 4), none, .a (.asg (.c (.int .i64 (-1))))⟩])
        .ret)
       .skip))
     (.seq
      (.reg [⟨(some 12), none, .q (.fad 1 (.t 2))⟩,
        ⟨(some 13), none, .q (.load false 1 (.t 12))⟩,
        ⟨(some 14), none, .q (.mov (.t 1))⟩,
        ⟨(some 15), none, .a (.call (.fn 85) false [.lend (.t 13), .lend (.t 14)])⟩,
        ⟨(some 1), none, .a (.asg (.t 15))⟩])
      (.seq
       (.seq
        (.reg [⟨(some 16), none, .q (.mov (.t 1))⟩,
          ⟨(some 17), none, .q (.bin false .lss (.t 16) (.c (.int .i64 0)))⟩])
        (.cond (.t 17)
         (.seq
          (.reg [⟨(some 4), none, .a (.asg (.c (.int .i64 (-1))))⟩])
          .ret)
         .skip))
       (.seq
        (.reg [⟨(some 18), none, .q (.fad 2 (.t 2))⟩,
          ⟨(some 19), none, .q (.load false 1 (.t 18))⟩,
          ⟨(some 20), none, .q (.mov (.t 1))⟩,
          ⟨(some 21), none, .a (.call (.fn 86) false [.lend (.t 19), .lend (.t 20)])⟩,
          ⟨(some 1), none, .a (.asg (.t 21))⟩])
        (.seq
         (.seq
          (.reg [⟨(some 22), none, .q (.mov (.t 1))⟩,
            ⟨(some 23), none, .q (.bin false .lss (.t 22) (.c (.int .i64 0)))⟩])
          (.cond (.t 23)
           (.seq
            (.reg [⟨(some 4), none, .a (.asg (.c (.int .i64 (-1))))⟩])
            .ret)
           .skip))
         (.seq
          (.reg [⟨(some 24), none, .q (.fad 3 (.t 2))⟩,
            ⟨(some 25), none, .q (.load false 1 (.t 24))⟩,
            ⟨(some 26), none, .q (.mov (.t 1))⟩,
            ⟨(some 27), none, .a (.call (.fn 87) false [.lend (.t 25), .lend (.t 26)])⟩,
            ⟨(some 1), none, .a (.asg (.t 27))⟩])
          (.seq
           (.seq
            (.reg [⟨(some 28), none, .q (.mov (.t 1))⟩,
              ⟨(some 29), none, .q (.bin false .lss (.t 28) (.c (.int .i64 0)))⟩])
            (.cond (.t 29)
             (.seq
              (.reg [⟨(some 4), none, .a (.asg (.c (.int .i64 (-1))))⟩])
              .ret)
             .skip))
           (.seq
            (.reg [⟨(some 30), none, .q (.fad 4 (.t 2))⟩,
              ⟨(some 31), none, .q (.load false 1 (.t 30))⟩,
              ⟨(some 32), none, .q (.mov (.t 1))⟩,
              ⟨(some 33), none, .a (.call (.fn 88) false [.lend (.t 31), .lend (.t 32)])⟩,
              ⟨(some 1), none, .a (.asg (.t 33))⟩])
            (.seq
             (.seq
              (.reg [⟨(some 34), none, .q (.mov (.t 1))⟩,
                ⟨(some 35), none, .q (.bin false .lss (.t 34) (.c (.int .i64 0)))⟩])
              (.cond (.t 35)
               (.seq
                (.reg [⟨(some 4), none, .a (.asg (.c (.int .i64 (-1))))⟩])
                .ret)
               .skip))
             (.seq
              (.reg [⟨(some 36), none, .q (.mov (.t 1))⟩,
                ⟨(some 4), none, .a (.asg (.t 36))⟩])
              .ret))))))))))))

set_option maxRecDepth 100000 in
theorem d27 (s : Scope) (k : Int) (h0 : 0 ≤ k) (h1 : k ≤ 1048576) (hok : s.ok) : Does Go.Proofs.Tryz.prog 27 [.agg s.z, .v (.int .i64 k)] false (.v (.int .i64 (szScope s k))) [.dead, .dead] := by
  unfold Scope.ok at hok
  refine does_intro (mc := m27) (N := 37) (rs := [4]) (fx := []) 2 rfl (by decide +kernel) ?_
  simp only [m27, Scope.z, EV, Nat.reduceEqDiff, Nat.reduceBEq, Nat.reduceLT, Nat.reduceLeDiff, Nat.reduceAdd, Nat.reduceSub, reduceIte]
  have b0 := hok.1
  have w0 := w64 (k - s.name.size) (by omega)
  simp only [w0, EV, Nat.reduceEqDiff, Nat.reduceBEq, Nat.reduceLT, Nat.reduceLeDiff, Nat.reduceAdd, Nat.reduceSub, reduceIte]
  refine cK_cut (fun h => ?_) (fun h => ?_)
  · have g0 : k - s.name.size < 0 := by simpa using h
    have e : szScope s k = -1 := by unfold szScope; rw [if_pos g0]
    simp only [EV, Nat.reduceEqDiff, Nat.reduceBEq, Nat.reduceLT, Nat.reduceLeDiff, Nat.reduceAdd, Nat.reduceSub, reduceIte]
    simp only [e, EV, Nat.reduceEqDiff, Nat.reduceBEq, Nat.reduceLT, Nat.reduceLeDiff, Nat.reduceAdd, Nat.reduceSub, reduceIte, evRE, retVC, cellV', evR, nfz, nfzs, nfzss, List.contains_nil, List.contains_cons, Bool.or_false, or_true]
  · have g0 : ¬ k - s.name.size < 0 := by simpa using h
    simp only [EV, Nat.reduceEqDiff, Nat.reduceBEq, Nat.reduceLT, Nat.reduceLeDiff, Nat.reduceAdd, Nat.reduceSub, reduceIte]
    have l1 := szStrS_le s.imports (k - s.name.size) (by omega)
    refine callK_i (d85 s.imports (k - s.name.size) (by omega) (by omega) (hok.2.1).1 (hok.2.1).2) ?_
    simp only [EV, Nat.reduceEqDiff, Nat.reduceBEq, Nat.reduceLT, Nat.reduceLeDiff, Nat.reduceAdd, Nat.reduceSub, reduceIte]
    refine cK_cut (fun h => ?_) (fun h => ?_)
    · have g1 : szStrS s.imports (k - s.name.size) < 0 := by simpa using h
      have e : szScope s k = -1 := by unfold szScope; rw [if_neg g0, if_pos g1]
      simp only [EV, Nat.reduceEqDiff, Nat.reduceBEq, Nat.reduceLT, Nat.reduceLeDiff, Nat.reduceAdd, Nat.reduceSub, reduceIte]
      simp only [e, EV, Nat.reduceEqDiff, Nat.reduceBEq, Nat.reduceLT, Nat.reduceLeDiff, Nat.reduceAdd, Nat.reduceSub, reduceIte, evRE, retVC, cellV', evR, nfz, nfzs, nfzss, List.contains_nil, List.contains_cons, Bool.or_false, or_true]
    · have g1 : ¬ szStrS s.imports (k - s.name.size) < 0 := by simpa using h
      simp only [EV, Nat.reduceEqDiff, Nat.reduceBEq, Nat.reduceLT, Nat.reduceLeDiff, Nat.reduceAdd, Nat.reduceSub, reduceIte]
      have l2 := szTyS_le s.types (szStrS s.imports (k - s.name.size)) (by omega)
      refine callK_i (d86 s.types (szStrS s.imports (k - s.name.size)) (by omega) (by omega) (hok.2.2.1).1 (hok.2.2.1).2) ?_
      simp only [EV, Nat.reduceEqDiff, Nat.reduceBEq, Nat.reduceLT, Nat.reduceLeDiff, Nat.reduceAdd, Nat.reduceSub, reduceIte]
      refine cK_cut (fun h => ?_) (fun h => ?_)
      · have g2 : szTyS s.types (szStrS s.imports (k - s.name.size)) < 0 := by simpa using h
        have e : szScope s k = -1 := by unfold szScope; rw [if_neg g0, if_neg g1, if_pos g2]
        simp only [EV, Nat.reduceEqDiff, Nat.reduceBEq, Nat.reduceLT, Nat.reduceLeDiff, Nat.reduceAdd, Nat.reduceSub, reduceIte]
        simp only [e, EV, Nat.reduceEqDiff, Nat.reduceBEq, Nat.reduceLT, Nat.reduceLeDiff, Nat.reduceAdd, Nat.reduceSub, reduceIte, evRE, retVC, cellV', evR, nfz, nfzs, nfzss, List.contains_nil, List.contains_cons, Bool.or_false, or_true]
      · have g2 : ¬ szTyS s.types (szStrS s.imports (k - s.name.size)) < 0 := by simpa using h
        simp only [EV, Nat.reduceEqDiff, Nat.reduceBEq, Nat.reduceLT, Nat.reduceLeDiff, Nat.reduceAdd, Nat.reduceSub, reduceIte]
        have l3 := szObS_le s.objects (szTyS s.types (szStrS s.imports (k - s.name.size))) (by omega)
        refine callK_i (d87 s.objects (szTyS s.types (szStrS s.imports (k - s.name.size))) (by omega) (by omega) (hok.2.2.2.1).1 (hok.2.2.2.1).2) ?_
        simp only [EV, Nat.reduceEqDiff, Nat.reduceBEq, Nat.reduceLT, Nat.reduceLeDiff, Nat.reduceAdd, Nat.reduceSub, reduceIte]
        refine cK_cut (fun h => ?_) (fun h => ?_)
        · have g3 : szObS s.objects (szTyS s.types (szStrS s.imports (k - s.name.size))) < 0 := by simpa using h
          have e : szScope s k = -1 := by unfold szScope; rw [if_neg g0, if_neg g1, if_neg g2, if_pos g3]
          simp only [EV, Nat.reduceEqDiff, Nat.reduceBEq, Nat.reduceLT, Nat.reduceLeDiff, Nat.reduceAdd, Nat.reduceSub, reduceIte]
          simp only [e, EV, Nat.reduceEqDiff, Nat.reduceBEq, Nat.reduceLT, Nat.reduceLeDiff, Nat.reduceAdd, Nat.reduceSub, reduceIte, evRE, retVC, cellV', evR, nfz, nfzs, nfzss, List.contains_nil, List.contains_cons, Bool.or_false, or_true]
        · have g3 : ¬ szObS s.objects (szTyS s.types (szStrS s.imports (k - s.name.size))) < 0 := by simpa using h
          simp only [EV, Nat.reduceEqDiff, Nat.reduceBEq, Nat.reduceLT, Nat.reduceLeDiff, Nat.reduceAdd, Nat.reduceSub, reduceIte]
          have l4 := szUsS_le s.uses (szObS s.objects (szTyS s.types (szStrS s.imports (k - s.name.size)))) (by omega)
          refine callK_i (d88 s.uses (szObS s.objects (szTyS s.types (szStrS s.imports (k - s.name.size)))) (by omega) (by omega) (hok.2.2.2.2).1 (hok.2.2.2.2).2) ?_
          simp only [EV, Nat.reduceEqDiff, Nat.reduceBEq, Nat.reduceLT, Nat.reduceLeDiff, Nat.reduceAdd, Nat.reduceSub, reduceIte]
          refine cK_cut (fun h => ?_) (fun h => ?_)
          · have g4 : szUsS s.uses (szObS s.objects (szTyS s.types (szStrS s.imports (k - s.name.size)))) < 0 := by simpa using h
            have e : szScope s k = -1 := by unfold szScope; rw [if_neg g0, if_neg g1, if_neg g2, if_neg g3, if_pos g4]
            simp only [EV, Nat.reduceEqDiff, Nat.reduceBEq, Nat.reduceLT, Nat.reduceLeDiff, Nat.reduceAdd, Nat.reduceSub, reduceIte]
            simp only [e, EV, Nat.reduceEqDiff, Nat.reduceBEq, Nat.reduceLT, Nat.reduceLeDiff, Nat.reduceAdd, Nat.reduceSub, reduceIte, evRE, retVC, cellV', evR, nfz, nfzs, nfzss, List.contains_nil, List.contains_cons, Bool.or_false, or_true]
          · have g4 : ¬ szUsS s.uses (szObS s.objects (szTyS s.types (szStrS s.imports (k - s.name.size)))) < 0 := by simpa using h
            simp only [EV, Nat.reduceEqDiff, Nat.reduceBEq, Nat.reduceLT, Nat.reduceLeDiff, Nat.reduceAdd, Nat.reduceSub, reduceIte]
            have e : szScope s k = szUsS s.uses (szObS s.objects (szTyS s.types (szStrS s.imports (k - s.name.size)))) := by unfold szScope; rw [if_neg g0, if_neg g1, if_neg g2, if_neg g3, if_neg g4]
            simp only [e, EV, Nat.reduceEqDiff, Nat.reduceBEq, Nat.reduceLT, Nat.reduceLeDiff, Nat.reduceAdd, Nat.reduceSub, reduceIte, evRE, retVC, cellV', evR, nfz, nfzs, nfzss, List.contains_nil, List.contains_cons, Bool.or_false, or_true]

/-- loop.example/g00837/laws.toScope -/
def m28 : MC :=
  (.seq
   (.reg [⟨(some 1), none, .a (.box 59 (.t 0))⟩,
     ⟨(some 2), none, .a (.alloc 45 [.v (.string ({ data := #[] })), .s 9 1, .s 40 6, .s 52 6, .s 155 2])⟩])
   (.seq
    (.reg [⟨(some 3), none, .a (.alloc 45 [.v (.string ({ data := #[] })), .s 9 1, .s 40 6, .s 52 6, .s 155 2])⟩])
    (.seq
     (.reg [⟨(some 4), none, .q (.fad 0 (.t 1))⟩,
       ⟨(some 5), none, .q (.load false 1 (.t 4))⟩,
       ⟨(some 6), none, .q (.fad 0 (.t 3))⟩,
       ⟨none, none, .a (.store 1 (.t 6) (.t 5))⟩])
     (.seq
      (.reg [⟨(some 7), none, .q (.fad 1 (.t 1))⟩,
        ⟨(some 8), none, .q (.load false 1 (.t 7))⟩,
        ⟨(some 9), none, .a (.call (.fn 89) false [.lend (.t 8)])⟩,
        ⟨(some 10), none, .q (.fad 1 (.t 3))⟩,
        ⟨none, none, .a (.store 1 (.t 10) (.t 9))⟩])
      (.seq
       (.reg [⟨(some 11), none, .q (.fad 2 (.t 1))⟩,
         ⟨(some 12), none, .q (.load false 1 (.t 11))⟩,
         ⟨(some 13), none, .a (.call (.fn 90) false [.lend (.t 12)])⟩,
         ⟨(some 14), none, .q (.fad 2 (.t 3))⟩,
         ⟨none, none, .a (.store 1 (.t 14) (.t 13))⟩])
       (.seq
        (.reg [⟨(some 15), none, .q (.fad 3 (.t 1))⟩,
          ⟨(some 16), none, .q (.load false 1 (.t 15))⟩,
          ⟨(some 17), none, .a (.call (.fn 91) false [.lend (.t 16)])⟩,
          ⟨(some 18), none, .q (.fad 3 (.t 3))⟩,
          ⟨none, none, .a (.store 1 (.t 18) (.t 17))⟩])
        (.seq
         (.reg [⟨(some 19), none, .q (.fad 4 (.t 1))⟩,
           ⟨(some 20), none, .q (.load false 1 (.t 19))⟩,
           ⟨(some 21), none, .a (.call (.fn 92) false [.lend (.t 20)])⟩,
           ⟨(some 22), none, .q (.fad 4 (.t 3))⟩,
           ⟨none, none, .a (.store 1 (.t 22) (.t 21))⟩])
         (.seq
          (.reg [⟨(some 23), none, .q (.load true 5 (.t 3))⟩,
            ⟨none, none, .a (.store 5 (.t 2) (.t 23))⟩])
          .ret))))))))

set_option maxRecDepth 100000 in
theorem d28 (s : Scope) (hs : s.sm) : Does Go.Proofs.Tryz.prog 28 [.agg s.z] false (.agg s.o) [.dead] := by
  unfold Scope.sm at hs
  refine does_introC (mc := m28) (N := 24) (r := 2) (ty := 45) (agg := true) (sz := 5) (fx := []) 1 rfl (by decide +kernel) ?_
  simp only [m28, Scope.z, Scope.o, EV, Nat.reduceEqDiff, Nat.reduceBEq, Nat.reduceLT, Nat.reduceLeDiff, Nat.reduceAdd, Nat.reduceSub, reduceIte]
  refine callK_i (d89 s.imports (hs.2.1).1 (hs.2.1).2) ?_
  simp only [pbeq, Scope.z, Scope.o, EV, Nat.reduceEqDiff, Nat.reduceBEq, Nat.reduceLT, Nat.reduceLeDiff, Nat.reduceAdd, Nat.reduceSub, reduceIte]
  refine callK_i (d90 s.types (hs.2.2.1).1 (hs.2.2.1).2) ?_
  simp only [pbeq, Scope.z, Scope.o, EV, Nat.reduceEqDiff, Nat.reduceBEq, Nat.reduceLT, Nat.reduceLeDiff, Nat.reduceAdd, Nat.reduceSub, reduceIte]
  refine callK_i (d91 s.objects (hs.2.2.2.1).1 (hs.2.2.2.1).2) ?_
  simp only [pbeq, Scope.z, Scope.o, EV, Nat.reduceEqDiff, Nat.reduceBEq, Nat.reduceLT, Nat.reduceLeDiff, Nat.reduceAdd, Nat.reduceSub, reduceIte]
  refine callK_i (d92 s.uses (hs.2.2.2.2).1 (hs.2.2.2.2).2) ?_
  simp only [pbeq, Scope.z, Scope.o, EV, Nat.reduceEqDiff, Nat.reduceBEq, Nat.reduceLT, Nat.reduceLeDiff, Nat.reduceAdd, Nat.reduceSub, reduceIte]
  simp only [Str.nfz, Ty.nfz, Fd.nfz, Ob.nfz, Par.nfz, Us.nfz, EV, Nat.reduceEqDiff, Nat.reduceBEq, Nat.reduceLT, Nat.reduceLeDiff, Nat.reduceAdd, Nat.reduceSub, reduceIte, evRE, retVC, cellV', evR, nfz, nfzs, nfzss, List.contains_nil, List.contains_cons, Bool.or_false, or_true]

/-- loop.example/g00837/laws.eqScope -/
def m30 : MC :=
  (.seq
   (.reg [⟨(some 2), none, .a (.box 45 (.t 0))⟩,
     ⟨(some 3), none, .a (.box 45 (.t 1))⟩,
     ⟨(some 4), none, .a (.asg (.c (.bool false)))⟩])
   (.seq
    (.seq
     (.reg [⟨(some 5), none, .q (.fad 0 (.t 2))⟩,
       ⟨(some 6), none, .q (.load false 1 (.t 5))⟩,
       ⟨(some 7), none, .q (.fad 0 (.t 3))⟩,
       ⟨(some 8), none, .q (.load false 1 (.t 7))⟩,
       ⟨(some 9), none, .q (.bin false .neq (.t 6) (.t 8))⟩])
     (.cond (.t 9)
      (.seq
       (.reg [⟨(some 4), none, .a (.asg (.c (.bool false)))⟩])
       .ret)
      .skip))
    (.seq
     (.seq
      (.reg [⟨(some 10), none, .q (.fad 1 (.t 2))⟩,
        ⟨(some 11), none, .q (.load false 1 (.t 10))⟩,
        ⟨(some 12), none, .q (.fad 1 (.t 3))⟩,
        ⟨(some 13), none, .q (.load false 1 (.t 12))⟩,
        ⟨(some 14), none, .a (.call (.fn 93) false [.lend (.t 11), .lend (.t 13)])⟩,
        ⟨(some 15), none, .q (.un .not (.t 14))⟩])
      (.cond (.t 15)
       (.seq
        (.reg [⟨(some 4), none, .a (.asg (.c (.bool false)))⟩])
        .ret)
       .skip))
     (.seq
      (.seq
       (.reg [⟨(some 16), none, .q (.fad 2 (.t 2))⟩,
         ⟨(some 17), none, .q (.load false 1 (.t 16))⟩,
         ⟨(some 18), none, .q (.fad 2 (.t 3))⟩,
         ⟨(some 19), none, .q (.load false 1 (.t 18))⟩,
         ⟨(some 20), none, .a (.call (.fn 94) false [.lend (.t 17), .lend (.t 19)])⟩,
         ⟨(some 21), none, .q (.un .not (.t 20))⟩])
       (.cond (.t 21)
        (.seq
         (.reg [⟨(some 4), none, .a (.asg (.c (.bool false)))⟩])
         .ret)
        .skip))
      (.seq
       (.seq
        (.reg [⟨(some 22), none, .q (.fad 3 (.t 2))⟩,
          ⟨(some 23), none, .q (.load false 1 (.t 22))⟩,
          ⟨(some 24), none, .q (.fad 3 (.t 3))⟩,
          ⟨(some 25), none, .q (.load false 1 (.t 24))⟩,
          ⟨(some 26), none, .a (.call (.fn 95) false [.lend (.t 23), .lend (.t 25)])⟩,
          ⟨(some 27), none, .q (.un .not (.t 26))⟩])
        (.cond (.t 27)
         (.seq
          (.reg [⟨(some 4), none, .a (.asg (.c (.bool false)))⟩])
          .ret)
         .skip))
       (.seq
        (.seq
         (.reg [⟨(some 28), none, .q (.fad 4 (.t 2))⟩,
           ⟨(some 29), none, .q (.load false 1 (.t 28))⟩,
           ⟨(some 30), none, .q (.fad 4 (.t 3))⟩,
           ⟨(some 31), none, .q (.load false 1 (.t 30))⟩,
           ⟨(some 32), none, .a (.call (.fn 96) false [.lend (.t 29), .lend (.t 31)])⟩,
           ⟨(some 33), none, .q (.un .not (.t 32))⟩])
         (.cond (.t 33)
          (.seq
           (.reg [⟨(some 4), none, .a (.asg (.c (.bool false)))⟩])
           .ret)
          .skip))
        (.seq
         (.reg [⟨(some 4), none, .a (.asg (.c (.bool true)))⟩])
         .ret)))))))

set_option maxRecDepth 100000 in
theorem d30 (s : Scope) (hs : s.sm) : Does Go.Proofs.Tryz.prog 30 [.agg s.z, .agg s.z] false (.v (.bool true)) [.dead, .dead] := by
  unfold Scope.sm at hs
  refine does_intro (mc := m30) (N := 34) (rs := [4]) (fx := []) 2 rfl (by decide +kernel) ?_
  simp only [m30, Scope.z, EV, Nat.reduceEqDiff, Nat.reduceBEq, Nat.reduceLT, Nat.reduceLeDiff, Nat.reduceAdd, Nat.reduceSub, reduceIte]
  refine callK_i (d93 s.imports (hs.2.1).1 (hs.2.1).2) ?_
  simp only [Scope.z, EV, Nat.reduceEqDiff, Nat.reduceBEq, Nat.reduceLT, Nat.reduceLeDiff, Nat.reduceAdd, Nat.reduceSub, reduceIte]
  refine callK_i (d94 s.types (hs.2.2.1).1 (hs.2.2.1).2) ?_
  simp only [Scope.z, EV, Nat.reduceEqDiff, Nat.reduceBEq, Nat.reduceLT, Nat.reduceLeDiff, Nat.reduceAdd, Nat.reduceSub, reduceIte]
  refine callK_i (d95 s.objects (hs.2.2.2.1).1 (hs.2.2.2.1).2) ?_
  simp only [Scope.z, EV, Nat.reduceEqDiff, Nat.reduceBEq, Nat.reduceLT, Nat.reduceLeDiff, Nat.reduceAdd, Nat.reduceSub, reduceIte]
  refine callK_i (d96 s.uses (hs.2.2.2.2).1 (hs.2.2.2.2).2) ?_
  simp only [Scope.z, EV, Nat.reduceEqDiff, Nat.reduceBEq, Nat.reduceLT, Nat.reduceLeDiff, Nat.reduceAdd, Nat.reduceSub, reduceIte]
  simp only [EV, Nat.reduceEqDiff, Nat.reduceBEq, Nat.reduceLT, Nat.reduceLeDiff, Nat.reduceAdd, Nat.reduceSub, reduceIte, evRE, retVC, cellV', evR, nfz, nfzs, nfzss, List.contains_nil, List.contains_cons, Bool.or_false, or_true]

end Go.AM
namespace Go.AM
set_option linter.unusedVariables false
set_option linter.unusedSimpArgs false
structure Modu where
  scope : Scope
  seen : List Seen

def Modu.z (s : Modu) : List AV := s.scope.z ++ [.fsl 3 (s.seen.map Seen.z)]

end Go.AM
namespace Go.AM
set_option linter.unusedVariables false
set_option linter.unusedSimpArgs false
def eqTo {α : Type} (q : α → α → Bool) (a b : List α) (n : Nat) : Prop := ∀ j (ha : j < a.length) (hb : j < b.length), j < n → q a[j] b[j] = true

open Classical in
noncomputable def eqL {α : Type} (q : α → α → Bool) (a b : List α) : Bool := decide (a.length = b.length ∧ eqTo q a b a.length)

theorem eqTo_succ {α : Type} {q : α → α → Bool} {a b : List α} {i : Nat} {h1 : i < a.length} {h2 : i < b.length} (h : eqTo q a b i) (hq : q a[i] b[i] = true) : eqTo q a b (i + 1) := by
  intro j ha hb hj
  by_cases e : j = i
  · subst e; exact hq
  · exact h j ha hb (by omega)

theorem eqL_ne {α : Type} {q : α → α → Bool} {a b : List α} (h : ¬ a.length = b.length) : eqL q a b = false := by
  simp only [eqL, decide_eq_false_iff_not]
  rintro ⟨h1, _⟩
  exact h h1

theorem eqL_no {α : Type} {q : α → α → Bool} {a b : List α} {i : Nat} (h1 : i < a.length) (h2 : i < b.length) (hq : q a[i] b[i] = false) : eqL q a b = false := by
  simp only [eqL, decide_eq_false_iff_not]
  rintro ⟨_, h⟩
  have := h i h1 h2 h1
  rw [hq] at this; cases this

theorem eqL_yes {α : Type} {q : α → α → Bool} {a b : List α} (h : a.length = b.length) (h2 : eqTo q a b a.length) : eqL q a b = true := by
  simp only [eqL, decide_eq_true_eq]
  exact ⟨h, h2⟩

def qFd (x y : Fd) : Bool := x.name.toList == y.name.toList && (x.mark == y.mark && (x.typ == y.typ))

def qUs (x y : Us) : Bool := x.mod.toList == y.mod.toList && (x.name.toList == y.name.toList)

/-- slices.Equal[[]loop.example/g00837/impl.Field,loop.example/g00837/impl.Field] -/
def m226 : MC :=
  (.seq
   (.reg [⟨(some 4), none, .a (.asg (.c (.bool false)))⟩])
   (.seq
    (.seq
     (.reg [⟨(some 6), none, .q (.mov (.t 0))⟩,
       ⟨(some 7), none, .q (.len false (.t 6))⟩,
       ⟨(some 8), none, .q (.mov (.t 1))⟩,
       ⟨(some 9), none, .q (.len false (.t 8))⟩,
       ⟨(some 10), none, .q (.bin false .neq (.t 7) (.t 9))⟩])
     (.cond (.t 10)
      (.seq
       (.reg [⟨(some 4), none, .a (.asg (.c (.bool false)))⟩])
       .ret)
      .skip))
    (.seq
     (.seq
      (.reg [⟨(some 11), none, .q (.mov (.t 0))⟩,
        ⟨(some 12), none, .q (.len false (.t 11))⟩,
        ⟨(some 13), none, .q (.mov (.c (.int .i64 0)))⟩])
      (.block 0
       (.loop [0, 1, 12, 13]
        (.seq
         (.reg [⟨(some 14), none, .q (.bin false .lss (.t 13) (.t 12))⟩])
         (.seq
          (.cond (.t 14)
           .skip
           (.exit 0))
          (.seq
           (.block 1
            (.seq
             (.reg [⟨(some 15), none, .q (.mov (.t 13))⟩,
               ⟨(some 5), none, .a (.asg (.t 15))⟩])
             (.seq
              (.dreg [⟨(some 16), none, .q (.mov (.t 0))⟩,
                ⟨(some 17), none, .q (.mov (.t 5))⟩,
                ⟨(some 18), none, .q (.iad 3 (.t 16) (.t 17))⟩,
                ⟨(some 19), none, .q (.load true 3 (.t 18))⟩,
                ⟨(some 20), none, .q (.mov (.t 1))⟩,
                ⟨(some 21), none, .q (.mov (.t 5))⟩,
                ⟨(some 22), none, .q (.iad 3 (.t 20) (.t 21))⟩,
                ⟨(some 23), none, .q (.load true 3 (.t 22))⟩,
                ⟨(some 24), none, .q (.eqa true [1, 0, 0] (.t 19) (.t 23))⟩])
              (.cond (.t 24)
               (.seq
                (.reg [⟨(some 4), none, .a (.asg (.c (.bool false)))⟩])
                .ret)
               .skip))))
           (.reg [⟨(some 25), none, .q (.bin false .add (.t 13) (.c (.int .i64 1)))⟩,
             ⟨(some 13), none, .q (.mov (.t 25))⟩])))))))
     (.seq
      (.reg [⟨(some 4), none, .a (.asg (.c (.bool true)))⟩])
      .ret))))

theorem d226 (a b : List Fd) (ha : (a.length : Int) ≤ 1048576) (hb : (b.length : Int) ≤ 1048576) : Does Go.Proofs.Tryz.prog 226 [.fsl 3 (a.map Fd.z), .fsl 3 (b.map Fd.z)] false (.v (.bool (eqL qFd a b))) [.dead, .dead] := by
  refine does_intro (mc := m226) (N := 26) (rs := [4]) (fx := []) 2 rfl (by decide +kernel) ?_
  simp only [m226, EV, Nat.reduceEqDiff, Nat.reduceBEq, Nat.reduceLT, Nat.reduceLeDiff, Nat.reduceAdd, Nat.reduceSub, reduceIte]
  refine cK_cut (fun h => ?_) (fun h => ?_)
  · have h1 : ¬ a.length = b.length := by
      intro e; simp [e] at h
    simp only [EV, Nat.reduceEqDiff, Nat.reduceBEq, Nat.reduceLT, Nat.reduceLeDiff, Nat.reduceAdd, Nat.reduceSub, reduceIte]
    simp only [eqL_ne h1, EV, Nat.reduceEqDiff, Nat.reduceBEq, Nat.reduceLT, Nat.reduceLeDiff, Nat.reduceAdd, Nat.reduceSub, reduceIte, evRE, retVC, cellV', evR, nfz, nfzs, nfzss, List.contains_nil, List.contains_cons, Bool.or_false, or_true]
  · have hl : a.length = b.length := by
      have : ((a.length : Int) = b.length) := by simpa using h
      omega
    simp only [EV, Nat.reduceEqDiff, Nat.reduceBEq, Nat.reduceLT, Nat.reduceLeDiff, Nat.reduceAdd, Nat.reduceSub, reduceIte]
    refine awp_loop (fun i : Nat => i ≤ a.length ∧ eqTo qFd a b i) (fun i => stl [(0, .fsl 3 (a.map Fd.z)), (1, .fsl 3 (b.map Fd.z)), (12, .v (.int .i64 (a.length : Int))), (13, .v (.int .i64 (i : Int)))]) (fun i => a.length - i) 0 ⟨Nat.zero_le _, fun j _ _ h => absurd h (by omega)⟩ ?_ ?_
    · simp only [EV, Nat.reduceEqDiff, Nat.reduceBEq, Nat.reduceLT, Nat.reduceLeDiff, Nat.reduceAdd, Nat.reduceSub, reduceIte]
      rfl
    · rintro i ⟨hi, hto⟩
      simp only [EV, Nat.reduceEqDiff, Nat.reduceBEq, Nat.reduceLT, Nat.reduceLeDiff, Nat.reduceAdd, Nat.reduceSub, reduceIte]
      refine cK_cut (fun h => ?_) (fun h => ?_)
      · have h1 : i < a.length := by simpa using h
        have h2 : (i : Int) < (a.length : Int) := by omega
        have g1 : i < b.length := by omega
        have g2 : (i : Int) < (b.length : Int) := by omega
        simp only [nth_map h1, nth_map g1, h2, g2, Fd.z, Bool.true_xor, EV, Nat.reduceEqDiff, Nat.reduceBEq, Nat.reduceLT, Nat.reduceLeDiff, Nat.reduceAdd, Nat.reduceSub, reduceIte]
        refine cK_cut (fun h => ?_) (fun h => ?_)
        · have hq : qFd a[i] b[i] = false := by unfold qFd; simp only [Bool.not_eq_true'] at h; exact h
          simp only [EV, Nat.reduceEqDiff, Nat.reduceBEq, Nat.reduceLT, Nat.reduceLeDiff, Nat.reduceAdd, Nat.reduceSub, reduceIte]
          simp only [eqL_no h1 g1 hq, EV, Nat.reduceEqDiff, Nat.reduceBEq, Nat.reduceLT, Nat.reduceLeDiff, Nat.reduceAdd, Nat.reduceSub, reduceIte, evRE, retVC, cellV', evR, nfz, nfzs, nfzss, List.contains_nil, List.contains_cons, Bool.or_false, or_true]
        · have hq : qFd a[i] b[i] = true := by unfold qFd; simp only [Bool.not_eq_false'] at h; exact h
          simp only [EV, Nat.reduceEqDiff, Nat.reduceBEq, Nat.reduceLT, Nat.reduceLeDiff, Nat.reduceAdd, Nat.reduceSub, reduceIte]
          rw [w64 _ (by omega)]
          exact ⟨i + 1, ⟨by omega, eqTo_succ hto hq⟩, by omega, rfl⟩
      · have h1 : i = a.length := by have : ¬ (i : Int) < a.length := by simpa using h
                                     omega
        subst h1
        simp only [EV, Nat.reduceEqDiff, Nat.reduceBEq, Nat.reduceLT, Nat.reduceLeDiff, Nat.reduceAdd, Nat.reduceSub, reduceIte]
        simp only [eqL_yes hl hto, EV, Nat.reduceEqDiff, Nat.reduceBEq, Nat.reduceLT, Nat.reduceLeDiff, Nat.reduceAdd, Nat.reduceSub, reduceIte, evRE, retVC, cellV', evR, nfz, nfzs, nfzss, List.contains_nil, List.contains_cons, Bool.or_false, or_true]

/-- slices.EqualFunc[[]loop.example/g00837/impl.Type,[]loop.example/g00837/impl.Type,loop.example/g00837/impl.Type,loop.example/g00837/impl.Type] -/
def m185 : MC :=
  (.seq
   (.reg [⟨(some 6), none, .a (.asg (.c (.bool false)))⟩])
   (.seq
    (.seq
     (.reg [⟨(some 10), none, .q (.mov (.t 0))⟩,
       ⟨(some 11), none, .q (.len false (.t 10))⟩,
       ⟨(some 12), none, .q (.mov (.t 1))⟩,
       ⟨(some 13), none, .q (.len false (.t 12))⟩,
       ⟨(some 14), none, .q (.bin false .neq (.t 11) (.t 13))⟩])
     (.cond (.t 14)
      (.seq
       (.reg [⟨(some 6), none, .a (.asg (.c (.bool false)))⟩])
       .ret)
      .skip))
    (.seq
     (.seq
      (.reg [⟨(some 15), none, .q (.mov (.t 0))⟩,
        ⟨(some 16), none, .q (.len false (.t 15))⟩,
        ⟨(some 17), none, .q (.mov (.c (.int .i64 0)))⟩])
      (.block 0
       (.loop [0, 1, 2, 15, 16, 17]
        (.seq
         (.reg [⟨(some 18), none, .q (.bin false .lss (.t 17) (.t 16))⟩])
         (.seq
          (.cond (.t 18)
           .skip
           (.exit 0))
          (.seq
           (.block 1
            (.seq
             (.reg [⟨(some 19), none, .q (.mov (.t 17))⟩,
               ⟨(some 20), none, .q (.iad 6 (.t 15) (.t 17))⟩,
               ⟨(some 21), none, .q (.load true 6 (.t 20))⟩,
               ⟨(some 8), none, .a (.alloc 40 [.v (.int .i64 0), .v (.int .i64 0), .v (.int .i64 0), .s 97 3, .v (.string ({ data := #[] })), .v (.string ({ data := #[] }))])⟩,
               ⟨(some 7), none, .a (.asg (.t 19))⟩,
               ⟨none, none, .a (.store 6 (.t 8) (.t 21))⟩])
             (.seq
              (.reg [⟨(some 22), none, .q (.mov (.t 1))⟩,
                ⟨(some 23), none, .q (.mov (.t 7))⟩,
                ⟨(some 24), none, .q (.iad 6 (.t 22) (.t 23))⟩,
                ⟨(some 25), none, .q (.load true 6 (.t 24))⟩,
                ⟨(some 9), none, .a (.alloc 40 [.v (.int .i64 0), .v (.int .i64 0), .v (.int .i64 0), .s 97 3, .v (.string ({ data := #[] })), .v (.string ({ data := #[] }))])⟩,
                ⟨none, none, .a (.store 6 (.t 9) (.t 25))⟩])
              (.seq
               (.reg [⟨(some 26), none, .q (.mov (.t 2))⟩,
                 ⟨(some 27), none, .q (.load true 6 (.t 8))⟩,
                 ⟨(some 28), none, .q (.load true 6 (.t 9))⟩,
                 ⟨(some 29), none, .a (.call (.t 26) false [.lend (.t 27), .lend (.t 28)])⟩,
                 ⟨(some 30), none, .q (.un .not (.t 29))⟩])
               (.cond (.t 30)
                (.seq
                 (.reg [⟨(some 6), none, .a (.asg (.c (.bool false)))⟩])
                 .ret)
                .skip)))))
           (.reg [⟨(some 31), none, .q (.bin false .add (.t 17) (.c (.int .i64 1)))⟩,
             ⟨(some 17), none, .q (.mov (.t 31))⟩])))))))
     (.seq
      (.reg [⟨(some 6), none, .a (.asg (.c (.bool true)))⟩])
      .ret))))

set_option maxRecDepth 100000 in
theorem d185 (a b : List Ty) (ha : (a.length : Int) ≤ 1048576) (hb : (b.length : Int) ≤ 1048576) (f : Nat) (q : Ty → Ty → Bool) (hq : ∀ x ∈ a, ∀ y ∈ b, Does Go.Proofs.Tryz.prog f [.agg x.z, .agg y.z] false (.v (.bool (q x y))) [.dead, .dead]) :
    Does Go.Proofs.Tryz.prog 185 [.fsl 6 (a.map Ty.z), .fsl 6 (b.map Ty.z), .clo f []] false (.v (.bool (eqL q a b))) [.dead, .dead, .dead] := by
  refine does_intro (mc := m185) (N := 32) (rs := [6]) (fx := []) 3 rfl (by decide +kernel) ?_
  simp only [m185, EV, Nat.reduceEqDiff, Nat.reduceBEq, Nat.reduceLT, Nat.reduceLeDiff, Nat.reduceAdd, Nat.reduceSub, reduceIte]
  refine cK_cut (fun h => ?_) (fun h => ?_)
  · have h1 : ¬ a.length = b.length := by
      intro e; simp [e] at h
    simp only [EV, Nat.reduceEqDiff, Nat.reduceBEq, Nat.reduceLT, Nat.reduceLeDiff, Nat.reduceAdd, Nat.reduceSub, reduceIte]
    simp only [eqL_ne h1, EV, Nat.reduceEqDiff, Nat.reduceBEq, Nat.reduceLT, Nat.reduceLeDiff, Nat.reduceAdd, Nat.reduceSub, reduceIte, evRE, retVC, cellV', evR, nfz, nfzs, nfzss, List.contains_nil, List.contains_cons, Bool.or_false, or_true]
  · have hl : a.length = b.length := by
      have : ((a.length : Int) = b.length) := by simpa using h
      omega
    simp only [EV, Nat.reduceEqDiff, Nat.reduceBEq, Nat.reduceLT, Nat.reduceLeDiff, Nat.reduceAdd, Nat.reduceSub, reduceIte]
    refine awp_loop (fun i : Nat => i ≤ a.length ∧ eqTo q a b i) (fun i => stl [(0, .fsl 6 (a.map Ty.z)), (1, .fsl 6 (b.map Ty.z)), (2, .clo f []), (15, .fsl 6 (a.map Ty.z)), (16, .v (.int .i64 (a.length : Int))), (17, .v (.int .i64 (i : Int)))]) (fun i => a.length - i) 0 ⟨Nat.zero_le _, fun j _ _ h => absurd h (by omega)⟩ ?_ ?_
    · simp only [EV, Nat.reduceEqDiff, Nat.reduceBEq, Nat.reduceLT, Nat.reduceLeDiff, Nat.reduceAdd, Nat.reduceSub, reduceIte]
      rfl
    · rintro i ⟨hi, hto⟩
      simp only [EV, Nat.reduceEqDiff, Nat.reduceBEq, Nat.reduceLT, Nat.reduceLeDiff, Nat.reduceAdd, Nat.reduceSub, reduceIte]
      refine cK_cut (fun h => ?_) (fun h => ?_)
      · have h1 : i < a.length := by simpa using h
        have h2 : (i : Int) < (a.length : Int) := by omega
        have g1 : i < b.length := by omega
        have g2 : (i : Int) < (b.length : Int) := by omega
        simp only [nth_map h1, nth_map g1, h2, g2, Ty.z, EV, Nat.reduceEqDiff, Nat.reduceBEq, Nat.reduceLT, Nat.reduceLeDiff, Nat.reduceAdd, Nat.reduceSub, reduceIte]
        refine callK_i (hq a[i] (List.getElem_mem h1) b[i] (List.getElem_mem g1)) ?_
        simp only [EV, Nat.reduceEqDiff, Nat.reduceBEq, Nat.reduceLT, Nat.reduceLeDiff, Nat.reduceAdd, Nat.reduceSub, reduceIte]
        refine cK_cut (fun h => ?_) (fun h => ?_)
        · have hq : q a[i] b[i] = false := by simpa using h
          simp only [EV, Nat.reduceEqDiff, Nat.reduceBEq, Nat.reduceLT, Nat.reduceLeDiff, Nat.reduceAdd, Nat.reduceSub, reduceIte]
          simp only [eqL_no h1 g1 hq, EV, Nat.reduceEqDiff, Nat.reduceBEq, Nat.reduceLT, Nat.reduceLeDiff, Nat.reduceAdd, Nat.reduceSub, reduceIte, evRE, retVC, cellV', evR, nfz, nfzs, nfzss, List.contains_nil, List.contains_cons, Bool.or_false, or_true]
        · have hq : q a[i] b[i] = true := by simpa using h
          simp only [EV, Nat.reduceEqDiff, Nat.reduceBEq, Nat.reduceLT, Nat.reduceLeDiff, Nat.reduceAdd, Nat.reduceSub, reduceIte]
          rw [w64 _ (by omega)]
          exact ⟨i + 1, ⟨by omega, eqTo_succ hto hq⟩, by omega, rfl⟩
      · have h1 : i = a.length := by have : ¬ (i : Int) < a.length := by simpa using h
                                     omega
        subst h1
        simp only [EV, Nat.reduceEqDiff, Nat.reduceBEq, Nat.reduceLT, Nat.reduceLeDiff, Nat.reduceAdd, Nat.reduceSub, reduceIte]
        simp only [eqL_yes hl hto, EV, Nat.reduceEqDiff, Nat.reduceBEq, Nat.reduceLT, Nat.reduceLeDiff, Nat.reduceAdd, Nat.reduceSub, reduceIte, evRE, retVC, cellV', evR, nfz, nfzs, nfzss, List.contains_nil, List.contains_cons, Bool.or_false, or_true]

end Go.AM
namespace Go.AM
set_option linter.unusedVariables false
set_option linter.unusedSimpArgs false
noncomputable def sameTy (x y : Ty) : Bool := ((x.kind == y.kind) && ((x.long == y.long) && ((x.base == y.base) && ((eqL qFd x.fields y.fields) && ((x.owner.toList == y.owner.toList) && (x.name.toList == y.name.toList))))))

/-- loop.example/g00837/impl.sameType -/
def m186 : MC :=
  (.seq
   (.reg [⟨(some 2), none, .a (.box 40 (.t 0))⟩,
     ⟨(some 3), none, .a (.box 40 (.t 1))⟩,
     ⟨(some 4), none, .a (.asg (.c (.bool false)))⟩])
   (.seq
    (.reg [⟨(some 5), none, .q (.fad 0 (.t 2))⟩,
      ⟨(some 6), none, .q (.load false 1 (.t 5))⟩,
      ⟨(some 7), none, .q (.fad 0 (.t 3))⟩,
      ⟨(some 8), none, .q (.load false 1 (.t 7))⟩,
      ⟨(some 9), none, .q (.bin false .eql (.t 6) (.t 8))⟩,
      ⟨(some 10), none, .q (.mov (.t 9))⟩,
      ⟨(some 11), (some (10, true)), .q (.fad 1 (.t 2))⟩,
      ⟨(some 12), (some (10, true)), .q (.load false 1 (.t 11))⟩,
      ⟨(some 13), (some (10, true)), .q (.fad 1 (.t 3))⟩,
      ⟨(some 14), (some (10, true)), .q (.load false 1 (.t 13))⟩,
      ⟨(some 15), (some (10, true)), .q (.bin false .eql (.t 12) (.t 14))⟩,
      ⟨(some 16), none, .q (.pick (.t 10) (.t 15) (.c (.bool false)))⟩,
      ⟨(some 17), none, .q (.mov (.t 16))⟩,
      ⟨(some 18), (some (17, true)), .q (.fad 2 (.t 2))⟩,
      ⟨(some 19), (some (17, true)), .q (.load false 1 (.t 18))⟩,
      ⟨(some 20), (some (17, true)), .q (.fad 2 (.t 3))⟩,
      ⟨(some 21), (some (17, true)), .q (.load false 1 (.t 20))⟩,
      ⟨(some 22), (some (17, true)), .q (.bin false .eql (.t 19) (.t 21))⟩,
      ⟨(some 23), none, .q (.pick (.t 17) (.t 22) (.c (.bool false)))⟩,
      ⟨(some 24), none, .q (.mov (.t 23))⟩,
      ⟨(some 25), (some (24, true)), .q (.fad 3 (.t 2))⟩,
      ⟨(some 26), (some (24, true)), .q (.load false 1 (.t 25))⟩,
      ⟨(some 27), (some (24, true)), .q (.fad 3 (.t 3))⟩,
      ⟨(some 28), (some (24, true)), .q (.load false 1 (.t 27))⟩,
      ⟨(some 29), (some (24, true)), .a (.call (.fn 226) false [.lend (.t 26), .lend (.t 28)])⟩,
      ⟨(some 30), none, .q (.pick (.t 24) (.t 29) (.c (.bool false)))⟩,
      ⟨(some 31), none, .q (.mov (.t 30))⟩,
      ⟨(some 32), (some (31, true)), .q (.fad 4 (.t 2))⟩,
      ⟨(some 33), (some (31, true)), .q (.load false 1 (.t 32))⟩,
      ⟨(some 34), (some (31, true)), .q (.fad 4 (.t 3))⟩,
      ⟨(some 35), (some (31, true)), .q (.load false 1 (.t 34))⟩,
      ⟨(some 36), (some (31, true)), .q (.bin false .eql (.t 33) (.t 35))⟩,
      ⟨(some 37), none, .q (.pick (.t 31) (.t 36) (.c (.bool false)))⟩,
      ⟨(some 38), none, .q (.mov (.t 37))⟩,
      ⟨(some 39), (some (38, true)), .q (.fad 5 (.t 2))⟩,
      ⟨(some 40), (some (38, true)), .q (.load false 1 (.t 39))⟩,
      ⟨(some 41), (some (38, true)), .q (.fad 5 (.t 3))⟩,
      ⟨(some 42), (some (38, true)), .q (.load false 1 (.t 41))⟩,
      ⟨(some 43), (some (38, true)), .q (.bin false .eql (.t 40) (.t 42))⟩,
      ⟨(some 44), none, .q (.pick (.t 38) (.t 43) (.c (.bool false)))⟩,
      ⟨(some 4), none, .a (.asg (.t 44))⟩])
    .ret))

set_option maxRecDepth 100000 in
theorem d186 (x y : Ty) (hx : x.sm) (hy : y.sm) : Does Go.Proofs.Tryz.prog 186 [.agg x.z, .agg y.z] false (.v (.bool (sameTy x y))) [.dead, .dead] := by
  unfold Ty.sm at hx hy
  refine does_intro (mc := m186) (N := 45) (rs := [4]) (fx := []) 2 rfl (by decide +kernel) ?_
  simp only [m186, Ty.z, EV, Nat.reduceEqDiff, Nat.reduceBEq, Nat.reduceLT, Nat.reduceLeDiff, Nat.reduceAdd, Nat.reduceSub, reduceIte]
  repeat' (first
    | (refine gK_cut (fun h => ?_) (fun h => ?_) <;> simp only [h, EV, Nat.reduceEqDiff, Nat.reduceBEq, Nat.reduceLT, Nat.reduceLeDiff, Nat.reduceAdd, Nat.reduceSub, reduceIte])
    | (refine cK_cut (fun h => ?_) (fun h => ?_) <;> simp only [h, EV, Nat.reduceEqDiff, Nat.reduceBEq, Nat.reduceLT, Nat.reduceLeDiff, Nat.reduceAdd, Nat.reduceSub, reduceIte])
    | (refine callK_i (d226 _ _ (by omega) (by omega)) ?_ <;> simp only [h, EV, Nat.reduceEqDiff, Nat.reduceBEq, Nat.reduceLT, Nat.reduceLeDiff, Nat.reduceAdd, Nat.reduceSub, reduceIte]))
  all_goals simp only [sameTy, *, Bool.true_and, Bool.false_and, Bool.and_true, Bool.and_false, Bool.and_self, EV, Nat.reduceEqDiff, Nat.reduceBEq, Nat.reduceLT, Nat.reduceLeDiff, Nat.reduceAdd, Nat.reduceSub, reduceIte, evRE, retVC, cellV', evR, nfz, nfzs, nfzss, List.contains_nil, List.contains_cons, Bool.or_false, or_true]

end Go.AM
namespace Go.AM
set_option linter.unusedVariables false
set_option linter.unusedSimpArgs false
def findI {α : Type} (q : α → Bool) (l : List α) : Int := match l.findIdx? q with | some i => i | none => -1

theorem findI_at {α : Type} {q : α → Bool} {l : List α} {i : Nat} (h : i < l.length) (h1 : q l[i] = true) (h2 : ∀ j (hj : j < l.length), j < i → q l[j] = false) : findI q l = i := by
  have : l.findIdx? q = some i := by
    rw [List.findIdx?_eq_some_iff_getElem]
    exact ⟨h, h1, fun j hj => by simp [h2 j (by omega) hj]⟩
  simp [findI, this]

theorem findI_no {α : Type} {q : α → Bool} {l : List α} (h2 : ∀ j (hj : j < l.length), q l[j] = false) : findI q l = -1 := by
  have : l.findIdx? q = none := by
    rw [List.findIdx?_eq_none_iff]
    intro x hx
    obtain ⟨j, hj, rfl⟩ := List.getElem_of_mem hx
    exact h2 j hj
  simp [findI, this]

theorem findI_any {α : Type} {q : α → Bool} {l : List α} : decide (0 ≤ findI q l) = l.any q := by
  unfold findI
  cases h : l.findIdx? q with
  | none =>
    rw [List.findIdx?_eq_none_iff] at h
    have : l.any q = false := by simp only [List.any_eq_false]; intro x hx; simp [h x hx]
    simp [this]
  | some i =>
    rw [List.findIdx?_eq_some_iff_getElem] at h
    obtain ⟨hi, h1, _⟩ := h
    have : l.any q = true := by rw [List.any_eq_true]; exact ⟨l[i], List.getElem_mem hi, h1⟩
    simp only [this]
    simp

/-- slices.IndexFunc[[]loop.example/g00837/impl.Type,loop.example/g00837/impl.Type] -/
def m227 : MC :=
  (.seq
   (.reg [⟨(some 4), none, .a (.asg (.c (.int .i64 0)))⟩])
   (.seq
    (.seq
     (.reg [⟨(some 6), none, .q (.mov (.t 0))⟩,
       ⟨(some 7), none, .q (.len false (.t 6))⟩,
       ⟨(some 8), none, .q (.mov (.c (.int .i64 0)))⟩])
     (.block 0
      (.loop [0, 1, 7, 8]
       (.seq
        (.reg [⟨(some 9), none, .q (.bin false .lss (.t 8) (.t 7))⟩])
        (.seq
         (.cond (.t 9)
          .skip
          (.exit 0))
         (.seq
          (.block 1
           (.seq
            (.reg [⟨(some 10), none, .q (.mov (.t 8))⟩,
              ⟨(some 5), none, .a (.asg (.t 10))⟩])
            (.seq
             (.reg [⟨(some 11), none, .q (.mov (.t 1))⟩,
               ⟨(some 12), none, .q (.mov (.t 0))⟩,
               ⟨(some 13), none, .q (.mov (.t 5))⟩,
               ⟨(some 14), none, .q (.iad 6 (.t 12) (.t 13))⟩,
               ⟨(some 15), none, .q (.load true 6 (.t 14))⟩,
               ⟨(some 16), none, .a (.call (.t 11) false [.lend (.t 15)])⟩])
             (.cond (.t 16)
              (.seq
               (.reg [⟨(some 17), none, .q (.mov (.t 5))⟩,
                 ⟨(some 4), none, .a (.asg (.t 17))⟩])
               .ret)
              .skip))))
          (.reg [⟨(some 18), none, .q (.bin false .add (.t 8) (.c (.int .i64 1)))⟩,
            ⟨(some 8), none, .q (.mov (.t 18))⟩])))))))
    (.seq
     (.reg [⟨(some 4), none, .a (.asg (.c (.int .i64 (-1))))⟩])
     .ret)))

theorem d227 (l : List Ty) (hl : l.length < 9223372036854775807) (f : Nat) (caps : List AV) (q : Ty → Bool) (hp : plains caps = true) (hb : bares caps = true) (hk : ∀ K, killVs K caps = caps) (hf : ∀ (st : St), frzBs st caps = caps)
    (hq : ∀ s ∈ l, Does Go.Proofs.Tryz.prog f (.agg s.z :: caps) false (.v (.bool (q s))) (.dead :: caps.map fun _ => .dead)) :
    Does Go.Proofs.Tryz.prog 227 [.fsl 6 (l.map Ty.z), .clo f caps] false (.v (.int .i64 (findI q l))) [.dead, .dead] := by
  refine does_intro (mc := m227) (N := 19) (rs := [4]) (fx := []) 2 rfl (by decide +kernel) ?_
  simp only [m227, EV, Nat.reduceEqDiff, Nat.reduceBEq, Nat.reduceLT, Nat.reduceLeDiff, Nat.reduceAdd, Nat.reduceSub, reduceIte]
  refine awp_loop (fun i : Nat => i ≤ l.length ∧ ∀ j (hj : j < l.length), j < i → q l[j] = false) (fun i => stl [(0, .fsl 6 (l.map Ty.z)), (1, .clo f caps), (7, .v (.int .i64 (l.length : Int))), (8, .v (.int .i64 (i : Int)))]) (fun i => l.length - i) 0 ⟨Nat.zero_le _, fun j hj h => absurd h (by omega)⟩ ?_ ?_
  · simp only [hp, hb, hk, EV, Nat.reduceEqDiff, Nat.reduceBEq, Nat.reduceLT, Nat.reduceLeDiff, Nat.reduceAdd, Nat.reduceSub, reduceIte]
    rfl
  · rintro i ⟨hi, hno⟩
    simp only [EV, Nat.reduceEqDiff, Nat.reduceBEq, Nat.reduceLT, Nat.reduceLeDiff, Nat.reduceAdd, Nat.reduceSub, reduceIte]
    refine cK_cut (fun h => ?_) (fun h => ?_)
    · have h1 : i < l.length := by simpa using h
      have h2 : (i : Int) < (l.length : Int) := by omega
      simp only [TyE, nth_map h1, h2, hp, hb, EV, Nat.reduceEqDiff, Nat.reduceBEq, Nat.reduceLT, Nat.reduceLeDiff, Nat.reduceAdd, Nat.reduceSub, reduceIte]
      refine callK_i (hq l[i] (List.getElem_mem h1)) ?_
      simp only [EV, Nat.reduceEqDiff, Nat.reduceBEq, Nat.reduceLT, Nat.reduceLeDiff, Nat.reduceAdd, Nat.reduceSub, reduceIte]
      refine cK_cut (fun h => ?_) (fun h => ?_)
      · simp only [EV, Nat.reduceEqDiff, Nat.reduceBEq, Nat.reduceLT, Nat.reduceLeDiff, Nat.reduceAdd, Nat.reduceSub, reduceIte]
        simp only [findI_at h1 h hno, EV, Nat.reduceEqDiff, Nat.reduceBEq, Nat.reduceLT, Nat.reduceLeDiff, Nat.reduceAdd, Nat.reduceSub, reduceIte, evRE, retVC, cellV', evR, nfz, nfzs, nfzss, List.contains_nil, List.contains_cons, Bool.or_false, or_true]
      · simp only [hp, hb, hk, EV, Nat.reduceEqDiff, Nat.reduceBEq, Nat.reduceLT, Nat.reduceLeDiff, Nat.reduceAdd, Nat.reduceSub, reduceIte]
        rw [w64 _ (by omega)]
        refine ⟨i + 1, ⟨by omega, ?_⟩, by omega, rfl⟩
        intro j hj hji
        by_cases e : j = i
        · subst e; exact h
        · exact hno j hj (by omega)
    · have h1 : i = l.length := by have : ¬ (i : Int) < l.length := by simpa using h
                                   omega
      subst h1
      simp only [EV, Nat.reduceEqDiff, Nat.reduceBEq, Nat.reduceLT, Nat.reduceLeDiff, Nat.reduceAdd, Nat.reduceSub, reduceIte]
      simp only [findI_no (fun j hj => hno j hj hj), EV, Nat.reduceEqDiff, Nat.reduceBEq, Nat.reduceLT, Nat.reduceLeDiff, Nat.reduceAdd, Nat.reduceSub, reduceIte, evRE, retVC, cellV', evR, nfz, nfzs, nfzss, List.contains_nil, List.contains_cons, Bool.or_false, or_true]

/-- slices.ContainsFunc[[]loop.example/g00837/impl.Type,loop.example/g00837/impl.Type] -/
def m187 : MC :=
  (.seq
   (.reg [⟨(some 4), none, .a (.asg (.c (.bool false)))⟩])
   (.seq
    (.reg [⟨(some 5), none, .q (.mov (.t 0))⟩,
      ⟨(some 6), none, .q (.mov (.t 1))⟩,
      ⟨(some 7), none, .a (.call (.fn 227) false [.lend (.t 5), .lend (.t 6)])⟩,
      ⟨(some 8), none, .q (.bin false .geq (.t 7) (.c (.int .i64 0)))⟩,
      ⟨(some 4), none, .a (.asg (.t 8))⟩])
    .ret))

theorem d187 (l : List Ty) (hl : l.length < 9223372036854775807) (f : Nat) (caps : List AV) (q : Ty → Bool) (hp : plains caps = true) (hb : bares caps = true) (hk : ∀ K, killVs K caps = caps) (hf : ∀ (st : St), frzBs st caps = caps)
    (hq : ∀ s ∈ l, Does Go.Proofs.Tryz.prog f (.agg s.z :: caps) false (.v (.bool (q s))) (.dead :: caps.map fun _ => .dead)) :
    Does Go.Proofs.Tryz.prog 187 [.fsl 6 (l.map Ty.z), .clo f caps] false (.v (.bool (l.any q))) [.dead, .dead] := by
  refine does_intro (mc := m187) (N := 9) (rs := [4]) (fx := []) 2 rfl (by decide +kernel) ?_
  simp only [m187, hp, hb, hk, hf, EV, Nat.reduceEqDiff, Nat.reduceBEq, Nat.reduceLT, Nat.reduceLeDiff, Nat.reduceAdd, Nat.reduceSub, reduceIte]
  refine callK_i (d227 l hl f caps q hp hb hk hf hq) ?_
  simp only [EV, Nat.reduceEqDiff, Nat.reduceBEq, Nat.reduceLT, Nat.reduceLeDiff, Nat.reduceAdd, Nat.reduceSub, reduceIte]
  simp only [findI_any, EV, Nat.reduceEqDiff, Nat.reduceBEq, Nat.reduceLT, Nat.reduceLeDiff, Nat.reduceAdd, Nat.reduceSub, reduceIte, evRE, retVC, cellV', evR, nfz, nfzs, nfzss, List.contains_nil, List.contains_cons, Bool.or_false, or_true]

/-- slices.IndexFunc[[]loop.example/g00837/impl.Field,loop.example/g00837/impl.Field] -/
def m285 : MC :=
  (.seq
   (.reg [⟨(some 4), none, .a (.asg (.c (.int .i64 0)))⟩])
   (.seq
    (.seq
     (.reg [⟨(some 6), none, .q (.mov (.t 0))⟩,
       ⟨(some 7), none, .q (.len false (.t 6))⟩,
       ⟨(some 8), none, .q (.mov (.c (.int .i64 0)))⟩])
     (.block 0
      (.loop [0, 1, 7, 8]
       (.seq
        (.reg [⟨(some 9), none, .q (.bin false .lss (.t 8) (.t 7))⟩])
        (.seq
         (.cond (.t 9)
          .skip
          (.exit 0))
         (.seq
          (.block 1
           (.seq
            (.reg [⟨(some 10), none, .q (.mov (.t 8))⟩,
              ⟨(some 5), none, .a (.asg (.t 10))⟩])
            (.seq
             (.reg [⟨(some 11), none, .q (.mov (.t 1))⟩,
               ⟨(some 12), none, .q (.mov (.t 0))⟩,
               ⟨(some 13), none, .q (.mov (.t 5))⟩,
               ⟨(some 14), none, .q (.iad 3 (.t 12) (.t 13))⟩,
               ⟨(some 15), none, .q (.load true 3 (.t 14))⟩,
               ⟨(some 16), none, .a (.call (.t 11) false [.lend (.t 15)])⟩])
             (.cond (.t 16)
              (.seq
               (.reg [⟨(some 17), none, .q (.mov (.t 5))⟩,
                 ⟨(some 4), none, .a (.asg (.t 17))⟩])
               .ret)
              .skip))))
          (.reg [⟨(some 18), none, .q (.bin false .add (.t 8) (.c (.int .i64 1)))⟩,
            ⟨(some 8), none, .q (.mov (.t 18))⟩])))))))
    (.seq
     (.reg [⟨(some 4), none, .a (.asg (.c (.int .i64 (-1))))⟩])
     .ret)))

theorem d285 (l : List Fd) (hl : l.length < 9223372036854775807) (f : Nat) (caps : List AV) (q : Fd → Bool) (hp : plains caps = true) (hb : bares caps = true) (hk : ∀ K, killVs K caps = caps) (hf : ∀ (st : St), frzBs st caps = caps)
    (hq : ∀ s ∈ l, Does Go.Proofs.Tryz.prog f (.agg s.z :: caps) false (.v (.bool (q s))) (.dead :: caps.map fun _ => .dead)) :
    Does Go.Proofs.Tryz.prog 285 [.fsl 3 (l.map Fd.z), .clo f caps] false (.v (.int .i64 (findI q l))) [.dead, .dead] := by
  refine does_intro (mc := m285) (N := 19) (rs := [4]) (fx := []) 2 rfl (by decide +kernel) ?_
  simp only [m285, EV, Nat.reduceEqDiff, Nat.reduceBEq, Nat.reduceLT, Nat.reduceLeDiff, Nat.reduceAdd, Nat.reduceSub, reduceIte]
  refine awp_loop (fun i : Nat => i ≤ l.length ∧ ∀ j (hj : j < l.length), j < i → q l[j] = false) (fun i => stl [(0, .fsl 3 (l.map Fd.z)), (1, .clo f caps), (7, .v (.int .i64 (l.length : Int))), (8, .v (.int .i64 (i : Int)))]) (fun i => l.length - i) 0 ⟨Nat.zero_le _, fun j hj h => absurd h (by omega)⟩ ?_ ?_
  · simp only [hp, hb, hk, EV, Nat.reduceEqDiff, Nat.reduceBEq, Nat.reduceLT, Nat.reduceLeDiff, Nat.reduceAdd, Nat.reduceSub, reduceIte]
    rfl
  · rintro i ⟨hi, hno⟩
    simp only [EV, Nat.reduceEqDiff, Nat.reduceBEq, Nat.reduceLT, Nat.reduceLeDiff, Nat.reduceAdd, Nat.reduceSub, reduceIte]
    refine cK_cut (fun h => ?_) (fun h => ?_)
    · have h1 : i < l.length := by simpa using h
      have h2 : (i : Int) < (l.length : Int) := by omega
      simp only [FdE, nth_map h1, h2, hp, hb, EV, Nat.reduceEqDiff, Nat.reduceBEq, Nat.reduceLT, Nat.reduceLeDiff, Nat.reduceAdd, Nat.reduceSub, reduceIte]
      refine callK_i (hq l[i] (List.getElem_mem h1)) ?_
      simp only [EV, Nat.reduceEqDiff, Nat.reduceBEq, Nat.reduceLT, Nat.reduceLeDiff, Nat.reduceAdd, Nat.reduceSub, reduceIte]
      refine cK_cut (fun h => ?_) (fun h => ?_)
      · simp only [EV, Nat.reduceEqDiff, Nat.reduceBEq, Nat.reduceLT, Nat.reduceLeDiff, Nat.reduceAdd, Nat.reduceSub, reduceIte]
        simp only [findI_at h1 h hno, EV, Nat.reduceEqDiff, Nat.reduceBEq, Nat.reduceLT, Nat.reduceLeDiff, Nat.reduceAdd, Nat.reduceSub, reduceIte, evRE, retVC, cellV', evR, nfz, nfzs, nfzss, List.contains_nil, List.contains_cons, Bool.or_false, or_true]
      · simp only [hp, hb, hk, EV, Nat.reduceEqDiff, Nat.reduceBEq, Nat.reduceLT, Nat.reduceLeDiff, Nat.reduceAdd, Nat.reduceSub, reduceIte]
        rw [w64 _ (by omega)]
        refine ⟨i + 1, ⟨by omega, ?_⟩, by omega, rfl⟩
        intro j hj hji
        by_cases e : j = i
        · subst e; exact h
        · exact hno j hj (by omega)
    · have h1 : i = l.length := by have : ¬ (i : Int) < l.length := by simpa using h
                                   omega
      subst h1
      simp only [EV, Nat.reduceEqDiff, Nat.reduceBEq, Nat.reduceLT, Nat.reduceLeDiff, Nat.reduceAdd, Nat.reduceSub, reduceIte]
      simp only [findI_no (fun j hj => hno j hj hj), EV, Nat.reduceEqDiff, Nat.reduceBEq, Nat.reduceLT, Nat.reduceLeDiff, Nat.reduceAdd, Nat.reduceSub, reduceIte, evRE, retVC, cellV', evR, nfz, nfzs, nfzss, List.contains_nil, List.contains_cons, Bool.or_false, or_true]

/-- slices.ContainsFunc[[]loop.example/g00837/impl.Field,loop.example/g00837/impl.Field] -/
def m266 : MC :=
  (.seq
   (.reg [⟨(some 4), none, .a (.asg (.c (.bool false)))⟩])
   (.seq
    (.reg [⟨(some 5), none, .q (.mov (.t 0))⟩,
      ⟨(some 6), none, .q (.mov (.t 1))⟩,
      ⟨(some 7), none, .a (.call (.fn 285) false [.lend (.t 5), .lend (.t 6)])⟩,
      ⟨(some 8), none, .q (.bin false .geq (.t 7) (.c (.int .i64 0)))⟩,
      ⟨(some 4), none, .a (.asg (.t 8))⟩])
    .ret))

theorem d266 (l : List Fd) (hl : l.length < 9223372036854775807) (f : Nat) (caps : List AV) (q : Fd → Bool) (hp : plains caps = true) (hb : bares caps = true) (hk : ∀ K, killVs K caps = caps) (hf : ∀ (st : St), frzBs st caps = caps)
    (hq : ∀ s ∈ l, Does Go.Proofs.Tryz.prog f (.agg s.z :: caps) false (.v (.bool (q s))) (.dead :: caps.map fun _ => .dead)) :
    Does Go.Proofs.Tryz.prog 266 [.fsl 3 (l.map Fd.z), .clo f caps] false (.v (.bool (l.any q))) [.dead, .dead] := by
  refine does_intro (mc := m266) (N := 9) (rs := [4]) (fx := []) 2 rfl (by decide +kernel) ?_
  simp only [m266, hp, hb, hk, hf, EV, Nat.reduceEqDiff, Nat.reduceBEq, Nat.reduceLT, Nat.reduceLeDiff, Nat.reduceAdd, Nat.reduceSub, reduceIte]
  refine callK_i (d285 l hl f caps q hp hb hk hf hq) ?_
  simp only [EV, Nat.reduceEqDiff, Nat.reduceBEq, Nat.reduceLT, Nat.reduceLeDiff, Nat.reduceAdd, Nat.reduceSub, reduceIte]
  simp only [findI_any, EV, Nat.reduceEqDiff, Nat.reduceBEq, Nat.reduceLT, Nat.reduceLeDiff, Nat.reduceAdd, Nat.reduceSub, reduceIte, evRE, retVC, cellV', evR, nfz, nfzs, nfzss, List.contains_nil, List.contains_cons, Bool.or_false, or_true]

/-- Are these of one name? -/
def tyNm (x o : Ty) : Bool := o.name.toList == x.name.toList && o.owner.toList == x.owner.toList

def fdNm (x o : Fd) : Bool := o.name.toList == x.name.toList

/-- loop.example/g00837/impl.areTypes$1 -/
def m188 : MC :=
  (.seq
   (.reg [⟨(some 2), none, .a (.box 40 (.t 0))⟩,
     ⟨(some 3), none, .a (.asg (.c (.bool false)))⟩])
   (.seq
    (.reg [⟨(some 4), none, .q (.fad 5 (.t 2))⟩,
      ⟨(some 5), none, .q (.load false 1 (.t 4))⟩,
      ⟨(some 6), none, .q (.fad 5 (.t 1))⟩,
      ⟨(some 7), none, .q (.load false 1 (.t 6))⟩,
      ⟨(some 8), none, .q (.bin false .eql (.t 5) (.t 7))⟩,
      ⟨(some 9), none, .q (.mov (.t 8))⟩,
      ⟨(some 10), (some (9, true)), .q (.fad 4 (.t 2))⟩,
      ⟨(some 11), (some (9, true)), .q (.load false 1 (.t 10))⟩,
      ⟨(some 12), (some (9, true)), .q (.fad 4 (.t 1))⟩,
      ⟨(some 13), (some (9, true)), .q (.load false 1 (.t 12))⟩,
      ⟨(some 14), (some (9, true)), .q (.bin false .eql (.t 11) (.t 13))⟩,
      ⟨(some 15), none, .q (.pick (.t 9) (.t 14) (.c (.bool false)))⟩,
      ⟨(some 3), none, .a (.asg (.t 15))⟩])
    .ret))

theorem d188 (o x : Ty) : Does Go.Proofs.Tryz.prog 188 [.agg o.z, .fptr x.z] false (.v (.bool (tyNm x o))) [.dead, .dead] := by
  refine does_intro (mc := m188) (N := 16) (rs := [3]) (fx := []) 2 rfl (by decide +kernel) ?_
  simp only [m188, Ty.z, EV, Nat.reduceEqDiff, Nat.reduceBEq, Nat.reduceLT, Nat.reduceLeDiff, Nat.reduceAdd, Nat.reduceSub, reduceIte]
  repeat' (first
    | (refine gK_cut (fun h => ?_) (fun h => ?_) <;> simp only [h, EV, Nat.reduceEqDiff, Nat.reduceBEq, Nat.reduceLT, Nat.reduceLeDiff, Nat.reduceAdd, Nat.reduceSub, reduceIte])
    | (refine cK_cut (fun h => ?_) (fun h => ?_) <;> simp only [h, EV, Nat.reduceEqDiff, Nat.reduceBEq, Nat.reduceLT, Nat.reduceLeDiff, Nat.reduceAdd, Nat.reduceSub, reduceIte]))
  all_goals simp only [tyNm, h, Bool.true_and, Bool.false_and, EV, Nat.reduceEqDiff, Nat.reduceBEq, Nat.reduceLT, Nat.reduceLeDiff, Nat.reduceAdd, Nat.reduceSub, reduceIte, evRE, retVC, cellV', evR, nfz, nfzs, nfzss, List.contains_nil, List.contains_cons, Bool.or_false, or_true]

/-- loop.example/g00837/impl.areFields$1 -/
def m267 : MC :=
  (.seq
   (.reg [⟨(some 2), none, .a (.box 97 (.t 0))⟩,
     ⟨(some 3), none, .a (.asg (.c (.bool false)))⟩])
   (.seq
    (.reg [⟨(some 4), none, .q (.fad 0 (.t 2))⟩,
      ⟨(some 5), none, .q (.load false 1 (.t 4))⟩,
      ⟨(some 6), none, .q (.fad 0 (.t 1))⟩,
      ⟨(some 7), none, .q (.load false 1 (.t 6))⟩,
      ⟨(some 8), none, .q (.bin false .eql (.t 5) (.t 7))⟩,
      ⟨(some 3), none, .a (.asg (.t 8))⟩])
    .ret))

theorem d267 (o x : Fd) : Does Go.Proofs.Tryz.prog 267 [.agg o.z, .fptr x.z] false (.v (.bool (fdNm x o))) [.dead, .dead] := by
  refine does_intro (mc := m267) (N := 9) (rs := [3]) (fx := []) 2 rfl (by decide +kernel) ?_
  simp only [m267, Fd.z, EV, Nat.reduceEqDiff, Nat.reduceBEq, Nat.reduceLT, Nat.reduceLeDiff, Nat.reduceAdd, Nat.reduceSub, reduceIte]
  simp only [fdNm, EV, Nat.reduceEqDiff, Nat.reduceBEq, Nat.reduceLT, Nat.reduceLeDiff, Nat.reduceAdd, Nat.reduceSub, reduceIte, evRE, retVC, cellV', evR, nfz, nfzs, nfzss, List.contains_nil, List.contains_cons, Bool.or_false, or_true]

def baseTs : List Ty := [⟨1, 0, -1, [], ⟨#[]⟩, ⟨#[73, 78, 84]⟩⟩, ⟨2, 0, -1, [], ⟨#[]⟩, ⟨#[66, 79, 79, 76]⟩⟩, ⟨3, 0, -1, [], ⟨#[]⟩, ⟨#[67, 72, 65, 82]⟩⟩]

/-- loop.example/g00837/impl.BaseTypes -/
def m184 : MC :=
  (.seq
   (.reg [⟨(some 0), none, .a (.asg (.nils 40 6))⟩])
   (.seq
    (.reg [⟨(some 1), none, .a (.build [0, 2, 5] [0, 2, 5] [1, 1, 1] [.v (.int .i64 0), .v (.int .i64 0), .v (.int .i64 0), .s 97 3, .v (.string ({ data := #[] })), .v (.string ({ data := #[] }))] [.c (.int .i64 1), .c (.int .i64 (-1)), .c (.string ({ data := #[73, 78, 84] }))])⟩,
      ⟨(some 2), none, .a (.build [0, 2, 5] [0, 2, 5] [1, 1, 1] [.v (.int .i64 0), .v (.int .i64 0), .v (.int .i64 0), .s 97 3, .v (.string ({ data := #[] })), .v (.string ({ data := #[] }))] [.c (.int .i64 2), .c (.int .i64 (-1)), .c (.string ({ data := #[66, 79, 79, 76] }))])⟩,
      ⟨(some 3), none, .a (.build [0, 2, 5] [0, 2, 5] [1, 1, 1] [.v (.int .i64 0), .v (.int .i64 0), .v (.int .i64 0), .s 97 3, .v (.string ({ data := #[] })), .v (.string ({ data := #[] }))] [.c (.int .i64 3), .c (.int .i64 (-1)), .c (.string ({ data := #[67, 72, 65, 82] }))])⟩,
      ⟨(some 4), none, .a (.bsl 40 6 [.t 1, .t 2, .t 3])⟩,
      ⟨(some 0), none, .a (.asg (.t 4))⟩])
    .ret))

theorem d184 : Does Go.Proofs.Tryz.prog 184 [] false (.usl 40 6 (baseTs.map Ty.o)) [] := by
  refine does_intro (mc := m184) (N := 5) (rs := [0]) (fx := []) 0 rfl (by decide +kernel) ?_
  simp only [m184, baseTs, Ty.o, EV, Nat.reduceEqDiff, Nat.reduceBEq, Nat.reduceLT, Nat.reduceLeDiff, Nat.reduceAdd, Nat.reduceSub, reduceIte]
  simp only [EV, Nat.reduceEqDiff, Nat.reduceBEq, Nat.reduceLT, Nat.reduceLeDiff, Nat.reduceAdd, Nat.reduceSub, reduceIte, evRE, retVC, cellV', evR, nfz, nfzs, nfzss, List.contains_nil, List.contains_cons, Bool.or_false, or_true]

/-- loop.example/g00837/spec.BaseTypes -/
def m182 : MC :=
  (.seq
   (.reg [⟨(some 0), none, .a (.asg (.nils 40 6))⟩])
   (.seq
    (.reg [⟨(some 1), none, .a (.build [0, 2, 5] [0, 2, 5] [1, 1, 1] [.v (.int .i64 0), .v (.int .i64 0), .v (.int .i64 0), .s 97 3, .v (.string ({ data := #[] })), .v (.string ({ data := #[] }))] [.c (.int .i64 1), .c (.int .i64 (-1)), .c (.string ({ data := #[73, 78, 84] }))])⟩,
      ⟨(some 2), none, .a (.build [0, 2, 5] [0, 2, 5] [1, 1, 1] [.v (.int .i64 0), .v (.int .i64 0), .v (.int .i64 0), .s 97 3, .v (.string ({ data := #[] })), .v (.string ({ data := #[] }))] [.c (.int .i64 2), .c (.int .i64 (-1)), .c (.string ({ data := #[66, 79, 79, 76] }))])⟩,
      ⟨(some 3), none, .a (.build [0, 2, 5] [0, 2, 5] [1, 1, 1] [.v (.int .i64 0), .v (.int .i64 0), .v (.int .i64 0), .s 97 3, .v (.string ({ data := #[] })), .v (.string ({ data := #[] }))] [.c (.int .i64 3), .c (.int .i64 (-1)), .c (.string ({ data := #[67, 72, 65, 82] }))])⟩,
      ⟨(some 4), none, .a (.bsl 40 6 [.t 1, .t 2, .t 3])⟩,
      ⟨(some 0), none, .a (.asg (.t 4))⟩])
    .ret))

theorem d182 : Does Go.Proofs.Tryz.prog 182 [] false (.usl 40 6 (baseTs.map Ty.o)) [] := by
  refine does_intro (mc := m182) (N := 5) (rs := [0]) (fx := []) 0 rfl (by decide +kernel) ?_
  simp only [m182, baseTs, Ty.o, EV, Nat.reduceEqDiff, Nat.reduceBEq, Nat.reduceLT, Nat.reduceLeDiff, Nat.reduceAdd, Nat.reduceSub, reduceIte]
  simp only [EV, Nat.reduceEqDiff, Nat.reduceBEq, Nat.reduceLT, Nat.reduceLeDiff, Nat.reduceAdd, Nat.reduceSub, reduceIte, evRE, retVC, cellV', evR, nfz, nfzs, nfzss, List.contains_nil, List.contains_cons, Bool.or_false, or_true]

def isNum (l : List Ty) (n : Int) : Bool := decide (0 ≤ n) && decide (n ≤ (l.length : Int) - 1)

def kd (l : List Ty) (n : Int) : Int := match l[n.toNat]? with
  | some t => t.kind
  | none => 0

theorem isNum_lt {l : List Ty} {n : Int} (h : isNum l n = true) : 0 ≤ n ∧ n < l.length ∧ ∃ hn : n.toNat < l.length, kd l n = l[n.toNat].kind := by
  simp only [isNum, Bool.and_eq_true, decide_eq_true_eq] at h
  have hn : n.toNat < l.length := by omega
  exact ⟨h.1, by omega, hn, by simp [kd, hn]⟩

/-- loop.example/g00837/impl.isNumber -/
def m61 : MC :=
  (.seq
   (.reg [⟨(some 4), none, .a (.asg (.c (.bool false)))⟩])
   (.seq
    (.reg [⟨(some 5), none, .q (.mov (.t 1))⟩,
      ⟨(some 6), none, .q (.mov (.t 0))⟩,
      ⟨(some 7), none, .q (.len false (.t 6))⟩,
      ⟨(some 8), none, .q (.bin false .sub (.t 7) (.c (.int .i64 1)))⟩,
      ⟨(some 9), none, .a (.call (.fn 78) false [.lend (.t 5), .lend (.c (.int .i64 0)), .lend (.t 8)])⟩,
      ⟨(some 4), none, .a (.asg (.t 9))⟩])
    .ret))

theorem d61 (l : List Ty) (n : Int) (hl : (l.length : Int) ≤ 1048576) : Does Go.Proofs.Tryz.prog 61 [.fsl 6 (l.map Ty.z), .v (.int .i64 n)] false (.v (.bool (isNum l n))) [.dead, .dead] := by
  refine does_intro (mc := m61) (N := 10) (rs := [4]) (fx := []) 2 rfl (by decide +kernel) ?_
  simp only [m61, EV, Nat.reduceEqDiff, Nat.reduceBEq, Nat.reduceLT, Nat.reduceLeDiff, Nat.reduceAdd, Nat.reduceSub, reduceIte]
  rw [w64 _ (by omega)]
  refine callK_i (d78 _ _ _) ?_
  simp only [EV, Nat.reduceEqDiff, Nat.reduceBEq, Nat.reduceLT, Nat.reduceLeDiff, Nat.reduceAdd, Nat.reduceSub, reduceIte]
  simp only [isNum, EV, Nat.reduceEqDiff, Nat.reduceBEq, Nat.reduceLT, Nat.reduceLeDiff, Nat.reduceAdd, Nat.reduceSub, reduceIte, evRE, retVC, cellV', evR, nfz, nfzs, nfzss, List.contains_nil, List.contains_cons, Bool.or_false, or_true]

def isRec (l : List Ty) (n : Int) : Bool := isNum l n && kd l n == 5

/-- loop.example/g00837/impl.isRecord -/
def m56 : MC :=
  (.seq
   (.reg [⟨(some 4), none, .a (.asg (.c (.bool false)))⟩])
   (.seq
    (.reg [⟨(some 5), none, .q (.mov (.t 0))⟩,
      ⟨(some 6), none, .q (.mov (.t 1))⟩,
      ⟨(some 7), none, .a (.call (.fn 61) false [.lend (.t 5), .lend (.t 6)])⟩,
      ⟨(some 8), none, .q (.mov (.t 7))⟩,
      ⟨(some 9), (some (8, true)), .q (.mov (.t 0))⟩,
      ⟨(some 10), (some (8, true)), .q (.mov (.t 1))⟩,
      ⟨(some 11), (some (8, true)), .q (.iad 6 (.t 9) (.t 10))⟩,
      ⟨(some 12), (some (8, true)), .q (.fad 0 (.t 11))⟩,
      ⟨(some 13), (some (8, true)), .q (.load false 1 (.t 12))⟩,
      ⟨(some 14), (some (8, true)), .q (.bin false .eql (.t 13) (.c (.int .i64 5)))⟩,
      ⟨(some 15), none, .q (.pick (.t 8) (.t 14) (.c (.bool false)))⟩,
      ⟨(some 4), none, .a (.asg (.t 15))⟩])
    .ret))

set_option maxRecDepth 100000 in
theorem d56 (l : List Ty) (n : Int) (hl : (l.length : Int) ≤ 1048576) : Does Go.Proofs.Tryz.prog 56 [.fsl 6 (l.map Ty.z), .v (.int .i64 n)] false (.v (.bool (isRec l n))) [.dead, .dead] := by
  refine does_intro (mc := m56) (N := 16) (rs := [4]) (fx := []) 2 rfl (by decide +kernel) ?_
  simp only [m56, EV, Nat.reduceEqDiff, Nat.reduceBEq, Nat.reduceLT, Nat.reduceLeDiff, Nat.reduceAdd, Nat.reduceSub, reduceIte]
  refine callK_i (d61 l n hl) ?_
  simp only [EV, Nat.reduceEqDiff, Nat.reduceBEq, Nat.reduceLT, Nat.reduceLeDiff, Nat.reduceAdd, Nat.reduceSub, reduceIte]
  rcases e : isNum l n with _ | _
  · simp only [EV, Nat.reduceEqDiff, Nat.reduceBEq, Nat.reduceLT, Nat.reduceLeDiff, Nat.reduceAdd, Nat.reduceSub, reduceIte]
    simp only [isRec, e, Bool.false_and, EV, Nat.reduceEqDiff, Nat.reduceBEq, Nat.reduceLT, Nat.reduceLeDiff, Nat.reduceAdd, Nat.reduceSub, reduceIte, evRE, retVC, cellV', evR, nfz, nfzs, nfzss, List.contains_nil, List.contains_cons, Bool.or_false, or_true]
  · obtain ⟨h0, h1, hn, hk⟩ := isNum_lt e
    simp only [h0, h1, nth_map hn, Ty.z, EV, Nat.reduceEqDiff, Nat.reduceBEq, Nat.reduceLT, Nat.reduceLeDiff, Nat.reduceAdd, Nat.reduceSub, reduceIte]
    simp only [isRec, e, hk, Bool.true_and, EV, Nat.reduceEqDiff, Nat.reduceBEq, Nat.reduceLT, Nat.reduceLeDiff, Nat.reduceAdd, Nat.reduceSub, reduceIte, evRE, retVC, cellV', evR, nfz, nfzs, nfzss, List.contains_nil, List.contains_cons, Bool.or_false, or_true]

def kindIn (l : List Ty) (n a b : Int) : Bool := isNum l n && (kd l n == a || kd l n == b)

/-- loop.example/g00837/spec.l3Kind -/
def m59 : MC :=
  (.seq
   (.reg [⟨(some 8), none, .a (.asg (.c (.bool false)))⟩])
   (.seq
    (.reg [⟨(some 9), none, .q (.mov (.t 1))⟩,
      ⟨(some 10), none, .q (.mov (.t 0))⟩,
      ⟨(some 11), none, .q (.len false (.t 10))⟩,
      ⟨(some 12), none, .q (.bin false .sub (.t 11) (.c (.int .i64 1)))⟩,
      ⟨(some 13), none, .a (.call (.fn 72) false [.lend (.t 9), .lend (.c (.int .i64 0)), .lend (.t 12)])⟩,
      ⟨(some 14), none, .q (.mov (.t 13))⟩,
      ⟨(some 15), (some (14, true)), .q (.mov (.t 0))⟩,
      ⟨(some 16), (some (14, true)), .q (.mov (.t 1))⟩,
      ⟨(some 17), (some (14, true)), .q (.iad 6 (.t 15) (.t 16))⟩,
      ⟨(some 18), (some (14, true)), .q (.fad 0 (.t 17))⟩,
      ⟨(some 19), (some (14, true)), .q (.load false 1 (.t 18))⟩,
      ⟨(some 20), (some (14, true)), .q (.mov (.t 2))⟩,
      ⟨(some 21), (some (14, true)), .q (.bin false .eql (.t 19) (.t 20))⟩,
      ⟨(some 22), (some (14, true)), .q (.mov (.t 21))⟩,
      ⟨(some 23), (some (22, false)), .q (.mov (.t 0))⟩,
      ⟨(some 24), (some (22, false)), .q (.mov (.t 1))⟩,
      ⟨(some 25), (some (22, false)), .q (.iad 6 (.t 23) (.t 24))⟩,
      ⟨(some 26), (some (22, false)), .q (.fad 0 (.t 25))⟩,
      ⟨(some 27), (some (22, false)), .q (.load false 1 (.t 26))⟩,
      ⟨(some 28), (some (22, false)), .q (.mov (.t 3))⟩,
      ⟨(some 29), (some (22, false)), .q (.bin false .eql (.t 27) (.t 28))⟩,
      ⟨(some 30), (some (14, true)), .q (.pick (.t 22) (.c (.bool true)) (.t 29))⟩,
      ⟨(some 31), none, .q (.pick (.t 14) (.t 30) (.c (.bool false)))⟩,
      ⟨(some 8), none, .a (.asg (.t 31))⟩])
    .ret))

set_option maxRecDepth 100000 in
theorem d59 (l : List Ty) (n a b : Int) (hl : (l.length : Int) ≤ 1048576) : Does Go.Proofs.Tryz.prog 59 [.fsl 6 (l.map Ty.z), .v (.int .i64 n), .v (.int .i64 a), .v (.int .i64 b)] false (.v (.bool (kindIn l n a b))) [.dead, .dead, .dead, .dead] := by
  refine does_intro (mc := m59) (N := 32) (rs := [8]) (fx := []) 4 rfl (by decide +kernel) ?_
  simp only [m59, EV, Nat.reduceEqDiff, Nat.reduceBEq, Nat.reduceLT, Nat.reduceLeDiff, Nat.reduceAdd, Nat.reduceSub, reduceIte]
  rw [w64 _ (by omega)]
  refine callK_i (d72 _ _ _) ?_
  have en : isNum l n = (decide (0 ≤ n) && decide (n ≤ (l.length : Int) - 1)) := rfl
  rw [← en]
  simp only [EV, Nat.reduceEqDiff, Nat.reduceBEq, Nat.reduceLT, Nat.reduceLeDiff, Nat.reduceAdd, Nat.reduceSub, reduceIte]
  rcases e : isNum l n with _ | _
  · simp only [EV, Nat.reduceEqDiff, Nat.reduceBEq, Nat.reduceLT, Nat.reduceLeDiff, Nat.reduceAdd, Nat.reduceSub, reduceIte]
    simp only [kindIn, e, Bool.false_and, EV, Nat.reduceEqDiff, Nat.reduceBEq, Nat.reduceLT, Nat.reduceLeDiff, Nat.reduceAdd, Nat.reduceSub, reduceIte, evRE, retVC, cellV', evR, nfz, nfzs, nfzss, List.contains_nil, List.contains_cons, Bool.or_false, or_true]
  · obtain ⟨h0, h1, hn, hk⟩ := isNum_lt e
    simp only [h0, h1, nth_map hn, Ty.z, EV, Nat.reduceEqDiff, Nat.reduceBEq, Nat.reduceLT, Nat.reduceLeDiff, Nat.reduceAdd, Nat.reduceSub, reduceIte]
    refine gK_cut (fun h => ?_) (fun h => ?_)
    · simp only [h, EV, Nat.reduceEqDiff, Nat.reduceBEq, Nat.reduceLT, Nat.reduceLeDiff, Nat.reduceAdd, Nat.reduceSub, reduceIte]
      simp only [kindIn, e, hk, h, Bool.true_and, Bool.true_or, EV, Nat.reduceEqDiff, Nat.reduceBEq, Nat.reduceLT, Nat.reduceLeDiff, Nat.reduceAdd, Nat.reduceSub, reduceIte, evRE, retVC, cellV', evR, nfz, nfzs, nfzss, List.contains_nil, List.contains_cons, Bool.or_false, or_true]
    · simp only [h, h0, h1, nth_map hn, Ty.z, EV, Nat.reduceEqDiff, Nat.reduceBEq, Nat.reduceLT, Nat.reduceLeDiff, Nat.reduceAdd, Nat.reduceSub, reduceIte]
      simp only [kindIn, e, hk, h, Bool.true_and, Bool.false_or, EV, Nat.reduceEqDiff, Nat.reduceBEq, Nat.reduceLT, Nat.reduceLeDiff, Nat.reduceAdd, Nat.reduceSub, reduceIte, evRE, retVC, cellV', evR, nfz, nfzs, nfzss, List.contains_nil, List.contains_cons, Bool.or_false, or_true]

noncomputable def named (t : Ty) : Bool := nameOk t.name && nameOk t.owner || (t.name.toList == (⟨#[]⟩ : ByteArray).toList && t.owner.toList == (⟨#[]⟩ : ByteArray).toList)

/-- (loop.example/g00837/impl.Type).isNamed -/
def m228 : MC :=
  (.seq
   (.reg [⟨(some 1), none, .a (.box 40 (.t 0))⟩,
     ⟨(some 2), none, .a (.asg (.c (.bool false)))⟩])
   (.seq
    (.reg [⟨(some 3), none, .q (.fad 5 (.t 1))⟩,
      ⟨(some 4), none, .q (.load false 1 (.t 3))⟩,
      ⟨(some 5), none, .a (.call (.fn 141) false [.lend (.t 4)])⟩,
      ⟨(some 6), none, .q (.mov (.t 5))⟩,
      ⟨(some 7), (some (6, true)), .q (.fad 4 (.t 1))⟩,
      ⟨(some 8), (some (6, true)), .q (.load false 1 (.t 7))⟩,
      ⟨(some 9), (some (6, true)), .a (.call (.fn 141) false [.lend (.t 8)])⟩,
      ⟨(some 10), none, .q (.pick (.t 6) (.t 9) (.c (.bool false)))⟩,
      ⟨(some 11), none, .q (.mov (.t 10))⟩,
      ⟨(some 12), (some (11, false)), .q (.fad 5 (.t 1))⟩,
      ⟨(some 13), (some (11, false)), .q (.load false 1 (.t 12))⟩,
      ⟨(some 14), (some (11, false)), .q (.bin false .eql (.t 13) (.c (.string ({ data := #[] }))))⟩,
      ⟨(some 15), (some (11, false)), .q (.mov (.t 14))⟩,
      ⟨(some 16), (some (15, true)), .q (.fad 4 (.t 1))⟩,
      ⟨(some 17), (some (15, true)), .q (.load false 1 (.t 16))⟩,
      ⟨(some 18), (some (15, true)), .q (.bin false .eql (.t 17) (.c (.string ({ data := #[] }))))⟩,
      ⟨(some 19), (some (11, false)), .q (.pick (.t 15) (.t 18) (.c (.bool false)))⟩,
      ⟨(some 20), none, .q (.pick (.t 11) (.c (.bool true)) (.t 19))⟩,
      ⟨(some 2), none, .a (.asg (.t 20))⟩])
    .ret))

set_option maxRecDepth 100000 in
theorem d228 (t : Ty) (ht : t.sm) : Does Go.Proofs.Tryz.prog 228 [.agg t.z] false (.v (.bool (named t))) [.dead] := by
  unfold Ty.sm at ht
  refine does_intro (mc := m228) (N := 21) (rs := [2]) (fx := []) 1 rfl (by decide +kernel) ?_
  simp only [m228, Ty.z, EV, Nat.reduceEqDiff, Nat.reduceBEq, Nat.reduceLT, Nat.reduceLeDiff, Nat.reduceAdd, Nat.reduceSub, reduceIte]
  refine callK_i (d141 _ (by omega)) ?_
  simp only [EV, Nat.reduceEqDiff, Nat.reduceBEq, Nat.reduceLT, Nat.reduceLeDiff, Nat.reduceAdd, Nat.reduceSub, reduceIte]
  repeat' (first
    | (refine gK_cut (fun h => ?_) (fun h => ?_) <;> simp only [h, EV, Nat.reduceEqDiff, Nat.reduceBEq, Nat.reduceLT, Nat.reduceLeDiff, Nat.reduceAdd, Nat.reduceSub, reduceIte])
    | (refine cK_cut (fun h => ?_) (fun h => ?_) <;> simp only [h, EV, Nat.reduceEqDiff, Nat.reduceBEq, Nat.reduceLT, Nat.reduceLeDiff, Nat.reduceAdd, Nat.reduceSub, reduceIte])
    | (refine callK_i (d141 _ (by omega)) ?_ <;> simp only [h, EV, Nat.reduceEqDiff, Nat.reduceBEq, Nat.reduceLT, Nat.reduceLeDiff, Nat.reduceAdd, Nat.reduceSub, reduceIte]))
  all_goals simp only [named, *, Bool.true_and, Bool.false_and, Bool.and_true, Bool.and_false, Bool.true_or, Bool.false_or, Bool.or_false, Bool.or_true, EV, Nat.reduceEqDiff, Nat.reduceBEq, Nat.reduceLT, Nat.reduceLeDiff, Nat.reduceAdd, Nat.reduceSub, reduceIte, evRE, retVC, cellV', evR, nfz, nfzs, nfzss, List.contains_nil, List.contains_cons, Bool.or_false, or_true]

end Go.AM
namespace Go.AM
set_option linter.unusedVariables false
set_option linter.unusedSimpArgs false
def nil' (s : ByteArray) : Bool := s.toList == (⟨#[]⟩ : ByteArray).toList

theorem loop_len (bs : ByteArray) : ∀ (n i : Nat) (r : List UInt8), bs.size - i ≤ n → r.length ≤ (ByteArray.toList.loop bs i r).length
  | 0, i, r, h => by
    rw [ByteArray.toList.loop.eq_1, if_neg (by omega)]
    simp
  | n + 1, i, r, h => by
    rw [ByteArray.toList.loop.eq_1]
    split
    · have := loop_len bs n (i + 1) (bs.get! i :: r) (by omega)
      simp only [List.length_cons] at this
      omega
    · simp

theorem nil_size {s : ByteArray} (h : nil' s = true) : s.size = 0 := by
  have e : s.toList = (⟨#[]⟩ : ByteArray).toList := by simpa [nil'] using h
  have e0 : (⟨#[]⟩ : ByteArray).toList = [] := ByteArray.toList_empty
  rw [e0, ByteArray.toList.eq_1, ByteArray.toList.loop.eq_1] at e
  split at e
  · have := loop_len s s.size (0 + 1) [s.get! 0] (by omega)
    rw [e] at this
    simp at this
  · omega

theorem nil_name {s : ByteArray} (h : nil' s = true) : nameOk s = false := by
  have := nil_size h
  simp only [nameOk, decide_eq_false_iff_not]
  rintro ⟨_, h1, _⟩
  omega

noncomputable def fdAt (l : List Ty) (fs : List Fd) (i : Nat) (h : i < fs.length) : Bool :=
  (decide (0 ≤ fs[i].mark) && decide (fs[i].mark ≤ 2)) && (isNum l fs[i].typ && (if nil' fs[i].name = true then fs[i].mark == 0 else nameOk fs[i].name && !((fs.take i).any (fdNm fs[i]))))

def fdTo (l : List Ty) (fs : List Fd) (n : Nat) : Prop := ∀ i (h : i < fs.length), i < n → fdAt l fs i h = true

open Classical in
noncomputable def fdsOk (l : List Ty) (fs : List Fd) : Bool := decide (fdTo l fs fs.length ∧ fs.length ≤ 6)

theorem fdTo_succ {l : List Ty} {fs : List Fd} {i : Nat} (h : i < fs.length) (h1 : fdTo l fs i) (h2 : fdAt l fs i h = true) : fdTo l fs (i + 1) := by
  intro j hj hji
  by_cases e : j = i
  · subst e; exact h2
  · exact h1 j hj (by omega)

theorem fdsOk_no {l : List Ty} {fs : List Fd} {i : Nat} (h : i < fs.length) (h2 : fdAt l fs i h = false) : fdsOk l fs = false := by
  simp only [fdsOk, decide_eq_false_iff_not]
  rintro ⟨h1, _⟩
  have := h1 i h h
  rw [h2] at this; cases this

theorem fdsOk_yes {l : List Ty} {fs : List Fd} (h : fdTo l fs fs.length) : fdsOk l fs = decide ((fs.length : Int) ≤ 6) := by
  have e2 : decide ((fs.length : Int) ≤ 6) = decide (fs.length ≤ 6) := by congr 1; apply propext; omega
  simp [fdsOk, h, e2]

/-- loop.example/g00837/impl.areFields -/
def m229 : MC :=
  (.seq
   (.reg [⟨(some 4), none, .a (.asg (.c (.bool false)))⟩])
   (.seq
    (.seq
     (.reg [⟨(some 7), none, .q (.mov (.t 1))⟩,
       ⟨(some 8), none, .q (.len false (.t 7))⟩,
       ⟨(some 9), none, .q (.mov (.c (.int .i64 0)))⟩])
     (.block 0
      (.loop [0, 1, 7, 8, 9]
       (.seq
        (.reg [⟨(some 10), none, .q (.bin false .lss (.t 9) (.t 8))⟩])
        (.seq
         (.cond (.t 10)
          .skip
          (.exit 0))
         (.join [0, 1, 7, 8, 9]
          (.block 1
           (.seq
            (.reg [⟨(some 11), none, .q (.mov (.t 9))⟩,
              ⟨(some 12), none, .q (.iad 3 (.t 7) (.t 9))⟩,
              ⟨(some 13), none, .q (.load true 3 (.t 12))⟩,
              ⟨(some 6), none, .a (.alloc 97 [.v (.string ({ data := #[] })), .v (.int .i64 0), .v (.int .i64 0)])⟩,
              ⟨(some 5), none, .a (.asg (.t 11))⟩,
              ⟨none, none, .a (.store 3 (.t 6) (.t 13))⟩])
            (.seq
             (.seq
              (.reg [⟨(some 14), none, .q (.fad 1 (.t 6))⟩,
                ⟨(some 15), none, .q (.load false 1 (.t 14))⟩,
                ⟨(some 16), none, .a (.call (.fn 78) false [.lend (.t 15), .lend (.c (.int .i64 0)), .lend (.c (.int .i64 2))])⟩,
                ⟨(some 17), none, .q (.un .not (.t 16))⟩,
                ⟨(some 18), none, .q (.mov (.t 17))⟩,
                ⟨(some 19), (some (18, false)), .q (.mov (.t 0))⟩,
                ⟨(some 20), (some (18, false)), .q (.fad 2 (.t 6))⟩,
                ⟨(some 21), (some (18, false)), .q (.load false 1 (.t 20))⟩,
                ⟨(some 22), (some (18, false)), .a (.call (.fn 61) false [.lend (.t 19), .lend (.t 21)])⟩,
                ⟨(some 23), (some (18, false)), .q (.un .not (.t 22))⟩,
                ⟨(some 24), none, .q (.pick (.t 18) (.c (.bool true)) (.t 23))⟩])
              (.cond (.t 24)
               (.seq
                (.reg [⟨(some 4), none, .a (.asg (.c (.bool false)))⟩])
                .ret)
               .skip))
             (.seq
              (.seq
               (.reg [⟨(some 25), none, .q (.fad 0 (.t 6))⟩,
                 ⟨(some 26), none, .q (.load false 1 (.t 25))⟩,
                 ⟨(some 27), none, .q (.bin false .eql (.t 26) (.c (.string ({ data := #[] }))))⟩])
               (.cond (.t 27)
                (.seq
                 (.seq
                  (.reg [⟨(some 28), none, .q (.fad 1 (.t 6))⟩,
                    ⟨(some 29), none, .q (.load false 1 (.t 28))⟩,
                    ⟨(some 30), none, .q (.bin false .neq (.t 29) (.c (.int .i64 0)))⟩])
                  (.cond (.t 30)
                   (.seq
                    (.reg [⟨(some 4), none, .a (.asg (.c (.bool false)))⟩])
                    .ret)
                   .skip))
                 (.exit 1))
                .skip))
              (.seq
               (.reg [⟨(some 31), none, .q (.fad 0 (.t 6))⟩,
                 ⟨(some 32), none, .q (.load false 1 (.t 31))⟩,
                 ⟨(some 33), none, .a (.call (.fn 141) false [.lend (.t 32)])⟩,
                 ⟨(some 34), none, .q (.un .not (.t 33))⟩,
                 ⟨(some 35), none, .q (.mov (.t 34))⟩,
                 ⟨(some 36), (some (35, false)), .q (.mov (.t 1))⟩,
                 ⟨(some 37), (some (35, false)), .q (.mov (.t 5))⟩,
                 ⟨(some 38), (some (35, false)), .q (.slc false 3 (.t 36) none (some (.t 37)))⟩,
                 ⟨(some 39), (some (35, false)), .q (.mkf 267 [.t 6])⟩,
                 ⟨(some 40), (some (35, false)), .a (.call (.fn 266) false [.lend (.t 38), .lend (.t 39)])⟩,
                 ⟨(some 41), none, .q (.pick (.t 35) (.c (.bool true)) (.t 40))⟩])
               (.cond (.t 41)
                (.seq
                 (.reg [⟨(some 4), none, .a (.asg (.c (.bool false)))⟩])
                 .ret)
                .skip))))))
          (.reg [⟨(some 42), none, .q (.bin false .add (.t 9) (.c (.int .i64 1)))⟩,
            ⟨(some 9), none, .q (.mov (.t 42))⟩])))))))
    (.seq
     (.reg [⟨(some 43), none, .q (.mov (.t 1))⟩,
       ⟨(some 44), none, .q (.len false (.t 43))⟩,
       ⟨(some 45), none, .q (.bin false .leq (.t 44) (.c (.int .i64 6)))⟩,
       ⟨(some 4), none, .a (.asg (.t 45))⟩])
     .ret)))

set_option maxHeartbeats 1000000 in
set_option maxRecDepth 100000 in
theorem d229 (l : List Ty) (fs : List Fd) (hl : (l.length : Int) ≤ 1048576) (hf : (fs.length : Int) ≤ 1048576) (hs : ∀ s ∈ fs, s.sm) :
    Does Go.Proofs.Tryz.prog 229 [.fsl 6 (l.map Ty.z), .fsl 3 (fs.map Fd.z)] false (.v (.bool (fdsOk l fs))) [.dead, .dead] := by
  refine does_intro (mc := m229) (N := 46) (rs := [4]) (fx := []) 2 rfl (by decide +kernel) ?_
  simp only [m229, EV, Nat.reduceEqDiff, Nat.reduceBEq, Nat.reduceLT, Nat.reduceLeDiff, Nat.reduceAdd, Nat.reduceSub, reduceIte]
  refine awp_loop (fun i : Nat => i ≤ fs.length ∧ fdTo l fs i) (fun i => stl [(0, .fsl 6 (l.map Ty.z)), (1, .fsl 3 (fs.map Fd.z)), (7, .fsl 3 (fs.map Fd.z)), (8, .v (.int .i64 (fs.length : Int))), (9, .v (.int .i64 (i : Int)))]) (fun i => fs.length - i) 0 ⟨Nat.zero_le _, fun j hj h => absurd h (by omega)⟩ ?_ ?_
  · simp only [EV, Nat.reduceEqDiff, Nat.reduceBEq, Nat.reduceLT, Nat.reduceLeDiff, Nat.reduceAdd, Nat.reduceSub, reduceIte]
    rfl
  · rintro i ⟨hi, hok⟩
    simp only [EV, Nat.reduceEqDiff, Nat.reduceBEq, Nat.reduceLT, Nat.reduceLeDiff, Nat.reduceAdd, Nat.reduceSub, reduceIte]
    refine cK_cut (fun h => ?_) (fun h => ?_)
    · have h1 : i < fs.length := by simpa using h
      have h2 : (i : Int) < (fs.length : Int) := by omega
      have hso := hs fs[i] (List.getElem_mem h1)
      simp only [Fd.sm] at hso
      clear h
      have p9 : fdAt l fs i h1 = false → fdsOk l fs = false := fdsOk_no h1
      refine awp_join (fun _ : Unit => fdAt l fs i h1 = true) (fun _ => stl [(0, .fsl 6 (l.map Ty.z)), (1, .fsl 3 (fs.map Fd.z)), (7, .fsl 3 (fs.map Fd.z)), (8, .v (.int .i64 (fs.length : Int))), (9, .v (.int .i64 (i : Int)))]) ?_ ?_
      · simp only [FdE, nth_map h1, h2, Fd.z, EV, Nat.reduceEqDiff, Nat.reduceBEq, Nat.reduceLT, Nat.reduceLeDiff, Nat.reduceAdd, Nat.reduceSub, reduceIte]
        refine callK_i (d78 _ _ _) ?_
        simp only [EV, Nat.reduceEqDiff, Nat.reduceBEq, Nat.reduceLT, Nat.reduceLeDiff, Nat.reduceAdd, Nat.reduceSub, reduceIte]
        rcases e1 : (decide (0 ≤ fs[i].mark) && decide (fs[i].mark ≤ 2)) with _ | _
        · have e : fdsOk l fs = false := p9 (by simp only [fdAt, e1, Bool.false_and])
          simp only [EV, Nat.reduceEqDiff, Nat.reduceBEq, Nat.reduceLT, Nat.reduceLeDiff, Nat.reduceAdd, Nat.reduceSub, reduceIte]
          simp only [e, EV, Nat.reduceEqDiff, Nat.reduceBEq, Nat.reduceLT, Nat.reduceLeDiff, Nat.reduceAdd, Nat.reduceSub, reduceIte, evRE, retVC, cellV', evR, nfz, nfzs, nfzss, List.contains_nil, List.contains_cons, Bool.or_false, or_true]
        simp only [EV, Nat.reduceEqDiff, Nat.reduceBEq, Nat.reduceLT, Nat.reduceLeDiff, Nat.reduceAdd, Nat.reduceSub, reduceIte]
        refine callK_i (d61 l _ hl) ?_
        simp only [EV, Nat.reduceEqDiff, Nat.reduceBEq, Nat.reduceLT, Nat.reduceLeDiff, Nat.reduceAdd, Nat.reduceSub, reduceIte]
        rcases e2 : isNum l fs[i].typ with _ | _
        · have e : fdsOk l fs = false := p9 (by simp only [fdAt, e1, e2, Bool.true_and, Bool.false_and])
          simp only [EV, Nat.reduceEqDiff, Nat.reduceBEq, Nat.reduceLT, Nat.reduceLeDiff, Nat.reduceAdd, Nat.reduceSub, reduceIte]
          simp only [e, EV, Nat.reduceEqDiff, Nat.reduceBEq, Nat.reduceLT, Nat.reduceLeDiff, Nat.reduceAdd, Nat.reduceSub, reduceIte, evRE, retVC, cellV', evR, nfz, nfzs, nfzss, List.contains_nil, List.contains_cons, Bool.or_false, or_true]
        simp only [EV, Nat.reduceEqDiff, Nat.reduceBEq, Nat.reduceLT, Nat.reduceLeDiff, Nat.reduceAdd, Nat.reduceSub, reduceIte]
        have en : (fs[i].name.toList == (⟨#[]⟩ : ByteArray).toList) = nil' fs[i].name := rfl
        rw [en]
        rcases e3 : nil' fs[i].name with _ | _
        · simp only [EV, Nat.reduceEqDiff, Nat.reduceBEq, Nat.reduceLT, Nat.reduceLeDiff, Nat.reduceAdd, Nat.reduceSub, reduceIte]
          refine callK_i (d141 _ (by omega)) ?_
          simp only [EV, Nat.reduceEqDiff, Nat.reduceBEq, Nat.reduceLT, Nat.reduceLeDiff, Nat.reduceAdd, Nat.reduceSub, reduceIte]
          rcases e4 : nameOk fs[i].name with _ | _
          · have e : fdsOk l fs = false := p9 (by simp only [fdAt, e1, e2, e3, e4, Bool.true_and, Bool.false_and, Bool.false_eq_true, if_false])
            simp only [EV, Nat.reduceEqDiff, Nat.reduceBEq, Nat.reduceLT, Nat.reduceLeDiff, Nat.reduceAdd, Nat.reduceSub, reduceIte]
            simp only [e, EV, Nat.reduceEqDiff, Nat.reduceBEq, Nat.reduceLT, Nat.reduceLeDiff, Nat.reduceAdd, Nat.reduceSub, reduceIte, evRE, retVC, cellV', evR, nfz, nfzs, nfzss, List.contains_nil, List.contains_cons, Bool.or_false, or_true]
          simp only [FdE, nth_map h1, h2, Fd.z, EV, Nat.reduceEqDiff, Nat.reduceBEq, Nat.reduceLT, Nat.reduceLeDiff, Nat.reduceAdd, Nat.reduceSub, reduceIte]
          refine ⟨by omega, by omega, ?_⟩
          rw [← List.map_take]
          refine callK_i (d266 (fs.take i) (by simp; omega) 267 [.fptr fs[i].z] (fdNm fs[i]) rfl rfl (fun _ => rfl) (fun _ => rfl) (fun s _ => d267 s fs[i])) ?_
          simp only [EV, Nat.reduceEqDiff, Nat.reduceBEq, Nat.reduceLT, Nat.reduceLeDiff, Nat.reduceAdd, Nat.reduceSub, reduceIte]
          rcases e5 : (fs.take i).any (fdNm fs[i]) with _ | _
          · simp only [EV, Nat.reduceEqDiff, Nat.reduceBEq, Nat.reduceLT, Nat.reduceLeDiff, Nat.reduceAdd, Nat.reduceSub, reduceIte]
            exact ⟨(), by simp only [fdAt, e1, e2, e3, e4, e5, Bool.true_and, Bool.false_eq_true, if_false, Bool.not_false]⟩
          · have e : fdsOk l fs = false := p9 (by simp only [fdAt, e1, e2, e3, e4, e5, Bool.true_and, Bool.false_eq_true, if_false, Bool.not_true])
            simp only [EV, Nat.reduceEqDiff, Nat.reduceBEq, Nat.reduceLT, Nat.reduceLeDiff, Nat.reduceAdd, Nat.reduceSub, reduceIte]
            simp only [e, EV, Nat.reduceEqDiff, Nat.reduceBEq, Nat.reduceLT, Nat.reduceLeDiff, Nat.reduceAdd, Nat.reduceSub, reduceIte, evRE, retVC, cellV', evR, nfz, nfzs, nfzss, List.contains_nil, List.contains_cons, Bool.or_false, or_true]
        · simp only [EV, Nat.reduceEqDiff, Nat.reduceBEq, Nat.reduceLT, Nat.reduceLeDiff, Nat.reduceAdd, Nat.reduceSub, reduceIte]
          rcases e4 : (fs[i].mark == 0) with _ | _
          · have e : fdsOk l fs = false := p9 (by simp only [fdAt, e1, e2, e3, e4, Bool.true_and, if_true])
            simp only [bne, e4, EV, Nat.reduceEqDiff, Nat.reduceBEq, Nat.reduceLT, Nat.reduceLeDiff, Nat.reduceAdd, Nat.reduceSub, reduceIte]
            simp only [e, EV, Nat.reduceEqDiff, Nat.reduceBEq, Nat.reduceLT, Nat.reduceLeDiff, Nat.reduceAdd, Nat.reduceSub, reduceIte, evRE, retVC, cellV', evR, nfz, nfzs, nfzss, List.contains_nil, List.contains_cons, Bool.or_false, or_true]
          · simp only [bne, e4, EV, Nat.reduceEqDiff, Nat.reduceBEq, Nat.reduceLT, Nat.reduceLeDiff, Nat.reduceAdd, Nat.reduceSub, reduceIte]
            exact ⟨(), by simp only [fdAt, e1, e2, e3, e4, Bool.true_and, if_true]⟩
      · rintro _ hq
        simp only [EV, Nat.reduceEqDiff, Nat.reduceBEq, Nat.reduceLT, Nat.reduceLeDiff, Nat.reduceAdd, Nat.reduceSub, reduceIte]
        rw [w64 _ (by omega)]
        exact ⟨i + 1, ⟨h1, fdTo_succ h1 hok hq⟩, by omega, rfl⟩
    · have h1 : i = fs.length := by have : ¬ (i : Int) < fs.length := by simpa using h
                                    omega
      subst h1
      simp only [EV, Nat.reduceEqDiff, Nat.reduceBEq, Nat.reduceLT, Nat.reduceLeDiff, Nat.reduceAdd, Nat.reduceSub, reduceIte]
      simp only [fdsOk_yes hok, EV, Nat.reduceEqDiff, Nat.reduceBEq, Nat.reduceLT, Nat.reduceLeDiff, Nat.reduceAdd, Nat.reduceSub, reduceIte, evRE, retVC, cellV', evR, nfz, nfzs, nfzss, List.contains_nil, List.contains_cons, Bool.or_false, or_true]

end Go.AM
namespace Go.AM
set_option linter.unusedVariables false
set_option linter.unusedSimpArgs false
def eqSt (v : ByteArray) (x : Str) : Bool := v.toList == x.s.toList

/-- slices.Index[[]string,string] -/
def m208 : MC :=
  (.seq
   (.reg [⟨(some 4), none, .a (.asg (.c (.int .i64 0)))⟩])
   (.seq
    (.seq
     (.reg [⟨(some 6), none, .q (.mov (.t 0))⟩,
       ⟨(some 7), none, .q (.len false (.t 6))⟩,
       ⟨(some 8), none, .q (.mov (.c (.int .i64 0)))⟩])
     (.block 0
      (.loop [0, 1, 7, 8]
       (.seq
        (.reg [⟨(some 9), none, .q (.bin false .lss (.t 8) (.t 7))⟩])
        (.seq
         (.cond (.t 9)
          .skip
          (.exit 0))
         (.seq
          (.block 1
           (.seq
            (.reg [⟨(some 10), none, .q (.mov (.t 8))⟩,
              ⟨(some 5), none, .a (.asg (.t 10))⟩])
            (.seq
             (.reg [⟨(some 11), none, .q (.mov (.t 1))⟩,
               ⟨(some 12), none, .q (.mov (.t 0))⟩,
               ⟨(some 13), none, .q (.mov (.t 5))⟩,
               ⟨(some 14), none, .q (.iad 1 (.t 12) (.t 13))⟩,
               ⟨(some 15), none, .q (.load false 1 (.t 14))⟩,
               ⟨(some 16), none, .q (.bin false .eql (.t 11) (.t 15))⟩])
             (.cond (.t 16)
              (.seq
               (.reg [⟨(some 17), none, .q (.mov (.t 5))⟩,
                 ⟨(some 4), none, .a (.asg (.t 17))⟩])
               .ret)
              .skip))))
          (.reg [⟨(some 18), none, .q (.bin false .add (.t 8) (.c (.int .i64 1)))⟩,
            ⟨(some 8), none, .q (.mov (.t 18))⟩])))))))
    (.seq
     (.reg [⟨(some 4), none, .a (.asg (.c (.int .i64 (-1))))⟩])
     .ret)))

theorem d208 (l : List Str) (v : ByteArray) (hl : l.length < 9223372036854775807) : Does Go.Proofs.Tryz.prog 208 [.fsl 1 (l.map Str.z), .v (.string v)] false (.v (.int .i64 (findI (eqSt v) l))) [.dead, .dead] := by
  refine does_intro (mc := m208) (N := 19) (rs := [4]) (fx := []) 2 rfl (by decide +kernel) ?_
  simp only [m208, EV, Nat.reduceEqDiff, Nat.reduceBEq, Nat.reduceLT, Nat.reduceLeDiff, Nat.reduceAdd, Nat.reduceSub, reduceIte]
  refine awp_loop (fun i : Nat => i ≤ l.length ∧ ∀ j (hj : j < l.length), j < i → eqSt v l[j] = false) (fun i => stl [(0, .fsl 1 (l.map Str.z)), (1, .v (.string v)), (7, .v (.int .i64 (l.length : Int))), (8, .v (.int .i64 (i : Int)))]) (fun i => l.length - i) 0 ⟨Nat.zero_le _, fun j hj h => absurd h (by omega)⟩ ?_ ?_
  · simp only [EV, Nat.reduceEqDiff, Nat.reduceBEq, Nat.reduceLT, Nat.reduceLeDiff, Nat.reduceAdd, Nat.reduceSub, reduceIte]
    rfl
  · rintro i ⟨hi, hno⟩
    simp only [EV, Nat.reduceEqDiff, Nat.reduceBEq, Nat.reduceLT, Nat.reduceLeDiff, Nat.reduceAdd, Nat.reduceSub, reduceIte]
    refine cK_cut (fun h => ?_) (fun h => ?_)
    · have h1 : i < l.length := by simpa using h
      have h2 : (i : Int) < (l.length : Int) := by omega
      simp only [nth_map h1, h2, Str.z, Bool.true_xor, Bool.false_xor, EV, Nat.reduceEqDiff, Nat.reduceBEq, Nat.reduceLT, Nat.reduceLeDiff, Nat.reduceAdd, Nat.reduceSub, reduceIte]
      refine cK_cut (fun h => ?_) (fun h => ?_)
      · have hq : eqSt v l[i] = true := h
        simp only [EV, Nat.reduceEqDiff, Nat.reduceBEq, Nat.reduceLT, Nat.reduceLeDiff, Nat.reduceAdd, Nat.reduceSub, reduceIte]
        simp only [findI_at h1 hq hno, EV, Nat.reduceEqDiff, Nat.reduceBEq, Nat.reduceLT, Nat.reduceLeDiff, Nat.reduceAdd, Nat.reduceSub, reduceIte, evRE, retVC, cellV', evR, nfz, nfzs, nfzss, List.contains_nil, List.contains_cons, Bool.or_false, or_true]
      · have hq : eqSt v l[i] = false := h
        simp only [EV, Nat.reduceEqDiff, Nat.reduceBEq, Nat.reduceLT, Nat.reduceLeDiff, Nat.reduceAdd, Nat.reduceSub, reduceIte]
        rw [w64 _ (by omega)]
        refine ⟨i + 1, ⟨by omega, ?_⟩, by omega, rfl⟩
        intro j hj hji
        by_cases e : j = i
        · subst e; exact hq
        · exact hno j hj (by omega)
    · have h1 : i = l.length := by have : ¬ (i : Int) < l.length := by simpa using h
                                   omega
      subst h1
      simp only [EV, Nat.reduceEqDiff, Nat.reduceBEq, Nat.reduceLT, Nat.reduceLeDiff, Nat.reduceAdd, Nat.reduceSub, reduceIte]
      simp only [findI_no (fun j hj => hno j hj hj), EV, Nat.reduceEqDiff, Nat.reduceBEq, Nat.reduceLT, Nat.reduceLeDiff, Nat.reduceAdd, Nat.reduceSub, reduceIte, evRE, retVC, cellV', evR, nfz, nfzs, nfzss, List.contains_nil, List.contains_cons, Bool.or_false, or_true]

/-- slices.Contains[[]string,string] -/
def m145 : MC :=
  (.seq
   (.reg [⟨(some 4), none, .a (.asg (.c (.bool false)))⟩])
   (.seq
    (.reg [⟨(some 5), none, .q (.mov (.t 0))⟩,
      ⟨(some 6), none, .q (.mov (.t 1))⟩,
      ⟨(some 7), none, .a (.call (.fn 208) false [.lend (.t 5), .lend (.t 6)])⟩,
      ⟨(some 8), none, .q (.bin false .geq (.t 7) (.c (.int .i64 0)))⟩,
      ⟨(some 4), none, .a (.asg (.t 8))⟩])
    .ret))

theorem d145 (l : List Str) (v : ByteArray) (hl : l.length < 9223372036854775807) : Does Go.Proofs.Tryz.prog 145 [.fsl 1 (l.map Str.z), .v (.string v)] false (.v (.bool (l.any (eqSt v)))) [.dead, .dead] := by
  refine does_intro (mc := m145) (N := 9) (rs := [4]) (fx := []) 2 rfl (by decide +kernel) ?_
  simp only [m145, EV, Nat.reduceEqDiff, Nat.reduceBEq, Nat.reduceLT, Nat.reduceLeDiff, Nat.reduceAdd, Nat.reduceSub, reduceIte]
  refine callK_i (d208 l v hl) ?_
  simp only [EV, Nat.reduceEqDiff, Nat.reduceBEq, Nat.reduceLT, Nat.reduceLeDiff, Nat.reduceAdd, Nat.reduceSub, reduceIte]
  simp only [findI_any, EV, Nat.reduceEqDiff, Nat.reduceBEq, Nat.reduceLT, Nat.reduceLeDiff, Nat.reduceAdd, Nat.reduceSub, reduceIte, evRE, retVC, cellV', evR, nfz, nfzs, nfzss, List.contains_nil, List.contains_cons, Bool.or_false, or_true]

/-- slices.Clone[[]string,string] -/
def m143 : MC :=
  (.seq
   (.reg [⟨(some 2), none, .a (.asg (.nils 9 1))⟩])
   (.seq
    (.seq
     (.reg [⟨(some 3), none, .q (.mov (.t 0))⟩,
       ⟨(some 4), none, .q (.isnil false (.t 3))⟩])
     (.cond (.t 4)
      (.seq
       (.reg [⟨(some 2), none, .a (.asg (.nils 9 1))⟩])
       .ret)
      .skip))
    (.seq
     (.reg [⟨(some 5), none, .a (.bsl 9 1 [])⟩,
       ⟨(some 6), none, .q (.mov (.t 0))⟩,
       ⟨(some 7), none, .a (.app false 9 1 16 (.t 5) (.t 6))⟩,
       ⟨(some 2), none, .a (.asg (.t 7))⟩])
     .ret)))

theorem d143 (l : List Str) (hl : (l.length : Int) ≤ 1048576) : Does Go.Proofs.Tryz.prog 143 [.fsl 1 (l.map Str.z)] false (.usl 9 1 (l.map Str.o)) [.dead] := by
  refine does_intro (mc := m143) (N := 8) (rs := [2]) (fx := []) 1 rfl (by decide +kernel) ?_
  simp only [m143, EV, Nat.reduceEqDiff, Nat.reduceBEq, Nat.reduceLT, Nat.reduceLeDiff, Nat.reduceAdd, Nat.reduceSub, reduceIte]
  refine ⟨fun h b => ?_, fun h => ⟨.inl trivial, by omega, by omega, ?_⟩⟩
  · have h0 : l = [] := by simpa using h
    subst h0
    cases b
    · simp only [List.map_nil, EV, Nat.reduceEqDiff, Nat.reduceBEq, Nat.reduceLT, Nat.reduceLeDiff, Nat.reduceAdd, Nat.reduceSub, reduceIte]
      refine ⟨.inl trivial, by omega, ?_⟩
      simp only [EV, Nat.reduceEqDiff, Nat.reduceBEq, Nat.reduceLT, Nat.reduceLeDiff, Nat.reduceAdd, Nat.reduceSub, reduceIte, evRE, retVC, cellV', evR, nfz, nfzs, nfzss, List.contains_nil, List.contains_cons, Bool.or_false, or_true]
    · simp only [List.map_nil, EV, Nat.reduceEqDiff, Nat.reduceBEq, Nat.reduceLT, Nat.reduceLeDiff, Nat.reduceAdd, Nat.reduceSub, reduceIte]
      simp only [EV, Nat.reduceEqDiff, Nat.reduceBEq, Nat.reduceLT, Nat.reduceLeDiff, Nat.reduceAdd, Nat.reduceSub, reduceIte, evRE, retVC, cellV', evR, nfz, nfzs, nfzss, List.contains_nil, List.contains_cons, Bool.or_false, or_true]
  · simp only [Str.nfz, EV, Nat.reduceEqDiff, Nat.reduceBEq, Nat.reduceLT, Nat.reduceLeDiff, Nat.reduceAdd, Nat.reduceSub, reduceIte, evRE, retVC, cellV', evR, nfz, nfzs, nfzss, List.contains_nil, List.contains_cons, Bool.or_false, or_true]
    rfl

/-- slices.Index[[]loop.example/g00837/impl.Use,loop.example/g00837/impl.Use] -/
def m209 : MC :=
  (.seq
   (.reg [⟨(some 3), none, .a (.box 155 (.t 1))⟩,
     ⟨(some 4), none, .a (.asg (.c (.int .i64 0)))⟩])
   (.seq
    (.seq
     (.reg [⟨(some 6), none, .q (.mov (.t 0))⟩,
       ⟨(some 7), none, .q (.len false (.t 6))⟩,
       ⟨(some 8), none, .q (.mov (.c (.int .i64 0)))⟩])
     (.block 0
      (.loop [0, 3, 7, 8]
       (.seq
        (.reg [⟨(some 9), none, .q (.bin false .lss (.t 8) (.t 7))⟩])
        (.seq
         (.cond (.t 9)
          .skip
          (.exit 0))
         (.seq
          (.block 1
           (.seq
            (.reg [⟨(some 10), none, .q (.mov (.t 8))⟩,
              ⟨(some 5), none, .a (.asg (.t 10))⟩])
            (.seq
             (.dreg [⟨(some 11), none, .q (.load true 2 (.t 3))⟩,
               ⟨(some 12), none, .q (.mov (.t 0))⟩,
               ⟨(some 13), none, .q (.mov (.t 5))⟩,
               ⟨(some 14), none, .q (.iad 2 (.t 12) (.t 13))⟩,
               ⟨(some 15), none, .q (.load true 2 (.t 14))⟩,
               ⟨(some 16), none, .q (.eqa false [1, 1] (.t 11) (.t 15))⟩])
             (.cond (.t 16)
              (.seq
               (.reg [⟨(some 17), none, .q (.mov (.t 5))⟩,
                 ⟨(some 4), none, .a (.asg (.t 17))⟩])
               .ret)
              .skip))))
          (.reg [⟨(some 18), none, .q (.bin false .add (.t 8) (.c (.int .i64 1)))⟩,
            ⟨(some 8), none, .q (.mov (.t 18))⟩])))))))
    (.seq
     (.reg [⟨(some 4), none, .a (.asg (.c (.int .i64 (-1))))⟩])
     .ret)))

theorem d209 (l : List Us) (v : Us) (hl : l.length < 9223372036854775807) : Does Go.Proofs.Tryz.prog 209 [.fsl 2 (l.map Us.z), .agg v.z] false (.v (.int .i64 (findI (qUs v) l))) [.dead, .dead] := by
  refine does_intro (mc := m209) (N := 19) (rs := [4]) (fx := []) 2 rfl (by decide +kernel) ?_
  simp only [m209, UsE, EV, Nat.reduceEqDiff, Nat.reduceBEq, Nat.reduceLT, Nat.reduceLeDiff, Nat.reduceAdd, Nat.reduceSub, reduceIte]
  refine awp_loop (fun i : Nat => i ≤ l.length ∧ ∀ j (hj : j < l.length), j < i → qUs v l[j] = false) (fun i => stl [(0, .fsl 2 (l.map Us.z)), (3, .box 155 v.z), (7, .v (.int .i64 (l.length : Int))), (8, .v (.int .i64 (i : Int)))]) (fun i => l.length - i) 0 ⟨Nat.zero_le _, fun j hj h => absurd h (by omega)⟩ ?_ ?_
  · simp only [UsE, EV, Nat.reduceEqDiff, Nat.reduceBEq, Nat.reduceLT, Nat.reduceLeDiff, Nat.reduceAdd, Nat.reduceSub, reduceIte]
    rfl
  · rintro i ⟨hi, hno⟩
    simp only [EV, Nat.reduceEqDiff, Nat.reduceBEq, Nat.reduceLT, Nat.reduceLeDiff, Nat.reduceAdd, Nat.reduceSub, reduceIte]
    refine cK_cut (fun h => ?_) (fun h => ?_)
    · have h1 : i < l.length := by simpa using h
      have h2 : (i : Int) < (l.length : Int) := by omega
      simp only [nth_map h1, h2, Us.z, Bool.true_xor, Bool.false_xor, EV, Nat.reduceEqDiff, Nat.reduceBEq, Nat.reduceLT, Nat.reduceLeDiff, Nat.reduceAdd, Nat.reduceSub, reduceIte]
      refine cK_cut (fun h => ?_) (fun h => ?_)
      · have hq : qUs v l[i] = true := h
        simp only [EV, Nat.reduceEqDiff, Nat.reduceBEq, Nat.reduceLT, Nat.reduceLeDiff, Nat.reduceAdd, Nat.reduceSub, reduceIte]
        simp only [findI_at h1 hq hno, EV, Nat.reduceEqDiff, Nat.reduceBEq, Nat.reduceLT, Nat.reduceLeDiff, Nat.reduceAdd, Nat.reduceSub, reduceIte, evRE, retVC, cellV', evR, nfz, nfzs, nfzss, List.contains_nil, List.contains_cons, Bool.or_false, or_true]
      · have hq : qUs v l[i] = false := h
        simp only [EV, Nat.reduceEqDiff, Nat.reduceBEq, Nat.reduceLT, Nat.reduceLeDiff, Nat.reduceAdd, Nat.reduceSub, reduceIte]
        rw [w64 _ (by omega)]
        refine ⟨i + 1, ⟨by omega, ?_⟩, by omega, rfl⟩
        intro j hj hji
        by_cases e : j = i
        · subst e; exact hq
        · exact hno j hj (by omega)
    · have h1 : i = l.length := by have : ¬ (i : Int) < l.length := by simpa using h
                                   omega
      subst h1
      simp only [EV, Nat.reduceEqDiff, Nat.reduceBEq, Nat.reduceLT, Nat.reduceLeDiff, Nat.reduceAdd, Nat.reduceSub, reduceIte]
      simp only [findI_no (fun j hj => hno j hj hj), EV, Nat.reduceEqDiff, Nat.reduceBEq, Nat.reduceLT, Nat.reduceLeDiff, Nat.reduceAdd, Nat.reduceSub, reduceIte, evRE, retVC, cellV', evR, nfz, nfzs, nfzss, List.contains_nil, List.contains_cons, Bool.or_false, or_true]

/-- slices.Contains[[]loop.example/g00837/impl.Use,loop.example/g00837/impl.Use] -/
def m146 : MC :=
  (.seq
   (.reg [⟨(some 3), none, .a (.box 155 (.t 1))⟩,
     ⟨(some 4), none, .a (.asg (.c (.bool false)))⟩])
   (.seq
    (.reg [⟨(some 5), none, .q (.mov (.t 0))⟩,
      ⟨(some 6), none, .q (.load true 2 (.t 3))⟩,
      ⟨(some 7), none, .a (.call (.fn 209) false [.lend (.t 5), .lend (.t 6)])⟩,
      ⟨(some 8), none, .q (.bin false .geq (.t 7) (.c (.int .i64 0)))⟩,
      ⟨(some 4), none, .a (.asg (.t 8))⟩])
    .ret))

theorem d146 (l : List Us) (v : Us) (hl : l.length < 9223372036854775807) : Does Go.Proofs.Tryz.prog 146 [.fsl 2 (l.map Us.z), .agg v.z] false (.v (.bool (l.any (qUs v)))) [.dead, .dead] := by
  refine does_intro (mc := m146) (N := 9) (rs := [4]) (fx := []) 2 rfl (by decide +kernel) ?_
  simp only [m146, UsE, EV, Nat.reduceEqDiff, Nat.reduceBEq, Nat.reduceLT, Nat.reduceLeDiff, Nat.reduceAdd, Nat.reduceSub, reduceIte]
  refine callK_i (d209 l v hl) ?_
  simp only [EV, Nat.reduceEqDiff, Nat.reduceBEq, Nat.reduceLT, Nat.reduceLeDiff, Nat.reduceAdd, Nat.reduceSub, reduceIte]
  simp only [findI_any, EV, Nat.reduceEqDiff, Nat.reduceBEq, Nat.reduceLT, Nat.reduceLeDiff, Nat.reduceAdd, Nat.reduceSub, reduceIte, evRE, retVC, cellV', evR, nfz, nfzs, nfzss, List.contains_nil, List.contains_cons, Bool.or_false, or_true]

/-- slices.IndexFunc[[]loop.example/g00837/impl.Param,loop.example/g00837/impl.Param] -/
def m237 : MC :=
  (.seq
   (.reg [⟨(some 4), none, .a (.asg (.c (.int .i64 0)))⟩])
   (.seq
    (.seq
     (.reg [⟨(some 6), none, .q (.mov (.t 0))⟩,
       ⟨(some 7), none, .q (.len false (.t 6))⟩,
       ⟨(some 8), none, .q (.mov (.c (.int .i64 0)))⟩])
     (.block 0
      (.loop [0, 1, 7, 8]
       (.seq
        (.reg [⟨(some 9), none, .q (.bin false .lss (.t 8) (.t 7))⟩])
        (.seq
         (.cond (.t 9)
          .skip
          (.exit 0))
         (.seq
          (.block 1
           (.seq
            (.reg [⟨(some 10), none, .q (.mov (.t 8))⟩,
              ⟨(some 5), none, .a (.asg (.t 10))⟩])
            (.seq
             (.reg [⟨(some 11), none, .q (.mov (.t 1))⟩,
               ⟨(some 12), none, .q (.mov (.t 0))⟩,
               ⟨(some 13), none, .q (.mov (.t 5))⟩,
               ⟨(some 14), none, .q (.iad 3 (.t 12) (.t 13))⟩,
               ⟨(some 15), none, .q (.load true 3 (.t 14))⟩,
               ⟨(some 16), none, .a (.call (.t 11) false [.lend (.t 15)])⟩])
             (.cond (.t 16)
              (.seq
               (.reg [⟨(some 17), none, .q (.mov (.t 5))⟩,
                 ⟨(some 4), none, .a (.asg (.t 17))⟩])
               .ret)
              .skip))))
          (.reg [⟨(some 18), none, .q (.bin false .add (.t 8) (.c (.int .i64 1)))⟩,
            ⟨(some 8), none, .q (.mov (.t 18))⟩])))))))
    (.seq
     (.reg [⟨(some 4), none, .a (.asg (.c (.int .i64 (-1))))⟩])
     .ret)))

theorem d237 (l : List Par) (hl : l.length < 9223372036854775807) (f : Nat) (caps : List AV) (q : Par → Bool) (hp : plains caps = true) (hb : bares caps = true) (hk : ∀ K, killVs K caps = caps) (hf : ∀ (st : St), frzBs st caps = caps)
    (hq : ∀ s ∈ l, Does Go.Proofs.Tryz.prog f (.agg s.z :: caps) false (.v (.bool (q s))) (.dead :: caps.map fun _ => .dead)) :
    Does Go.Proofs.Tryz.prog 237 [.fsl 3 (l.map Par.z), .clo f caps] false (.v (.int .i64 (findI q l))) [.dead, .dead] := by
  refine does_intro (mc := m237) (N := 19) (rs := [4]) (fx := []) 2 rfl (by decide +kernel) ?_
  simp only [m237, EV, Nat.reduceEqDiff, Nat.reduceBEq, Nat.reduceLT, Nat.reduceLeDiff, Nat.reduceAdd, Nat.reduceSub, reduceIte]
  refine awp_loop (fun i : Nat => i ≤ l.length ∧ ∀ j (hj : j < l.length), j < i → q l[j] = false) (fun i => stl [(0, .fsl 3 (l.map Par.z)), (1, .clo f caps), (7, .v (.int .i64 (l.length : Int))), (8, .v (.int .i64 (i : Int)))]) (fun i => l.length - i) 0 ⟨Nat.zero_le _, fun j hj h => absurd h (by omega)⟩ ?_ ?_
  · simp only [hp, hb, hk, EV, Nat.reduceEqDiff, Nat.reduceBEq, Nat.reduceLT, Nat.reduceLeDiff, Nat.reduceAdd, Nat.reduceSub, reduceIte]
    rfl
  · rintro i ⟨hi, hno⟩
    simp only [EV, Nat.reduceEqDiff, Nat.reduceBEq, Nat.reduceLT, Nat.reduceLeDiff, Nat.reduceAdd, Nat.reduceSub, reduceIte]
    refine cK_cut (fun h => ?_) (fun h => ?_)
    · have h1 : i < l.length := by simpa using h
      have h2 : (i : Int) < (l.length : Int) := by omega
      simp only [ParE, nth_map h1, h2, hp, hb, EV, Nat.reduceEqDiff, Nat.reduceBEq, Nat.reduceLT, Nat.reduceLeDiff, Nat.reduceAdd, Nat.reduceSub, reduceIte]
      refine callK_i (hq l[i] (List.getElem_mem h1)) ?_
      simp only [EV, Nat.reduceEqDiff, Nat.reduceBEq, Nat.reduceLT, Nat.reduceLeDiff, Nat.reduceAdd, Nat.reduceSub, reduceIte]
      refine cK_cut (fun h => ?_) (fun h => ?_)
      · simp only [EV, Nat.reduceEqDiff, Nat.reduceBEq, Nat.reduceLT, Nat.reduceLeDiff, Nat.reduceAdd, Nat.reduceSub, reduceIte]
        simp only [findI_at h1 h hno, EV, Nat.reduceEqDiff, Nat.reduceBEq, Nat.reduceLT, Nat.reduceLeDiff, Nat.reduceAdd, Nat.reduceSub, reduceIte, evRE, retVC, cellV', evR, nfz, nfzs, nfzss, List.contains_nil, List.contains_cons, Bool.or_false, or_true]
      · simp only [hp, hb, hk, EV, Nat.reduceEqDiff, Nat.reduceBEq, Nat.reduceLT, Nat.reduceLeDiff, Nat.reduceAdd, Nat.reduceSub, reduceIte]
        rw [w64 _ (by omega)]
        refine ⟨i + 1, ⟨by omega, ?_⟩, by omega, rfl⟩
        intro j hj hji
        by_cases e : j = i
        · subst e; exact h
        · exact hno j hj (by omega)
    · have h1 : i = l.length := by have : ¬ (i : Int) < l.length := by simpa using h
                                   omega
      subst h1
      simp only [EV, Nat.reduceEqDiff, Nat.reduceBEq, Nat.reduceLT, Nat.reduceLeDiff, Nat.reduceAdd, Nat.reduceSub, reduceIte]
      simp only [findI_no (fun j hj => hno j hj hj), EV, Nat.reduceEqDiff, Nat.reduceBEq, Nat.reduceLT, Nat.reduceLeDiff, Nat.reduceAdd, Nat.reduceSub, reduceIte, evRE, retVC, cellV', evR, nfz, nfzs, nfzss, List.contains_nil, List.contains_cons, Bool.or_false, or_true]

/-- slices.ContainsFunc[[]loop.example/g00837/impl.Param,loop.example/g00837/impl.Param] -/
def m205 : MC :=
  (.seq
   (.reg [⟨(some 4), none, .a (.asg (.c (.bool false)))⟩])
   (.seq
    (.reg [⟨(some 5), none, .q (.mov (.t 0))⟩,
      ⟨(some 6), none, .q (.mov (.t 1))⟩,
      ⟨(some 7), none, .a (.call (.fn 237) false [.lend (.t 5), .lend (.t 6)])⟩,
      ⟨(some 8), none, .q (.bin false .geq (.t 7) (.c (.int .i64 0)))⟩,
      ⟨(some 4), none, .a (.asg (.t 8))⟩])
    .ret))

theorem d205 (l : List Par) (hl : l.length < 9223372036854775807) (f : Nat) (caps : List AV) (q : Par → Bool) (hp : plains caps = true) (hb : bares caps = true) (hk : ∀ K, killVs K caps = caps) (hf : ∀ (st : St), frzBs st caps = caps)
    (hq : ∀ s ∈ l, Does Go.Proofs.Tryz.prog f (.agg s.z :: caps) false (.v (.bool (q s))) (.dead :: caps.map fun _ => .dead)) :
    Does Go.Proofs.Tryz.prog 205 [.fsl 3 (l.map Par.z), .clo f caps] false (.v (.bool (l.any q))) [.dead, .dead] := by
  refine does_intro (mc := m205) (N := 9) (rs := [4]) (fx := []) 2 rfl (by decide +kernel) ?_
  simp only [m205, hp, hb, hk, hf, EV, Nat.reduceEqDiff, Nat.reduceBEq, Nat.reduceLT, Nat.reduceLeDiff, Nat.reduceAdd, Nat.reduceSub, reduceIte]
  refine callK_i (d237 l hl f caps q hp hb hk hf hq) ?_
  simp only [EV, Nat.reduceEqDiff, Nat.reduceBEq, Nat.reduceLT, Nat.reduceLeDiff, Nat.reduceAdd, Nat.reduceSub, reduceIte]
  simp only [findI_any, EV, Nat.reduceEqDiff, Nat.reduceBEq, Nat.reduceLT, Nat.reduceLeDiff, Nat.reduceAdd, Nat.reduceSub, reduceIte, evRE, retVC, cellV', evR, nfz, nfzs, nfzss, List.contains_nil, List.contains_cons, Bool.or_false, or_true]

end Go.AM
namespace Go.AM
set_option linter.unusedVariables false
set_option linter.unusedSimpArgs false
theorem fdNm_comm (x o : Fd) : (x.name.toList == o.name.toList) = fdNm x o := by
  unfold fdNm
  rw [Bool.beq_comm]

theorem any_take {α : Type} {q : α → Bool} {l : List α} {k : Nat} (h : k < l.length) (h1 : (l.take k).any q = false) (h2 : q l[k] = false) : (l.take (k + 1)).any q = false := by
  rw [List.take_succ_eq_append_getElem h, List.any_append, h1]
  simp [h2]

theorem any_at {α : Type} {q : α → Bool} {l : List α} {k : Nat} (h : k < l.length) (h2 : q l[k] = true) : l.any q = true := by
  rw [List.any_eq_true]; exact ⟨l[k], List.getElem_mem h, h2⟩

theorem fdAt_no {l : List Ty} {fs : List Fd} {i : Nat} {h : i < fs.length} (g : (nameOk fs[i].name = false ∧ nil' fs[i].name = false) ∨ (nil' fs[i].name = true ∧ (fs[i].mark == 0) = false) ∨ (decide (0 ≤ fs[i].mark) && decide (fs[i].mark ≤ 2)) = false ∨ isNum l fs[i].typ = false) : fdAt l fs i h = false := by
  unfold fdAt
  rcases g with ⟨g, g2⟩ | ⟨g, g2⟩ | g | g
  · simp only [g, g2, Bool.false_eq_true, if_false, Bool.false_and, Bool.and_false]
  · simp only [g, g2, if_true, Bool.and_false]
  · simp only [g, Bool.false_and]
  · simp only [g, Bool.false_and, Bool.and_false]

/-- loop.example/g00837/spec.l3Fields -/
def m233 : MC :=
  (.seq
   (.reg [⟨(some 4), none, .a (.asg (.c (.bool false)))⟩])
   (.seq
    (.seq
     (.reg [⟨(some 9), none, .q (.mov (.t 1))⟩,
       ⟨(some 10), none, .q (.len false (.t 9))⟩,
       ⟨(some 11), none, .q (.mov (.c (.int .i64 0)))⟩])
     (.block 0
      (.loop [0, 1, 9, 10, 11]
       (.seq
        (.reg [⟨(some 12), none, .q (.bin false .lss (.t 11) (.t 10))⟩])
        (.seq
         (.cond (.t 12)
          .skip
          (.exit 0))
         (.seq
          (.block 1
           (.seq
            (.reg [⟨(some 13), none, .q (.mov (.t 11))⟩,
              ⟨(some 14), none, .q (.iad 3 (.t 9) (.t 11))⟩,
              ⟨(some 15), none, .q (.load true 3 (.t 14))⟩,
              ⟨(some 6), none, .a (.alloc 97 [.v (.string ({ data := #[] })), .v (.int .i64 0), .v (.int .i64 0)])⟩,
              ⟨(some 5), none, .a (.asg (.t 13))⟩,
              ⟨none, none, .a (.store 3 (.t 6) (.t 15))⟩])
            (.seq
             (.seq
              (.reg [⟨(some 16), none, .q (.fad 0 (.t 6))⟩,
                ⟨(some 17), none, .q (.load false 1 (.t 16))⟩,
                ⟨(some 18), none, .a (.call (.fn 148) false [.lend (.t 17)])⟩,
                ⟨(some 19), none, .q (.un .not (.t 18))⟩,
                ⟨(some 20), none, .q (.mov (.t 19))⟩,
                ⟨(some 21), (some (20, true)), .q (.fad 0 (.t 6))⟩,
                ⟨(some 22), (some (20, true)), .q (.load false 1 (.t 21))⟩,
                ⟨(some 23), (some (20, true)), .q (.bin false .neq (.t 22) (.c (.string ({ data := #[] }))))⟩,
                ⟨(some 24), (some (20, true)), .q (.mov (.t 23))⟩,
                ⟨(some 25), (some (24, false)), .q (.fad 1 (.t 6))⟩,
                ⟨(some 26), (some (24, false)), .q (.load false 1 (.t 25))⟩,
                ⟨(some 27), (some (24, false)), .q (.bin false .neq (.t 26) (.c (.int .i64 0)))⟩,
                ⟨(some 28), (some (20, true)), .q (.pick (.t 24) (.c (.bool true)) (.t 27))⟩,
                ⟨(some 29), none, .q (.pick (.t 20) (.t 28) (.c (.bool false)))⟩,
                ⟨(some 30), none, .q (.mov (.t 29))⟩,
                ⟨(some 31), (some (30, false)), .q (.fad 1 (.t 6))⟩,
                ⟨(some 32), (some (30, false)), .q (.load false 1 (.t 31))⟩,
                ⟨(some 33), (some (30, false)), .a (.call (.fn 72) false [.lend (.t 32), .lend (.c (.int .i64 0)), .lend (.c (.int .i64 2))])⟩,
                ⟨(some 34), (some (30, false)), .q (.un .not (.t 33))⟩,
                ⟨(some 35), none, .q (.pick (.t 30) (.c (.bool true)) (.t 34))⟩,
                ⟨(some 36), none, .q (.mov (.t 35))⟩,
                ⟨(some 37), (some (36, false)), .q (.fad 2 (.t 6))⟩,
                ⟨(some 38), (some (36, false)), .q (.load false 1 (.t 37))⟩,
                ⟨(some 39), (some (36, false)), .q (.mov (.t 0))⟩,
                ⟨(some 40), (some (36, false)), .q (.len false (.t 39))⟩,
                ⟨(some 41), (some (36, false)), .q (.bin false .sub (.t 40) (.c (.int .i64 1)))⟩,
                ⟨(some 42), (some (36, false)), .a (.call (.fn 72) false [.lend (.t 38), .lend (.c (.int .i64 0)), .lend (.t 41)])⟩,
                ⟨(some 43), (some (36, false)), .q (.un .not (.t 42))⟩,
                ⟨(some 44), none, .q (.pick (.t 36) (.c (.bool true)) (.t 43))⟩])
              (.cond (.t 44)
               (.seq
                (.reg [⟨(some 4), none, .a (.asg (.c (.bool false)))⟩])
                .ret)
               .skip))
             (.seq
              (.reg [⟨(some 45), none, .q (.mov (.t 1))⟩,
                ⟨(some 46), none, .q (.mov (.t 5))⟩,
                ⟨(some 47), none, .q (.slc false 3 (.t 45) none (some (.t 46)))⟩,
                ⟨(some 48), none, .q (.len false (.t 47))⟩,
                ⟨(some 49), none, .q (.mov (.c (.int .i64 0)))⟩])
              (.block 2
               (.loop [0, 1, 6, 9, 10, 11, 45, 46, 47, 48, 49]
                (.seq
                 (.reg [⟨(some 50), none, .q (.bin false .lss (.t 49) (.t 48))⟩])
                 (.seq
                  (.cond (.t 50)
                   .skip
                   (.exit 2))
                  (.seq
                   (.block 3
                    (.seq
                     (.reg [⟨(some 51), none, .q (.iad 3 (.t 47) (.t 49))⟩,
                       ⟨(some 52), none, .q (.load true 3 (.t 51))⟩,
                       ⟨(some 8), none, .a (.alloc 97 [.v (.string ({ data := #[] })), .v (.int .i64 0), .v (.int .i64 0)])⟩,
                       ⟨none, none, .a (.store 3 (.t 8) (.t 52))⟩])
                     (.seq
                      (.reg [⟨(some 53), none, .q (.fad 0 (.t 6))⟩,
                        ⟨(some 54), none, .q (.load false 1 (.t 53))⟩,
                        ⟨(some 55), none, .q (.bin false .neq (.t 54) (.c (.string ({ data := #[] }))))⟩,
                        ⟨(some 56), none, .q (.mov (.t 55))⟩,
                        ⟨(some 57), (some (56, true)), .q (.fad 0 (.t 6))⟩,
                        ⟨(some 58), (some (56, true)), .q (.load false 1 (.t 57))⟩,
                        ⟨(some 59), (some (56, true)), .q (.fad 0 (.t 8))⟩,
                        ⟨(some 60), (some (56, true)), .q (.load false 1 (.t 59))⟩,
                        ⟨(some 61), (some (56, true)), .q (.bin false .eql (.t 58) (.t 60))⟩,
                        ⟨(some 62), none, .q (.pick (.t 56) (.t 61) (.c (.bool false)))⟩])
                      (.cond (.t 62)
                       (.seq
                        (.reg [⟨(some 4), none, .a (.asg (.c (.bool false)))⟩])
                        .ret)
                       .skip))))
                   (.reg [⟨(some 63), none, .q (.bin false .add (.t 49) (.c (.int .i64 1)))⟩,
                     ⟨(some 49), none, .q (.mov (.t 63))⟩]))))))))))
          (.reg [⟨(some 64), none, .q (.bin false .add (.t 11) (.c (.int .i64 1)))⟩,
            ⟨(some 11), none, .q (.mov (.t 64))⟩])))))))
    (.seq
     (.reg [⟨(some 65), none, .q (.mov (.t 1))⟩,
       ⟨(some 66), none, .q (.len false (.t 65))⟩,
       ⟨(some 67), none, .q (.bin false .leq (.t 66) (.c (.int .i64 6)))⟩,
       ⟨(some 4), none, .a (.asg (.t 67))⟩])
     .ret)))

set_option maxHeartbeats 1000000 in
set_option maxRecDepth 100000 in
theorem d233 (l : List Ty) (fs : List Fd) (hl : (l.length : Int) ≤ 1048576) (hf : (fs.length : Int) ≤ 1048576) (hs : ∀ s ∈ fs, s.sm) :
    Does Go.Proofs.Tryz.prog 233 [.fsl 6 (l.map Ty.z), .fsl 3 (fs.map Fd.z)] false (.v (.bool (fdsOk l fs))) [.dead, .dead] := by
  refine does_intro (mc := m233) (N := 68) (rs := [4]) (fx := []) 2 rfl (by decide +kernel) ?_
  simp only [m233, EV, Nat.reduceEqDiff, Nat.reduceBEq, Nat.reduceLT, Nat.reduceLeDiff, Nat.reduceAdd, Nat.reduceSub, reduceIte]
  refine awp_loop (fun i : Nat => i ≤ fs.length ∧ fdTo l fs i) (fun i => stl [(0, .fsl 6 (l.map Ty.z)), (1, .fsl 3 (fs.map Fd.z)), (9, .fsl 3 (fs.map Fd.z)), (10, .v (.int .i64 (fs.length : Int))), (11, .v (.int .i64 (i : Int)))]) (fun i => fs.length - i) 0 ⟨Nat.zero_le _, fun j hj h => absurd h (by omega)⟩ ?_ ?_
  · simp only [EV, Nat.reduceEqDiff, Nat.reduceBEq, Nat.reduceLT, Nat.reduceLeDiff, Nat.reduceAdd, Nat.reduceSub, reduceIte]
    rfl
  · rintro i ⟨hi, hok⟩
    simp only [EV, Nat.reduceEqDiff, Nat.reduceBEq, Nat.reduceLT, Nat.reduceLeDiff, Nat.reduceAdd, Nat.reduceSub, reduceIte]
    refine cK_cut (fun h => ?_) (fun h => ?_)
    · have h1 : i < fs.length := by simpa using h
      have h2 : (i : Int) < (fs.length : Int) := by omega
      have hso := hs fs[i] (List.getElem_mem h1)
      simp only [Fd.sm] at hso
      clear h
      have p9 : fdAt l fs i h1 = false → fdsOk l fs = false := fdsOk_no h1
      have ht : (fs.take i).length = i := by simp; omega
      have en : (fs[i].name.toList == (⟨#[]⟩ : ByteArray).toList) = nil' fs[i].name := rfl
      have eb : (fs[i].name.toList != (⟨#[]⟩ : ByteArray).toList) = !nil' fs[i].name := rfl
      have rest : nameOk fs[i].name = true ∨ (nil' fs[i].name = true ∧ (fs[i].mark == 0) = true) → (decide (0 ≤ fs[i].mark) && decide (fs[i].mark ≤ 2)) = true → isNum l fs[i].typ = true →
          (nil' fs[i].name = true ∨ (fs.take i).any (fdNm fs[i]) = false) → fdAt l fs i h1 = true := by
        intro q1 q2 q3 q4
        simp only [fdAt, q2, q3, Bool.true_and]
        rcases e3 : nil' fs[i].name with _ | _
        · rw [e3] at q1 q4
          simp only [Bool.false_eq_true, false_and, false_or, or_false] at q1 q4
          simp only [Bool.false_eq_true, if_false, q1, q4, Bool.not_false, Bool.and_self]
        · have := nil_name e3
          rw [this] at q1
          simp only [Bool.false_eq_true, false_or] at q1
          simp only [if_true, q1.2]
      simp only [FdE, nth_map h1, h2, Fd.z, EV, Nat.reduceEqDiff, Nat.reduceBEq, Nat.reduceLT, Nat.reduceLeDiff, Nat.reduceAdd, Nat.reduceSub, reduceIte]
      refine callK_i (d148 _ (by omega)) ?_
      simp only [eb, EV, Nat.reduceEqDiff, Nat.reduceBEq, Nat.reduceLT, Nat.reduceLeDiff, Nat.reduceAdd, Nat.reduceSub, reduceIte]
      have hw : IntKind.i64.wrap ((l.length : Int) - 1) = (l.length : Int) - 1 := w64 _ (by omega)
      repeat' (first
    | (refine gK_cut (fun h => ?_) (fun h => ?_) <;> simp only [h, eb, hw, EV, Nat.reduceEqDiff, Nat.reduceBEq, Nat.reduceLT, Nat.reduceLeDiff, Nat.reduceAdd, Nat.reduceSub, reduceIte])
    | (refine cK_cut (fun h => ?_) (fun h => ?_) <;> simp only [h, eb, hw, EV, Nat.reduceEqDiff, Nat.reduceBEq, Nat.reduceLT, Nat.reduceLeDiff, Nat.reduceAdd, Nat.reduceSub, reduceIte])
    | (refine callK_i (d72 _ _ _) ?_ <;> simp only [h, eb, hw, EV, Nat.reduceEqDiff, Nat.reduceBEq, Nat.reduceLT, Nat.reduceLeDiff, Nat.reduceAdd, Nat.reduceSub, reduceIte]))
      all_goals simp only [en, bne, Bool.not_eq_true', Bool.not_eq_false'] at *
      all_goals first
        | (have e : fdsOk l fs = false := p9 (fdAt_no (by
             first
               | (left; exact ⟨by assumption, by assumption⟩)
               | (right; left; exact ⟨by assumption, by assumption⟩)
               | (right; right; left; assumption)
               | (right; right; right; unfold isNum; assumption)))
           simp only [e, EV, Nat.reduceEqDiff, Nat.reduceBEq, Nat.reduceLT, Nat.reduceLeDiff, Nat.reduceAdd, Nat.reduceSub, reduceIte, evRE, retVC, cellV', evR, nfz, nfzs, nfzss, List.contains_nil, List.contains_cons, Bool.or_false, or_true]
           done)
        | skip
      all_goals refine ⟨by omega, by omega, ?_⟩
      all_goals have q1 : nameOk fs[i].name = true ∨ (nil' fs[i].name = true ∧ (fs[i].mark == 0) = true) := (by first | exact Or.inl (by assumption) | exact Or.inr ⟨by assumption, by assumption⟩)
      all_goals have q2 : (decide (0 ≤ fs[i].mark) && decide (fs[i].mark ≤ 2)) = true := by assumption
      all_goals have q3 : isNum l fs[i].typ = true := by unfold isNum; assumption
      all_goals have q9 := rest q1 q2 q3
      all_goals clear rest q1 q2 q3
      all_goals simp only [← List.map_take]
      all_goals refine awp_loop (fun k : Nat => k ≤ i ∧ (nil' fs[i].name = true ∨ ((fs.take i).take k).any (fdNm fs[i]) = false)) (fun k => stl [(0, .fsl 6 (l.map Ty.z)), (1, .fsl 3 (fs.map Fd.z)), (6, .box 97 fs[i].z), (9, .fsl 3 (fs.map Fd.z)), (10, .v (.int .i64 (fs.length : Int))), (11, .v (.int .i64 (i : Int))), (45, .fsl 3 (fs.map Fd.z)), (46, .v (.int .i64 (i : Int))), (47, .fsl 3 ((fs.take i).map Fd.z)), (48, .v (.int .i64 (i : Int))), (49, .v (.int .i64 (k : Int)))]) (fun k => i - k) 0 ⟨Nat.zero_le _, by simp⟩ ?_ ?_
      all_goals first
        | (simp only [Fd.z, EV, Nat.reduceEqDiff, Nat.reduceBEq, Nat.reduceLT, Nat.reduceLeDiff, Nat.reduceAdd, Nat.reduceSub, reduceIte]
           rw [ht]
           rfl)
        | skip
      all_goals rintro k ⟨hk, hno⟩
      all_goals simp only [Fd.z, EV, Nat.reduceEqDiff, Nat.reduceBEq, Nat.reduceLT, Nat.reduceLeDiff, Nat.reduceAdd, Nat.reduceSub, reduceIte]
      · refine cK_cut (fun h => ?_) (fun h => ?_)
        · have k3 : k < i := by have : (k : Int) < i := by simpa using h
                                omega
          have k1 : k < (fs.take i).length := by rw [ht]; exact k3
          have k2 : (k : Int) < i := by omega
          clear h
          simp only [FdE, nth_map k1, k2, k3, ht, Fd.z, EV, Nat.reduceEqDiff, Nat.reduceBEq, Nat.reduceLT, Nat.reduceLeDiff, Nat.reduceAdd, Nat.reduceSub, reduceIte]
          refine gK_cut (fun h => ?_) (fun h => ?_)
          · have e3 : nil' fs[i].name = false := by unfold nil'; simpa [bne] using h
            have hno' : ((fs.take i).take k).any (fdNm fs[i]) = false := by
              rcases hno with hno | hno
              · rw [e3] at hno; cases hno
              · exact hno
            simp only [h, FdE, nth_map k1, k2, k3, ht, Fd.z, EV, Nat.reduceEqDiff, Nat.reduceBEq, Nat.reduceLT, Nat.reduceLeDiff, Nat.reduceAdd, Nat.reduceSub, reduceIte]
            rw [fdNm_comm]
            rcases e5 : fdNm fs[i] (fs.take i)[k] with _ | _
            · simp only [EV, Nat.reduceEqDiff, Nat.reduceBEq, Nat.reduceLT, Nat.reduceLeDiff, Nat.reduceAdd, Nat.reduceSub, reduceIte]
              rw [w64 _ (by omega)]
              exact ⟨k + 1, ⟨k3, Or.inr (any_take k1 hno' e5)⟩, by omega, rfl⟩
            · have e4 := any_at k1 e5
              have e : fdsOk l fs = false := p9 (by
                unfold fdAt
                rw [e3, e4]
                simp only [Bool.false_eq_true, if_false, Bool.not_true, Bool.and_false])
              simp only [EV, Nat.reduceEqDiff, Nat.reduceBEq, Nat.reduceLT, Nat.reduceLeDiff, Nat.reduceAdd, Nat.reduceSub, reduceIte]
              simp only [e, EV, Nat.reduceEqDiff, Nat.reduceBEq, Nat.reduceLT, Nat.reduceLeDiff, Nat.reduceAdd, Nat.reduceSub, reduceIte, evRE, retVC, cellV', evR, nfz, nfzs, nfzss, List.contains_nil, List.contains_cons, Bool.or_false, or_true]
          · have e3 : nil' fs[i].name = true := by unfold nil'; simpa [bne] using h
            simp only [h, EV, Nat.reduceEqDiff, Nat.reduceBEq, Nat.reduceLT, Nat.reduceLeDiff, Nat.reduceAdd, Nat.reduceSub, reduceIte]
            rw [w64 _ (by omega)]
            exact ⟨k + 1, ⟨k3, Or.inl e3⟩, by omega, rfl⟩
        · have k1 : k = i := by have : ¬ (k : Int) < i := by simpa using h
                                omega
          subst k1
          have hq : fdAt l fs k h1 = true := q9 (by
            rcases hno with hno | hno
            · exact Or.inl hno
            · rw [List.take_take, Nat.min_self] at hno
              exact Or.inr hno)
          simp only [EV, Nat.reduceEqDiff, Nat.reduceBEq, Nat.reduceLT, Nat.reduceLeDiff, Nat.reduceAdd, Nat.reduceSub, reduceIte]
          rw [w64 _ (by omega)]
          exact ⟨k + 1, ⟨h1, fdTo_succ h1 hok hq⟩, by omega, rfl⟩
      · refine cK_cut (fun h => ?_) (fun h => ?_)
        · have k3 : k < i := by have : (k : Int) < i := by simpa using h
                                omega
          have k1 : k < (fs.take i).length := by rw [ht]; exact k3
          have k2 : (k : Int) < i := by omega
          clear h
          simp only [FdE, nth_map k1, k2, k3, ht, Fd.z, EV, Nat.reduceEqDiff, Nat.reduceBEq, Nat.reduceLT, Nat.reduceLeDiff, Nat.reduceAdd, Nat.reduceSub, reduceIte]
          refine gK_cut (fun h => ?_) (fun h => ?_)
          · have e3 : nil' fs[i].name = false := by unfold nil'; simpa [bne] using h
            have hno' : ((fs.take i).take k).any (fdNm fs[i]) = false := by
              rcases hno with hno | hno
              · rw [e3] at hno; cases hno
              · exact hno
            simp only [h, FdE, nth_map k1, k2, k3, ht, Fd.z, EV, Nat.reduceEqDiff, Nat.reduceBEq, Nat.reduceLT, Nat.reduceLeDiff, Nat.reduceAdd, Nat.reduceSub, reduceIte]
            rw [fdNm_comm]
            rcases e5 : fdNm fs[i] (fs.take i)[k] with _ | _
            · simp only [EV, Nat.reduceEqDiff, Nat.reduceBEq, Nat.reduceLT, Nat.reduceLeDiff, Nat.reduceAdd, Nat.reduceSub, reduceIte]
              rw [w64 _ (by omega)]
              exact ⟨k + 1, ⟨k3, Or.inr (any_take k1 hno' e5)⟩, by omega, rfl⟩
            · have e4 := any_at k1 e5
              have e : fdsOk l fs = false := p9 (by
                unfold fdAt
                rw [e3, e4]
                simp only [Bool.false_eq_true, if_false, Bool.not_true, Bool.and_false])
              simp only [EV, Nat.reduceEqDiff, Nat.reduceBEq, Nat.reduceLT, Nat.reduceLeDiff, Nat.reduceAdd, Nat.reduceSub, reduceIte]
              simp only [e, EV, Nat.reduceEqDiff, Nat.reduceBEq, Nat.reduceLT, Nat.reduceLeDiff, Nat.reduceAdd, Nat.reduceSub, reduceIte, evRE, retVC, cellV', evR, nfz, nfzs, nfzss, List.contains_nil, List.contains_cons, Bool.or_false, or_true]
          · have e3 : nil' fs[i].name = true := by unfold nil'; simpa [bne] using h
            simp only [h, EV, Nat.reduceEqDiff, Nat.reduceBEq, Nat.reduceLT, Nat.reduceLeDiff, Nat.reduceAdd, Nat.reduceSub, reduceIte]
            rw [w64 _ (by omega)]
            exact ⟨k + 1, ⟨k3, Or.inl e3⟩, by omega, rfl⟩
        · have k1 : k = i := by have : ¬ (k : Int) < i := by simpa using h
                                omega
          subst k1
          have hq : fdAt l fs k h1 = true := q9 (by
            rcases hno with hno | hno
            · exact Or.inl hno
            · rw [List.take_take, Nat.min_self] at hno
              exact Or.inr hno)
          simp only [EV, Nat.reduceEqDiff, Nat.reduceBEq, Nat.reduceLT, Nat.reduceLeDiff, Nat.reduceAdd, Nat.reduceSub, reduceIte]
          rw [w64 _ (by omega)]
          exact ⟨k + 1, ⟨h1, fdTo_succ h1 hok hq⟩, by omega, rfl⟩
    · have h1 : i = fs.length := by have : ¬ (i : Int) < fs.length := by simpa using h
                                    omega
      subst h1
      simp only [EV, Nat.reduceEqDiff, Nat.reduceBEq, Nat.reduceLT, Nat.reduceLeDiff, Nat.reduceAdd, Nat.reduceSub, reduceIte]
      simp only [fdsOk_yes hok, EV, Nat.reduceEqDiff, Nat.reduceBEq, Nat.reduceLT, Nat.reduceLeDiff, Nat.reduceAdd, Nat.reduceSub, reduceIte, evRE, retVC, cellV', evR, nfz, nfzs, nfzss, List.contains_nil, List.contains_cons, Bool.or_false, or_true]

end Go.AM
