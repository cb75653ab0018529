/- Contracts of functions of the given program, for the law FnExactSameStore: what they return and what they write, under the bounds that each theorem states. -/
import Derived.Test.YtjbmgopednpbmaaC9
import Derived.Test.YtjbmgopednpbmaaU1
namespace Go.AM
set_option linter.unusedVariables false
set_option linter.unusedSimpArgs false

structure Us where
  mod : ByteArray
  name : ByteArray

def Us.z (s : Us) : List AV := [.v (.string s.mod), .v (.string s.name)]

def Us.o (s : Us) : List AV := [.v (.string s.mod), .v (.string s.name)]

def Us.zr : List AV := [.v (.string ⟨#[]⟩), .v (.string ⟨#[]⟩)]

theorem Us.fr (s : Us) : frzRow s.o = s.z := by
  simp only [Us.o, Us.z, frzRow, frzL, List.cons_append, List.nil_append]
theorem Us.frz : ∀ l : List Us, frzRows (l.map Us.o) = l.map Us.z
  | [] => rfl
  | s :: l => by simp only [List.map_cons, frzRows, Us.fr, Us.frz l]
theorem Us.nf (s : Us) : nfzs s.o = true := by
  simp only [Us.o, nfzs, nfz, List.cons_append, List.nil_append, Bool.and_self]
theorem Us.nfz : ∀ l : List Us, nfzss (l.map Us.o) = true
  | [] => rfl
  | s :: l => by simp only [List.map_cons, nfzss, Us.nf, Us.nfz l, Bool.and_self]
theorem UsE : (∀ f : Us, f.z.length = 2) ∧ (∀ f : Us, f.z.take 2 = f.z) ∧ (∀ (st : St) (f : Us), frzBs st f.z = f.z) ∧ (∀ f : Us, bares f.z = true) ∧ (∀ f : Us, plains f.z = true) ∧
    (∀ (f : Us) (K : Nat → List (Nat × Nat) → Bool), killVs K f.z = f.z) ∧ (∀ f : Us, f.z.all storL = true) ∧ (∀ f : Us, f.o.length = 2) ∧ (∀ f : Us, f.o.take 2 = f.o) ∧ (∀ f : Us, bares f.o = true) ∧
    (∀ f : Us, plains f.o = true) ∧ (∀ (f : Us) (K : Nat → List (Nat × Nat) → Bool), killVs K f.o = f.o) ∧ (∀ f : Us, f.o.all storL = true) :=
  ⟨fun _ => rfl, fun _ => rfl, fun _ _ => rfl, fun _ => rfl, fun _ => rfl, fun _ _ => rfl, fun _ => rfl, fun _ => rfl, fun _ => rfl, fun _ => rfl, fun _ => rfl, fun _ _ => rfl, fun _ => rfl⟩

def Us.ok (s : Us) : Prop := (s.mod.size : Int) ≤ 9223372036854775807 ∧ (s.name.size : Int) ≤ 9223372036854775807
def Us.sm (s : Us) : Prop := (s.mod.size : Int) ≤ 1048576 ∧ (s.name.size : Int) ≤ 1048576

def szUs (s : Us) (k : Int) : Int := if k - s.mod.size < 0 then -1 else if k - s.mod.size - s.name.size < 0 then -1 else k - s.mod.size - s.name.size
def totUs (s : Us) : Int := (s.mod.size : Int) + (s.name.size : Int)
theorem szUs_le (s : Us) (k : Int) (h : 0 ≤ k) : szUs s k ≤ k := by
  unfold szUs
  by_cases g0 : k - s.mod.size < 0
  · rw [if_pos g0]; omega
  rw [if_neg g0]
  by_cases g1 : k - s.mod.size - s.name.size < 0
  · rw [if_pos g1]; omega
  rw [if_neg g1]
  omega
theorem szUs_tot (s : Us) (k : Int) (h : 0 ≤ szUs s k) : totUs s + szUs s k = k := by
  unfold szUs at h ⊢
  unfold totUs
  by_cases g0 : k - s.mod.size < 0
  · rw [if_pos g0] at h; omega
  rw [if_neg g0] at h ⊢
  by_cases g1 : k - s.mod.size - s.name.size < 0
  · rw [if_pos g1] at h; omega
  rw [if_neg g1] at h ⊢
  omega
theorem totUs_nn (s : Us) : 0 ≤ totUs s := by
  unfold totUs
  omega
theorem Us.sm_of (s : Us) (h : totUs s ≤ 1048576) : s.sm := by
  unfold totUs at h
  exact ⟨by omega, by omega⟩

/-- loop.example/g00837/laws.szUse -/
def m181 : MC :=
  (.seq
   (.reg [⟨(some 2), none, .a (.box 185 (.t 0))⟩,
     ⟨(some 4), none, .a (.asg (.c (.int .i64 0)))⟩])
   (.seq
    (.reg [⟨(some 5), none, .q (.mov (.t 1))⟩,
      ⟨(some 6), none, .q (.fad 0 (.t 2))⟩,
      ⟨(some 7), none, .q (.load false 1 (.t 6))⟩,
      ⟨(some 8), none, .q (.len true (.t 7))⟩,
      ⟨(some 9), none, .q (.bin false .sub (.t 5) (.t 8))⟩,
      ⟨(some 1), none, .a (.asg (.t 9))⟩])
    (.seq
     (.seq
      (.reg [⟨(some 10), none, .q (.mov (.t 1))⟩,
        ⟨(some 11), none, .q (.bin false .lss (.t 10) (.c (.int .i64 0)))⟩])
      (.cond (.t 11)
       (.seq
        (.reg [⟨(some 4), none, .a (.asg (.c (.int .i64 (-1))))⟩])
        .ret)
       .skip))
     (.seq
      (.reg [⟨(some 12), none, .q (.mov (.t 1))⟩,
        ⟨(some 13), none, .q (.fad 1 (.t 2))⟩,
        ⟨(some 14), none, .q (.load false 1 (.t 13))⟩,
        ⟨(some 15), none, .q (.len true (.t 14))⟩,
        ⟨(some 16), none, .q (.bin false .sub (.t 12) (.t 15))⟩,
        ⟨(some 1), none, .a (.asg (.t 16))⟩])
      (.seq
       (.seq
        (.reg [⟨(some 17), none, .q (.mov (.t 1))⟩,
          ⟨(some 18), none, .q (.bin false .lss (.t 17) (.c (.int .i64 0)))⟩])
        (.cond (.t 18)
         (.seq
          (.reg [⟨(some 4), none, .a (.asg (.c (.int .i64 (-1))))⟩])
          .ret)
         .skip))
       (.seq
        (.reg [⟨(some 19), none, .q (.mov (.t 1))⟩,
          ⟨(some 4), none, .a (.asg (.t 19))⟩])
        .ret))))))


set_option maxRecDepth 100000 in
theorem d181 (s : Us) (k : Int) (h0 : 0 ≤ k) (h1 : k ≤ 1048576) (hok : s.ok) : Does Go.Proofs.Try.prog 181 [.agg s.z, .v (.int .i64 k)] false (.v (.int .i64 (szUs s k))) [.dead, .dead] := by
  unfold Us.ok at hok
  refine does_intro (mc := m181) (N := 20) (rs := [4]) (fx := []) 2 rfl (by decide +kernel) ?_
  simp only [m181, Us.z, EV, Nat.reduceEqDiff, Nat.reduceBEq, Nat.reduceLT, Nat.reduceLeDiff, Nat.reduceAdd, Nat.reduceSub, reduceIte]
  have b0 := hok.1
  have w0 := w64 (k - s.mod.size) (by omega)
  simp only [w0, EV, Nat.reduceEqDiff, Nat.reduceBEq, Nat.reduceLT, Nat.reduceLeDiff, Nat.reduceAdd, Nat.reduceSub, reduceIte]
  refine cK_cut (fun h => ?_) (fun h => ?_)
  · have g0 : k - s.mod.size < 0 := by simpa using h
    have e : szUs s k = -1 := by unfold szUs; rw [if_pos g0]
    simp only [EV, Nat.reduceEqDiff, Nat.reduceBEq, Nat.reduceLT, Nat.reduceLeDiff, Nat.reduceAdd, Nat.reduceSub, reduceIte]
    simp only [e, EV, Nat.reduceEqDiff, Nat.reduceBEq, Nat.reduceLT, Nat.reduceLeDiff, Nat.reduceAdd, Nat.reduceSub, reduceIte, retVC, cellV', evR, nfz, nfzs, nfzss, List.contains_nil, List.contains_cons, Bool.or_false, or_true]
  · have g0 : ¬ k - s.mod.size < 0 := by simpa using h
    simp only [EV, Nat.reduceEqDiff, Nat.reduceBEq, Nat.reduceLT, Nat.reduceLeDiff, Nat.reduceAdd, Nat.reduceSub, reduceIte]
    have b1 := hok.2
    have w1 := w64 (k - s.mod.size - s.name.size) (by omega)
    simp only [w1, EV, Nat.reduceEqDiff, Nat.reduceBEq, Nat.reduceLT, Nat.reduceLeDiff, Nat.reduceAdd, Nat.reduceSub, reduceIte]
    refine cK_cut (fun h => ?_) (fun h => ?_)
    · have g1 : k - s.mod.size - s.name.size < 0 := by simpa using h
      have e : szUs s k = -1 := by unfold szUs; rw [if_neg g0, if_pos g1]
      simp only [EV, Nat.reduceEqDiff, Nat.reduceBEq, Nat.reduceLT, Nat.reduceLeDiff, Nat.reduceAdd, Nat.reduceSub, reduceIte]
      simp only [e, EV, Nat.reduceEqDiff, Nat.reduceBEq, Nat.reduceLT, Nat.reduceLeDiff, Nat.reduceAdd, Nat.reduceSub, reduceIte, retVC, cellV', evR, nfz, nfzs, nfzss, List.contains_nil, List.contains_cons, Bool.or_false, or_true]
    · have g1 : ¬ k - s.mod.size - s.name.size < 0 := by simpa using h
      simp only [EV, Nat.reduceEqDiff, Nat.reduceBEq, Nat.reduceLT, Nat.reduceLeDiff, Nat.reduceAdd, Nat.reduceSub, reduceIte]
      have e : szUs s k = k - s.mod.size - s.name.size := by unfold szUs; rw [if_neg g0, if_neg g1]
      simp only [e, EV, Nat.reduceEqDiff, Nat.reduceBEq, Nat.reduceLT, Nat.reduceLeDiff, Nat.reduceAdd, Nat.reduceSub, reduceIte, retVC, cellV', evR, nfz, nfzs, nfzss, List.contains_nil, List.contains_cons, Bool.or_false, or_true]

def szUss : List Us → Int → Int
  | [], k => k
  | s :: r, k => if szUs s k < 0 then -1 else szUss r (szUs s k)
def szUsS (l : List Us) (k : Int) : Int := if k - l.length < 0 then -1 else szUss l (k - l.length)
theorem szUss_le : ∀ (l : List Us) (k : Int), 0 ≤ k → szUss l k ≤ k
  | [], k, h => by simp [szUss]
  | s :: r, k, h => by
    simp only [szUss]
    have h1 := szUs_le s k h
    split
    · omega
    · have := szUss_le r (szUs s k) (by omega)
      omega
theorem szUsS_le (l : List Us) (k : Int) (h : 0 ≤ k) : szUsS l k ≤ k := by
  unfold szUsS
  split
  · omega
  · have := szUss_le l (k - l.length) (by omega); omega
def totUss : List Us → Int
  | [] => 0
  | s :: r => 1 + totUs s + totUss r
theorem szUss_tot : ∀ (l : List Us) (k : Int), 0 ≤ szUss l k → totUss l + szUss l k = k + l.length
  | [], k, h => by simp [szUss, totUss]
  | s :: r, k, h => by
    simp only [szUss] at h ⊢
    split
    · rename_i h1; rw [if_pos h1] at h; omega
    · rename_i h1
      rw [if_neg h1] at h
      have h2 := szUs_tot s k (by omega)
      have h3 := szUss_tot r _ h
      simp only [totUss, List.length_cons]
      omega
theorem szUsS_tot (l : List Us) (k : Int) (h : 0 ≤ szUsS l k) : totUss l + szUsS l k = k := by
  unfold szUsS at h ⊢
  split
  · rename_i h1; rw [if_pos h1] at h; omega
  · rename_i h1
    rw [if_neg h1] at h
    have := szUss_tot l _ h
    omega
theorem totUss_nn : ∀ l : List Us, (l.length : Int) ≤ totUss l
  | [] => by simp [totUss]
  | s :: r => by
    have := totUss_nn r
    have := totUs_nn s
    simp only [totUss, List.length_cons]
    omega
theorem totUss_mem : ∀ (l : List Us) (s : Us), s ∈ l → totUs s ≤ totUss l
  | x :: r, s, h => by
    simp only [totUss]
    have h3 := totUs_nn x
    have h2 := totUss_nn r
    rcases List.mem_cons.1 h with h | h
    · subst h; omega
    · have := totUss_mem r s h; omega

/-- loop.example/g00837/laws.szUseS -/
def m153 : MC :=
  (.seq
   (.reg [⟨(some 4), none, .a (.asg (.c (.int .i64 0)))⟩])
   (.seq
    (.reg [⟨(some 6), none, .q (.mov (.t 1))⟩,
      ⟨(some 7), none, .q (.mov (.t 0))⟩,
      ⟨(some 8), none, .q (.len false (.t 7))⟩,
      ⟨(some 9), none, .q (.bin false .sub (.t 6) (.t 8))⟩,
      ⟨(some 1), none, .a (.asg (.t 9))⟩])
    (.seq
     (.seq
      (.reg [⟨(some 10), none, .q (.mov (.t 1))⟩,
        ⟨(some 11), none, .q (.bin false .lss (.t 10) (.c (.int .i64 0)))⟩])
      (.cond (.t 11)
       (.seq
        (.reg [⟨(some 4), none, .a (.asg (.c (.int .i64 (-1))))⟩])
        .ret)
       .skip))
     (.seq
      (.seq
       (.reg [⟨(some 5), none, .a (.asg (.c (.int .i64 0)))⟩])
       (.block 0
        (.loop [0, 1, 5]
         (.seq
          (.seq
           (.reg [⟨(some 12), none, .q (.mov (.t 5))⟩,
             ⟨(some 13), none, .q (.mov (.t 0))⟩,
             ⟨(some 14), none, .q (.len false (.t 13))⟩,
             ⟨(some 15), none, .q (.bin false .lss (.t 12) (.t 14))⟩])
           (.cond (.t 15)
            .skip
            (.exit 0)))
          (.seq
           (.block 1
            (.seq
             (.reg [⟨(some 18), none, .q (.mov (.t 0))⟩,
               ⟨(some 19), none, .q (.mov (.t 5))⟩,
               ⟨(some 20), none, .q (.iad 2 (.t 18) (.t 19))⟩,
               ⟨(some 21), none, .q (.load true 2 (.t 20))⟩,
               ⟨(some 22), none, .q (.mov (.t 1))⟩,
               ⟨(some 23), none, .a (.call (.fn 181) false [.lend (.t 21), .lend (.t 22)])⟩,
               ⟨(some 1), none, .a (.asg (.t 23))⟩])
             (.seq
              (.reg [⟨(some 24), none, .q (.mov (.t 1))⟩,
                ⟨(some 25), none, .q (.bin false .lss (.t 24) (.c (.int .i64 0)))⟩])
              (.cond (.t 25)
               (.seq
                (.reg [⟨(some 4), none, .a (.asg (.c (.int .i64 (-1))))⟩])
                .ret)
               .skip))))
           (.reg [⟨(some 16), none, .q (.mov (.t 5))⟩,
             ⟨(some 17), none, .q (.bin false .add (.t 16) (.c (.int .i64 1)))⟩,
             ⟨(some 5), none, .a (.asg (.t 17))⟩]))))))
      (.seq
       (.reg [⟨(some 26), none, .q (.mov (.t 1))⟩,
         ⟨(some 4), none, .a (.asg (.t 26))⟩])
       .ret)))))


theorem d153 (l : List Us) (k : Int) (h0 : 0 ≤ k) (h1 : k ≤ 1048576) (hl : (l.length : Int) ≤ 9223372036854775807) (hs : ∀ s ∈ l, s.ok) :
    Does Go.Proofs.Try.prog 153 [.fsl 2 (l.map Us.z), .v (.int .i64 k)] false (.v (.int .i64 (szUsS l k))) [.dead, .dead] := by
  refine does_intro (mc := m153) (N := 27) (rs := [4]) (fx := []) 2 rfl (by decide +kernel) ?_
  simp only [m153, EV, Nat.reduceEqDiff, Nat.reduceBEq, Nat.reduceLT, Nat.reduceLeDiff, Nat.reduceAdd, Nat.reduceSub, reduceIte]
  have w1 := w64 (k - l.length) (by omega)
  simp only [w1]
  refine cK_cut (fun h => ?_) (fun h => ?_)
  · have h2 : k - l.length < 0 := by simpa using h
    have e : szUsS l k = -1 := by simp [szUsS, h2]
    simp only [EV, Nat.reduceEqDiff, Nat.reduceBEq, Nat.reduceLT, Nat.reduceLeDiff, Nat.reduceAdd, Nat.reduceSub, reduceIte]
    simp only [e, EV, Nat.reduceEqDiff, Nat.reduceBEq, Nat.reduceLT, Nat.reduceLeDiff, Nat.reduceAdd, Nat.reduceSub, reduceIte, retVC, cellV', evR, nfz, nfzs, nfzss, List.contains_nil, List.contains_cons, Bool.or_false, or_true]
  · have h2 : ¬ k - l.length < 0 := by simpa using h
    have e : szUsS l k = szUss l (k - l.length) := by simp [szUsS, h2]
    simp only [EV, Nat.reduceEqDiff, Nat.reduceBEq, Nat.reduceLT, Nat.reduceLeDiff, Nat.reduceAdd, Nat.reduceSub, reduceIte]
    refine awp_loop (fun p : Nat × Int => p.1 ≤ l.length ∧ 0 ≤ p.2 ∧ p.2 ≤ 1048576 ∧ szUss (l.drop p.1) p.2 = szUsS l k)
      (fun p => stl [(0, .fsl 2 (l.map Us.z)), (1, .v (.int .i64 p.2)), (5, .v (.int .i64 (p.1 : Int)))]) (fun p => l.length - p.1) (0, k - l.length) ⟨by simp, by simp only; omega, by simp only; omega, by simp [e]⟩ ?_ ?_
    · simp only [EV, Nat.reduceEqDiff, Nat.reduceBEq, Nat.reduceLT, Nat.reduceLeDiff, Nat.reduceAdd, Nat.reduceSub, reduceIte]
      rfl
    · rintro ⟨i, n⟩ ⟨p0, p1, p2, p3⟩
      simp only at p0 p1 p2 p3
      simp only [EV, Nat.reduceEqDiff, Nat.reduceBEq, Nat.reduceLT, Nat.reduceLeDiff, Nat.reduceAdd, Nat.reduceSub, reduceIte]
      refine cK_cut (fun h => ?_) (fun h => ?_)
      · have h3 : i < l.length := by simpa using h
        have h4 : (i : Int) < (l.length : Int) := by omega
        rw [List.drop_eq_getElem_cons h3] at p3
        simp only [szUss] at p3
        have hle := szUs_le l[i] n p1
        simp only [UsE, nth_map h3, h4, EV, Nat.reduceEqDiff, Nat.reduceBEq, Nat.reduceLT, Nat.reduceLeDiff, Nat.reduceAdd, Nat.reduceSub, reduceIte]
        refine callK_i (d181 l[i] n p1 p2 (hs l[i] (List.getElem_mem h3))) ?_
        simp only [UsE, nth_map h3, h4, EV, Nat.reduceEqDiff, Nat.reduceBEq, Nat.reduceLT, Nat.reduceLeDiff, Nat.reduceAdd, Nat.reduceSub, reduceIte]
        refine cK_cut (fun h => ?_) (fun h => ?_)
        · have h5 : szUs l[i] n < 0 := by simpa using h
          rw [if_pos h5] at p3
          simp only [EV, Nat.reduceEqDiff, Nat.reduceBEq, Nat.reduceLT, Nat.reduceLeDiff, Nat.reduceAdd, Nat.reduceSub, reduceIte]
          simp only [← p3, EV, Nat.reduceEqDiff, Nat.reduceBEq, Nat.reduceLT, Nat.reduceLeDiff, Nat.reduceAdd, Nat.reduceSub, reduceIte, retVC, cellV', evR, nfz, nfzs, nfzss, List.contains_nil, List.contains_cons, Bool.or_false, or_true]
        · have h5 : ¬ szUs l[i] n < 0 := by simpa using h
          rw [if_neg h5] at p3
          have w2 := w64 ((i : Int) + 1) (by omega)
          simp only [w2, EV, Nat.reduceEqDiff, Nat.reduceBEq, Nat.reduceLT, Nat.reduceLeDiff, Nat.reduceAdd, Nat.reduceSub, reduceIte]
          exact ⟨(i + 1, szUs l[i] n), ⟨by simp only; omega, by simp only; omega, by simp only; omega, p3⟩, by simp only; omega, rfl⟩
      · have h3 : i = l.length := by have : ¬ (i : Int) < l.length := by simpa using h
                                     omega
        subst h3
        rw [List.drop_length] at p3
        simp only [szUss] at p3
        simp only [EV, Nat.reduceEqDiff, Nat.reduceBEq, Nat.reduceLT, Nat.reduceLeDiff, Nat.reduceAdd, Nat.reduceSub, reduceIte]
        simp only [← p3, EV, Nat.reduceEqDiff, Nat.reduceBEq, Nat.reduceLT, Nat.reduceLeDiff, Nat.reduceAdd, Nat.reduceSub, reduceIte, retVC, cellV', evR, nfz, nfzs, nfzss, List.contains_nil, List.contains_cons, Bool.or_false, or_true]

/-- loop.example/g00837/laws.toUse -/
def m183 : MC :=
  (.seq
   (.reg [⟨(some 1), none, .a (.box 185 (.t 0))⟩,
     ⟨(some 2), none, .a (.alloc 132 [.v (.string ({ data := #[] })), .v (.string ({ data := #[] }))])⟩])
   (.seq
    (.reg [⟨(some 3), none, .a (.alloc 132 [.v (.string ({ data := #[] })), .v (.string ({ data := #[] }))])⟩])
    (.seq
     (.reg [⟨(some 4), none, .q (.fad 0 (.t 1))⟩,
       ⟨(some 5), none, .q (.load false 1 (.t 4))⟩,
       ⟨(some 6), none, .q (.fad 0 (.t 3))⟩,
       ⟨none, none, .a (.store 1 (.t 6) (.t 5))⟩])
     (.seq
      (.reg [⟨(some 7), none, .q (.fad 1 (.t 1))⟩,
        ⟨(some 8), none, .q (.load false 1 (.t 7))⟩,
        ⟨(some 9), none, .q (.fad 1 (.t 3))⟩,
        ⟨none, none, .a (.store 1 (.t 9) (.t 8))⟩])
      (.seq
       (.reg [⟨(some 10), none, .q (.load true 2 (.t 3))⟩,
         ⟨none, none, .a (.store 2 (.t 2) (.t 10))⟩])
       .ret)))))


set_option maxRecDepth 100000 in
theorem d183 (s : Us) (hs : s.sm) : Does Go.Proofs.Try.prog 183 [.agg s.z] false (.agg s.o) [.dead] := by
  unfold Us.sm at hs
  refine does_introC (mc := m183) (N := 11) (r := 2) (ty := 132) (agg := true) (sz := 2) (fx := []) 1 rfl (by decide +kernel) ?_
  simp only [m183, Us.z, Us.o, EV, Nat.reduceEqDiff, Nat.reduceBEq, Nat.reduceLT, Nat.reduceLeDiff, Nat.reduceAdd, Nat.reduceSub, reduceIte]
  simp only [EV, Nat.reduceEqDiff, Nat.reduceBEq, Nat.reduceLT, Nat.reduceLeDiff, Nat.reduceAdd, Nat.reduceSub, reduceIte, retVC, cellV', evR, nfz, nfzs, nfzss, List.contains_nil, List.contains_cons, Bool.or_false, or_true]

/-- loop.example/g00837/laws.toUseS -/
def m157 : MC :=
  (.seq
   (.reg [⟨(some 2), none, .a (.asg (.nils 132 2))⟩])
   (.seq
    (.reg [⟨(some 5), none, .q (.mov (.t 0))⟩,
      ⟨(some 6), none, .q (.len false (.t 5))⟩,
      ⟨(some 7), none, .a (.mks 132 2 32 [.v (.string ({ data := #[] })), .v (.string ({ data := #[] }))] (.t 6) (.t 6))⟩,
      ⟨(some 3), none, .a (.asg (.t 7))⟩])
    (.seq
     (.seq
      (.reg [⟨(some 4), none, .a (.asg (.c (.int .i64 0)))⟩])
      (.block 0
       (.loop [0, 3, 4, 7]
        (.seq
         (.seq
          (.reg [⟨(some 8), none, .q (.mov (.t 4))⟩,
            ⟨(some 9), none, .q (.mov (.t 0))⟩,
            ⟨(some 10), none, .q (.len false (.t 9))⟩,
            ⟨(some 11), none, .q (.bin false .lss (.t 8) (.t 10))⟩])
          (.cond (.t 11)
           .skip
           (.exit 0)))
         (.seq
          (.block 1
           (.reg [⟨(some 14), none, .q (.mov (.t 3))⟩,
             ⟨(some 15), none, .q (.mov (.t 4))⟩,
             ⟨(some 16), none, .q (.mov (.t 0))⟩,
             ⟨(some 17), none, .q (.mov (.t 4))⟩,
             ⟨(some 18), none, .q (.iad 2 (.t 16) (.t 17))⟩,
             ⟨(some 19), none, .q (.load true 2 (.t 18))⟩,
             ⟨(some 20), none, .a (.call (.fn 183) false [.lend (.t 19)])⟩,
             ⟨(some 21), none, .q (.iad 2 (.t 14) (.t 15))⟩,
             ⟨none, none, .a (.store 2 (.t 21) (.t 20))⟩]))
          (.reg [⟨(some 12), none, .q (.mov (.t 4))⟩,
            ⟨(some 13), none, .q (.bin false .add (.t 12) (.c (.int .i64 1)))⟩,
            ⟨(some 4), none, .a (.asg (.t 13))⟩]))))))
     (.seq
      (.reg [⟨(some 22), none, .q (.mov (.t 3))⟩,
        ⟨(some 2), none, .a (.asg (.t 22))⟩])
      .ret))))


theorem d157 (l : List Us) (hl : (l.length : Int) ≤ 1048576) (hs : ∀ s ∈ l, s.sm) : Does Go.Proofs.Try.prog 157 [.fsl 2 (l.map Us.z)] false (.usl 132 2 (l.map Us.o)) [.dead] := by
  refine does_intro (mc := m157) (N := 23) (rs := [2]) (fx := []) 1 rfl (by decide +kernel) ?_
  simp only [m157, EV, Nat.reduceEqDiff, Nat.reduceBEq, Nat.reduceLT, Nat.reduceLeDiff, Nat.reduceAdd, Nat.reduceSub, reduceIte]
  refine ⟨by omega, by omega, ?_⟩
  refine awp_loop (fun i : Nat => i ≤ l.length) (fun i => stl [(0, .fsl 2 (l.map Us.z)), (3, .usl 132 2 ((l.take i).map Us.o ++ List.replicate (l.length - i) Us.zr)), (4, .v (.int .i64 (i : Int))), (7, .dead)]) (fun i => l.length - i) 0 (Nat.zero_le _) ?_ ?_
  · simp only [EV, Nat.reduceEqDiff, Nat.reduceBEq, Nat.reduceLT, Nat.reduceLeDiff, Nat.reduceAdd, Nat.reduceSub, reduceIte]
    rfl
  · intro i hi
    simp only [EV, Nat.reduceEqDiff, Nat.reduceBEq, Nat.reduceLT, Nat.reduceLeDiff, Nat.reduceAdd, Nat.reduceSub, reduceIte]
    refine cK_cut (fun h => ?_) (fun h => ?_)
    · have h1 : i < l.length := by simpa using h
      have h2 : (i : Int) < (l.length : Int) := by omega
      have h3 : ((l.take i).map Us.o ++ List.replicate (l.length - i) Us.zr).length = l.length := by simp; omega
      simp only [UsE, nth_map h1, h2, EV, Nat.reduceEqDiff, Nat.reduceBEq, Nat.reduceLT, Nat.reduceLeDiff, Nat.reduceAdd, Nat.reduceSub, reduceIte]
      refine callK_i (d183 l[i] (hs l[i] (List.getElem_mem h1))) ?_
      simp only [UsE, h2, h3, EV, Nat.reduceEqDiff, Nat.reduceBEq, Nat.reduceLT, Nat.reduceLeDiff, Nat.reduceAdd, Nat.reduceSub, reduceIte]
      refine ⟨h1, i + 1, by omega, by omega, ?_⟩
      have ez : l[i].o ++ List.drop 2 Us.zr = l[i].o := List.append_nil _
      rw [fill_nth h1, w64 _ (by omega), ez, fill_set h1]
      rfl
    · have h1 : i = l.length := by have : ¬ (i : Int) < l.length := by simpa using h
                                   omega
      subst h1
      simp only [EV, Nat.reduceEqDiff, Nat.reduceBEq, Nat.reduceLT, Nat.reduceLeDiff, Nat.reduceAdd, Nat.reduceSub, reduceIte]
      simp only [Nat.sub_self, List.replicate_zero, Us.nfz, EV, Nat.reduceEqDiff, Nat.reduceBEq, Nat.reduceLT, Nat.reduceLeDiff, Nat.reduceAdd, Nat.reduceSub, reduceIte, retVC, cellV', evR, nfz, nfzs, nfzss, List.contains_nil, List.contains_cons, Bool.or_false, or_true]

/-- loop.example/g00837/laws.eqUse -/
def m185 : MC :=
  (.seq
   (.reg [⟨(some 2), none, .a (.box 132 (.t 0))⟩,
     ⟨(some 3), none, .a (.box 132 (.t 1))⟩,
     ⟨(some 4), none, .a (.asg (.c (.bool false)))⟩])
   (.seq
    (.seq
     (.reg [⟨(some 5), none, .q (.fad 0 (.t 2))⟩,
       ⟨(some 6), none, .q (.load false 1 (.t 5))⟩,
       ⟨(some 7), none, .q (.fad 0 (.t 3))⟩,
       ⟨(some 8), none, .q (.load false 1 (.t 7))⟩,
       ⟨(some 9), none, .q (.bin false .neq (.t 6) (.t 8))⟩])
     (.cond (.t 9)
      (.seq
       (.reg [⟨(some 4), none, .a (.asg (.c (.bool false)))⟩])
       .ret)
      .skip))
    (.seq
     (.seq
      (.reg [⟨(some 10), none, .q (.fad 1 (.t 2))⟩,
        ⟨(some 11), none, .q (.load false 1 (.t 10))⟩,
        ⟨(some 12), none, .q (.fad 1 (.t 3))⟩,
        ⟨(some 13), none, .q (.load false 1 (.t 12))⟩,
        ⟨(some 14), none, .q (.bin false .neq (.t 11) (.t 13))⟩])
      (.cond (.t 14)
       (.seq
        (.reg [⟨(some 4), none, .a (.asg (.c (.bool false)))⟩])
        .ret)
       .skip))
     (.seq
      (.reg [⟨(some 4), none, .a (.asg (.c (.bool true)))⟩])
      .ret))))


set_option maxRecDepth 100000 in
theorem d185 (s : Us) (hs : s.sm) : Does Go.Proofs.Try.prog 185 [.agg s.z, .agg s.z] false (.v (.bool true)) [.dead, .dead] := by
  unfold Us.sm at hs
  refine does_intro (mc := m185) (N := 15) (rs := [4]) (fx := []) 2 rfl (by decide +kernel) ?_
  simp only [m185, Us.z, EV, Nat.reduceEqDiff, Nat.reduceBEq, Nat.reduceLT, Nat.reduceLeDiff, Nat.reduceAdd, Nat.reduceSub, reduceIte]
  simp only [EV, Nat.reduceEqDiff, Nat.reduceBEq, Nat.reduceLT, Nat.reduceLeDiff, Nat.reduceAdd, Nat.reduceSub, reduceIte, retVC, cellV', evR, nfz, nfzs, nfzss, List.contains_nil, List.contains_cons, Bool.or_false, or_true]

/-- loop.example/g00837/laws.eqUseS -/
def m163 : MC :=
  (.seq
   (.reg [⟨(some 4), none, .a (.asg (.c (.bool false)))⟩])
   (.seq
    (.seq
     (.reg [⟨(some 6), none, .q (.mov (.t 0))⟩,
       ⟨(some 7), none, .q (.len false (.t 6))⟩,
       ⟨(some 8), none, .q (.mov (.t 1))⟩,
       ⟨(some 9), none, .q (.len false (.t 8))⟩,
       ⟨(some 10), none, .q (.bin false .neq (.t 7) (.t 9))⟩])
     (.cond (.t 10)
      (.seq
       (.reg [⟨(some 4), none, .a (.asg (.c (.bool false)))⟩])
       .ret)
      .skip))
    (.seq
     (.seq
      (.reg [⟨(some 5), none, .a (.asg (.c (.int .i64 0)))⟩])
      (.block 0
       (.loop [0, 1, 5]
        (.seq
         (.seq
          (.reg [⟨(some 11), none, .q (.mov (.t 5))⟩,
            ⟨(some 12), none, .q (.mov (.t 0))⟩,
            ⟨(some 13), none, .q (.len false (.t 12))⟩,
            ⟨(some 14), none, .q (.bin false .lss (.t 11) (.t 13))⟩])
          (.cond (.t 14)
           .skip
           (.exit 0)))
         (.seq
          (.block 1
           (.seq
            (.dreg [⟨(some 17), none, .q (.mov (.t 0))⟩,
              ⟨(some 18), none, .q (.mov (.t 5))⟩,
              ⟨(some 19), none, .q (.iad 2 (.t 17) (.t 18))⟩,
              ⟨(some 20), none, .q (.load true 2 (.t 19))⟩,
              ⟨(some 21), none, .q (.mov (.t 1))⟩,
              ⟨(some 22), none, .q (.mov (.t 5))⟩,
              ⟨(some 23), none, .q (.iad 2 (.t 21) (.t 22))⟩,
              ⟨(some 24), none, .q (.load true 2 (.t 23))⟩,
              ⟨(some 25), none, .a (.call (.fn 185) false [.lend (.t 20), .lend (.t 24)])⟩,
              ⟨(some 26), none, .q (.un .not (.t 25))⟩])
            (.cond (.t 26)
             (.seq
              (.reg [⟨(some 4), none, .a (.asg (.c (.bool false)))⟩])
              .ret)
             .skip)))
          (.reg [⟨(some 15), none, .q (.mov (.t 5))⟩,
            ⟨(some 16), none, .q (.bin false .add (.t 15) (.c (.int .i64 1)))⟩,
            ⟨(some 5), none, .a (.asg (.t 16))⟩]))))))
     (.seq
      (.reg [⟨(some 4), none, .a (.asg (.c (.bool true)))⟩])
      .ret))))


theorem d163 (l : List Us) (hl : (l.length : Int) ≤ 1048576) (hs : ∀ s ∈ l, s.sm) : Does Go.Proofs.Try.prog 163 [.fsl 2 (l.map Us.z), .fsl 2 (l.map Us.z)] false (.v (.bool true)) [.dead, .dead] := by
  refine does_intro (mc := m163) (N := 27) (rs := [4]) (fx := []) 2 rfl (by decide +kernel) ?_
  simp only [m163, EV, Nat.reduceEqDiff, Nat.reduceBEq, Nat.reduceLT, Nat.reduceLeDiff, Nat.reduceAdd, Nat.reduceSub, reduceIte]
  refine awp_loop (fun i : Nat => i ≤ l.length) (fun i => stl [(0, .fsl 2 (l.map Us.z)), (1, .fsl 2 (l.map Us.z)), (5, .v (.int .i64 (i : Int)))]) (fun i => l.length - i) 0 (Nat.zero_le _) ?_ ?_
  · simp only [EV, Nat.reduceEqDiff, Nat.reduceBEq, Nat.reduceLT, Nat.reduceLeDiff, Nat.reduceAdd, Nat.reduceSub, reduceIte]
    rfl
  · intro i hi
    simp only [EV, Nat.reduceEqDiff, Nat.reduceBEq, Nat.reduceLT, Nat.reduceLeDiff, Nat.reduceAdd, Nat.reduceSub, reduceIte]
    refine cK_cut (fun h => ?_) (fun h => ?_)
    · have h1 : i < l.length := by simpa using h
      have h2 : (i : Int) < (l.length : Int) := by omega
      simp only [UsE, nth_map h1, h2, EV, Nat.reduceEqDiff, Nat.reduceBEq, Nat.reduceLT, Nat.reduceLeDiff, Nat.reduceAdd, Nat.reduceSub, reduceIte]
      refine callD_i (d185 l[i] (hs l[i] (List.getElem_mem h1))) rfl ?_
      simp only [EV, Nat.reduceEqDiff, Nat.reduceBEq, Nat.reduceLT, Nat.reduceLeDiff, Nat.reduceAdd, Nat.reduceSub, reduceIte]
      refine ⟨i + 1, by omega, by omega, ?_⟩
      rw [w64 _ (by omega)]
      rfl
    · have h1 : i = l.length := by have : ¬ (i : Int) < l.length := by simpa using h
                                   omega
      simp only [EV, Nat.reduceEqDiff, Nat.reduceBEq, Nat.reduceLT, Nat.reduceLeDiff, Nat.reduceAdd, Nat.reduceSub, reduceIte]
      simp only [EV, Nat.reduceEqDiff, Nat.reduceBEq, Nat.reduceLT, Nat.reduceLeDiff, Nat.reduceAdd, Nat.reduceSub, reduceIte, retVC, cellV', evR, nfz, nfzs, nfzss, List.contains_nil, List.contains_cons, Bool.or_false, or_true]
structure Seen where
  mod : ByteArray
  name : ByteArray
  sum : Int

def Seen.z (s : Seen) : List AV := [.v (.string s.mod), .v (.string s.name), .v (.int .i64 s.sum)]

def Seen.o (s : Seen) : List AV := [.v (.string s.mod), .v (.string s.name), .v (.int .i64 s.sum)]

def Seen.zr : List AV := [.v (.string ⟨#[]⟩), .v (.string ⟨#[]⟩), .v (.int .i64 0)]

theorem Seen.fr (s : Seen) : frzRow s.o = s.z := by
  simp only [Seen.o, Seen.z, frzRow, frzL, List.cons_append, List.nil_append]
theorem Seen.frz : ∀ l : List Seen, frzRows (l.map Seen.o) = l.map Seen.z
  | [] => rfl
  | s :: l => by simp only [List.map_cons, frzRows, Seen.fr, Seen.frz l]
theorem Seen.nf (s : Seen) : nfzs s.o = true := by
  simp only [Seen.o, nfzs, nfz, List.cons_append, List.nil_append, Bool.and_self]
theorem Seen.nfz : ∀ l : List Seen, nfzss (l.map Seen.o) = true
  | [] => rfl
  | s :: l => by simp only [List.map_cons, nfzss, Seen.nf, Seen.nfz l, Bool.and_self]
theorem SeenE : (∀ f : Seen, f.z.length = 3) ∧ (∀ f : Seen, f.z.take 3 = f.z) ∧ (∀ (st : St) (f : Seen), frzBs st f.z = f.z) ∧ (∀ f : Seen, bares f.z = true) ∧ (∀ f : Seen, plains f.z = true) ∧
    (∀ (f : Seen) (K : Nat → List (Nat × Nat) → Bool), killVs K f.z = f.z) ∧ (∀ f : Seen, f.z.all storL = true) ∧ (∀ f : Seen, f.o.length = 3) ∧ (∀ f : Seen, f.o.take 3 = f.o) ∧ (∀ f : Seen, bares f.o = true) ∧
    (∀ f : Seen, plains f.o = true) ∧ (∀ (f : Seen) (K : Nat → List (Nat × Nat) → Bool), killVs K f.o = f.o) ∧ (∀ f : Seen, f.o.all storL = true) :=
  ⟨fun _ => rfl, fun _ => rfl, fun _ _ => rfl, fun _ => rfl, fun _ => rfl, fun _ _ => rfl, fun _ => rfl, fun _ => rfl, fun _ => rfl, fun _ => rfl, fun _ => rfl, fun _ _ => rfl, fun _ => rfl⟩

def Seen.ok (s : Seen) : Prop := (s.mod.size : Int) ≤ 9223372036854775807 ∧ (s.name.size : Int) ≤ 9223372036854775807 ∧ (-9223372036854775808 ≤ s.sum ∧ s.sum ≤ 9223372036854775807)
def Seen.sm (s : Seen) : Prop := (s.mod.size : Int) ≤ 1048576 ∧ (s.name.size : Int) ≤ 1048576 ∧ True

def szSeen (s : Seen) (k : Int) : Int := if k - s.mod.size < 0 then -1 else if k - s.mod.size - s.name.size < 0 then -1 else k - s.mod.size - s.name.size
def totSeen (s : Seen) : Int := (s.mod.size : Int) + (s.name.size : Int)
theorem szSeen_le (s : Seen) (k : Int) (h : 0 ≤ k) : szSeen s k ≤ k := by
  unfold szSeen
  by_cases g0 : k - s.mod.size < 0
  · rw [if_pos g0]; omega
  rw [if_neg g0]
  by_cases g1 : k - s.mod.size - s.name.size < 0
  · rw [if_pos g1]; omega
  rw [if_neg g1]
  omega
theorem szSeen_tot (s : Seen) (k : Int) (h : 0 ≤ szSeen s k) : totSeen s + szSeen s k = k := by
  unfold szSeen at h ⊢
  unfold totSeen
  by_cases g0 : k - s.mod.size < 0
  · rw [if_pos g0] at h; omega
  rw [if_neg g0] at h ⊢
  by_cases g1 : k - s.mod.size - s.name.size < 0
  · rw [if_pos g1] at h; omega
  rw [if_neg g1] at h ⊢
  omega
theorem totSeen_nn (s : Seen) : 0 ≤ totSeen s := by
  unfold totSeen
  omega
theorem Seen.sm_of (s : Seen) (h : totSeen s ≤ 1048576) : s.sm := by
  unfold totSeen at h
  exact ⟨by omega, by omega, trivial⟩

/-- loop.example/g00837/laws.szSeen -/
def m154 : MC :=
  (.seq
   (.reg [⟨(some 2), none, .a (.box 157 (.t 0))⟩,
     ⟨(some 4), none, .a (.asg (.c (.int .i64 0)))⟩])
   (.seq
    (.reg [⟨(some 5), none, .q (.mov (.t 1))⟩,
      ⟨(some 6), none, .q (.fad 0 (.t 2))⟩,
      ⟨(some 7), none, .q (.load false 1 (.t 6))⟩,
      ⟨(some 8), none, .q (.len true (.t 7))⟩,
      ⟨(some 9), none, .q (.bin false .sub (.t 5) (.t 8))⟩,
      ⟨(some 1), none, .a (.asg (.t 9))⟩])
    (.seq
     (.seq
      (.reg [⟨(some 10), none, .q (.mov (.t 1))⟩,
        ⟨(some 11), none, .q (.bin false .lss (.t 10) (.c (.int .i64 0)))⟩])
      (.cond (.t 11)
       (.seq
        (.reg [⟨(some 4), none, .a (.asg (.c (.int .i64 (-1))))⟩])
        .ret)
       .skip))
     (.seq
      (.reg [⟨(some 12), none, .q (.mov (.t 1))⟩,
        ⟨(some 13), none, .q (.fad 1 (.t 2))⟩,
        ⟨(some 14), none, .q (.load false 1 (.t 13))⟩,
        ⟨(some 15), none, .q (.len true (.t 14))⟩,
        ⟨(some 16), none, .q (.bin false .sub (.t 12) (.t 15))⟩,
        ⟨(some 1), none, .a (.asg (.t 16))⟩])
      (.seq
       (.seq
        (.reg [⟨(some 17), none, .q (.mov (.t 1))⟩,
          ⟨(some 18), none, .q (.bin false .lss (.t 17) (.c (.int .i64 0)))⟩])
        (.cond (.t 18)
         (.seq
          (.reg [⟨(some 4), none, .a (.asg (.c (.int .i64 (-1))))⟩])
          .ret)
         .skip))
       (.seq
        (.reg [⟨(some 19), none, .q (.mov (.t 1))⟩,
          ⟨(some 4), none, .a (.asg (.t 19))⟩])
        .ret))))))


set_option maxRecDepth 100000 in
theorem d154 (s : Seen) (k : Int) (h0 : 0 ≤ k) (h1 : k ≤ 1048576) (hok : s.ok) : Does Go.Proofs.Try.prog 154 [.agg s.z, .v (.int .i64 k)] false (.v (.int .i64 (szSeen s k))) [.dead, .dead] := by
  unfold Seen.ok at hok
  refine does_intro (mc := m154) (N := 20) (rs := [4]) (fx := []) 2 rfl (by decide +kernel) ?_
  simp only [m154, Seen.z, EV, Nat.reduceEqDiff, Nat.reduceBEq, Nat.reduceLT, Nat.reduceLeDiff, Nat.reduceAdd, Nat.reduceSub, reduceIte]
  have b0 := hok.1
  have w0 := w64 (k - s.mod.size) (by omega)
  simp only [w0, EV, Nat.reduceEqDiff, Nat.reduceBEq, Nat.reduceLT, Nat.reduceLeDiff, Nat.reduceAdd, Nat.reduceSub, reduceIte]
  refine cK_cut (fun h => ?_) (fun h => ?_)
  · have g0 : k - s.mod.size < 0 := by simpa using h
    have e : szSeen s k = -1 := by unfold szSeen; rw [if_pos g0]
    simp only [EV, Nat.reduceEqDiff, Nat.reduceBEq, Nat.reduceLT, Nat.reduceLeDiff, Nat.reduceAdd, Nat.reduceSub, reduceIte]
    simp only [e, EV, Nat.reduceEqDiff, Nat.reduceBEq, Nat.reduceLT, Nat.reduceLeDiff, Nat.reduceAdd, Nat.reduceSub, reduceIte, retVC, cellV', evR, nfz, nfzs, nfzss, List.contains_nil, List.contains_cons, Bool.or_false, or_true]
  · have g0 : ¬ k - s.mod.size < 0 := by simpa using h
    simp only [EV, Nat.reduceEqDiff, Nat.reduceBEq, Nat.reduceLT, Nat.reduceLeDiff, Nat.reduceAdd, Nat.reduceSub, reduceIte]
    have b1 := hok.2.1
    have w1 := w64 (k - s.mod.size - s.name.size) (by omega)
    simp only [w1, EV, Nat.reduceEqDiff, Nat.reduceBEq, Nat.reduceLT, Nat.reduceLeDiff, Nat.reduceAdd, Nat.reduceSub, reduceIte]
    refine cK_cut (fun h => ?_) (fun h => ?_)
    · have g1 : k - s.mod.size - s.name.size < 0 := by simpa using h
      have e : szSeen s k = -1 := by unfold szSeen; rw [if_neg g0, if_pos g1]
      simp only [EV, Nat.reduceEqDiff, Nat.reduceBEq, Nat.reduceLT, Nat.reduceLeDiff, Nat.reduceAdd, Nat.reduceSub, reduceIte]
      simp only [e, EV, Nat.reduceEqDiff, Nat.reduceBEq, Nat.reduceLT, Nat.reduceLeDiff, Nat.reduceAdd, Nat.reduceSub, reduceIte, retVC, cellV', evR, nfz, nfzs, nfzss, List.contains_nil, List.contains_cons, Bool.or_false, or_true]
    · have g1 : ¬ k - s.mod.size - s.name.size < 0 := by simpa using h
      simp only [EV, Nat.reduceEqDiff, Nat.reduceBEq, Nat.reduceLT, Nat.reduceLeDiff, Nat.reduceAdd, Nat.reduceSub, reduceIte]
      have e : szSeen s k = k - s.mod.size - s.name.size := by unfold szSeen; rw [if_neg g0, if_neg g1]
      simp only [e, EV, Nat.reduceEqDiff, Nat.reduceBEq, Nat.reduceLT, Nat.reduceLeDiff, Nat.reduceAdd, Nat.reduceSub, reduceIte, retVC, cellV', evR, nfz, nfzs, nfzss, List.contains_nil, List.contains_cons, Bool.or_false, or_true]

def szSeens : List Seen → Int → Int
  | [], k => k
  | s :: r, k => if szSeen s k < 0 then -1 else szSeens r (szSeen s k)
def szSeenS (l : List Seen) (k : Int) : Int := if k - l.length < 0 then -1 else szSeens l (k - l.length)
theorem szSeens_le : ∀ (l : List Seen) (k : Int), 0 ≤ k → szSeens l k ≤ k
  | [], k, h => by simp [szSeens]
  | s :: r, k, h => by
    simp only [szSeens]
    have h1 := szSeen_le s k h
    split
    · omega
    · have := szSeens_le r (szSeen s k) (by omega)
      omega
theorem szSeenS_le (l : List Seen) (k : Int) (h : 0 ≤ k) : szSeenS l k ≤ k := by
  unfold szSeenS
  split
  · omega
  · have := szSeens_le l (k - l.length) (by omega); omega
def totSeens : List Seen → Int
  | [] => 0
  | s :: r => 1 + totSeen s + totSeens r
theorem szSeens_tot : ∀ (l : List Seen) (k : Int), 0 ≤ szSeens l k → totSeens l + szSeens l k = k + l.length
  | [], k, h => by simp [szSeens, totSeens]
  | s :: r, k, h => by
    simp only [szSeens] at h ⊢
    split
    · rename_i h1; rw [if_pos h1] at h; omega
    · rename_i h1
      rw [if_neg h1] at h
      have h2 := szSeen_tot s k (by omega)
      have h3 := szSeens_tot r _ h
      simp only [totSeens, List.length_cons]
      omega
theorem szSeenS_tot (l : List Seen) (k : Int) (h : 0 ≤ szSeenS l k) : totSeens l + szSeenS l k = k := by
  unfold szSeenS at h ⊢
  split
  · rename_i h1; rw [if_pos h1] at h; omega
  · rename_i h1
    rw [if_neg h1] at h
    have := szSeens_tot l _ h
    omega
theorem totSeens_nn : ∀ l : List Seen, (l.length : Int) ≤ totSeens l
  | [] => by simp [totSeens]
  | s :: r => by
    have := totSeens_nn r
    have := totSeen_nn s
    simp only [totSeens, List.length_cons]
    omega
theorem totSeens_mem : ∀ (l : List Seen) (s : Seen), s ∈ l → totSeen s ≤ totSeens l
  | x :: r, s, h => by
    simp only [totSeens]
    have h3 := totSeen_nn x
    have h2 := totSeens_nn r
    rcases List.mem_cons.1 h with h | h
    · subst h; omega
    · have := totSeens_mem r s h; omega

/-- loop.example/g00837/laws.szSeenS -/
def m113 : MC :=
  (.seq
   (.reg [⟨(some 4), none, .a (.asg (.c (.int .i64 0)))⟩])
   (.seq
    (.reg [⟨(some 6), none, .q (.mov (.t 1))⟩,
      ⟨(some 7), none, .q (.mov (.t 0))⟩,
      ⟨(some 8), none, .q (.len false (.t 7))⟩,
      ⟨(some 9), none, .q (.bin false .sub (.t 6) (.t 8))⟩,
      ⟨(some 1), none, .a (.asg (.t 9))⟩])
    (.seq
     (.seq
      (.reg [⟨(some 10), none, .q (.mov (.t 1))⟩,
        ⟨(some 11), none, .q (.bin false .lss (.t 10) (.c (.int .i64 0)))⟩])
      (.cond (.t 11)
       (.seq
        (.reg [⟨(some 4), none, .a (.asg (.c (.int .i64 (-1))))⟩])
        .ret)
       .skip))
     (.seq
      (.seq
       (.reg [⟨(some 5), none, .a (.asg (.c (.int .i64 0)))⟩])
       (.block 0
        (.loop [0, 1, 5]
         (.seq
          (.seq
           (.reg [⟨(some 12), none, .q (.mov (.t 5))⟩,
             ⟨(some 13), none, .q (.mov (.t 0))⟩,
             ⟨(some 14), none, .q (.len false (.t 13))⟩,
             ⟨(some 15), none, .q (.bin false .lss (.t 12) (.t 14))⟩])
           (.cond (.t 15)
            .skip
            (.exit 0)))
          (.seq
           (.block 1
            (.seq
             (.reg [⟨(some 18), none, .q (.mov (.t 0))⟩,
               ⟨(some 19), none, .q (.mov (.t 5))⟩,
               ⟨(some 20), none, .q (.iad 3 (.t 18) (.t 19))⟩,
               ⟨(some 21), none, .q (.load true 3 (.t 20))⟩,
               ⟨(some 22), none, .q (.mov (.t 1))⟩,
               ⟨(some 23), none, .a (.call (.fn 154) false [.lend (.t 21), .lend (.t 22)])⟩,
               ⟨(some 1), none, .a (.asg (.t 23))⟩])
             (.seq
              (.reg [⟨(some 24), none, .q (.mov (.t 1))⟩,
                ⟨(some 25), none, .q (.bin false .lss (.t 24) (.c (.int .i64 0)))⟩])
              (.cond (.t 25)
               (.seq
                (.reg [⟨(some 4), none, .a (.asg (.c (.int .i64 (-1))))⟩])
                .ret)
               .skip))))
           (.reg [⟨(some 16), none, .q (.mov (.t 5))⟩,
             ⟨(some 17), none, .q (.bin false .add (.t 16) (.c (.int .i64 1)))⟩,
             ⟨(some 5), none, .a (.asg (.t 17))⟩]))))))
      (.seq
       (.reg [⟨(some 26), none, .q (.mov (.t 1))⟩,
         ⟨(some 4), none, .a (.asg (.t 26))⟩])
       .ret)))))


theorem d113 (l : List Seen) (k : Int) (h0 : 0 ≤ k) (h1 : k ≤ 1048576) (hl : (l.length : Int) ≤ 9223372036854775807) (hs : ∀ s ∈ l, s.ok) :
    Does Go.Proofs.Try.prog 113 [.fsl 3 (l.map Seen.z), .v (.int .i64 k)] false (.v (.int .i64 (szSeenS l k))) [.dead, .dead] := by
  refine does_intro (mc := m113) (N := 27) (rs := [4]) (fx := []) 2 rfl (by decide +kernel) ?_
  simp only [m113, EV, Nat.reduceEqDiff, Nat.reduceBEq, Nat.reduceLT, Nat.reduceLeDiff, Nat.reduceAdd, Nat.reduceSub, reduceIte]
  have w1 := w64 (k - l.length) (by omega)
  simp only [w1]
  refine cK_cut (fun h => ?_) (fun h => ?_)
  · have h2 : k - l.length < 0 := by simpa using h
    have e : szSeenS l k = -1 := by simp [szSeenS, h2]
    simp only [EV, Nat.reduceEqDiff, Nat.reduceBEq, Nat.reduceLT, Nat.reduceLeDiff, Nat.reduceAdd, Nat.reduceSub, reduceIte]
    simp only [e, EV, Nat.reduceEqDiff, Nat.reduceBEq, Nat.reduceLT, Nat.reduceLeDiff, Nat.reduceAdd, Nat.reduceSub, reduceIte, retVC, cellV', evR, nfz, nfzs, nfzss, List.contains_nil, List.contains_cons, Bool.or_false, or_true]
  · have h2 : ¬ k - l.length < 0 := by simpa using h
    have e : szSeenS l k = szSeens l (k - l.length) := by simp [szSeenS, h2]
    simp only [EV, Nat.reduceEqDiff, Nat.reduceBEq, Nat.reduceLT, Nat.reduceLeDiff, Nat.reduceAdd, Nat.reduceSub, reduceIte]
    refine awp_loop (fun p : Nat × Int => p.1 ≤ l.length ∧ 0 ≤ p.2 ∧ p.2 ≤ 1048576 ∧ szSeens (l.drop p.1) p.2 = szSeenS l k)
      (fun p => stl [(0, .fsl 3 (l.map Seen.z)), (1, .v (.int .i64 p.2)), (5, .v (.int .i64 (p.1 : Int)))]) (fun p => l.length - p.1) (0, k - l.length) ⟨by simp, by simp only; omega, by simp only; omega, by simp [e]⟩ ?_ ?_
    · simp only [EV, Nat.reduceEqDiff, Nat.reduceBEq, Nat.reduceLT, Nat.reduceLeDiff, Nat.reduceAdd, Nat.reduceSub, reduceIte]
      rfl
    · rintro ⟨i, n⟩ ⟨p0, p1, p2, p3⟩
      simp only at p0 p1 p2 p3
      simp only [EV, Nat.reduceEqDiff, Nat.reduceBEq, Nat.reduceLT, Nat.reduceLeDiff, Nat.reduceAdd, Nat.reduceSub, reduceIte]
      refine cK_cut (fun h => ?_) (fun h => ?_)
      · have h3 : i < l.length := by simpa using h
        have h4 : (i : Int) < (l.length : Int) := by omega
        rw [List.drop_eq_getElem_cons h3] at p3
        simp only [szSeens] at p3
        have hle := szSeen_le l[i] n p1
        simp only [SeenE, nth_map h3, h4, EV, Nat.reduceEqDiff, Nat.reduceBEq, Nat.reduceLT, Nat.reduceLeDiff, Nat.reduceAdd, Nat.reduceSub, reduceIte]
        refine callK_i (d154 l[i] n p1 p2 (hs l[i] (List.getElem_mem h3))) ?_
        simp only [SeenE, nth_map h3, h4, EV, Nat.reduceEqDiff, Nat.reduceBEq, Nat.reduceLT, Nat.reduceLeDiff, Nat.reduceAdd, Nat.reduceSub, reduceIte]
        refine cK_cut (fun h => ?_) (fun h => ?_)
        · have h5 : szSeen l[i] n < 0 := by simpa using h
          rw [if_pos h5] at p3
          simp only [EV, Nat.reduceEqDiff, Nat.reduceBEq, Nat.reduceLT, Nat.reduceLeDiff, Nat.reduceAdd, Nat.reduceSub, reduceIte]
          simp only [← p3, EV, Nat.reduceEqDiff, Nat.reduceBEq, Nat.reduceLT, Nat.reduceLeDiff, Nat.reduceAdd, Nat.reduceSub, reduceIte, retVC, cellV', evR, nfz, nfzs, nfzss, List.contains_nil, List.contains_cons, Bool.or_false, or_true]
        · have h5 : ¬ szSeen l[i] n < 0 := by simpa using h
          rw [if_neg h5] at p3
          have w2 := w64 ((i : Int) + 1) (by omega)
          simp only [w2, EV, Nat.reduceEqDiff, Nat.reduceBEq, Nat.reduceLT, Nat.reduceLeDiff, Nat.reduceAdd, Nat.reduceSub, reduceIte]
          exact ⟨(i + 1, szSeen l[i] n), ⟨by simp only; omega, by simp only; omega, by simp only; omega, p3⟩, by simp only; omega, rfl⟩
      · have h3 : i = l.length := by have : ¬ (i : Int) < l.length := by simpa using h
                                     omega
        subst h3
        rw [List.drop_length] at p3
        simp only [szSeens] at p3
        simp only [EV, Nat.reduceEqDiff, Nat.reduceBEq, Nat.reduceLT, Nat.reduceLeDiff, Nat.reduceAdd, Nat.reduceSub, reduceIte]
        simp only [← p3, EV, Nat.reduceEqDiff, Nat.reduceBEq, Nat.reduceLT, Nat.reduceLeDiff, Nat.reduceAdd, Nat.reduceSub, reduceIte, retVC, cellV', evR, nfz, nfzs, nfzss, List.contains_nil, List.contains_cons, Bool.or_false, or_true]

/-- loop.example/g00837/laws.toSeen -/
def m158 : MC :=
  (.seq
   (.reg [⟨(some 1), none, .a (.box 157 (.t 0))⟩,
     ⟨(some 2), none, .a (.alloc 89 [.v (.string ({ data := #[] })), .v (.string ({ data := #[] })), .v (.int .i64 0)])⟩])
   (.seq
    (.reg [⟨(some 3), none, .a (.alloc 89 [.v (.string ({ data := #[] })), .v (.string ({ data := #[] })), .v (.int .i64 0)])⟩])
    (.seq
     (.reg [⟨(some 4), none, .q (.fad 0 (.t 1))⟩,
       ⟨(some 5), none, .q (.load false 1 (.t 4))⟩,
       ⟨(some 6), none, .q (.fad 0 (.t 3))⟩,
       ⟨none, none, .a (.store 1 (.t 6) (.t 5))⟩])
     (.seq
      (.reg [⟨(some 7), none, .q (.fad 1 (.t 1))⟩,
        ⟨(some 8), none, .q (.load false 1 (.t 7))⟩,
        ⟨(some 9), none, .q (.fad 1 (.t 3))⟩,
        ⟨none, none, .a (.store 1 (.t 9) (.t 8))⟩])
      (.seq
       (.reg [⟨(some 10), none, .q (.fad 2 (.t 1))⟩,
         ⟨(some 11), none, .q (.load false 1 (.t 10))⟩,
         ⟨(some 12), none, .q (.fad 2 (.t 3))⟩,
         ⟨none, none, .a (.store 1 (.t 12) (.t 11))⟩])
       (.seq
        (.reg [⟨(some 13), none, .q (.load true 3 (.t 3))⟩,
          ⟨none, none, .a (.store 3 (.t 2) (.t 13))⟩])
        .ret))))))


set_option maxRecDepth 100000 in
theorem d158 (s : Seen) (hs : s.sm) : Does Go.Proofs.Try.prog 158 [.agg s.z] false (.agg s.o) [.dead] := by
  unfold Seen.sm at hs
  refine does_introC (mc := m158) (N := 14) (r := 2) (ty := 89) (agg := true) (sz := 3) (fx := []) 1 rfl (by decide +kernel) ?_
  simp only [m158, Seen.z, Seen.o, EV, Nat.reduceEqDiff, Nat.reduceBEq, Nat.reduceLT, Nat.reduceLeDiff, Nat.reduceAdd, Nat.reduceSub, reduceIte]
  simp only [EV, Nat.reduceEqDiff, Nat.reduceBEq, Nat.reduceLT, Nat.reduceLeDiff, Nat.reduceAdd, Nat.reduceSub, reduceIte, retVC, cellV', evR, nfz, nfzs, nfzss, List.contains_nil, List.contains_cons, Bool.or_false, or_true]

/-- loop.example/g00837/laws.toSeenS -/
def m118 : MC :=
  (.seq
   (.reg [⟨(some 2), none, .a (.asg (.nils 89 3))⟩])
   (.seq
    (.reg [⟨(some 5), none, .q (.mov (.t 0))⟩,
      ⟨(some 6), none, .q (.len false (.t 5))⟩,
      ⟨(some 7), none, .a (.mks 89 3 40 [.v (.string ({ data := #[] })), .v (.string ({ data := #[] })), .v (.int .i64 0)] (.t 6) (.t 6))⟩,
      ⟨(some 3), none, .a (.asg (.t 7))⟩])
    (.seq
     (.seq
      (.reg [⟨(some 4), none, .a (.asg (.c (.int .i64 0)))⟩])
      (.block 0
       (.loop [0, 3, 4, 7]
        (.seq
         (.seq
          (.reg [⟨(some 8), none, .q (.mov (.t 4))⟩,
            ⟨(some 9), none, .q (.mov (.t 0))⟩,
            ⟨(some 10), none, .q (.len false (.t 9))⟩,
            ⟨(some 11), none, .q (.bin false .lss (.t 8) (.t 10))⟩])
          (.cond (.t 11)
           .skip
           (.exit 0)))
         (.seq
          (.block 1
           (.reg [⟨(some 14), none, .q (.mov (.t 3))⟩,
             ⟨(some 15), none, .q (.mov (.t 4))⟩,
             ⟨(some 16), none, .q (.mov (.t 0))⟩,
             ⟨(some 17), none, .q (.mov (.t 4))⟩,
             ⟨(some 18), none, .q (.iad 3 (.t 16) (.t 17))⟩,
             ⟨(some 19), none, .q (.load true 3 (.t 18))⟩,
             ⟨(some 20), none, .a (.call (.fn 158) false [.lend (.t 19)])⟩,
             ⟨(some 21), none, .q (.iad 3 (.t 14) (.t 15))⟩,
             ⟨none, none, .a (.store 3 (.t 21) (.t 20))⟩]))
          (.reg [⟨(some 12), none, .q (.mov (.t 4))⟩,
            ⟨(some 13), none, .q (.bin false .add (.t 12) (.c (.int .i64 1)))⟩,
            ⟨(some 4), none, .a (.asg (.t 13))⟩]))))))
     (.seq
      (.reg [⟨(some 22), none, .q (.mov (.t 3))⟩,
        ⟨(some 2), none, .a (.asg (.t 22))⟩])
      .ret))))


theorem d118 (l : List Seen) (hl : (l.length : Int) ≤ 1048576) (hs : ∀ s ∈ l, s.sm) : Does Go.Proofs.Try.prog 118 [.fsl 3 (l.map Seen.z)] false (.usl 89 3 (l.map Seen.o)) [.dead] := by
  refine does_intro (mc := m118) (N := 23) (rs := [2]) (fx := []) 1 rfl (by decide +kernel) ?_
  simp only [m118, EV, Nat.reduceEqDiff, Nat.reduceBEq, Nat.reduceLT, Nat.reduceLeDiff, Nat.reduceAdd, Nat.reduceSub, reduceIte]
  refine ⟨by omega, by omega, ?_⟩
  refine awp_loop (fun i : Nat => i ≤ l.length) (fun i => stl [(0, .fsl 3 (l.map Seen.z)), (3, .usl 89 3 ((l.take i).map Seen.o ++ List.replicate (l.length - i) Seen.zr)), (4, .v (.int .i64 (i : Int))), (7, .dead)]) (fun i => l.length - i) 0 (Nat.zero_le _) ?_ ?_
  · simp only [EV, Nat.reduceEqDiff, Nat.reduceBEq, Nat.reduceLT, Nat.reduceLeDiff, Nat.reduceAdd, Nat.reduceSub, reduceIte]
    rfl
  · intro i hi
    simp only [EV, Nat.reduceEqDiff, Nat.reduceBEq, Nat.reduceLT, Nat.reduceLeDiff, Nat.reduceAdd, Nat.reduceSub, reduceIte]
    refine cK_cut (fun h => ?_) (fun h => ?_)
    · have h1 : i < l.length := by simpa using h
      have h2 : (i : Int) < (l.length : Int) := by omega
      have h3 : ((l.take i).map Seen.o ++ List.replicate (l.length - i) Seen.zr).length = l.length := by simp; omega
      simp only [SeenE, nth_map h1, h2, EV, Nat.reduceEqDiff, Nat.reduceBEq, Nat.reduceLT, Nat.reduceLeDiff, Nat.reduceAdd, Nat.reduceSub, reduceIte]
      refine callK_i (d158 l[i] (hs l[i] (List.getElem_mem h1))) ?_
      simp only [SeenE, h2, h3, EV, Nat.reduceEqDiff, Nat.reduceBEq, Nat.reduceLT, Nat.reduceLeDiff, Nat.reduceAdd, Nat.reduceSub, reduceIte]
      refine ⟨h1, i + 1, by omega, by omega, ?_⟩
      have ez : l[i].o ++ List.drop 3 Seen.zr = l[i].o := List.append_nil _
      rw [fill_nth h1, w64 _ (by omega), ez, fill_set h1]
      rfl
    · have h1 : i = l.length := by have : ¬ (i : Int) < l.length := by simpa using h
                                   omega
      subst h1
      simp only [EV, Nat.reduceEqDiff, Nat.reduceBEq, Nat.reduceLT, Nat.reduceLeDiff, Nat.reduceAdd, Nat.reduceSub, reduceIte]
      simp only [Nat.sub_self, List.replicate_zero, Seen.nfz, EV, Nat.reduceEqDiff, Nat.reduceBEq, Nat.reduceLT, Nat.reduceLeDiff, Nat.reduceAdd, Nat.reduceSub, reduceIte, retVC, cellV', evR, nfz, nfzs, nfzss, List.contains_nil, List.contains_cons, Bool.or_false, or_true]

/-- loop.example/g00837/laws.eqSeen -/
def m164 : MC :=
  (.seq
   (.reg [⟨(some 2), none, .a (.box 89 (.t 0))⟩,
     ⟨(some 3), none, .a (.box 89 (.t 1))⟩,
     ⟨(some 4), none, .a (.asg (.c (.bool false)))⟩])
   (.seq
    (.seq
     (.reg [⟨(some 5), none, .q (.fad 0 (.t 2))⟩,
       ⟨(some 6), none, .q (.load false 1 (.t 5))⟩,
       ⟨(some 7), none, .q (.fad 0 (.t 3))⟩,
       ⟨(some 8), none, .q (.load false 1 (.t 7))⟩,
       ⟨(some 9), none, .q (.bin false .neq (.t 6) (.t 8))⟩])
     (.cond (.t 9)
      (.seq
       (.reg [⟨(some 4), none, .a (.asg (.c (.bool false)))⟩])
       .ret)
      .skip))
    (.seq
     (.seq
      (.reg [⟨(some 10), none, .q (.fad 1 (.t 2))⟩,
        ⟨(some 11), none, .q (.load false 1 (.t 10))⟩,
        ⟨(some 12), none, .q (.fad 1 (.t 3))⟩,
        ⟨(some 13), none, .q (.load false 1 (.t 12))⟩,
        ⟨(some 14), none, .q (.bin false .neq (.t 11) (.t 13))⟩])
      (.cond (.t 14)
       (.seq
        (.reg [⟨(some 4), none, .a (.asg (.c (.bool false)))⟩])
        .ret)
       .skip))
     (.seq
      (.seq
       (.reg [⟨(some 15), none, .q (.fad 2 (.t 2))⟩,
         ⟨(some 16), none, .q (.load false 1 (.t 15))⟩,
         ⟨(some 17), none, .q (.fad 2 (.t 3))⟩,
         ⟨(some 18), none, .q (.load false 1 (.t 17))⟩,
         ⟨(some 19), none, .q (.bin false .neq (.t 16) (.t 18))⟩])
       (.cond (.t 19)
        (.seq
         (.reg [⟨(some 4), none, .a (.asg (.c (.bool false)))⟩])
         .ret)
        .skip))
      (.seq
       (.reg [⟨(some 4), none, .a (.asg (.c (.bool true)))⟩])
       .ret)))))


set_option maxRecDepth 100000 in
theorem d164 (s : Seen) (hs : s.sm) : Does Go.Proofs.Try.prog 164 [.agg s.z, .agg s.z] false (.v (.bool true)) [.dead, .dead] := by
  unfold Seen.sm at hs
  refine does_intro (mc := m164) (N := 20) (rs := [4]) (fx := []) 2 rfl (by decide +kernel) ?_
  simp only [m164, Seen.z, EV, Nat.reduceEqDiff, Nat.reduceBEq, Nat.reduceLT, Nat.reduceLeDiff, Nat.reduceAdd, Nat.reduceSub, reduceIte]
  simp only [EV, Nat.reduceEqDiff, Nat.reduceBEq, Nat.reduceLT, Nat.reduceLeDiff, Nat.reduceAdd, Nat.reduceSub, reduceIte, retVC, cellV', evR, nfz, nfzs, nfzss, List.contains_nil, List.contains_cons, Bool.or_false, or_true]

/-- loop.example/g00837/laws.eqSeenS -/
def m126 : MC :=
  (.seq
   (.reg [⟨(some 4), none, .a (.asg (.c (.bool false)))⟩])
   (.seq
    (.seq
     (.reg [⟨(some 6), none, .q (.mov (.t 0))⟩,
       ⟨(some 7), none, .q (.len false (.t 6))⟩,
       ⟨(some 8), none, .q (.mov (.t 1))⟩,
       ⟨(some 9), none, .q (.len false (.t 8))⟩,
       ⟨(some 10), none, .q (.bin false .neq (.t 7) (.t 9))⟩])
     (.cond (.t 10)
      (.seq
       (.reg [⟨(some 4), none, .a (.asg (.c (.bool false)))⟩])
       .ret)
      .skip))
    (.seq
     (.seq
      (.reg [⟨(some 5), none, .a (.asg (.c (.int .i64 0)))⟩])
      (.block 0
       (.loop [0, 1, 5]
        (.seq
         (.seq
          (.reg [⟨(some 11), none, .q (.mov (.t 5))⟩,
            ⟨(some 12), none, .q (.mov (.t 0))⟩,
            ⟨(some 13), none, .q (.len false (.t 12))⟩,
            ⟨(some 14), none, .q (.bin false .lss (.t 11) (.t 13))⟩])
          (.cond (.t 14)
           .skip
           (.exit 0)))
         (.seq
          (.block 1
           (.seq
            (.dreg [⟨(some 17), none, .q (.mov (.t 0))⟩,
              ⟨(some 18), none, .q (.mov (.t 5))⟩,
              ⟨(some 19), none, .q (.iad 3 (.t 17) (.t 18))⟩,
              ⟨(some 20), none, .q (.load true 3 (.t 19))⟩,
              ⟨(some 21), none, .q (.mov (.t 1))⟩,
              ⟨(some 22), none, .q (.mov (.t 5))⟩,
              ⟨(some 23), none, .q (.iad 3 (.t 21) (.t 22))⟩,
              ⟨(some 24), none, .q (.load true 3 (.t 23))⟩,
              ⟨(some 25), none, .a (.call (.fn 164) false [.lend (.t 20), .lend (.t 24)])⟩,
              ⟨(some 26), none, .q (.un .not (.t 25))⟩])
            (.cond (.t 26)
             (.seq
              (.reg [⟨(some 4), none, .a (.asg (.c (.bool false)))⟩])
              .ret)
             .skip)))
          (.reg [⟨(some 15), none, .q (.mov (.t 5))⟩,
            ⟨(some 16), none, .q (.bin false .add (.t 15) (.c (.int .i64 1)))⟩,
            ⟨(some 5), none, .a (.asg (.t 16))⟩]))))))
     (.seq
      (.reg [⟨(some 4), none, .a (.asg (.c (.bool true)))⟩])
      .ret))))


theorem d126 (l : List Seen) (hl : (l.length : Int) ≤ 1048576) (hs : ∀ s ∈ l, s.sm) : Does Go.Proofs.Try.prog 126 [.fsl 3 (l.map Seen.z), .fsl 3 (l.map Seen.z)] false (.v (.bool true)) [.dead, .dead] := by
  refine does_intro (mc := m126) (N := 27) (rs := [4]) (fx := []) 2 rfl (by decide +kernel) ?_
  simp only [m126, EV, Nat.reduceEqDiff, Nat.reduceBEq, Nat.reduceLT, Nat.reduceLeDiff, Nat.reduceAdd, Nat.reduceSub, reduceIte]
  refine awp_loop (fun i : Nat => i ≤ l.length) (fun i => stl [(0, .fsl 3 (l.map Seen.z)), (1, .fsl 3 (l.map Seen.z)), (5, .v (.int .i64 (i : Int)))]) (fun i => l.length - i) 0 (Nat.zero_le _) ?_ ?_
  · simp only [EV, Nat.reduceEqDiff, Nat.reduceBEq, Nat.reduceLT, Nat.reduceLeDiff, Nat.reduceAdd, Nat.reduceSub, reduceIte]
    rfl
  · intro i hi
    simp only [EV, Nat.reduceEqDiff, Nat.reduceBEq, Nat.reduceLT, Nat.reduceLeDiff, Nat.reduceAdd, Nat.reduceSub, reduceIte]
    refine cK_cut (fun h => ?_) (fun h => ?_)
    · have h1 : i < l.length := by simpa using h
      have h2 : (i : Int) < (l.length : Int) := by omega
      simp only [SeenE, nth_map h1, h2, EV, Nat.reduceEqDiff, Nat.reduceBEq, Nat.reduceLT, Nat.reduceLeDiff, Nat.reduceAdd, Nat.reduceSub, reduceIte]
      refine callD_i (d164 l[i] (hs l[i] (List.getElem_mem h1))) rfl ?_
      simp only [EV, Nat.reduceEqDiff, Nat.reduceBEq, Nat.reduceLT, Nat.reduceLeDiff, Nat.reduceAdd, Nat.reduceSub, reduceIte]
      refine ⟨i + 1, by omega, by omega, ?_⟩
      rw [w64 _ (by omega)]
      rfl
    · have h1 : i = l.length := by have : ¬ (i : Int) < l.length := by simpa using h
                                   omega
      simp only [EV, Nat.reduceEqDiff, Nat.reduceBEq, Nat.reduceLT, Nat.reduceLeDiff, Nat.reduceAdd, Nat.reduceSub, reduceIte]
      simp only [EV, Nat.reduceEqDiff, Nat.reduceBEq, Nat.reduceLT, Nat.reduceLeDiff, Nat.reduceAdd, Nat.reduceSub, reduceIte, retVC, cellV', evR, nfz, nfzs, nfzss, List.contains_nil, List.contains_cons, Bool.or_false, or_true]
structure Str where
  s : ByteArray

def Str.z (s : Str) : List AV := [.v (.string s.s)]

def Str.o (s : Str) : List AV := [.v (.string s.s)]

def Str.zr : List AV := [.v (.string ⟨#[]⟩)]

theorem Str.fr (s : Str) : frzRow s.o = s.z := by
  simp only [Str.o, Str.z, frzRow, frzL, List.cons_append, List.nil_append]
theorem Str.frz : ∀ l : List Str, frzRows (l.map Str.o) = l.map Str.z
  | [] => rfl
  | s :: l => by simp only [List.map_cons, frzRows, Str.fr, Str.frz l]
theorem Str.nf (s : Str) : nfzs s.o = true := by
  simp only [Str.o, nfzs, nfz, List.cons_append, List.nil_append, Bool.and_self]
theorem Str.nfz : ∀ l : List Str, nfzss (l.map Str.o) = true
  | [] => rfl
  | s :: l => by simp only [List.map_cons, nfzss, Str.nf, Str.nfz l, Bool.and_self]
theorem StrE : (∀ f : Str, f.z.length = 1) ∧ (∀ f : Str, f.z.take 1 = f.z) ∧ (∀ (st : St) (f : Str), frzBs st f.z = f.z) ∧ (∀ f : Str, bares f.z = true) ∧ (∀ f : Str, plains f.z = true) ∧
    (∀ (f : Str) (K : Nat → List (Nat × Nat) → Bool), killVs K f.z = f.z) ∧ (∀ f : Str, f.z.all storL = true) ∧ (∀ f : Str, f.o.length = 1) ∧ (∀ f : Str, f.o.take 1 = f.o) ∧ (∀ f : Str, bares f.o = true) ∧
    (∀ f : Str, plains f.o = true) ∧ (∀ (f : Str) (K : Nat → List (Nat × Nat) → Bool), killVs K f.o = f.o) ∧ (∀ f : Str, f.o.all storL = true) :=
  ⟨fun _ => rfl, fun _ => rfl, fun _ _ => rfl, fun _ => rfl, fun _ => rfl, fun _ _ => rfl, fun _ => rfl, fun _ => rfl, fun _ => rfl, fun _ => rfl, fun _ => rfl, fun _ _ => rfl, fun _ => rfl⟩

def Str.ok (s : Str) : Prop := (s.s.size : Int) ≤ 9223372036854775807
def Str.sm (s : Str) : Prop := (s.s.size : Int) ≤ 1048576

def szStr (s : Str) (k : Int) : Int := if k - s.s.size < 0 then -1 else k - s.s.size
def totStr (s : Str) : Int := (s.s.size : Int)
theorem szStr_le (s : Str) (k : Int) (h : 0 ≤ k) : szStr s k ≤ k := by
  unfold szStr
  by_cases g0 : k - s.s.size < 0
  · rw [if_pos g0]; omega
  rw [if_neg g0]
  omega
theorem szStr_tot (s : Str) (k : Int) (h : 0 ≤ szStr s k) : totStr s + szStr s k = k := by
  unfold szStr at h ⊢
  unfold totStr
  by_cases g0 : k - s.s.size < 0
  · rw [if_pos g0] at h; omega
  rw [if_neg g0] at h ⊢
  omega
theorem totStr_nn (s : Str) : 0 ≤ totStr s := by
  unfold totStr
  omega
theorem Str.sm_of (s : Str) (h : totStr s ≤ 1048576) : s.sm := by
  unfold totStr at h
  unfold Str.sm
  omega

def szStrs : List Str → Int → Int
  | [], k => k
  | s :: r, k => if szStr s k < 0 then -1 else szStrs r (szStr s k)
def szStrS (l : List Str) (k : Int) : Int := if k - l.length < 0 then -1 else szStrs l (k - l.length)
theorem szStrs_le : ∀ (l : List Str) (k : Int), 0 ≤ k → szStrs l k ≤ k
  | [], k, h => by simp [szStrs]
  | s :: r, k, h => by
    simp only [szStrs]
    have h1 := szStr_le s k h
    split
    · omega
    · have := szStrs_le r (szStr s k) (by omega)
      omega
theorem szStrS_le (l : List Str) (k : Int) (h : 0 ≤ k) : szStrS l k ≤ k := by
  unfold szStrS
  split
  · omega
  · have := szStrs_le l (k - l.length) (by omega); omega
def totStrs : List Str → Int
  | [] => 0
  | s :: r => 1 + totStr s + totStrs r
theorem szStrs_tot : ∀ (l : List Str) (k : Int), 0 ≤ szStrs l k → totStrs l + szStrs l k = k + l.length
  | [], k, h => by simp [szStrs, totStrs]
  | s :: r, k, h => by
    simp only [szStrs] at h ⊢
    split
    · rename_i h1; rw [if_pos h1] at h; omega
    · rename_i h1
      rw [if_neg h1] at h
      have h2 := szStr_tot s k (by omega)
      have h3 := szStrs_tot r _ h
      simp only [totStrs, List.length_cons]
      omega
theorem szStrS_tot (l : List Str) (k : Int) (h : 0 ≤ szStrS l k) : totStrs l + szStrS l k = k := by
  unfold szStrS at h ⊢
  split
  · rename_i h1; rw [if_pos h1] at h; omega
  · rename_i h1
    rw [if_neg h1] at h
    have := szStrs_tot l _ h
    omega
theorem totStrs_nn : ∀ l : List Str, (l.length : Int) ≤ totStrs l
  | [] => by simp [totStrs]
  | s :: r => by
    have := totStrs_nn r
    have := totStr_nn s
    simp only [totStrs, List.length_cons]
    omega
theorem totStrs_mem : ∀ (l : List Str) (s : Str), s ∈ l → totStr s ≤ totStrs l
  | x :: r, s, h => by
    simp only [totStrs]
    have h3 := totStr_nn x
    have h2 := totStrs_nn r
    rcases List.mem_cons.1 h with h | h
    · subst h; omega
    · have := totStrs_mem r s h; omega

theorem szStr_neg {s : Str} {k : Int} (h : k - s.s.size < 0) : szStr s k < 0 := by
  unfold szStr
  rw [if_pos h]
  omega
theorem szStr_pos {s : Str} {k : Int} (h : ¬ k - s.s.size < 0) : ¬ szStr s k < 0 := by
  unfold szStr
  rw [if_neg h]
  exact h
theorem szStr_val {s : Str} {k : Int} (h : ¬ k - s.s.size < 0) : k - s.s.size = szStr s k := by
  unfold szStr
  rw [if_neg h]

/-- loop.example/g00837/laws.szStringS -/
def m151 : MC :=
  (.seq
   (.reg [⟨(some 4), none, .a (.asg (.c (.int .i64 0)))⟩])
   (.seq
    (.reg [⟨(some 6), none, .q (.mov (.t 1))⟩,
      ⟨(some 7), none, .q (.mov (.t 0))⟩,
      ⟨(some 8), none, .q (.len false (.t 7))⟩,
      ⟨(some 9), none, .q (.bin false .sub (.t 6) (.t 8))⟩,
      ⟨(some 1), none, .a (.asg (.t 9))⟩])
    (.seq
     (.seq
      (.reg [⟨(some 10), none, .q (.mov (.t 1))⟩,
        ⟨(some 11), none, .q (.bin false .lss (.t 10) (.c (.int .i64 0)))⟩])
      (.cond (.t 11)
       (.seq
        (.reg [⟨(some 4), none, .a (.asg (.c (.int .i64 (-1))))⟩])
        .ret)
       .skip))
     (.seq
      (.seq
       (.reg [⟨(some 5), none, .a (.asg (.c (.int .i64 0)))⟩])
       (.block 0
        (.loop [0, 1, 5]
         (.seq
          (.seq
           (.reg [⟨(some 12), none, .q (.mov (.t 5))⟩,
             ⟨(some 13), none, .q (.mov (.t 0))⟩,
             ⟨(some 14), none, .q (.len false (.t 13))⟩,
             ⟨(some 15), none, .q (.bin false .lss (.t 12) (.t 14))⟩])
           (.cond (.t 15)
            .skip
            (.exit 0)))
          (.seq
           (.block 1
            (.seq
             (.reg [⟨(some 18), none, .q (.mov (.t 1))⟩,
               ⟨(some 19), none, .q (.mov (.t 0))⟩,
               ⟨(some 20), none, .q (.mov (.t 5))⟩,
               ⟨(some 21), none, .q (.iad 1 (.t 19) (.t 20))⟩,
               ⟨(some 22), none, .q (.load false 1 (.t 21))⟩,
               ⟨(some 23), none, .q (.len true (.t 22))⟩,
               ⟨(some 24), none, .q (.bin false .sub (.t 18) (.t 23))⟩,
               ⟨(some 1), none, .a (.asg (.t 24))⟩])
             (.seq
              (.reg [⟨(some 25), none, .q (.mov (.t 1))⟩,
                ⟨(some 26), none, .q (.bin false .lss (.t 25) (.c (.int .i64 0)))⟩])
              (.cond (.t 26)
               (.seq
                (.reg [⟨(some 4), none, .a (.asg (.c (.int .i64 (-1))))⟩])
                .ret)
               .skip))))
           (.reg [⟨(some 16), none, .q (.mov (.t 5))⟩,
             ⟨(some 17), none, .q (.bin false .add (.t 16) (.c (.int .i64 1)))⟩,
             ⟨(some 5), none, .a (.asg (.t 17))⟩]))))))
      (.seq
       (.reg [⟨(some 27), none, .q (.mov (.t 1))⟩,
         ⟨(some 4), none, .a (.asg (.t 27))⟩])
       .ret)))))


theorem d151 (l : List Str) (k : Int) (h0 : 0 ≤ k) (h1 : k ≤ 1048576) (hl : (l.length : Int) ≤ 9223372036854775807) (hs : ∀ s ∈ l, s.ok) :
    Does Go.Proofs.Try.prog 151 [.fsl 1 (l.map Str.z), .v (.int .i64 k)] false (.v (.int .i64 (szStrS l k))) [.dead, .dead] := by
  refine does_intro (mc := m151) (N := 28) (rs := [4]) (fx := []) 2 rfl (by decide +kernel) ?_
  simp only [m151, EV, Nat.reduceEqDiff, Nat.reduceBEq, Nat.reduceLT, Nat.reduceLeDiff, Nat.reduceAdd, Nat.reduceSub, reduceIte]
  have w1 := w64 (k - l.length) (by omega)
  simp only [w1]
  refine cK_cut (fun h => ?_) (fun h => ?_)
  · have h2 : k - l.length < 0 := by simpa using h
    have e : szStrS l k = -1 := by simp [szStrS, h2]
    simp only [EV, Nat.reduceEqDiff, Nat.reduceBEq, Nat.reduceLT, Nat.reduceLeDiff, Nat.reduceAdd, Nat.reduceSub, reduceIte]
    simp only [e, EV, Nat.reduceEqDiff, Nat.reduceBEq, Nat.reduceLT, Nat.reduceLeDiff, Nat.reduceAdd, Nat.reduceSub, reduceIte, retVC, cellV', evR, nfz, nfzs, nfzss, List.contains_nil, List.contains_cons, Bool.or_false, or_true]
  · have h2 : ¬ k - l.length < 0 := by simpa using h
    have e : szStrS l k = szStrs l (k - l.length) := by simp [szStrS, h2]
    simp only [EV, Nat.reduceEqDiff, Nat.reduceBEq, Nat.reduceLT, Nat.reduceLeDiff, Nat.reduceAdd, Nat.reduceSub, reduceIte]
    refine awp_loop (fun p : Nat × Int => p.1 ≤ l.length ∧ 0 ≤ p.2 ∧ p.2 ≤ 1048576 ∧ szStrs (l.drop p.1) p.2 = szStrS l k)
      (fun p => stl [(0, .fsl 1 (l.map Str.z)), (1, .v (.int .i64 p.2)), (5, .v (.int .i64 (p.1 : Int)))]) (fun p => l.length - p.1) (0, k - l.length) ⟨by simp, by simp only; omega, by simp only; omega, by simp [e]⟩ ?_ ?_
    · simp only [EV, Nat.reduceEqDiff, Nat.reduceBEq, Nat.reduceLT, Nat.reduceLeDiff, Nat.reduceAdd, Nat.reduceSub, reduceIte]
      rfl
    · rintro ⟨i, n⟩ ⟨p0, p1, p2, p3⟩
      simp only at p0 p1 p2 p3
      simp only [EV, Nat.reduceEqDiff, Nat.reduceBEq, Nat.reduceLT, Nat.reduceLeDiff, Nat.reduceAdd, Nat.reduceSub, reduceIte]
      refine cK_cut (fun h => ?_) (fun h => ?_)
      · have h3 : i < l.length := by simpa using h
        have h4 : (i : Int) < (l.length : Int) := by omega
        rw [List.drop_eq_getElem_cons h3] at p3
        simp only [szStrs] at p3
        have hle := szStr_le l[i] n p1
        simp only [StrE, nth_map h3, h4, Str.z, EV, Nat.reduceEqDiff, Nat.reduceBEq, Nat.reduceLT, Nat.reduceLeDiff, Nat.reduceAdd, Nat.reduceSub, reduceIte]
        have hok := hs l[i] (List.getElem_mem h3)
        unfold Str.ok at hok
        have w9 := w64 (n - l[i].s.size) (by omega)
        simp only [w9]
        refine cK_cut (fun h => ?_) (fun h => ?_)
        · have h5 : szStr l[i] n < 0 := szStr_neg (by simpa using h)
          rw [if_pos h5] at p3
          simp only [EV, Nat.reduceEqDiff, Nat.reduceBEq, Nat.reduceLT, Nat.reduceLeDiff, Nat.reduceAdd, Nat.reduceSub, reduceIte]
          simp only [← p3, EV, Nat.reduceEqDiff, Nat.reduceBEq, Nat.reduceLT, Nat.reduceLeDiff, Nat.reduceAdd, Nat.reduceSub, reduceIte, retVC, cellV', evR, nfz, nfzs, nfzss, List.contains_nil, List.contains_cons, Bool.or_false, or_true]
        · have h5 : ¬ szStr l[i] n < 0 := szStr_pos (by simpa using h)
          rw [if_neg h5] at p3
          have w2 := w64 ((i : Int) + 1) (by omega)
          rw [szStr_val (by simpa using h)]
          simp only [w2, EV, Nat.reduceEqDiff, Nat.reduceBEq, Nat.reduceLT, Nat.reduceLeDiff, Nat.reduceAdd, Nat.reduceSub, reduceIte]
          exact ⟨(i + 1, szStr l[i] n), ⟨by simp only; omega, by simp only; omega, by simp only; omega, p3⟩, by simp only; omega, rfl⟩
      · have h3 : i = l.length := by have : ¬ (i : Int) < l.length := by simpa using h
                                     omega
        subst h3
        rw [List.drop_length] at p3
        simp only [szStrs] at p3
        simp only [EV, Nat.reduceEqDiff, Nat.reduceBEq, Nat.reduceLT, Nat.reduceLeDiff, Nat.reduceAdd, Nat.reduceSub, reduceIte]
        simp only [← p3, EV, Nat.reduceEqDiff, Nat.reduceBEq, Nat.reduceLT, Nat.reduceLeDiff, Nat.reduceAdd, Nat.reduceSub, reduceIte, retVC, cellV', evR, nfz, nfzs, nfzss, List.contains_nil, List.contains_cons, Bool.or_false, or_true]

/-- loop.example/g00837/laws.toStringS -/
def m155 : MC :=
  (.seq
   (.reg [⟨(some 2), none, .a (.asg (.nils 9 1))⟩])
   (.seq
    (.reg [⟨(some 5), none, .q (.mov (.t 0))⟩,
      ⟨(some 6), none, .q (.len false (.t 5))⟩,
      ⟨(some 7), none, .a (.mks 9 1 16 [.v (.string ({ data := #[] }))] (.t 6) (.t 6))⟩,
      ⟨(some 3), none, .a (.asg (.t 7))⟩])
    (.seq
     (.seq
      (.reg [⟨(some 4), none, .a (.asg (.c (.int .i64 0)))⟩])
      (.block 0
       (.loop [0, 3, 4, 7]
        (.seq
         (.seq
          (.reg [⟨(some 8), none, .q (.mov (.t 4))⟩,
            ⟨(some 9), none, .q (.mov (.t 0))⟩,
            ⟨(some 10), none, .q (.len false (.t 9))⟩,
            ⟨(some 11), none, .q (.bin false .lss (.t 8) (.t 10))⟩])
          (.cond (.t 11)
           .skip
           (.exit 0)))
         (.seq
          (.block 1
           (.reg [⟨(some 14), none, .q (.mov (.t 3))⟩,
             ⟨(some 15), none, .q (.mov (.t 4))⟩,
             ⟨(some 16), none, .q (.mov (.t 0))⟩,
             ⟨(some 17), none, .q (.mov (.t 4))⟩,
             ⟨(some 18), none, .q (.iad 1 (.t 16) (.t 17))⟩,
             ⟨(some 19), none, .q (.load false 1 (.t 18))⟩,
             ⟨(some 20), none, .q (.iad 1 (.t 14) (.t 15))⟩,
             ⟨none, none, .a (.store 1 (.t 20) (.t 19))⟩]))
          (.reg [⟨(some 12), none, .q (.mov (.t 4))⟩,
            ⟨(some 13), none, .q (.bin false .add (.t 12) (.c (.int .i64 1)))⟩,
            ⟨(some 4), none, .a (.asg (.t 13))⟩]))))))
     (.seq
      (.reg [⟨(some 21), none, .q (.mov (.t 3))⟩,
        ⟨(some 2), none, .a (.asg (.t 21))⟩])
      .ret))))


theorem d155 (l : List Str) (hl : (l.length : Int) ≤ 1048576) (hs : ∀ s ∈ l, s.sm) : Does Go.Proofs.Try.prog 155 [.fsl 1 (l.map Str.z)] false (.usl 9 1 (l.map Str.o)) [.dead] := by
  refine does_intro (mc := m155) (N := 22) (rs := [2]) (fx := []) 1 rfl (by decide +kernel) ?_
  simp only [m155, EV, Nat.reduceEqDiff, Nat.reduceBEq, Nat.reduceLT, Nat.reduceLeDiff, Nat.reduceAdd, Nat.reduceSub, reduceIte]
  refine ⟨by omega, by omega, ?_⟩
  refine awp_loop (fun i : Nat => i ≤ l.length) (fun i => stl [(0, .fsl 1 (l.map Str.z)), (3, .usl 9 1 ((l.take i).map Str.o ++ List.replicate (l.length - i) Str.zr)), (4, .v (.int .i64 (i : Int))), (7, .dead)]) (fun i => l.length - i) 0 (Nat.zero_le _) ?_ ?_
  · simp only [EV, Nat.reduceEqDiff, Nat.reduceBEq, Nat.reduceLT, Nat.reduceLeDiff, Nat.reduceAdd, Nat.reduceSub, reduceIte]
    rfl
  · intro i hi
    simp only [EV, Nat.reduceEqDiff, Nat.reduceBEq, Nat.reduceLT, Nat.reduceLeDiff, Nat.reduceAdd, Nat.reduceSub, reduceIte]
    refine cK_cut (fun h => ?_) (fun h => ?_)
    · have h1 : i < l.length := by simpa using h
      have h2 : (i : Int) < (l.length : Int) := by omega
      have h3 : ((l.take i).map Str.o ++ List.replicate (l.length - i) Str.zr).length = l.length := by simp; omega
      simp only [StrE, Str.z, nth_map h1, h2, h3, EV, Nat.reduceEqDiff, Nat.reduceBEq, Nat.reduceLT, Nat.reduceLeDiff, Nat.reduceAdd, Nat.reduceSub, reduceIte]
      refine ⟨h1, i + 1, by omega, by omega, ?_⟩
      have ez : l[i].o ++ List.drop 1 Str.zr = l[i].o := List.append_nil _
      have eo : [AV.v (Value.string l[i].s)] = l[i].o := rfl
      have ez2 : AV.v (Value.string l[i].s) :: List.drop 1 Str.zr = l[i].o := rfl
      rw [fill_nth h1, w64 _ (by omega), ez2, fill_set h1]
      rfl
    · have h1 : i = l.length := by have : ¬ (i : Int) < l.length := by simpa using h
                                   omega
      subst h1
      simp only [EV, Nat.reduceEqDiff, Nat.reduceBEq, Nat.reduceLT, Nat.reduceLeDiff, Nat.reduceAdd, Nat.reduceSub, reduceIte]
      simp only [Nat.sub_self, List.replicate_zero, Str.nfz, EV, Nat.reduceEqDiff, Nat.reduceBEq, Nat.reduceLT, Nat.reduceLeDiff, Nat.reduceAdd, Nat.reduceSub, reduceIte, retVC, cellV', evR, nfz, nfzs, nfzss, List.contains_nil, List.contains_cons, Bool.or_false, or_true]

/-- loop.example/g00837/laws.eqStringS -/
def m161 : MC :=
  (.seq
   (.reg [⟨(some 4), none, .a (.asg (.c (.bool false)))⟩])
   (.seq
    (.seq
     (.reg [⟨(some 6), none, .q (.mov (.t 0))⟩,
       ⟨(some 7), none, .q (.len false (.t 6))⟩,
       ⟨(some 8), none, .q (.mov (.t 1))⟩,
       ⟨(some 9), none, .q (.len false (.t 8))⟩,
       ⟨(some 10), none, .q (.bin false .neq (.t 7) (.t 9))⟩])
     (.cond (.t 10)
      (.seq
       (.reg [⟨(some 4), none, .a (.asg (.c (.bool false)))⟩])
       .ret)
      .skip))
    (.seq
     (.seq
      (.reg [⟨(some 5), none, .a (.asg (.c (.int .i64 0)))⟩])
      (.block 0
       (.loop [0, 1, 5]
        (.seq
         (.seq
          (.reg [⟨(some 11), none, .q (.mov (.t 5))⟩,
            ⟨(some 12), none, .q (.mov (.t 0))⟩,
            ⟨(some 13), none, .q (.len false (.t 12))⟩,
            ⟨(some 14), none, .q (.bin false .lss (.t 11) (.t 13))⟩])
          (.cond (.t 14)
           .skip
           (.exit 0)))
         (.seq
          (.block 1
           (.seq
            (.dreg [⟨(some 17), none, .q (.mov (.t 0))⟩,
              ⟨(some 18), none, .q (.mov (.t 5))⟩,
              ⟨(some 19), none, .q (.iad 1 (.t 17) (.t 18))⟩,
              ⟨(some 20), none, .q (.load false 1 (.t 19))⟩,
              ⟨(some 21), none, .q (.mov (.t 1))⟩,
              ⟨(some 22), none, .q (.mov (.t 5))⟩,
              ⟨(some 23), none, .q (.iad 1 (.t 21) (.t 22))⟩,
              ⟨(some 24), none, .q (.load false 1 (.t 23))⟩,
              ⟨(some 25), none, .q (.bin false .neq (.t 20) (.t 24))⟩])
            (.cond (.t 25)
             (.seq
              (.reg [⟨(some 4), none, .a (.asg (.c (.bool false)))⟩])
              .ret)
             .skip)))
          (.reg [⟨(some 15), none, .q (.mov (.t 5))⟩,
            ⟨(some 16), none, .q (.bin false .add (.t 15) (.c (.int .i64 1)))⟩,
            ⟨(some 5), none, .a (.asg (.t 16))⟩]))))))
     (.seq
      (.reg [⟨(some 4), none, .a (.asg (.c (.bool true)))⟩])
      .ret))))


theorem d161 (l : List Str) (hl : (l.length : Int) ≤ 1048576) (hs : ∀ s ∈ l, s.sm) : Does Go.Proofs.Try.prog 161 [.fsl 1 (l.map Str.z), .fsl 1 (l.map Str.z)] false (.v (.bool true)) [.dead, .dead] := by
  refine does_intro (mc := m161) (N := 26) (rs := [4]) (fx := []) 2 rfl (by decide +kernel) ?_
  simp only [m161, EV, Nat.reduceEqDiff, Nat.reduceBEq, Nat.reduceLT, Nat.reduceLeDiff, Nat.reduceAdd, Nat.reduceSub, reduceIte]
  refine awp_loop (fun i : Nat => i ≤ l.length) (fun i => stl [(0, .fsl 1 (l.map Str.z)), (1, .fsl 1 (l.map Str.z)), (5, .v (.int .i64 (i : Int)))]) (fun i => l.length - i) 0 (Nat.zero_le _) ?_ ?_
  · simp only [EV, Nat.reduceEqDiff, Nat.reduceBEq, Nat.reduceLT, Nat.reduceLeDiff, Nat.reduceAdd, Nat.reduceSub, reduceIte]
    rfl
  · intro i hi
    simp only [EV, Nat.reduceEqDiff, Nat.reduceBEq, Nat.reduceLT, Nat.reduceLeDiff, Nat.reduceAdd, Nat.reduceSub, reduceIte]
    refine cK_cut (fun h => ?_) (fun h => ?_)
    · have h1 : i < l.length := by simpa using h
      have h2 : (i : Int) < (l.length : Int) := by omega
      simp only [StrE, Str.z, nth_map h1, h2, EV, Nat.reduceEqDiff, Nat.reduceBEq, Nat.reduceLT, Nat.reduceLeDiff, Nat.reduceAdd, Nat.reduceSub, reduceIte]
      refine ⟨i + 1, by omega, by omega, ?_⟩
      rw [w64 _ (by omega)]
      rfl
    · have h1 : i = l.length := by have : ¬ (i : Int) < l.length := by simpa using h
                                   omega
      simp only [EV, Nat.reduceEqDiff, Nat.reduceBEq, Nat.reduceLT, Nat.reduceLeDiff, Nat.reduceAdd, Nat.reduceSub, reduceIte]
      simp only [EV, Nat.reduceEqDiff, Nat.reduceBEq, Nat.reduceLT, Nat.reduceLeDiff, Nat.reduceAdd, Nat.reduceSub, reduceIte, retVC, cellV', evR, nfz, nfzs, nfzss, List.contains_nil, List.contains_cons, Bool.or_false, or_true]

end Go.AM
