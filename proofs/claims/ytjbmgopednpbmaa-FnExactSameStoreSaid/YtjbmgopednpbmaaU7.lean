/- Contracts of functions of the given program, for the law FnExactSameStore: what they return and what they write, under the bounds that each theorem states. -/
import Derived.Test.YtjbmgopednpbmaaC9
import Derived.Test.YtjbmgopednpbmaaU6
namespace Go.AM
set_option linter.unusedVariables false
set_option linter.unusedSimpArgs false

structure Modu where
  scope : Scope
  seen : List Seen

def Modu.z (s : Modu) : List AV := s.scope.z ++ [.fsl 3 (s.seen.map Seen.z)]

def Modu.o (s : Modu) : List AV := s.scope.o ++ [.usl 89 3 (s.seen.map Seen.o)]

def Modu.zr : List AV := [.v (.string ⟨#[]⟩), .usl 9 1 [], .usl 59 6 [], .usl 130 6 [], .usl 132 2 [], .usl 89 3 []]

theorem Modu.fr (s : Modu) : frzRow s.o = s.z := by
  simp only [Modu.o, Scope.o, Modu.z, Scope.z, frzRow, frzL, List.cons_append, List.nil_append, Scope.frz, Str.frz, Ty.frz, Fd.frz, Ob.frz, Par.frz, Us.frz, Seen.frz]
theorem Modu.frz : ∀ l : List Modu, frzRows (l.map Modu.o) = l.map Modu.z
  | [] => rfl
  | s :: l => by simp only [List.map_cons, frzRows, Modu.fr, Modu.frz l]
theorem Modu.nf (s : Modu) : nfzs s.o = true := by
  simp only [Modu.o, Scope.o, nfzs, nfz, List.cons_append, List.nil_append, Bool.and_self, Scope.nfz, Str.nfz, Ty.nfz, Fd.nfz, Ob.nfz, Par.nfz, Us.nfz, Seen.nfz]
theorem Modu.nfz : ∀ l : List Modu, nfzss (l.map Modu.o) = true
  | [] => rfl
  | s :: l => by simp only [List.map_cons, nfzss, Modu.nf, Modu.nfz l, Bool.and_self]
theorem ModuE : (∀ f : Modu, f.z.length = 6) ∧ (∀ f : Modu, f.z.take 6 = f.z) ∧ (∀ (st : St) (f : Modu), frzBs st f.z = f.z) ∧ (∀ f : Modu, bares f.z = true) ∧ (∀ f : Modu, plains f.z = true) ∧
    (∀ (f : Modu) (K : Nat → List (Nat × Nat) → Bool), killVs K f.z = f.z) ∧ (∀ f : Modu, f.z.all storL = true) ∧ (∀ f : Modu, f.o.length = 6) ∧ (∀ f : Modu, f.o.take 6 = f.o) ∧ (∀ f : Modu, bares f.o = false) ∧
    (∀ f : Modu, plains f.o = false) ∧ (∀ (f : Modu) (K : Nat → List (Nat × Nat) → Bool), killVs K f.o = f.o) ∧ (∀ f : Modu, f.o.all storL = true) :=
  ⟨fun _ => rfl, fun _ => rfl, fun _ _ => rfl, fun _ => rfl, fun _ => rfl, fun _ _ => rfl, fun _ => rfl, fun _ => rfl, fun _ => rfl, fun _ => rfl, fun _ => rfl, fun _ _ => rfl, fun _ => rfl⟩

def Modu.ok (s : Modu) : Prop := s.scope.ok ∧ ((s.seen.length : Int) ≤ 9223372036854775807 ∧ ∀ y ∈ s.seen, y.ok)
def Modu.sm (s : Modu) : Prop := s.scope.sm ∧ ((s.seen.length : Int) ≤ 1048576 ∧ ∀ y ∈ s.seen, y.sm)

def szModu (s : Modu) (k : Int) : Int := if szScope s.scope (k) < 0 then -1 else if szSeenS s.seen (szScope s.scope (k)) < 0 then -1 else szSeenS s.seen (szScope s.scope (k))
def totModu (s : Modu) : Int := totScope s.scope + totSeens s.seen
theorem szModu_le (s : Modu) (k : Int) (h : 0 ≤ k) : szModu s k ≤ k := by
  unfold szModu
  have l0 := szScope_le s.scope (k) (by omega)
  by_cases g0 : szScope s.scope (k) < 0
  · rw [if_pos g0]; omega
  rw [if_neg g0]
  have l1 := szSeenS_le s.seen (szScope s.scope (k)) (by omega)
  by_cases g1 : szSeenS s.seen (szScope s.scope (k)) < 0
  · rw [if_pos g1]; omega
  rw [if_neg g1]
  omega
theorem szModu_tot (s : Modu) (k : Int) (h : 0 ≤ szModu s k) : totModu s + szModu s k = k := by
  unfold szModu at h ⊢
  unfold totModu
  by_cases g0 : szScope s.scope (k) < 0
  · rw [if_pos g0] at h; omega
  rw [if_neg g0] at h ⊢
  have t0 := szScope_tot s.scope (k) (by omega)
  by_cases g1 : szSeenS s.seen (szScope s.scope (k)) < 0
  · rw [if_pos g1] at h; omega
  rw [if_neg g1] at h ⊢
  have t1 := szSeenS_tot s.seen (szScope s.scope (k)) (by omega)
  omega
theorem totModu_nn (s : Modu) : 0 ≤ totModu s := by
  unfold totModu
  have n0 := totScope_nn s.scope
  have n1 := totSeens_nn s.seen
  omega
theorem Modu.sm_of (s : Modu) (h : totModu s ≤ 1048576) : s.sm := by
  unfold totModu at h
  have n0 := totScope_nn s.scope
  have n1 := totSeens_nn s.seen
  exact ⟨Scope.sm_of s.scope (by omega), ⟨by omega, fun y hy => Seen.sm_of y (by have := totSeens_mem s.seen y hy; omega)⟩⟩

/-- loop.example/g00837/laws.szModule -/
def m62 : MC :=
  (.seq
   (.reg [⟨(some 2), none, .a (.box 79 (.t 0))⟩,
     ⟨(some 4), none, .a (.asg (.c (.int .i64 0)))⟩])
   (.seq
    (.reg [⟨(some 5), none, .q (.fad 0 (.t 2))⟩,
      ⟨(some 6), none, .q (.load true 5 (.t 5))⟩,
      ⟨(some 7), none, .q (.mov (.t 1))⟩,
      ⟨(some 8), none, .a (.call (.fn 112) false [.lend (.t 6), .lend (.t 7)])⟩,
      ⟨(some 1), none, .a (.asg (.t 8))⟩])
    (.seq
     (.seq
      (.reg [⟨(some 9), none, .q (.mov (.t 1))⟩,
        ⟨(some 10), none, .q (.bin false .lss (.t 9) (.c (.int .i64 0)))⟩])
      (.cond (.t 10)
       (.seq
        (.reg [⟨(some 4), none, .a (.asg (.c (.int .i64 (-1))))⟩])
        .ret)
       .skip))
     (.seq
      (.reg [⟨(some 11), none, .q (.fad 5 (.t 2))⟩,
        ⟨(some 12), none, .q (.load false 1 (.t 11))⟩,
        ⟨(some 13), none, .q (.mov (.t 1))⟩,
        ⟨(some 14), none, .a (.call (.fn 113) false [.lend (.t 12), .lend (.t 13)])⟩,
        ⟨(some 1), none, .a (.asg (.t 14))⟩])
      (.seq
       (.seq
        (.reg [⟨(some 15), none, .q (.mov (.t 1))⟩,
          ⟨(some 16), none, .q (.bin false .lss (.t 15) (.c (.int .i64 0)))⟩])
        (.cond (.t 16)
         (.seq
          (.reg [⟨(some 4), none, .a (.asg (.c (.int .i64 (-1))))⟩])
          .ret)
         .skip))
       (.seq
        (.reg [⟨(some 17), none, .q (.mov (.t 1))⟩,
          ⟨(some 4), none, .a (.asg (.t 17))⟩])
        .ret))))))


set_option maxRecDepth 100000 in
theorem d62 (s : Modu) (k : Int) (h0 : 0 ≤ k) (h1 : k ≤ 1048576) (hok : s.ok) : Does Go.Proofs.Try.prog 62 [.agg s.z, .v (.int .i64 k)] false (.v (.int .i64 (szModu s k))) [.dead, .dead] := by
  unfold Modu.ok at hok
  refine does_intro (mc := m62) (N := 18) (rs := [4]) (fx := []) 2 rfl (by decide +kernel) ?_
  simp only [m62, Modu.z, Scope.z, EV, Nat.reduceEqDiff, Nat.reduceBEq, Nat.reduceLT, Nat.reduceLeDiff, Nat.reduceAdd, Nat.reduceSub, reduceIte]
  have l0 := szScope_le s.scope (k) (by omega)
  refine callK_i (d112 s.scope (k) (by omega) (by omega) (hok.1)) ?_
  simp only [EV, Nat.reduceEqDiff, Nat.reduceBEq, Nat.reduceLT, Nat.reduceLeDiff, Nat.reduceAdd, Nat.reduceSub, reduceIte]
  refine cK_cut (fun h => ?_) (fun h => ?_)
  · have g0 : szScope s.scope (k) < 0 := by simpa using h
    have e : szModu s k = -1 := by unfold szModu; rw [if_pos g0]
    simp only [EV, Nat.reduceEqDiff, Nat.reduceBEq, Nat.reduceLT, Nat.reduceLeDiff, Nat.reduceAdd, Nat.reduceSub, reduceIte]
    simp only [e, EV, Nat.reduceEqDiff, Nat.reduceBEq, Nat.reduceLT, Nat.reduceLeDiff, Nat.reduceAdd, Nat.reduceSub, reduceIte, retVC, cellV', evR, nfz, nfzs, nfzss, List.contains_nil, List.contains_cons, Bool.or_false, or_true]
  · have g0 : ¬ szScope s.scope (k) < 0 := by simpa using h
    simp only [EV, Nat.reduceEqDiff, Nat.reduceBEq, Nat.reduceLT, Nat.reduceLeDiff, Nat.reduceAdd, Nat.reduceSub, reduceIte]
    have l1 := szSeenS_le s.seen (szScope s.scope (k)) (by omega)
    refine callK_i (d113 s.seen (szScope s.scope (k)) (by omega) (by omega) (hok.2).1 (hok.2).2) ?_
    simp only [EV, Nat.reduceEqDiff, Nat.reduceBEq, Nat.reduceLT, Nat.reduceLeDiff, Nat.reduceAdd, Nat.reduceSub, reduceIte]
    refine cK_cut (fun h => ?_) (fun h => ?_)
    · have g1 : szSeenS s.seen (szScope s.scope (k)) < 0 := by simpa using h
      have e : szModu s k = -1 := by unfold szModu; rw [if_neg g0, if_pos g1]
      simp only [EV, Nat.reduceEqDiff, Nat.reduceBEq, Nat.reduceLT, Nat.reduceLeDiff, Nat.reduceAdd, Nat.reduceSub, reduceIte]
      simp only [e, EV, Nat.reduceEqDiff, Nat.reduceBEq, Nat.reduceLT, Nat.reduceLeDiff, Nat.reduceAdd, Nat.reduceSub, reduceIte, retVC, cellV', evR, nfz, nfzs, nfzss, List.contains_nil, List.contains_cons, Bool.or_false, or_true]
    · have g1 : ¬ szSeenS s.seen (szScope s.scope (k)) < 0 := by simpa using h
      simp only [EV, Nat.reduceEqDiff, Nat.reduceBEq, Nat.reduceLT, Nat.reduceLeDiff, Nat.reduceAdd, Nat.reduceSub, reduceIte]
      have e : szModu s k = szSeenS s.seen (szScope s.scope (k)) := by unfold szModu; rw [if_neg g0, if_neg g1]
      simp only [e, EV, Nat.reduceEqDiff, Nat.reduceBEq, Nat.reduceLT, Nat.reduceLeDiff, Nat.reduceAdd, Nat.reduceSub, reduceIte, retVC, cellV', evR, nfz, nfzs, nfzss, List.contains_nil, List.contains_cons, Bool.or_false, or_true]

def szModus : List Modu → Int → Int
  | [], k => k
  | s :: r, k => if szModu s k < 0 then -1 else szModus r (szModu s k)
def szModuS (l : List Modu) (k : Int) : Int := if k - l.length < 0 then -1 else szModus l (k - l.length)
theorem szModus_le : ∀ (l : List Modu) (k : Int), 0 ≤ k → szModus l k ≤ k
  | [], k, h => by simp [szModus]
  | s :: r, k, h => by
    simp only [szModus]
    have h1 := szModu_le s k h
    split
    · omega
    · have := szModus_le r (szModu s k) (by omega)
      omega
theorem szModuS_le (l : List Modu) (k : Int) (h : 0 ≤ k) : szModuS l k ≤ k := by
  unfold szModuS
  split
  · omega
  · have := szModus_le l (k - l.length) (by omega); omega
def totModus : List Modu → Int
  | [] => 0
  | s :: r => 1 + totModu s + totModus r
theorem szModus_tot : ∀ (l : List Modu) (k : Int), 0 ≤ szModus l k → totModus l + szModus l k = k + l.length
  | [], k, h => by simp [szModus, totModus]
  | s :: r, k, h => by
    simp only [szModus] at h ⊢
    split
    · rename_i h1; rw [if_pos h1] at h; omega
    · rename_i h1
      rw [if_neg h1] at h
      have h2 := szModu_tot s k (by omega)
      have h3 := szModus_tot r _ h
      simp only [totModus, List.length_cons]
      omega
theorem szModuS_tot (l : List Modu) (k : Int) (h : 0 ≤ szModuS l k) : totModus l + szModuS l k = k := by
  unfold szModuS at h ⊢
  split
  · rename_i h1; rw [if_pos h1] at h; omega
  · rename_i h1
    rw [if_neg h1] at h
    have := szModus_tot l _ h
    omega
theorem totModus_nn : ∀ l : List Modu, (l.length : Int) ≤ totModus l
  | [] => by simp [totModus]
  | s :: r => by
    have := totModus_nn r
    have := totModu_nn s
    simp only [totModus, List.length_cons]
    omega
theorem totModus_mem : ∀ (l : List Modu) (s : Modu), s ∈ l → totModu s ≤ totModus l
  | x :: r, s, h => by
    simp only [totModus]
    have h3 := totModu_nn x
    have h2 := totModus_nn r
    rcases List.mem_cons.1 h with h | h
    · subst h; omega
    · have := totModus_mem r s h; omega

/-- loop.example/g00837/laws.szModuleS -/
def m13 : MC :=
  (.seq
   (.reg [⟨(some 4), none, .a (.asg (.c (.int .i64 0)))⟩])
   (.seq
    (.reg [⟨(some 6), none, .q (.mov (.t 1))⟩,
      ⟨(some 7), none, .q (.mov (.t 0))⟩,
      ⟨(some 8), none, .q (.len false (.t 7))⟩,
      ⟨(some 9), none, .q (.bin false .sub (.t 6) (.t 8))⟩,
      ⟨(some 1), none, .a (.asg (.t 9))⟩])
    (.seq
     (.seq
      (.reg [⟨(some 10), none, .q (.mov (.t 1))⟩,
        ⟨(some 11), none, .q (.bin false .lss (.t 10) (.c (.int .i64 0)))⟩])
      (.cond (.t 11)
       (.seq
        (.reg [⟨(some 4), none, .a (.asg (.c (.int .i64 (-1))))⟩])
        .ret)
       .skip))
     (.seq
      (.seq
       (.reg [⟨(some 5), none, .a (.asg (.c (.int .i64 0)))⟩])
       (.block 0
        (.loop [0, 1, 5]
         (.seq
          (.seq
           (.reg [⟨(some 12), none, .q (.mov (.t 5))⟩,
             ⟨(some 13), none, .q (.mov (.t 0))⟩,
             ⟨(some 14), none, .q (.len false (.t 13))⟩,
             ⟨(some 15), none, .q (.bin false .lss (.t 12) (.t 14))⟩])
           (.cond (.t 15)
            .skip
            (.exit 0)))
          (.seq
           (.block 1
            (.seq
             (.reg [⟨(some 18), none, .q (.mov (.t 0))⟩,
               ⟨(some 19), none, .q (.mov (.t 5))⟩,
               ⟨(some 20), none, .q (.iad 6 (.t 18) (.t 19))⟩,
               ⟨(some 21), none, .q (.load true 6 (.t 20))⟩,
               ⟨(some 22), none, .q (.mov (.t 1))⟩,
               ⟨(some 23), none, .a (.call (.fn 62) false [.lend (.t 21), .lend (.t 22)])⟩,
               ⟨(some 1), none, .a (.asg (.t 23))⟩])
             (.seq
              (.reg [⟨(some 24), none, .q (.mov (.t 1))⟩,
                ⟨(some 25), none, .q (.bin false .lss (.t 24) (.c (.int .i64 0)))⟩])
              (.cond (.t 25)
               (.seq
                (.reg [⟨(some 4), none, .a (.asg (.c (.int .i64 (-1))))⟩])
                .ret)
               .skip))))
           (.reg [⟨(some 16), none, .q (.mov (.t 5))⟩,
             ⟨(some 17), none, .q (.bin false .add (.t 16) (.c (.int .i64 1)))⟩,
             ⟨(some 5), none, .a (.asg (.t 17))⟩]))))))
      (.seq
       (.reg [⟨(some 26), none, .q (.mov (.t 1))⟩,
         ⟨(some 4), none, .a (.asg (.t 26))⟩])
       .ret)))))


theorem d13 (l : List Modu) (k : Int) (h0 : 0 ≤ k) (h1 : k ≤ 1048576) (hl : (l.length : Int) ≤ 9223372036854775807) (hs : ∀ s ∈ l, s.ok) :
    Does Go.Proofs.Try.prog 13 [.fsl 6 (l.map Modu.z), .v (.int .i64 k)] false (.v (.int .i64 (szModuS l k))) [.dead, .dead] := by
  refine does_intro (mc := m13) (N := 27) (rs := [4]) (fx := []) 2 rfl (by decide +kernel) ?_
  simp only [m13, EV, Nat.reduceEqDiff, Nat.reduceBEq, Nat.reduceLT, Nat.reduceLeDiff, Nat.reduceAdd, Nat.reduceSub, reduceIte]
  have w1 := w64 (k - l.length) (by omega)
  simp only [w1]
  refine cK_cut (fun h => ?_) (fun h => ?_)
  · have h2 : k - l.length < 0 := by simpa using h
    have e : szModuS l k = -1 := by simp [szModuS, h2]
    simp only [EV, Nat.reduceEqDiff, Nat.reduceBEq, Nat.reduceLT, Nat.reduceLeDiff, Nat.reduceAdd, Nat.reduceSub, reduceIte]
    simp only [e, EV, Nat.reduceEqDiff, Nat.reduceBEq, Nat.reduceLT, Nat.reduceLeDiff, Nat.reduceAdd, Nat.reduceSub, reduceIte, retVC, cellV', evR, nfz, nfzs, nfzss, List.contains_nil, List.contains_cons, Bool.or_false, or_true]
  · have h2 : ¬ k - l.length < 0 := by simpa using h
    have e : szModuS l k = szModus l (k - l.length) := by simp [szModuS, h2]
    simp only [EV, Nat.reduceEqDiff, Nat.reduceBEq, Nat.reduceLT, Nat.reduceLeDiff, Nat.reduceAdd, Nat.reduceSub, reduceIte]
    refine awp_loop (fun p : Nat × Int => p.1 ≤ l.length ∧ 0 ≤ p.2 ∧ p.2 ≤ 1048576 ∧ szModus (l.drop p.1) p.2 = szModuS l k)
      (fun p => stl [(0, .fsl 6 (l.map Modu.z)), (1, .v (.int .i64 p.2)), (5, .v (.int .i64 (p.1 : Int)))]) (fun p => l.length - p.1) (0, k - l.length) ⟨by simp, by simp only; omega, by simp only; omega, by simp [e]⟩ ?_ ?_
    · simp only [EV, Nat.reduceEqDiff, Nat.reduceBEq, Nat.reduceLT, Nat.reduceLeDiff, Nat.reduceAdd, Nat.reduceSub, reduceIte]
      rfl
    · rintro ⟨i, n⟩ ⟨p0, p1, p2, p3⟩
      simp only at p0 p1 p2 p3
      simp only [EV, Nat.reduceEqDiff, Nat.reduceBEq, Nat.reduceLT, Nat.reduceLeDiff, Nat.reduceAdd, Nat.reduceSub, reduceIte]
      refine cK_cut (fun h => ?_) (fun h => ?_)
      · have h3 : i < l.length := by simpa using h
        have h4 : (i : Int) < (l.length : Int) := by omega
        rw [List.drop_eq_getElem_cons h3] at p3
        simp only [szModus] at p3
        have hle := szModu_le l[i] n p1
        simp only [ModuE, nth_map h3, h4, EV, Nat.reduceEqDiff, Nat.reduceBEq, Nat.reduceLT, Nat.reduceLeDiff, Nat.reduceAdd, Nat.reduceSub, reduceIte]
        refine callK_i (d62 l[i] n p1 p2 (hs l[i] (List.getElem_mem h3))) ?_
        simp only [ModuE, nth_map h3, h4, EV, Nat.reduceEqDiff, Nat.reduceBEq, Nat.reduceLT, Nat.reduceLeDiff, Nat.reduceAdd, Nat.reduceSub, reduceIte]
        refine cK_cut (fun h => ?_) (fun h => ?_)
        · have h5 : szModu l[i] n < 0 := by simpa using h
          rw [if_pos h5] at p3
          simp only [EV, Nat.reduceEqDiff, Nat.reduceBEq, Nat.reduceLT, Nat.reduceLeDiff, Nat.reduceAdd, Nat.reduceSub, reduceIte]
          simp only [← p3, EV, Nat.reduceEqDiff, Nat.reduceBEq, Nat.reduceLT, Nat.reduceLeDiff, Nat.reduceAdd, Nat.reduceSub, reduceIte, retVC, cellV', evR, nfz, nfzs, nfzss, List.contains_nil, List.contains_cons, Bool.or_false, or_true]
        · have h5 : ¬ szModu l[i] n < 0 := by simpa using h
          rw [if_neg h5] at p3
          have w2 := w64 ((i : Int) + 1) (by omega)
          simp only [w2, EV, Nat.reduceEqDiff, Nat.reduceBEq, Nat.reduceLT, Nat.reduceLeDiff, Nat.reduceAdd, Nat.reduceSub, reduceIte]
          exact ⟨(i + 1, szModu l[i] n), ⟨by simp only; omega, by simp only; omega, by simp only; omega, p3⟩, by simp only; omega, rfl⟩
      · have h3 : i = l.length := by have : ¬ (i : Int) < l.length := by simpa using h
                                     omega
        subst h3
        rw [List.drop_length] at p3
        simp only [szModus] at p3
        simp only [EV, Nat.reduceEqDiff, Nat.reduceBEq, Nat.reduceLT, Nat.reduceLeDiff, Nat.reduceAdd, Nat.reduceSub, reduceIte]
        simp only [← p3, EV, Nat.reduceEqDiff, Nat.reduceBEq, Nat.reduceLT, Nat.reduceLeDiff, Nat.reduceAdd, Nat.reduceSub, reduceIte, retVC, cellV', evR, nfz, nfzs, nfzss, List.contains_nil, List.contains_cons, Bool.or_false, or_true]

/-- loop.example/g00837/laws.toModule -/
def m64 : MC :=
  (.seq
   (.reg [⟨(some 1), none, .a (.box 79 (.t 0))⟩,
     ⟨(some 2), none, .a (.alloc 86 [.v (.string ({ data := #[] })), .s 9 1, .s 59 6, .s 130 6, .s 132 2, .s 89 3])⟩])
   (.seq
    (.reg [⟨(some 3), none, .a (.alloc 86 [.v (.string ({ data := #[] })), .s 9 1, .s 59 6, .s 130 6, .s 132 2, .s 89 3])⟩])
    (.seq
     (.reg [⟨(some 4), none, .q (.fad 0 (.t 1))⟩,
       ⟨(some 5), none, .q (.load true 5 (.t 4))⟩,
       ⟨(some 6), none, .a (.call (.fn 117) false [.lend (.t 5)])⟩,
       ⟨(some 7), none, .q (.fad 0 (.t 3))⟩,
       ⟨none, none, .a (.store 5 (.t 7) (.t 6))⟩])
     (.seq
      (.reg [⟨(some 8), none, .q (.fad 5 (.t 1))⟩,
        ⟨(some 9), none, .q (.load false 1 (.t 8))⟩,
        ⟨(some 10), none, .a (.call (.fn 118) false [.lend (.t 9)])⟩,
        ⟨(some 11), none, .q (.fad 5 (.t 3))⟩,
        ⟨none, none, .a (.store 1 (.t 11) (.t 10))⟩])
      (.seq
       (.reg [⟨(some 12), none, .q (.load true 6 (.t 3))⟩,
         ⟨none, none, .a (.store 6 (.t 2) (.t 12))⟩])
       .ret)))))


set_option maxRecDepth 100000 in
theorem d64 (s : Modu) (hs : s.sm) : Does Go.Proofs.Try.prog 64 [.agg s.z] false (.agg s.o) [.dead] := by
  unfold Modu.sm at hs
  refine does_introC (mc := m64) (N := 13) (r := 2) (ty := 86) (agg := true) (sz := 6) (fx := []) 1 rfl (by decide +kernel) ?_
  simp only [m64, Modu.z, Scope.z, Modu.o, Scope.o, EV, Nat.reduceEqDiff, Nat.reduceBEq, Nat.reduceLT, Nat.reduceLeDiff, Nat.reduceAdd, Nat.reduceSub, reduceIte]
  refine callK_i (d117 s.scope (hs.1)) ?_
  simp only [pbeq, Modu.z, Scope.z, Modu.o, Scope.o, EV, Nat.reduceEqDiff, Nat.reduceBEq, Nat.reduceLT, Nat.reduceLeDiff, Nat.reduceAdd, Nat.reduceSub, reduceIte]
  refine callK_i (d118 s.seen (hs.2).1 (hs.2).2) ?_
  simp only [pbeq, Modu.z, Scope.z, Modu.o, Scope.o, EV, Nat.reduceEqDiff, Nat.reduceBEq, Nat.reduceLT, Nat.reduceLeDiff, Nat.reduceAdd, Nat.reduceSub, reduceIte]
  simp only [Scope.nfz, Str.nfz, Ty.nfz, Fd.nfz, Ob.nfz, Par.nfz, Us.nfz, Seen.nfz, EV, Nat.reduceEqDiff, Nat.reduceBEq, Nat.reduceLT, Nat.reduceLeDiff, Nat.reduceAdd, Nat.reduceSub, reduceIte, retVC, cellV', evR, nfz, nfzs, nfzss, List.contains_nil, List.contains_cons, Bool.or_false, or_true]

/-- loop.example/g00837/laws.toModuleS -/
def m15 : MC :=
  (.seq
   (.reg [⟨(some 2), none, .a (.asg (.nils 86 6))⟩])
   (.seq
    (.reg [⟨(some 5), none, .q (.mov (.t 0))⟩,
      ⟨(some 6), none, .q (.len false (.t 5))⟩,
      ⟨(some 7), none, .a (.mks 86 6 136 [.v (.string ({ data := #[] })), .s 9 1, .s 59 6, .s 130 6, .s 132 2, .s 89 3] (.t 6) (.t 6))⟩,
      ⟨(some 3), none, .a (.asg (.t 7))⟩])
    (.seq
     (.seq
      (.reg [⟨(some 4), none, .a (.asg (.c (.int .i64 0)))⟩])
      (.block 0
       (.loop [0, 3, 4, 7]
        (.seq
         (.seq
          (.reg [⟨(some 8), none, .q (.mov (.t 4))⟩,
            ⟨(some 9), none, .q (.mov (.t 0))⟩,
            ⟨(some 10), none, .q (.len false (.t 9))⟩,
            ⟨(some 11), none, .q (.bin false .lss (.t 8) (.t 10))⟩])
          (.cond (.t 11)
           .skip
           (.exit 0)))
         (.seq
          (.block 1
           (.reg [⟨(some 14), none, .q (.mov (.t 3))⟩,
             ⟨(some 15), none, .q (.mov (.t 4))⟩,
             ⟨(some 16), none, .q (.mov (.t 0))⟩,
             ⟨(some 17), none, .q (.mov (.t 4))⟩,
             ⟨(some 18), none, .q (.iad 6 (.t 16) (.t 17))⟩,
             ⟨(some 19), none, .q (.load true 6 (.t 18))⟩,
             ⟨(some 20), none, .a (.call (.fn 64) false [.lend (.t 19)])⟩,
             ⟨(some 21), none, .q (.iad 6 (.t 14) (.t 15))⟩,
             ⟨none, none, .a (.store 6 (.t 21) (.t 20))⟩]))
          (.reg [⟨(some 12), none, .q (.mov (.t 4))⟩,
            ⟨(some 13), none, .q (.bin false .add (.t 12) (.c (.int .i64 1)))⟩,
            ⟨(some 4), none, .a (.asg (.t 13))⟩]))))))
     (.seq
      (.reg [⟨(some 22), none, .q (.mov (.t 3))⟩,
        ⟨(some 2), none, .a (.asg (.t 22))⟩])
      .ret))))


theorem d15 (l : List Modu) (hl : (l.length : Int) ≤ 1048576) (hs : ∀ s ∈ l, s.sm) : Does Go.Proofs.Try.prog 15 [.fsl 6 (l.map Modu.z)] false (.usl 86 6 (l.map Modu.o)) [.dead] := by
  refine does_intro (mc := m15) (N := 23) (rs := [2]) (fx := []) 1 rfl (by decide +kernel) ?_
  simp only [m15, EV, Nat.reduceEqDiff, Nat.reduceBEq, Nat.reduceLT, Nat.reduceLeDiff, Nat.reduceAdd, Nat.reduceSub, reduceIte]
  refine ⟨by omega, by omega, ?_⟩
  refine awp_loop (fun i : Nat => i ≤ l.length) (fun i => stl [(0, .fsl 6 (l.map Modu.z)), (3, .usl 86 6 ((l.take i).map Modu.o ++ List.replicate (l.length - i) Modu.zr)), (4, .v (.int .i64 (i : Int))), (7, .dead)]) (fun i => l.length - i) 0 (Nat.zero_le _) ?_ ?_
  · simp only [EV, Nat.reduceEqDiff, Nat.reduceBEq, Nat.reduceLT, Nat.reduceLeDiff, Nat.reduceAdd, Nat.reduceSub, reduceIte]
    rfl
  · intro i hi
    simp only [EV, Nat.reduceEqDiff, Nat.reduceBEq, Nat.reduceLT, Nat.reduceLeDiff, Nat.reduceAdd, Nat.reduceSub, reduceIte]
    refine cK_cut (fun h => ?_) (fun h => ?_)
    · have h1 : i < l.length := by simpa using h
      have h2 : (i : Int) < (l.length : Int) := by omega
      have h3 : ((l.take i).map Modu.o ++ List.replicate (l.length - i) Modu.zr).length = l.length := by simp; omega
      simp only [ModuE, nth_map h1, h2, EV, Nat.reduceEqDiff, Nat.reduceBEq, Nat.reduceLT, Nat.reduceLeDiff, Nat.reduceAdd, Nat.reduceSub, reduceIte]
      refine callK_i (d64 l[i] (hs l[i] (List.getElem_mem h1))) ?_
      simp only [ModuE, h2, h3, EV, Nat.reduceEqDiff, Nat.reduceBEq, Nat.reduceLT, Nat.reduceLeDiff, Nat.reduceAdd, Nat.reduceSub, reduceIte]
      refine ⟨h1, i + 1, by omega, by omega, ?_⟩
      have ez : l[i].o ++ List.drop 6 Modu.zr = l[i].o := List.append_nil _
      rw [fill_nth h1, w64 _ (by omega), ez, fill_set h1]
      rfl
    · have h1 : i = l.length := by have : ¬ (i : Int) < l.length := by simpa using h
                                   omega
      subst h1
      simp only [EV, Nat.reduceEqDiff, Nat.reduceBEq, Nat.reduceLT, Nat.reduceLeDiff, Nat.reduceAdd, Nat.reduceSub, reduceIte]
      simp only [Nat.sub_self, List.replicate_zero, Modu.nfz, EV, Nat.reduceEqDiff, Nat.reduceBEq, Nat.reduceLT, Nat.reduceLeDiff, Nat.reduceAdd, Nat.reduceSub, reduceIte, retVC, cellV', evR, nfz, nfzs, nfzss, List.contains_nil, List.contains_cons, Bool.or_false, or_true]

/-- loop.example/g00837/laws.eqModule -/
def m69 : MC :=
  (.seq
   (.reg [⟨(some 2), none, .a (.box 86 (.t 0))⟩,
     ⟨(some 3), none, .a (.box 86 (.t 1))⟩,
     ⟨(some 4), none, .a (.asg (.c (.bool false)))⟩])
   (.seq
    (.seq
     (.reg [⟨(some 5), none, .q (.fad 0 (.t 2))⟩,
       ⟨(some 6), none, .q (.load true 5 (.t 5))⟩,
       ⟨(some 7), none, .q (.fad 0 (.t 3))⟩,
       ⟨(some 8), none, .q (.load true 5 (.t 7))⟩,
       ⟨(some 9), none, .a (.call (.fn 125) false [.lend (.t 6), .lend (.t 8)])⟩,
       ⟨(some 10), none, .q (.un .not (.t 9))⟩])
     (.cond (.t 10)
      (.seq
       (.reg [⟨(some 4), none, .a (.asg (.c (.bool false)))⟩])
       .ret)
      .skip))
    (.seq
     (.seq
      (.reg [⟨(some 11), none, .q (.fad 5 (.t 2))⟩,
        ⟨(some 12), none, .q (.load false 1 (.t 11))⟩,
        ⟨(some 13), none, .q (.fad 5 (.t 3))⟩,
        ⟨(some 14), none, .q (.load false 1 (.t 13))⟩,
        ⟨(some 15), none, .a (.call (.fn 126) false [.lend (.t 12), .lend (.t 14)])⟩,
        ⟨(some 16), none, .q (.un .not (.t 15))⟩])
      (.cond (.t 16)
       (.seq
        (.reg [⟨(some 4), none, .a (.asg (.c (.bool false)))⟩])
        .ret)
       .skip))
     (.seq
      (.reg [⟨(some 4), none, .a (.asg (.c (.bool true)))⟩])
      .ret))))


set_option maxRecDepth 100000 in
theorem d69 (s : Modu) (hs : s.sm) : Does Go.Proofs.Try.prog 69 [.agg s.z, .agg s.z] false (.v (.bool true)) [.dead, .dead] := by
  unfold Modu.sm at hs
  refine does_intro (mc := m69) (N := 17) (rs := [4]) (fx := []) 2 rfl (by decide +kernel) ?_
  simp only [m69, Modu.z, Scope.z, EV, Nat.reduceEqDiff, Nat.reduceBEq, Nat.reduceLT, Nat.reduceLeDiff, Nat.reduceAdd, Nat.reduceSub, reduceIte]
  refine callK_i (d125 s.scope (hs.1)) ?_
  simp only [Modu.z, Scope.z, EV, Nat.reduceEqDiff, Nat.reduceBEq, Nat.reduceLT, Nat.reduceLeDiff, Nat.reduceAdd, Nat.reduceSub, reduceIte]
  refine callK_i (d126 s.seen (hs.2).1 (hs.2).2) ?_
  simp only [Modu.z, Scope.z, EV, Nat.reduceEqDiff, Nat.reduceBEq, Nat.reduceLT, Nat.reduceLeDiff, Nat.reduceAdd, Nat.reduceSub, reduceIte]
  simp only [EV, Nat.reduceEqDiff, Nat.reduceBEq, Nat.reduceLT, Nat.reduceLeDiff, Nat.reduceAdd, Nat.reduceSub, reduceIte, retVC, cellV', evR, nfz, nfzs, nfzss, List.contains_nil, List.contains_cons, Bool.or_false, or_true]

/-- loop.example/g00837/laws.eqModuleS -/
def m17 : MC :=
  (.seq
   (.reg [⟨(some 4), none, .a (.asg (.c (.bool false)))⟩])
   (.seq
    (.seq
     (.reg [⟨(some 6), none, .q (.mov (.t 0))⟩,
       ⟨(some 7), none, .q (.len false (.t 6))⟩,
       ⟨(some 8), none, .q (.mov (.t 1))⟩,
       ⟨(some 9), none, .q (.len false (.t 8))⟩,
       ⟨(some 10), none, .q (.bin false .neq (.t 7) (.t 9))⟩])
     (.cond (.t 10)
      (.seq
       (.reg [⟨(some 4), none, .a (.asg (.c (.bool false)))⟩])
       .ret)
      .skip))
    (.seq
     (.seq
      (.reg [⟨(some 5), none, .a (.asg (.c (.int .i64 0)))⟩])
      (.block 0
       (.loop [0, 1, 5]
        (.seq
         (.seq
          (.reg [⟨(some 11), none, .q (.mov (.t 5))⟩,
            ⟨(some 12), none, .q (.mov (.t 0))⟩,
            ⟨(some 13), none, .q (.len false (.t 12))⟩,
            ⟨(some 14), none, .q (.bin false .lss (.t 11) (.t 13))⟩])
          (.cond (.t 14)
           .skip
           (.exit 0)))
         (.seq
          (.block 1
           (.seq
            (.dreg [⟨(some 17), none, .q (.mov (.t 0))⟩,
              ⟨(some 18), none, .q (.mov (.t 5))⟩,
              ⟨(some 19), none, .q (.iad 6 (.t 17) (.t 18))⟩,
              ⟨(some 20), none, .q (.load true 6 (.t 19))⟩,
              ⟨(some 21), none, .q (.mov (.t 1))⟩,
              ⟨(some 22), none, .q (.mov (.t 5))⟩,
              ⟨(some 23), none, .q (.iad 6 (.t 21) (.t 22))⟩,
              ⟨(some 24), none, .q (.load true 6 (.t 23))⟩,
              ⟨(some 25), none, .a (.call (.fn 69) false [.lend (.t 20), .lend (.t 24)])⟩,
              ⟨(some 26), none, .q (.un .not (.t 25))⟩])
            (.cond (.t 26)
             (.seq
              (.reg [⟨(some 4), none, .a (.asg (.c (.bool false)))⟩])
              .ret)
             .skip)))
          (.reg [⟨(some 15), none, .q (.mov (.t 5))⟩,
            ⟨(some 16), none, .q (.bin false .add (.t 15) (.c (.int .i64 1)))⟩,
            ⟨(some 5), none, .a (.asg (.t 16))⟩]))))))
     (.seq
      (.reg [⟨(some 4), none, .a (.asg (.c (.bool true)))⟩])
      .ret))))


theorem d17 (l : List Modu) (hl : (l.length : Int) ≤ 1048576) (hs : ∀ s ∈ l, s.sm) : Does Go.Proofs.Try.prog 17 [.fsl 6 (l.map Modu.z), .fsl 6 (l.map Modu.z)] false (.v (.bool true)) [.dead, .dead] := by
  refine does_intro (mc := m17) (N := 27) (rs := [4]) (fx := []) 2 rfl (by decide +kernel) ?_
  simp only [m17, EV, Nat.reduceEqDiff, Nat.reduceBEq, Nat.reduceLT, Nat.reduceLeDiff, Nat.reduceAdd, Nat.reduceSub, reduceIte]
  refine awp_loop (fun i : Nat => i ≤ l.length) (fun i => stl [(0, .fsl 6 (l.map Modu.z)), (1, .fsl 6 (l.map Modu.z)), (5, .v (.int .i64 (i : Int)))]) (fun i => l.length - i) 0 (Nat.zero_le _) ?_ ?_
  · simp only [EV, Nat.reduceEqDiff, Nat.reduceBEq, Nat.reduceLT, Nat.reduceLeDiff, Nat.reduceAdd, Nat.reduceSub, reduceIte]
    rfl
  · intro i hi
    simp only [EV, Nat.reduceEqDiff, Nat.reduceBEq, Nat.reduceLT, Nat.reduceLeDiff, Nat.reduceAdd, Nat.reduceSub, reduceIte]
    refine cK_cut (fun h => ?_) (fun h => ?_)
    · have h1 : i < l.length := by simpa using h
      have h2 : (i : Int) < (l.length : Int) := by omega
      simp only [ModuE, nth_map h1, h2, EV, Nat.reduceEqDiff, Nat.reduceBEq, Nat.reduceLT, Nat.reduceLeDiff, Nat.reduceAdd, Nat.reduceSub, reduceIte]
      refine callD_i (d69 l[i] (hs l[i] (List.getElem_mem h1))) rfl ?_
      simp only [EV, Nat.reduceEqDiff, Nat.reduceBEq, Nat.reduceLT, Nat.reduceLeDiff, Nat.reduceAdd, Nat.reduceSub, reduceIte]
      refine ⟨i + 1, by omega, by omega, ?_⟩
      rw [w64 _ (by omega)]
      rfl
    · have h1 : i = l.length := by have : ¬ (i : Int) < l.length := by simpa using h
                                   omega
      simp only [EV, Nat.reduceEqDiff, Nat.reduceBEq, Nat.reduceLT, Nat.reduceLeDiff, Nat.reduceAdd, Nat.reduceSub, reduceIte]
      simp only [EV, Nat.reduceEqDiff, Nat.reduceBEq, Nat.reduceLT, Nat.reduceLeDiff, Nat.reduceAdd, Nat.reduceSub, reduceIte, retVC, cellV', evR, nfz, nfzs, nfzss, List.contains_nil, List.contains_cons, Bool.or_false, or_true]

end Go.AM
