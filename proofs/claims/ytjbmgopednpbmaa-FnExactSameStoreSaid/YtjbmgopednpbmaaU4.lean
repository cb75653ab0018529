/- Contracts of functions of the given program, for the law FnExactSameStore: what they return and what they write, under the bounds that each theorem states. -/
import Derived.Test.YtjbmgopednpbmaaC9
import Derived.Test.YtjbmgopednpbmaaU3
namespace Go.AM
set_option linter.unusedVariables false
set_option linter.unusedSimpArgs false

structure Ob where
  name : ByteArray
  kind : Int
  mark : Int
  typ : Int
  value : Int
  params : List Par

def Ob.z (s : Ob) : List AV := [.v (.string s.name), .v (.int .i64 s.kind), .v (.int .i64 s.mark), .v (.int .i64 s.typ), .v (.int .i64 s.value), .fsl 3 (s.params.map Par.z)]

def Ob.o (s : Ob) : List AV := [.v (.string s.name), .v (.int .i64 s.kind), .v (.int .i64 s.mark), .v (.int .i64 s.typ), .v (.int .i64 s.value), .usl 159 3 (s.params.map Par.o)]

def Ob.zr : List AV := [.v (.string ⟨#[]⟩), .v (.int .i64 0), .v (.int .i64 0), .v (.int .i64 0), .v (.int .i64 0), .usl 159 3 []]

theorem Ob.fr (s : Ob) : frzRow s.o = s.z := by
  simp only [Ob.o, Ob.z, frzRow, frzL, List.cons_append, List.nil_append, Par.frz]
theorem Ob.frz : ∀ l : List Ob, frzRows (l.map Ob.o) = l.map Ob.z
  | [] => rfl
  | s :: l => by simp only [List.map_cons, frzRows, Ob.fr, Ob.frz l]
theorem Ob.nf (s : Ob) : nfzs s.o = true := by
  simp only [Ob.o, nfzs, nfz, List.cons_append, List.nil_append, Bool.and_self, Par.nfz]
theorem Ob.nfz : ∀ l : List Ob, nfzss (l.map Ob.o) = true
  | [] => rfl
  | s :: l => by simp only [List.map_cons, nfzss, Ob.nf, Ob.nfz l, Bool.and_self]
theorem ObE : (∀ f : Ob, f.z.length = 6) ∧ (∀ f : Ob, f.z.take 6 = f.z) ∧ (∀ (st : St) (f : Ob), frzBs st f.z = f.z) ∧ (∀ f : Ob, bares f.z = true) ∧ (∀ f : Ob, plains f.z = true) ∧
    (∀ (f : Ob) (K : Nat → List (Nat × Nat) → Bool), killVs K f.z = f.z) ∧ (∀ f : Ob, f.z.all storL = true) ∧ (∀ f : Ob, f.o.length = 6) ∧ (∀ f : Ob, f.o.take 6 = f.o) ∧ (∀ f : Ob, bares f.o = false) ∧
    (∀ f : Ob, plains f.o = false) ∧ (∀ (f : Ob) (K : Nat → List (Nat × Nat) → Bool), killVs K f.o = f.o) ∧ (∀ f : Ob, f.o.all storL = true) :=
  ⟨fun _ => rfl, fun _ => rfl, fun _ _ => rfl, fun _ => rfl, fun _ => rfl, fun _ _ => rfl, fun _ => rfl, fun _ => rfl, fun _ => rfl, fun _ => rfl, fun _ => rfl, fun _ _ => rfl, fun _ => rfl⟩

def Ob.ok (s : Ob) : Prop := (s.name.size : Int) ≤ 9223372036854775807 ∧ (-9223372036854775808 ≤ s.kind ∧ s.kind ≤ 9223372036854775807) ∧ (-9223372036854775808 ≤ s.mark ∧ s.mark ≤ 9223372036854775807) ∧ (-9223372036854775808 ≤ s.typ ∧ s.typ ≤ 9223372036854775807) ∧ (-9223372036854775808 ≤ s.value ∧ s.value ≤ 9223372036854775807) ∧ ((s.params.length : Int) ≤ 9223372036854775807 ∧ ∀ y ∈ s.params, y.ok)
def Ob.sm (s : Ob) : Prop := (s.name.size : Int) ≤ 1048576 ∧ True ∧ True ∧ True ∧ True ∧ ((s.params.length : Int) ≤ 1048576 ∧ ∀ y ∈ s.params, y.sm)

def szOb (s : Ob) (k : Int) : Int := if k - s.name.size < 0 then -1 else if szParS s.params (k - s.name.size) < 0 then -1 else szParS s.params (k - s.name.size)
def totOb (s : Ob) : Int := (s.name.size : Int) + totPars s.params
theorem szOb_le (s : Ob) (k : Int) (h : 0 ≤ k) : szOb s k ≤ k := by
  unfold szOb
  by_cases g0 : k - s.name.size < 0
  · rw [if_pos g0]; omega
  rw [if_neg g0]
  have l1 := szParS_le s.params (k - s.name.size) (by omega)
  by_cases g1 : szParS s.params (k - s.name.size) < 0
  · rw [if_pos g1]; omega
  rw [if_neg g1]
  omega
theorem szOb_tot (s : Ob) (k : Int) (h : 0 ≤ szOb s k) : totOb s + szOb s k = k := by
  unfold szOb at h ⊢
  unfold totOb
  by_cases g0 : k - s.name.size < 0
  · rw [if_pos g0] at h; omega
  rw [if_neg g0] at h ⊢
  by_cases g1 : szParS s.params (k - s.name.size) < 0
  · rw [if_pos g1] at h; omega
  rw [if_neg g1] at h ⊢
  have t1 := szParS_tot s.params (k - s.name.size) (by omega)
  omega
theorem totOb_nn (s : Ob) : 0 ≤ totOb s := by
  unfold totOb
  have n5 := totPars_nn s.params
  omega
theorem Ob.sm_of (s : Ob) (h : totOb s ≤ 1048576) : s.sm := by
  unfold totOb at h
  have n5 := totPars_nn s.params
  exact ⟨by omega, trivial, trivial, trivial, trivial, ⟨by omega, fun y hy => Par.sm_of y (by have := totPars_mem s.params y hy; omega)⟩⟩

/-- loop.example/g00837/laws.szObject -/
def m180 : MC :=
  (.seq
   (.reg [⟨(some 2), none, .a (.box 183 (.t 0))⟩,
     ⟨(some 4), none, .a (.asg (.c (.int .i64 0)))⟩])
   (.seq
    (.reg [⟨(some 5), none, .q (.mov (.t 1))⟩,
      ⟨(some 6), none, .q (.fad 0 (.t 2))⟩,
      ⟨(some 7), none, .q (.load false 1 (.t 6))⟩,
      ⟨(some 8), none, .q (.len true (.t 7))⟩,
      ⟨(some 9), none, .q (.bin false .sub (.t 5) (.t 8))⟩,
      ⟨(some 1), none, .a (.asg (.t 9))⟩])
    (.seq
     (.seq
      (.reg [⟨(some 10), none, .q (.mov (.t 1))⟩,
        ⟨(some 11), none, .q (.bin false .lss (.t 10) (.c (.int .i64 0)))⟩])
      (.cond (.t 11)
       (.seq
        (.reg [⟨(some 4), none, .a (.asg (.c (.int .i64 (-1))))⟩])
        .ret)
       .skip))
     (.seq
      (.reg [⟨(some 12), none, .q (.fad 5 (.t 2))⟩,
        ⟨(some 13), none, .q (.load false 1 (.t 12))⟩,
        ⟨(some 14), none, .q (.mov (.t 1))⟩,
        ⟨(some 15), none, .a (.call (.fn 202) false [.lend (.t 13), .lend (.t 14)])⟩,
        ⟨(some 1), none, .a (.asg (.t 15))⟩])
      (.seq
       (.seq
        (.reg [⟨(some 16), none, .q (.mov (.t 1))⟩,
          ⟨(some 17), none, .q (.bin false .lss (.t 16) (.c (.int .i64 0)))⟩])
        (.cond (.t 17)
         (.seq
          (.reg [⟨(some 4), none, .a (.asg (.c (.int .i64 (-1))))⟩])
          .ret)
         .skip))
       (.seq
        (.reg [⟨(some 18), none, .q (.mov (.t 1))⟩,
          ⟨(some 4), none, .a (.asg (.t 18))⟩])
        .ret))))))


set_option maxRecDepth 100000 in
theorem d180 (s : Ob) (k : Int) (h0 : 0 ≤ k) (h1 : k ≤ 1048576) (hok : s.ok) : Does Go.Proofs.Try.prog 180 [.agg s.z, .v (.int .i64 k)] false (.v (.int .i64 (szOb s k))) [.dead, .dead] := by
  unfold Ob.ok at hok
  refine does_intro (mc := m180) (N := 19) (rs := [4]) (fx := []) 2 rfl (by decide +kernel) ?_
  simp only [m180, Ob.z, EV, Nat.reduceEqDiff, Nat.reduceBEq, Nat.reduceLT, Nat.reduceLeDiff, Nat.reduceAdd, Nat.reduceSub, reduceIte]
  have b0 := hok.1
  have w0 := w64 (k - s.name.size) (by omega)
  simp only [w0, EV, Nat.reduceEqDiff, Nat.reduceBEq, Nat.reduceLT, Nat.reduceLeDiff, Nat.reduceAdd, Nat.reduceSub, reduceIte]
  refine cK_cut (fun h => ?_) (fun h => ?_)
  · have g0 : k - s.name.size < 0 := by simpa using h
    have e : szOb s k = -1 := by unfold szOb; rw [if_pos g0]
    simp only [EV, Nat.reduceEqDiff, Nat.reduceBEq, Nat.reduceLT, Nat.reduceLeDiff, Nat.reduceAdd, Nat.reduceSub, reduceIte]
    simp only [e, EV, Nat.reduceEqDiff, Nat.reduceBEq, Nat.reduceLT, Nat.reduceLeDiff, Nat.reduceAdd, Nat.reduceSub, reduceIte, retVC, cellV', evR, nfz, nfzs, nfzss, List.contains_nil, List.contains_cons, Bool.or_false, or_true]
  · have g0 : ¬ k - s.name.size < 0 := by simpa using h
    simp only [EV, Nat.reduceEqDiff, Nat.reduceBEq, Nat.reduceLT, Nat.reduceLeDiff, Nat.reduceAdd, Nat.reduceSub, reduceIte]
    have l1 := szParS_le s.params (k - s.name.size) (by omega)
    refine callK_i (d202 s.params (k - s.name.size) (by omega) (by omega) (hok.2.2.2.2.2).1 (hok.2.2.2.2.2).2) ?_
    simp only [EV, Nat.reduceEqDiff, Nat.reduceBEq, Nat.reduceLT, Nat.reduceLeDiff, Nat.reduceAdd, Nat.reduceSub, reduceIte]
    refine cK_cut (fun h => ?_) (fun h => ?_)
    · have g1 : szParS s.params (k - s.name.size) < 0 := by simpa using h
      have e : szOb s k = -1 := by unfold szOb; rw [if_neg g0, if_pos g1]
      simp only [EV, Nat.reduceEqDiff, Nat.reduceBEq, Nat.reduceLT, Nat.reduceLeDiff, Nat.reduceAdd, Nat.reduceSub, reduceIte]
      simp only [e, EV, Nat.reduceEqDiff, Nat.reduceBEq, Nat.reduceLT, Nat.reduceLeDiff, Nat.reduceAdd, Nat.reduceSub, reduceIte, retVC, cellV', evR, nfz, nfzs, nfzss, List.contains_nil, List.contains_cons, Bool.or_false, or_true]
    · have g1 : ¬ szParS s.params (k - s.name.size) < 0 := by simpa using h
      simp only [EV, Nat.reduceEqDiff, Nat.reduceBEq, Nat.reduceLT, Nat.reduceLeDiff, Nat.reduceAdd, Nat.reduceSub, reduceIte]
      have e : szOb s k = szParS s.params (k - s.name.size) := by unfold szOb; rw [if_neg g0, if_neg g1]
      simp only [e, EV, Nat.reduceEqDiff, Nat.reduceBEq, Nat.reduceLT, Nat.reduceLeDiff, Nat.reduceAdd, Nat.reduceSub, reduceIte, retVC, cellV', evR, nfz, nfzs, nfzss, List.contains_nil, List.contains_cons, Bool.or_false, or_true]

def szObs : List Ob → Int → Int
  | [], k => k
  | s :: r, k => if szOb s k < 0 then -1 else szObs r (szOb s k)
def szObS (l : List Ob) (k : Int) : Int := if k - l.length < 0 then -1 else szObs l (k - l.length)
theorem szObs_le : ∀ (l : List Ob) (k : Int), 0 ≤ k → szObs l k ≤ k
  | [], k, h => by simp [szObs]
  | s :: r, k, h => by
    simp only [szObs]
    have h1 := szOb_le s k h
    split
    · omega
    · have := szObs_le r (szOb s k) (by omega)
      omega
theorem szObS_le (l : List Ob) (k : Int) (h : 0 ≤ k) : szObS l k ≤ k := by
  unfold szObS
  split
  · omega
  · have := szObs_le l (k - l.length) (by omega); omega
def totObs : List Ob → Int
  | [] => 0
  | s :: r => 1 + totOb s + totObs r
theorem szObs_tot : ∀ (l : List Ob) (k : Int), 0 ≤ szObs l k → totObs l + szObs l k = k + l.length
  | [], k, h => by simp [szObs, totObs]
  | s :: r, k, h => by
    simp only [szObs] at h ⊢
    split
    · rename_i h1; rw [if_pos h1] at h; omega
    · rename_i h1
      rw [if_neg h1] at h
      have h2 := szOb_tot s k (by omega)
      have h3 := szObs_tot r _ h
      simp only [totObs, List.length_cons]
      omega
theorem szObS_tot (l : List Ob) (k : Int) (h : 0 ≤ szObS l k) : totObs l + szObS l k = k := by
  unfold szObS at h ⊢
  split
  · rename_i h1; rw [if_pos h1] at h; omega
  · rename_i h1
    rw [if_neg h1] at h
    have := szObs_tot l _ h
    omega
theorem totObs_nn : ∀ l : List Ob, (l.length : Int) ≤ totObs l
  | [] => by simp [totObs]
  | s :: r => by
    have := totObs_nn r
    have := totOb_nn s
    simp only [totObs, List.length_cons]
    omega
theorem totObs_mem : ∀ (l : List Ob) (s : Ob), s ∈ l → totOb s ≤ totObs l
  | x :: r, s, h => by
    simp only [totObs]
    have h3 := totOb_nn x
    have h2 := totObs_nn r
    rcases List.mem_cons.1 h with h | h
    · subst h; omega
    · have := totObs_mem r s h; omega

/-- loop.example/g00837/laws.szObjectS -/
def m152 : MC :=
  (.seq
   (.reg [⟨(some 4), none, .a (.asg (.c (.int .i64 0)))⟩])
   (.seq
    (.reg [⟨(some 6), none, .q (.mov (.t 1))⟩,
      ⟨(some 7), none, .q (.mov (.t 0))⟩,
      ⟨(some 8), none, .q (.len false (.t 7))⟩,
      ⟨(some 9), none, .q (.bin false .sub (.t 6) (.t 8))⟩,
      ⟨(some 1), none, .a (.asg (.t 9))⟩])
    (.seq
     (.seq
      (.reg [⟨(some 10), none, .q (.mov (.t 1))⟩,
        ⟨(some 11), none, .q (.bin false .lss (.t 10) (.c (.int .i64 0)))⟩])
      (.cond (.t 11)
       (.seq
        (.reg [⟨(some 4), none, .a (.asg (.c (.int .i64 (-1))))⟩])
        .ret)
       .skip))
     (.seq
      (.seq
       (.reg [⟨(some 5), none, .a (.asg (.c (.int .i64 0)))⟩])
       (.block 0
        (.loop [0, 1, 5]
         (.seq
          (.seq
           (.reg [⟨(some 12), none, .q (.mov (.t 5))⟩,
             ⟨(some 13), none, .q (.mov (.t 0))⟩,
             ⟨(some 14), none, .q (.len false (.t 13))⟩,
             ⟨(some 15), none, .q (.bin false .lss (.t 12) (.t 14))⟩])
           (.cond (.t 15)
            .skip
            (.exit 0)))
          (.seq
           (.block 1
            (.seq
             (.reg [⟨(some 18), none, .q (.mov (.t 0))⟩,
               ⟨(some 19), none, .q (.mov (.t 5))⟩,
               ⟨(some 20), none, .q (.iad 6 (.t 18) (.t 19))⟩,
               ⟨(some 21), none, .q (.load true 6 (.t 20))⟩,
               ⟨(some 22), none, .q (.mov (.t 1))⟩,
               ⟨(some 23), none, .a (.call (.fn 180) false [.lend (.t 21), .lend (.t 22)])⟩,
               ⟨(some 1), none, .a (.asg (.t 23))⟩])
             (.seq
              (.reg [⟨(some 24), none, .q (.mov (.t 1))⟩,
                ⟨(some 25), none, .q (.bin false .lss (.t 24) (.c (.int .i64 0)))⟩])
              (.cond (.t 25)
               (.seq
                (.reg [⟨(some 4), none, .a (.asg (.c (.int .i64 (-1))))⟩])
                .ret)
               .skip))))
           (.reg [⟨(some 16), none, .q (.mov (.t 5))⟩,
             ⟨(some 17), none, .q (.bin false .add (.t 16) (.c (.int .i64 1)))⟩,
             ⟨(some 5), none, .a (.asg (.t 17))⟩]))))))
      (.seq
       (.reg [⟨(some 26), none, .q (.mov (.t 1))⟩,
         ⟨(some 4), none, .a (.asg (.t 26))⟩])
       .ret)))))


theorem d152 (l : List Ob) (k : Int) (h0 : 0 ≤ k) (h1 : k ≤ 1048576) (hl : (l.length : Int) ≤ 9223372036854775807) (hs : ∀ s ∈ l, s.ok) :
    Does Go.Proofs.Try.prog 152 [.fsl 6 (l.map Ob.z), .v (.int .i64 k)] false (.v (.int .i64 (szObS l k))) [.dead, .dead] := by
  refine does_intro (mc := m152) (N := 27) (rs := [4]) (fx := []) 2 rfl (by decide +kernel) ?_
  simp only [m152, EV, Nat.reduceEqDiff, Nat.reduceBEq, Nat.reduceLT, Nat.reduceLeDiff, Nat.reduceAdd, Nat.reduceSub, reduceIte]
  have w1 := w64 (k - l.length) (by omega)
  simp only [w1]
  refine cK_cut (fun h => ?_) (fun h => ?_)
  · have h2 : k - l.length < 0 := by simpa using h
    have e : szObS l k = -1 := by simp [szObS, h2]
    simp only [EV, Nat.reduceEqDiff, Nat.reduceBEq, Nat.reduceLT, Nat.reduceLeDiff, Nat.reduceAdd, Nat.reduceSub, reduceIte]
    simp only [e, EV, Nat.reduceEqDiff, Nat.reduceBEq, Nat.reduceLT, Nat.reduceLeDiff, Nat.reduceAdd, Nat.reduceSub, reduceIte, retVC, cellV', evR, nfz, nfzs, nfzss, List.contains_nil, List.contains_cons, Bool.or_false, or_true]
  · have h2 : ¬ k - l.length < 0 := by simpa using h
    have e : szObS l k = szObs l (k - l.length) := by simp [szObS, h2]
    simp only [EV, Nat.reduceEqDiff, Nat.reduceBEq, Nat.reduceLT, Nat.reduceLeDiff, Nat.reduceAdd, Nat.reduceSub, reduceIte]
    refine awp_loop (fun p : Nat × Int => p.1 ≤ l.length ∧ 0 ≤ p.2 ∧ p.2 ≤ 1048576 ∧ szObs (l.drop p.1) p.2 = szObS l k)
      (fun p => stl [(0, .fsl 6 (l.map Ob.z)), (1, .v (.int .i64 p.2)), (5, .v (.int .i64 (p.1 : Int)))]) (fun p => l.length - p.1) (0, k - l.length) ⟨by simp, by simp only; omega, by simp only; omega, by simp [e]⟩ ?_ ?_
    · simp only [EV, Nat.reduceEqDiff, Nat.reduceBEq, Nat.reduceLT, Nat.reduceLeDiff, Nat.reduceAdd, Nat.reduceSub, reduceIte]
      rfl
    · rintro ⟨i, n⟩ ⟨p0, p1, p2, p3⟩
      simp only at p0 p1 p2 p3
      simp only [EV, Nat.reduceEqDiff, Nat.reduceBEq, Nat.reduceLT, Nat.reduceLeDiff, Nat.reduceAdd, Nat.reduceSub, reduceIte]
      refine cK_cut (fun h => ?_) (fun h => ?_)
      · have h3 : i < l.length := by simpa using h
        have h4 : (i : Int) < (l.length : Int) := by omega
        rw [List.drop_eq_getElem_cons h3] at p3
        simp only [szObs] at p3
        have hle := szOb_le l[i] n p1
        simp only [ObE, nth_map h3, h4, EV, Nat.reduceEqDiff, Nat.reduceBEq, Nat.reduceLT, Nat.reduceLeDiff, Nat.reduceAdd, Nat.reduceSub, reduceIte]
        refine callK_i (d180 l[i] n p1 p2 (hs l[i] (List.getElem_mem h3))) ?_
        simp only [ObE, nth_map h3, h4, EV, Nat.reduceEqDiff, Nat.reduceBEq, Nat.reduceLT, Nat.reduceLeDiff, Nat.reduceAdd, Nat.reduceSub, reduceIte]
        refine cK_cut (fun h => ?_) (fun h => ?_)
        · have h5 : szOb l[i] n < 0 := by simpa using h
          rw [if_pos h5] at p3
          simp only [EV, Nat.reduceEqDiff, Nat.reduceBEq, Nat.reduceLT, Nat.reduceLeDiff, Nat.reduceAdd, Nat.reduceSub, reduceIte]
          simp only [← p3, EV, Nat.reduceEqDiff, Nat.reduceBEq, Nat.reduceLT, Nat.reduceLeDiff, Nat.reduceAdd, Nat.reduceSub, reduceIte, retVC, cellV', evR, nfz, nfzs, nfzss, List.contains_nil, List.contains_cons, Bool.or_false, or_true]
        · have h5 : ¬ szOb l[i] n < 0 := by simpa using h
          rw [if_neg h5] at p3
          have w2 := w64 ((i : Int) + 1) (by omega)
          simp only [w2, EV, Nat.reduceEqDiff, Nat.reduceBEq, Nat.reduceLT, Nat.reduceLeDiff, Nat.reduceAdd, Nat.reduceSub, reduceIte]
          exact ⟨(i + 1, szOb l[i] n), ⟨by simp only; omega, by simp only; omega, by simp only; omega, p3⟩, by simp only; omega, rfl⟩
      · have h3 : i = l.length := by have : ¬ (i : Int) < l.length := by simpa using h
                                     omega
        subst h3
        rw [List.drop_length] at p3
        simp only [szObs] at p3
        simp only [EV, Nat.reduceEqDiff, Nat.reduceBEq, Nat.reduceLT, Nat.reduceLeDiff, Nat.reduceAdd, Nat.reduceSub, reduceIte]
        simp only [← p3, EV, Nat.reduceEqDiff, Nat.reduceBEq, Nat.reduceLT, Nat.reduceLeDiff, Nat.reduceAdd, Nat.reduceSub, reduceIte, retVC, cellV', evR, nfz, nfzs, nfzss, List.contains_nil, List.contains_cons, Bool.or_false, or_true]

/-- loop.example/g00837/laws.toObject -/
def m182 : MC :=
  (.seq
   (.reg [⟨(some 1), none, .a (.box 183 (.t 0))⟩,
     ⟨(some 2), none, .a (.alloc 130 [.v (.string ({ data := #[] })), .v (.int .i64 0), .v (.int .i64 0), .v (.int .i64 0), .v (.int .i64 0), .s 159 3])⟩])
   (.seq
    (.reg [⟨(some 3), none, .a (.alloc 130 [.v (.string ({ data := #[] })), .v (.int .i64 0), .v (.int .i64 0), .v (.int .i64 0), .v (.int .i64 0), .s 159 3])⟩])
    (.seq
     (.reg [⟨(some 4), none, .q (.fad 0 (.t 1))⟩,
       ⟨(some 5), none, .q (.load false 1 (.t 4))⟩,
       ⟨(some 6), none, .q (.fad 0 (.t 3))⟩,
       ⟨none, none, .a (.store 1 (.t 6) (.t 5))⟩])
     (.seq
      (.reg [⟨(some 7), none, .q (.fad 1 (.t 1))⟩,
        ⟨(some 8), none, .q (.load false 1 (.t 7))⟩,
        ⟨(some 9), none, .q (.fad 1 (.t 3))⟩,
        ⟨none, none, .a (.store 1 (.t 9) (.t 8))⟩])
      (.seq
       (.reg [⟨(some 10), none, .q (.fad 2 (.t 1))⟩,
         ⟨(some 11), none, .q (.load false 1 (.t 10))⟩,
         ⟨(some 12), none, .q (.fad 2 (.t 3))⟩,
         ⟨none, none, .a (.store 1 (.t 12) (.t 11))⟩])
       (.seq
        (.reg [⟨(some 13), none, .q (.fad 3 (.t 1))⟩,
          ⟨(some 14), none, .q (.load false 1 (.t 13))⟩,
          ⟨(some 15), none, .q (.fad 3 (.t 3))⟩,
          ⟨none, none, .a (.store 1 (.t 15) (.t 14))⟩])
        (.seq
         (.reg [⟨(some 16), none, .q (.fad 4 (.t 1))⟩,
           ⟨(some 17), none, .q (.load false 1 (.t 16))⟩,
           ⟨(some 18), none, .q (.fad 4 (.t 3))⟩,
           ⟨none, none, .a (.store 1 (.t 18) (.t 17))⟩])
         (.seq
          (.reg [⟨(some 19), none, .q (.fad 5 (.t 1))⟩,
            ⟨(some 20), none, .q (.load false 1 (.t 19))⟩,
            ⟨(some 21), none, .a (.call (.fn 203) false [.lend (.t 20)])⟩,
            ⟨(some 22), none, .q (.fad 5 (.t 3))⟩,
            ⟨none, none, .a (.store 1 (.t 22) (.t 21))⟩])
          (.seq
           (.reg [⟨(some 23), none, .q (.load true 6 (.t 3))⟩,
             ⟨none, none, .a (.store 6 (.t 2) (.t 23))⟩])
           .ret)))))))))


set_option maxRecDepth 100000 in
theorem d182 (s : Ob) (hs : s.sm) : Does Go.Proofs.Try.prog 182 [.agg s.z] false (.agg s.o) [.dead] := by
  unfold Ob.sm at hs
  refine does_introC (mc := m182) (N := 24) (r := 2) (ty := 130) (agg := true) (sz := 6) (fx := []) 1 rfl (by decide +kernel) ?_
  simp only [m182, Ob.z, Ob.o, EV, Nat.reduceEqDiff, Nat.reduceBEq, Nat.reduceLT, Nat.reduceLeDiff, Nat.reduceAdd, Nat.reduceSub, reduceIte]
  refine callK_i (d203 s.params (hs.2.2.2.2.2).1 (hs.2.2.2.2.2).2) ?_
  simp only [Ob.z, Ob.o, EV, Nat.reduceEqDiff, Nat.reduceBEq, Nat.reduceLT, Nat.reduceLeDiff, Nat.reduceAdd, Nat.reduceSub, reduceIte]
  simp only [Par.nfz, EV, Nat.reduceEqDiff, Nat.reduceBEq, Nat.reduceLT, Nat.reduceLeDiff, Nat.reduceAdd, Nat.reduceSub, reduceIte, retVC, cellV', evR, nfz, nfzs, nfzss, List.contains_nil, List.contains_cons, Bool.or_false, or_true]

/-- loop.example/g00837/laws.toObjectS -/
def m156 : MC :=
  (.seq
   (.reg [⟨(some 2), none, .a (.asg (.nils 130 6))⟩])
   (.seq
    (.reg [⟨(some 5), none, .q (.mov (.t 0))⟩,
      ⟨(some 6), none, .q (.len false (.t 5))⟩,
      ⟨(some 7), none, .a (.mks 130 6 72 [.v (.string ({ data := #[] })), .v (.int .i64 0), .v (.int .i64 0), .v (.int .i64 0), .v (.int .i64 0), .s 159 3] (.t 6) (.t 6))⟩,
      ⟨(some 3), none, .a (.asg (.t 7))⟩])
    (.seq
     (.seq
      (.reg [⟨(some 4), none, .a (.asg (.c (.int .i64 0)))⟩])
      (.block 0
       (.loop [0, 3, 4, 7]
        (.seq
         (.seq
          (.reg [⟨(some 8), none, .q (.mov (.t 4))⟩,
            ⟨(some 9), none, .q (.mov (.t 0))⟩,
            ⟨(some 10), none, .q (.len false (.t 9))⟩,
            ⟨(some 11), none, .q (.bin false .lss (.t 8) (.t 10))⟩])
          (.cond (.t 11)
           .skip
           (.exit 0)))
         (.seq
          (.block 1
           (.reg [⟨(some 14), none, .q (.mov (.t 3))⟩,
             ⟨(some 15), none, .q (.mov (.t 4))⟩,
             ⟨(some 16), none, .q (.mov (.t 0))⟩,
             ⟨(some 17), none, .q (.mov (.t 4))⟩,
             ⟨(some 18), none, .q (.iad 6 (.t 16) (.t 17))⟩,
             ⟨(some 19), none, .q (.load true 6 (.t 18))⟩,
             ⟨(some 20), none, .a (.call (.fn 182) false [.lend (.t 19)])⟩,
             ⟨(some 21), none, .q (.iad 6 (.t 14) (.t 15))⟩,
             ⟨none, none, .a (.store 6 (.t 21) (.t 20))⟩]))
          (.reg [⟨(some 12), none, .q (.mov (.t 4))⟩,
            ⟨(some 13), none, .q (.bin false .add (.t 12) (.c (.int .i64 1)))⟩,
            ⟨(some 4), none, .a (.asg (.t 13))⟩]))))))
     (.seq
      (.reg [⟨(some 22), none, .q (.mov (.t 3))⟩,
        ⟨(some 2), none, .a (.asg (.t 22))⟩])
      .ret))))


theorem d156 (l : List Ob) (hl : (l.length : Int) ≤ 1048576) (hs : ∀ s ∈ l, s.sm) : Does Go.Proofs.Try.prog 156 [.fsl 6 (l.map Ob.z)] false (.usl 130 6 (l.map Ob.o)) [.dead] := by
  refine does_intro (mc := m156) (N := 23) (rs := [2]) (fx := []) 1 rfl (by decide +kernel) ?_
  simp only [m156, EV, Nat.reduceEqDiff, Nat.reduceBEq, Nat.reduceLT, Nat.reduceLeDiff, Nat.reduceAdd, Nat.reduceSub, reduceIte]
  refine ⟨by omega, by omega, ?_⟩
  refine awp_loop (fun i : Nat => i ≤ l.length) (fun i => stl [(0, .fsl 6 (l.map Ob.z)), (3, .usl 130 6 ((l.take i).map Ob.o ++ List.replicate (l.length - i) Ob.zr)), (4, .v (.int .i64 (i : Int))), (7, .dead)]) (fun i => l.length - i) 0 (Nat.zero_le _) ?_ ?_
  · simp only [EV, Nat.reduceEqDiff, Nat.reduceBEq, Nat.reduceLT, Nat.reduceLeDiff, Nat.reduceAdd, Nat.reduceSub, reduceIte]
    rfl
  · intro i hi
    simp only [EV, Nat.reduceEqDiff, Nat.reduceBEq, Nat.reduceLT, Nat.reduceLeDiff, Nat.reduceAdd, Nat.reduceSub, reduceIte]
    refine cK_cut (fun h => ?_) (fun h => ?_)
    · have h1 : i < l.length := by simpa using h
      have h2 : (i : Int) < (l.length : Int) := by omega
      have h3 : ((l.take i).map Ob.o ++ List.replicate (l.length - i) Ob.zr).length = l.length := by simp; omega
      simp only [ObE, nth_map h1, h2, EV, Nat.reduceEqDiff, Nat.reduceBEq, Nat.reduceLT, Nat.reduceLeDiff, Nat.reduceAdd, Nat.reduceSub, reduceIte]
      refine callK_i (d182 l[i] (hs l[i] (List.getElem_mem h1))) ?_
      simp only [ObE, h2, h3, EV, Nat.reduceEqDiff, Nat.reduceBEq, Nat.reduceLT, Nat.reduceLeDiff, Nat.reduceAdd, Nat.reduceSub, reduceIte]
      refine ⟨h1, i + 1, by omega, by omega, ?_⟩
      have ez : l[i].o ++ List.drop 6 Ob.zr = l[i].o := List.append_nil _
      rw [fill_nth h1, w64 _ (by omega), ez, fill_set h1]
      rfl
    · have h1 : i = l.length := by have : ¬ (i : Int) < l.length := by simpa using h
                                   omega
      subst h1
      simp only [EV, Nat.reduceEqDiff, Nat.reduceBEq, Nat.reduceLT, Nat.reduceLeDiff, Nat.reduceAdd, Nat.reduceSub, reduceIte]
      simp only [Nat.sub_self, List.replicate_zero, Ob.nfz, EV, Nat.reduceEqDiff, Nat.reduceBEq, Nat.reduceLT, Nat.reduceLeDiff, Nat.reduceAdd, Nat.reduceSub, reduceIte, retVC, cellV', evR, nfz, nfzs, nfzss, List.contains_nil, List.contains_cons, Bool.or_false, or_true]

/-- loop.example/g00837/laws.eqObject -/
def m184 : MC :=
  (.seq
   (.reg [⟨(some 2), none, .a (.box 130 (.t 0))⟩,
     ⟨(some 3), none, .a (.box 130 (.t 1))⟩,
     ⟨(some 4), none, .a (.asg (.c (.bool false)))⟩])
   (.seq
    (.seq
     (.reg [⟨(some 5), none, .q (.fad 0 (.t 2))⟩,
       ⟨(some 6), none, .q (.load false 1 (.t 5))⟩,
       ⟨(some 7), none, .q (.fad 0 (.t 3))⟩,
       ⟨(some 8), none, .q (.load false 1 (.t 7))⟩,
       ⟨(some 9), none, .q (.bin false .neq (.t 6) (.t 8))⟩])
     (.cond (.t 9)
      (.seq
       (.reg [⟨(some 4), none, .a (.asg (.c (.bool false)))⟩])
       .ret)
      .skip))
    (.seq
     (.seq
      (.reg [⟨(some 10), none, .q (.fad 1 (.t 2))⟩,
        ⟨(some 11), none, .q (.load false 1 (.t 10))⟩,
        ⟨(some 12), none, .q (.fad 1 (.t 3))⟩,
        ⟨(some 13), none, .q (.load false 1 (.t 12))⟩,
        ⟨(some 14), none, .q (.bin false .neq (.t 11) (.t 13))⟩])
      (.cond (.t 14)
       (.seq
        (.reg [⟨(some 4), none, .a (.asg (.c (.bool false)))⟩])
        .ret)
       .skip))
     (.seq
      (.seq
       (.reg [⟨(some 15), none, .q (.fad 2 (.t 2))⟩,
         ⟨(some 16), none, .q (.load false 1 (.t 15))⟩,
         ⟨(some 17), none, .q (.fad 2 (.t 3))⟩,
         ⟨(some 18), none, .q (.load false 1 (.t 17))⟩,
         ⟨(some 19), none, .q (.bin false .neq (.t 16) (.t 18))⟩])
       (.cond (.t 19)
        (.seq
         (.reg [⟨(some 4), none, .a (.asg (.c (.bool false)))⟩])
         .ret)
        .skip))
      (.seq
       (.seq
        (.reg [⟨(some 20), none, .q (.fad 3 (.t 2))⟩,
          ⟨(some 21), none, .q (.load false 1 (.t 20))⟩,
          ⟨(some 22), none, .q (.fad 3 (.t 3))⟩,
          ⟨(some 23), none, .q (.load false 1 (.t 22))⟩,
          ⟨(some 24), none, .q (.bin false .neq (.t 21) (.t 23))⟩])
        (.cond (.t 24)
         (.seq
          (.reg [⟨(some 4), none, .a (.asg (.c (.bool false)))⟩])
          .ret)
         .skip))
       (.seq
        (.seq
         (.reg [⟨(some 25), none, .q (.fad 4 (.t 2))⟩,
           ⟨(some 26), none, .q (.load false 1 (.t 25))⟩,
           ⟨(some 27), none, .q (.fad 4 (.t 3))⟩,
           ⟨(some 28), none, .q (.load false 1 (.t 27))⟩,
           ⟨(some 29), none, .q (.bin false .neq (.t 26) (.t 28))⟩])
         (.cond (.t 29)
          (.seq
           (.reg [⟨(some 4), none, .a (.asg (.c (.bool false)))⟩])
           .ret)
          .skip))
        (.seq
         (.seq
          (.reg [⟨(some 30), none, .q (.fad 5 (.t 2))⟩,
            ⟨(some 31), none, .q (.load false 1 (.t 30))⟩,
            ⟨(some 32), none, .q (.fad 5 (.t 3))⟩,
            ⟨(some 33), none, .q (.load false 1 (.t 32))⟩,
            ⟨(some 34), none, .a (.call (.fn 204) false [.lend (.t 31), .lend (.t 33)])⟩,
            ⟨(some 35), none, .q (.un .not (.t 34))⟩])
          (.cond (.t 35)
           (.seq
            (.reg [⟨(some 4), none, .a (.asg (.c (.bool false)))⟩])
            .ret)
           .skip))
         (.seq
          (.reg [⟨(some 4), none, .a (.asg (.c (.bool true)))⟩])
          .ret))))))))


set_option maxRecDepth 100000 in
theorem d184 (s : Ob) (hs : s.sm) : Does Go.Proofs.Try.prog 184 [.agg s.z, .agg s.z] false (.v (.bool true)) [.dead, .dead] := by
  unfold Ob.sm at hs
  refine does_intro (mc := m184) (N := 36) (rs := [4]) (fx := []) 2 rfl (by decide +kernel) ?_
  simp only [m184, Ob.z, EV, Nat.reduceEqDiff, Nat.reduceBEq, Nat.reduceLT, Nat.reduceLeDiff, Nat.reduceAdd, Nat.reduceSub, reduceIte]
  refine callK_i (d204 s.params (hs.2.2.2.2.2).1 (hs.2.2.2.2.2).2) ?_
  simp only [Ob.z, EV, Nat.reduceEqDiff, Nat.reduceBEq, Nat.reduceLT, Nat.reduceLeDiff, Nat.reduceAdd, Nat.reduceSub, reduceIte]
  simp only [EV, Nat.reduceEqDiff, Nat.reduceBEq, Nat.reduceLT, Nat.reduceLeDiff, Nat.reduceAdd, Nat.reduceSub, reduceIte, retVC, cellV', evR, nfz, nfzs, nfzss, List.contains_nil, List.contains_cons, Bool.or_false, or_true]

/-- loop.example/g00837/laws.eqObjectS -/
def m162 : MC :=
  (.seq
   (.reg [⟨(some 4), none, .a (.asg (.c (.bool false)))⟩])
   (.seq
    (.seq
     (.reg [⟨(some 6), none, .q (.mov (.t 0))⟩,
       ⟨(some 7), none, .q (.len false (.t 6))⟩,
       ⟨(some 8), none, .q (.mov (.t 1))⟩,
       ⟨(some 9), none, .q (.len false (.t 8))⟩,
       ⟨(some 10), none, .q (.bin false .neq (.t 7) (.t 9))⟩])
     (.cond (.t 10)
      (.seq
       (.reg [⟨(some 4), none, .a (.asg (.c (.bool false)))⟩])
       .ret)
      .skip))
    (.seq
     (.seq
      (.reg [⟨(some 5), none, .a (.asg (.c (.int .i64 0)))⟩])
      (.block 0
       (.loop [0, 1, 5]
        (.seq
         (.seq
          (.reg [⟨(some 11), none, .q (.mov (.t 5))⟩,
            ⟨(some 12), none, .q (.mov (.t 0))⟩,
            ⟨(some 13), none, .q (.len false (.t 12))⟩,
            ⟨(some 14), none, .q (.bin false .lss (.t 11) (.t 13))⟩])
          (.cond (.t 14)
           .skip
           (.exit 0)))
         (.seq
          (.block 1
           (.seq
            (.dreg [⟨(some 17), none, .q (.mov (.t 0))⟩,
              ⟨(some 18), none, .q (.mov (.t 5))⟩,
              ⟨(some 19), none, .q (.iad 6 (.t 17) (.t 18))⟩,
              ⟨(some 20), none, .q (.load true 6 (.t 19))⟩,
              ⟨(some 21), none, .q (.mov (.t 1))⟩,
              ⟨(some 22), none, .q (.mov (.t 5))⟩,
              ⟨(some 23), none, .q (.iad 6 (.t 21) (.t 22))⟩,
              ⟨(some 24), none, .q (.load true 6 (.t 23))⟩,
              ⟨(some 25), none, .a (.call (.fn 184) false [.lend (.t 20), .lend (.t 24)])⟩,
              ⟨(some 26), none, .q (.un .not (.t 25))⟩])
            (.cond (.t 26)
             (.seq
              (.reg [⟨(some 4), none, .a (.asg (.c (.bool false)))⟩])
              .ret)
             .skip)))
          (.reg [⟨(some 15), none, .q (.mov (.t 5))⟩,
            ⟨(some 16), none, .q (.bin false .add (.t 15) (.c (.int .i64 1)))⟩,
            ⟨(some 5), none, .a (.asg (.t 16))⟩]))))))
     (.seq
      (.reg [⟨(some 4), none, .a (.asg (.c (.bool true)))⟩])
      .ret))))


theorem d162 (l : List Ob) (hl : (l.length : Int) ≤ 1048576) (hs : ∀ s ∈ l, s.sm) : Does Go.Proofs.Try.prog 162 [.fsl 6 (l.map Ob.z), .fsl 6 (l.map Ob.z)] false (.v (.bool true)) [.dead, .dead] := by
  refine does_intro (mc := m162) (N := 27) (rs := [4]) (fx := []) 2 rfl (by decide +kernel) ?_
  simp only [m162, EV, Nat.reduceEqDiff, Nat.reduceBEq, Nat.reduceLT, Nat.reduceLeDiff, Nat.reduceAdd, Nat.reduceSub, reduceIte]
  refine awp_loop (fun i : Nat => i ≤ l.length) (fun i => stl [(0, .fsl 6 (l.map Ob.z)), (1, .fsl 6 (l.map Ob.z)), (5, .v (.int .i64 (i : Int)))]) (fun i => l.length - i) 0 (Nat.zero_le _) ?_ ?_
  · simp only [EV, Nat.reduceEqDiff, Nat.reduceBEq, Nat.reduceLT, Nat.reduceLeDiff, Nat.reduceAdd, Nat.reduceSub, reduceIte]
    rfl
  · intro i hi
    simp only [EV, Nat.reduceEqDiff, Nat.reduceBEq, Nat.reduceLT, Nat.reduceLeDiff, Nat.reduceAdd, Nat.reduceSub, reduceIte]
    refine cK_cut (fun h => ?_) (fun h => ?_)
    · have h1 : i < l.length := by simpa using h
      have h2 : (i : Int) < (l.length : Int) := by omega
      simp only [ObE, nth_map h1, h2, EV, Nat.reduceEqDiff, Nat.reduceBEq, Nat.reduceLT, Nat.reduceLeDiff, Nat.reduceAdd, Nat.reduceSub, reduceIte]
      refine callD_i (d184 l[i] (hs l[i] (List.getElem_mem h1))) rfl ?_
      simp only [EV, Nat.reduceEqDiff, Nat.reduceBEq, Nat.reduceLT, Nat.reduceLeDiff, Nat.reduceAdd, Nat.reduceSub, reduceIte]
      refine ⟨i + 1, by omega, by omega, ?_⟩
      rw [w64 _ (by omega)]
      rfl
    · have h1 : i = l.length := by have : ¬ (i : Int) < l.length := by simpa using h
                                   omega
      simp only [EV, Nat.reduceEqDiff, Nat.reduceBEq, Nat.reduceLT, Nat.reduceLeDiff, Nat.reduceAdd, Nat.reduceSub, reduceIte]
      simp only [EV, Nat.reduceEqDiff, Nat.reduceBEq, Nat.reduceLT, Nat.reduceLeDiff, Nat.reduceAdd, Nat.reduceSub, reduceIte, retVC, cellV', evR, nfz, nfzs, nfzss, List.contains_nil, List.contains_cons, Bool.or_false, or_true]

end Go.AM
