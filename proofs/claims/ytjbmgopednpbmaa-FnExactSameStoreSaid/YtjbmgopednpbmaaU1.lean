/- Contracts of functions of the given program, for the law FnExactSameStore: what they return and what they write, under the bounds that each theorem states. -/
import Derived.Test.YtjbmgopednpbmaaC9
import Derived.Test.YtjbmgopednpbmaaC8
import Derived.Test.YtjbmgopednpbmaaProg
namespace Go.AM
set_option linter.unusedVariables false
set_option linter.unusedSimpArgs false

theorem fill_set {α : Type} {g : α → List AV} {l : List α} {z : List AV} {i : Nat} (h : i < l.length) : ((l.take i).map g ++ List.replicate (l.length - i) z).set i (g l[i]) = (l.take (i + 1)).map g ++ List.replicate (l.length - (i + 1)) z := by
  obtain ⟨n, hn⟩ : ∃ n, l.length - i = n + 1 := ⟨l.length - i - 1, by omega⟩
  have e : l.length - (i + 1) = n := by omega
  have hl : (List.map g (List.take i l)).length = i := by simp; omega
  rw [hn, e, List.replicate_succ, List.set_append, if_neg (by omega), hl, Nat.sub_self, List.set_cons_zero, List.take_succ_eq_append_getElem h, List.map_append, List.append_assoc]
  rfl
theorem fill_nth {α : Type} {g : α → List AV} {l : List α} {z : List AV} {i : Nat} (h : i < l.length) : nth ((l.take i).map g ++ List.replicate (l.length - i) z) i = z := by
  obtain ⟨n, hn⟩ : ∃ n, l.length - i = n + 1 := ⟨l.length - i - 1, by omega⟩
  have hl : (List.map g (List.take i l)).length = i := by simp; omega
  unfold nth
  rw [List.getD_eq_getElem?_getD, hn, List.replicate_succ, List.getElem?_append_right (by omega), hl]
  simp
structure Fd where
  name : ByteArray
  mark : Int
  typ : Int

def Fd.z (s : Fd) : List AV := [.v (.string s.name), .v (.int .i64 s.mark), .v (.int .i64 s.typ)]

def Fd.o (s : Fd) : List AV := [.v (.string s.name), .v (.int .i64 s.mark), .v (.int .i64 s.typ)]

def Fd.zr : List AV := [.v (.string ⟨#[]⟩), .v (.int .i64 0), .v (.int .i64 0)]

theorem Fd.fr (s : Fd) : frzRow s.o = s.z := by
  simp only [Fd.o, Fd.z, frzRow, frzL, List.cons_append, List.nil_append]
theorem Fd.frz : ∀ l : List Fd, frzRows (l.map Fd.o) = l.map Fd.z
  | [] => rfl
  | s :: l => by simp only [List.map_cons, frzRows, Fd.fr, Fd.frz l]
theorem Fd.nf (s : Fd) : nfzs s.o = true := by
  simp only [Fd.o, nfzs, nfz, List.cons_append, List.nil_append, Bool.and_self]
theorem Fd.nfz : ∀ l : List Fd, nfzss (l.map Fd.o) = true
  | [] => rfl
  | s :: l => by simp only [List.map_cons, nfzss, Fd.nf, Fd.nfz l, Bool.and_self]
theorem FdE : (∀ f : Fd, f.z.length = 3) ∧ (∀ f : Fd, f.z.take 3 = f.z) ∧ (∀ (st : St) (f : Fd), frzBs st f.z = f.z) ∧ (∀ f : Fd, bares f.z = true) ∧ (∀ f : Fd, plains f.z = true) ∧
    (∀ (f : Fd) (K : Nat → List (Nat × Nat) → Bool), killVs K f.z = f.z) ∧ (∀ f : Fd, f.z.all storL = true) ∧ (∀ f : Fd, f.o.length = 3) ∧ (∀ f : Fd, f.o.take 3 = f.o) ∧ (∀ f : Fd, bares f.o = true) ∧
    (∀ f : Fd, plains f.o = true) ∧ (∀ (f : Fd) (K : Nat → List (Nat × Nat) → Bool), killVs K f.o = f.o) ∧ (∀ f : Fd, f.o.all storL = true) :=
  ⟨fun _ => rfl, fun _ => rfl, fun _ _ => rfl, fun _ => rfl, fun _ => rfl, fun _ _ => rfl, fun _ => rfl, fun _ => rfl, fun _ => rfl, fun _ => rfl, fun _ => rfl, fun _ _ => rfl, fun _ => rfl⟩

def Fd.ok (s : Fd) : Prop := (s.name.size : Int) ≤ 9223372036854775807 ∧ (-9223372036854775808 ≤ s.mark ∧ s.mark ≤ 9223372036854775807) ∧ (-9223372036854775808 ≤ s.typ ∧ s.typ ≤ 9223372036854775807)
def Fd.sm (s : Fd) : Prop := (s.name.size : Int) ≤ 1048576 ∧ True ∧ True

def szFd (s : Fd) (k : Int) : Int := if k - s.name.size < 0 then -1 else k - s.name.size
def totFd (s : Fd) : Int := (s.name.size : Int)
theorem szFd_le (s : Fd) (k : Int) (h : 0 ≤ k) : szFd s k ≤ k := by
  unfold szFd
  by_cases g0 : k - s.name.size < 0
  · rw [if_pos g0]; omega
  rw [if_neg g0]
  omega
theorem szFd_tot (s : Fd) (k : Int) (h : 0 ≤ szFd s k) : totFd s + szFd s k = k := by
  unfold szFd at h ⊢
  unfold totFd
  by_cases g0 : k - s.name.size < 0
  · rw [if_pos g0] at h; omega
  rw [if_neg g0] at h ⊢
  omega
theorem totFd_nn (s : Fd) : 0 ≤ totFd s := by
  unfold totFd
  omega
theorem Fd.sm_of (s : Fd) (h : totFd s ≤ 1048576) : s.sm := by
  unfold totFd at h
  exact ⟨by omega, trivial, trivial⟩

/-- loop.example/g00837/laws.szField -/
def m165 : MC :=
  (.seq
   (.reg [⟨(some 2), none, .a (.box 168 (.t 0))⟩,
     ⟨(some 4), none, .a (.asg (.c (.int .i64 0)))⟩])
   (.seq
    (.reg [⟨(some 5), none, .q (.mov (.t 1))⟩,
      ⟨(some 6), none, .q (.fad 0 (.t 2))⟩,
      ⟨(some 7), none, .q (.load false 1 (.t 6))⟩,
      ⟨(some 8), none, .q (.len true (.t 7))⟩,
      ⟨(some 9), none, .q (.bin false .sub (.t 5) (.t 8))⟩,
      ⟨(some 1), none, .a (.asg (.t 9))⟩])
    (.seq
     (.seq
      (.reg [⟨(some 10), none, .q (.mov (.t 1))⟩,
        ⟨(some 11), none, .q (.bin false .lss (.t 10) (.c (.int .i64 0)))⟩])
      (.cond (.t 11)
       (.seq
        (.reg [⟨(some 4), none, .a (.asg (.c (.int .i64 (-1))))⟩])
        .ret)
       .skip))
     (.seq
      (.reg [⟨(some 12), none, .q (.mov (.t 1))⟩,
        ⟨(some 4), none, .a (.asg (.t 12))⟩])
      .ret))))


set_option maxRecDepth 100000 in
theorem d165 (s : Fd) (k : Int) (h0 : 0 ≤ k) (h1 : k ≤ 1048576) (hok : s.ok) : Does Go.Proofs.Try.prog 165 [.agg s.z, .v (.int .i64 k)] false (.v (.int .i64 (szFd s k))) [.dead, .dead] := by
  unfold Fd.ok at hok
  refine does_intro (mc := m165) (N := 13) (rs := [4]) (fx := []) 2 rfl (by decide +kernel) ?_
  simp only [m165, Fd.z, EV, Nat.reduceEqDiff, Nat.reduceBEq, Nat.reduceLT, Nat.reduceLeDiff, Nat.reduceAdd, Nat.reduceSub, reduceIte]
  have b0 := hok.1
  have w0 := w64 (k - s.name.size) (by omega)
  simp only [w0, EV, Nat.reduceEqDiff, Nat.reduceBEq, Nat.reduceLT, Nat.reduceLeDiff, Nat.reduceAdd, Nat.reduceSub, reduceIte]
  refine cK_cut (fun h => ?_) (fun h => ?_)
  · have g0 : k - s.name.size < 0 := by simpa using h
    have e : szFd s k = -1 := by unfold szFd; rw [if_pos g0]
    simp only [EV, Nat.reduceEqDiff, Nat.reduceBEq, Nat.reduceLT, Nat.reduceLeDiff, Nat.reduceAdd, Nat.reduceSub, reduceIte]
    simp only [e, EV, Nat.reduceEqDiff, Nat.reduceBEq, Nat.reduceLT, Nat.reduceLeDiff, Nat.reduceAdd, Nat.reduceSub, reduceIte, retVC, cellV', evR, nfz, nfzs, nfzss, List.contains_nil, List.contains_cons, Bool.or_false, or_true]
  · have g0 : ¬ k - s.name.size < 0 := by simpa using h
    simp only [EV, Nat.reduceEqDiff, Nat.reduceBEq, Nat.reduceLT, Nat.reduceLeDiff, Nat.reduceAdd, Nat.reduceSub, reduceIte]
    have e : szFd s k = k - s.name.size := by unfold szFd; rw [if_neg g0]
    simp only [e, EV, Nat.reduceEqDiff, Nat.reduceBEq, Nat.reduceLT, Nat.reduceLeDiff, Nat.reduceAdd, Nat.reduceSub, reduceIte, retVC, cellV', evR, nfz, nfzs, nfzss, List.contains_nil, List.contains_cons, Bool.or_false, or_true]

def szFds : List Fd → Int → Int
  | [], k => k
  | s :: r, k => if szFd s k < 0 then -1 else szFds r (szFd s k)
def szFdS (l : List Fd) (k : Int) : Int := if k - l.length < 0 then -1 else szFds l (k - l.length)
theorem szFds_le : ∀ (l : List Fd) (k : Int), 0 ≤ k → szFds l k ≤ k
  | [], k, h => by simp [szFds]
  | s :: r, k, h => by
    simp only [szFds]
    have h1 := szFd_le s k h
    split
    · omega
    · have := szFds_le r (szFd s k) (by omega)
      omega
theorem szFdS_le (l : List Fd) (k : Int) (h : 0 ≤ k) : szFdS l k ≤ k := by
  unfold szFdS
  split
  · omega
  · have := szFds_le l (k - l.length) (by omega); omega
def totFds : List Fd → Int
  | [] => 0
  | s :: r => 1 + totFd s + totFds r
theorem szFds_tot : ∀ (l : List Fd) (k : Int), 0 ≤ szFds l k → totFds l + szFds l k = k + l.length
  | [], k, h => by simp [szFds, totFds]
  | s :: r, k, h => by
    simp only [szFds] at h ⊢
    split
    · rename_i h1; rw [if_pos h1] at h; omega
    · rename_i h1
      rw [if_neg h1] at h
      have h2 := szFd_tot s k (by omega)
      have h3 := szFds_tot r _ h
      simp only [totFds, List.length_cons]
      omega
theorem szFdS_tot (l : List Fd) (k : Int) (h : 0 ≤ szFdS l k) : totFds l + szFdS l k = k := by
  unfold szFdS at h ⊢
  split
  · rename_i h1; rw [if_pos h1] at h; omega
  · rename_i h1
    rw [if_neg h1] at h
    have := szFds_tot l _ h
    omega
theorem totFds_nn : ∀ l : List Fd, (l.length : Int) ≤ totFds l
  | [] => by simp [totFds]
  | s :: r => by
    have := totFds_nn r
    have := totFd_nn s
    simp only [totFds, List.length_cons]
    omega
theorem totFds_mem : ∀ (l : List Fd) (s : Fd), s ∈ l → totFd s ≤ totFds l
  | x :: r, s, h => by
    simp only [totFds]
    have h3 := totFd_nn x
    have h2 := totFds_nn r
    rcases List.mem_cons.1 h with h | h
    · subst h; omega
    · have := totFds_mem r s h; omega

/-- loop.example/g00837/laws.szFieldS -/
def m127 : MC :=
  (.seq
   (.reg [⟨(some 4), none, .a (.asg (.c (.int .i64 0)))⟩])
   (.seq
    (.reg [⟨(some 6), none, .q (.mov (.t 1))⟩,
      ⟨(some 7), none, .q (.mov (.t 0))⟩,
      ⟨(some 8), none, .q (.len false (.t 7))⟩,
      ⟨(some 9), none, .q (.bin false .sub (.t 6) (.t 8))⟩,
      ⟨(some 1), none, .a (.asg (.t 9))⟩])
    (.seq
     (.seq
      (.reg [⟨(some 10), none, .q (.mov (.t 1))⟩,
        ⟨(some 11), none, .q (.bin false .lss (.t 10) (.c (.int .i64 0)))⟩])
      (.cond (.t 11)
       (.seq
        (.reg [⟨(some 4), none, .a (.asg (.c (.int .i64 (-1))))⟩])
        .ret)
       .skip))
     (.seq
      (.seq
       (.reg [⟨(some 5), none, .a (.asg (.c (.int .i64 0)))⟩])
       (.block 0
        (.loop [0, 1, 5]
         (.seq
          (.seq
           (.reg [⟨(some 12), none, .q (.mov (.t 5))⟩,
             ⟨(some 13), none, .q (.mov (.t 0))⟩,
             ⟨(some 14), none, .q (.len false (.t 13))⟩,
             ⟨(some 15), none, .q (.bin false .lss (.t 12) (.t 14))⟩])
           (.cond (.t 15)
            .skip
            (.exit 0)))
          (.seq
           (.block 1
            (.seq
             (.reg [⟨(some 18), none, .q (.mov (.t 0))⟩,
               ⟨(some 19), none, .q (.mov (.t 5))⟩,
               ⟨(some 20), none, .q (.iad 3 (.t 18) (.t 19))⟩,
               ⟨(some 21), none, .q (.load true 3 (.t 20))⟩,
               ⟨(some 22), none, .q (.mov (.t 1))⟩,
               ⟨(some 23), none, .a (.call (.fn 165) false [.lend (.t 21), .lend (.t 22)])⟩,
               ⟨(some 1), none, .a (.asg (.t 23))⟩])
             (.seq
              (.reg [⟨(some 24), none, .q (.mov (.t 1))⟩,
                ⟨(some 25), none, .q (.bin false .lss (.t 24) (.c (.int .i64 0)))⟩])
              (.cond (.t 25)
               (.seq
                (.reg [⟨(some 4), none, .a (.asg (.c (.int .i64 (-1))))⟩])
                .ret)
               .skip))))
           (.reg [⟨(some 16), none, .q (.mov (.t 5))⟩,
             ⟨(some 17), none, .q (.bin false .add (.t 16) (.c (.int .i64 1)))⟩,
             ⟨(some 5), none, .a (.asg (.t 17))⟩]))))))
      (.seq
       (.reg [⟨(some 26), none, .q (.mov (.t 1))⟩,
         ⟨(some 4), none, .a (.asg (.t 26))⟩])
       .ret)))))


theorem d127 (l : List Fd) (k : Int) (h0 : 0 ≤ k) (h1 : k ≤ 1048576) (hl : (l.length : Int) ≤ 9223372036854775807) (hs : ∀ s ∈ l, s.ok) :
    Does Go.Proofs.Try.prog 127 [.fsl 3 (l.map Fd.z), .v (.int .i64 k)] false (.v (.int .i64 (szFdS l k))) [.dead, .dead] := by
  refine does_intro (mc := m127) (N := 27) (rs := [4]) (fx := []) 2 rfl (by decide +kernel) ?_
  simp only [m127, EV, Nat.reduceEqDiff, Nat.reduceBEq, Nat.reduceLT, Nat.reduceLeDiff, Nat.reduceAdd, Nat.reduceSub, reduceIte]
  have w1 := w64 (k - l.length) (by omega)
  simp only [w1]
  refine cK_cut (fun h => ?_) (fun h => ?_)
  · have h2 : k - l.length < 0 := by simpa using h
    have e : szFdS l k = -1 := by simp [szFdS, h2]
    simp only [EV, Nat.reduceEqDiff, Nat.reduceBEq, Nat.reduceLT, Nat.reduceLeDiff, Nat.reduceAdd, Nat.reduceSub, reduceIte]
    simp only [e, EV, Nat.reduceEqDiff, Nat.reduceBEq, Nat.reduceLT, Nat.reduceLeDiff, Nat.reduceAdd, Nat.reduceSub, reduceIte, retVC, cellV', evR, nfz, nfzs, nfzss, List.contains_nil, List.contains_cons, Bool.or_false, or_true]
  · have h2 : ¬ k - l.length < 0 := by simpa using h
    have e : szFdS l k = szFds l (k - l.length) := by simp [szFdS, h2]
    simp only [EV, Nat.reduceEqDiff, Nat.reduceBEq, Nat.reduceLT, Nat.reduceLeDiff, Nat.reduceAdd, Nat.reduceSub, reduceIte]
    refine awp_loop (fun p : Nat × Int => p.1 ≤ l.length ∧ 0 ≤ p.2 ∧ p.2 ≤ 1048576 ∧ szFds (l.drop p.1) p.2 = szFdS l k)
      (fun p => stl [(0, .fsl 3 (l.map Fd.z)), (1, .v (.int .i64 p.2)), (5, .v (.int .i64 (p.1 : Int)))]) (fun p => l.length - p.1) (0, k - l.length) ⟨by simp, by simp only; omega, by simp only; omega, by simp [e]⟩ ?_ ?_
    · simp only [EV, Nat.reduceEqDiff, Nat.reduceBEq, Nat.reduceLT, Nat.reduceLeDiff, Nat.reduceAdd, Nat.reduceSub, reduceIte]
      rfl
    · rintro ⟨i, n⟩ ⟨p0, p1, p2, p3⟩
      simp only at p0 p1 p2 p3
      simp only [EV, Nat.reduceEqDiff, Nat.reduceBEq, Nat.reduceLT, Nat.reduceLeDiff, Nat.reduceAdd, Nat.reduceSub, reduceIte]
      refine cK_cut (fun h => ?_) (fun h => ?_)
      · have h3 : i < l.length := by simpa using h
        have h4 : (i : Int) < (l.length : Int) := by omega
        rw [List.drop_eq_getElem_cons h3] at p3
        simp only [szFds] at p3
        have hle := szFd_le l[i] n p1
        simp only [FdE, nth_map h3, h4, EV, Nat.reduceEqDiff, Nat.reduceBEq, Nat.reduceLT, Nat.reduceLeDiff, Nat.reduceAdd, Nat.reduceSub, reduceIte]
        refine callK_i (d165 l[i] n p1 p2 (hs l[i] (List.getElem_mem h3))) ?_
        simp only [FdE, nth_map h3, h4, EV, Nat.reduceEqDiff, Nat.reduceBEq, Nat.reduceLT, Nat.reduceLeDiff, Nat.reduceAdd, Nat.reduceSub, reduceIte]
        refine cK_cut (fun h => ?_) (fun h => ?_)
        · have h5 : szFd l[i] n < 0 := by simpa using h
          rw [if_pos h5] at p3
          simp only [EV, Nat.reduceEqDiff, Nat.reduceBEq, Nat.reduceLT, Nat.reduceLeDiff, Nat.reduceAdd, Nat.reduceSub, reduceIte]
          simp only [← p3, EV, Nat.reduceEqDiff, Nat.reduceBEq, Nat.reduceLT, Nat.reduceLeDiff, Nat.reduceAdd, Nat.reduceSub, reduceIte, retVC, cellV', evR, nfz, nfzs, nfzss, List.contains_nil, List.contains_cons, Bool.or_false, or_true]
        · have h5 : ¬ szFd l[i] n < 0 := by simpa using h
          rw [if_neg h5] at p3
          have w2 := w64 ((i : Int) + 1) (by omega)
          simp only [w2, EV, Nat.reduceEqDiff, Nat.reduceBEq, Nat.reduceLT, Nat.reduceLeDiff, Nat.reduceAdd, Nat.reduceSub, reduceIte]
          exact ⟨(i + 1, szFd l[i] n), ⟨by simp only; omega, by simp only; omega, by simp only; omega, p3⟩, by simp only; omega, rfl⟩
      · have h3 : i = l.length := by have : ¬ (i : Int) < l.length := by simpa using h
                                     omega
        subst h3
        rw [List.drop_length] at p3
        simp only [szFds] at p3
        simp only [EV, Nat.reduceEqDiff, Nat.reduceBEq, Nat.reduceLT, Nat.reduceLeDiff, Nat.reduceAdd, Nat.reduceSub, reduceIte]
        simp only [← p3, EV, Nat.reduceEqDiff, Nat.reduceBEq, Nat.reduceLT, Nat.reduceLeDiff, Nat.reduceAdd, Nat.reduceSub, reduceIte, retVC, cellV', evR, nfz, nfzs, nfzss, List.contains_nil, List.contains_cons, Bool.or_false, or_true]

/-- loop.example/g00837/laws.toField -/
def m166 : MC :=
  (.seq
   (.reg [⟨(some 1), none, .a (.box 168 (.t 0))⟩,
     ⟨(some 2), none, .a (.alloc 57 [.v (.string ({ data := #[] })), .v (.int .i64 0), .v (.int .i64 0)])⟩])
   (.seq
    (.reg [⟨(some 3), none, .a (.alloc 57 [.v (.string ({ data := #[] })), .v (.int .i64 0), .v (.int .i64 0)])⟩])
    (.seq
     (.reg [⟨(some 4), none, .q (.fad 0 (.t 1))⟩,
       ⟨(some 5), none, .q (.load false 1 (.t 4))⟩,
       ⟨(some 6), none, .q (.fad 0 (.t 3))⟩,
       ⟨none, none, .a (.store 1 (.t 6) (.t 5))⟩])
     (.seq
      (.reg [⟨(some 7), none, .q (.fad 1 (.t 1))⟩,
        ⟨(some 8), none, .q (.load false 1 (.t 7))⟩,
        ⟨(some 9), none, .q (.fad 1 (.t 3))⟩,
        ⟨none, none, .a (.store 1 (.t 9) (.t 8))⟩])
      (.seq
       (.reg [⟨(some 10), none, .q (.fad 2 (.t 1))⟩,
         ⟨(some 11), none, .q (.load false 1 (.t 10))⟩,
         ⟨(some 12), none, .q (.fad 2 (.t 3))⟩,
         ⟨none, none, .a (.store 1 (.t 12) (.t 11))⟩])
       (.seq
        (.reg [⟨(some 13), none, .q (.load true 3 (.t 3))⟩,
          ⟨none, none, .a (.store 3 (.t 2) (.t 13))⟩])
        .ret))))))


set_option maxRecDepth 100000 in
theorem d166 (s : Fd) (hs : s.sm) : Does Go.Proofs.Try.prog 166 [.agg s.z] false (.agg s.o) [.dead] := by
  unfold Fd.sm at hs
  refine does_introC (mc := m166) (N := 14) (r := 2) (ty := 57) (agg := true) (sz := 3) (fx := []) 1 rfl (by decide +kernel) ?_
  simp only [m166, Fd.z, Fd.o, EV, Nat.reduceEqDiff, Nat.reduceBEq, Nat.reduceLT, Nat.reduceLeDiff, Nat.reduceAdd, Nat.reduceSub, reduceIte]
  simp only [EV, Nat.reduceEqDiff, Nat.reduceBEq, Nat.reduceLT, Nat.reduceLeDiff, Nat.reduceAdd, Nat.reduceSub, reduceIte, retVC, cellV', evR, nfz, nfzs, nfzss, List.contains_nil, List.contains_cons, Bool.or_false, or_true]

/-- loop.example/g00837/laws.toFieldS -/
def m128 : MC :=
  (.seq
   (.reg [⟨(some 2), none, .a (.asg (.nils 57 3))⟩])
   (.seq
    (.reg [⟨(some 5), none, .q (.mov (.t 0))⟩,
      ⟨(some 6), none, .q (.len false (.t 5))⟩,
      ⟨(some 7), none, .a (.mks 57 3 32 [.v (.string ({ data := #[] })), .v (.int .i64 0), .v (.int .i64 0)] (.t 6) (.t 6))⟩,
      ⟨(some 3), none, .a (.asg (.t 7))⟩])
    (.seq
     (.seq
      (.reg [⟨(some 4), none, .a (.asg (.c (.int .i64 0)))⟩])
      (.block 0
       (.loop [0, 3, 4, 7]
        (.seq
         (.seq
          (.reg [⟨(some 8), none, .q (.mov (.t 4))⟩,
            ⟨(some 9), none, .q (.mov (.t 0))⟩,
            ⟨(some 10), none, .q (.len false (.t 9))⟩,
            ⟨(some 11), none, .q (.bin false .lss (.t 8) (.t 10))⟩])
          (.cond (.t 11)
           .skip
           (.exit 0)))
         (.seq
          (.block 1
           (.reg [⟨(some 14), none, .q (.mov (.t 3))⟩,
             ⟨(some 15), none, .q (.mov (.t 4))⟩,
             ⟨(some 16), none, .q (.mov (.t 0))⟩,
             ⟨(some 17), none, .q (.mov (.t 4))⟩,
             ⟨(some 18), none, .q (.iad 3 (.t 16) (.t 17))⟩,
             ⟨(some 19), none, .q (.load true 3 (.t 18))⟩,
             ⟨(some 20), none, .a (.call (.fn 166) false [.lend (.t 19)])⟩,
             ⟨(some 21), none, .q (.iad 3 (.t 14) (.t 15))⟩,
             ⟨none, none, .a (.store 3 (.t 21) (.t 20))⟩]))
          (.reg [⟨(some 12), none, .q (.mov (.t 4))⟩,
            ⟨(some 13), none, .q (.bin false .add (.t 12) (.c (.int .i64 1)))⟩,
            ⟨(some 4), none, .a (.asg (.t 13))⟩]))))))
     (.seq
      (.reg [⟨(some 22), none, .q (.mov (.t 3))⟩,
        ⟨(some 2), none, .a (.asg (.t 22))⟩])
      .ret))))


theorem d128 (l : List Fd) (hl : (l.length : Int) ≤ 1048576) (hs : ∀ s ∈ l, s.sm) : Does Go.Proofs.Try.prog 128 [.fsl 3 (l.map Fd.z)] false (.usl 57 3 (l.map Fd.o)) [.dead] := by
  refine does_intro (mc := m128) (N := 23) (rs := [2]) (fx := []) 1 rfl (by decide +kernel) ?_
  simp only [m128, EV, Nat.reduceEqDiff, Nat.reduceBEq, Nat.reduceLT, Nat.reduceLeDiff, Nat.reduceAdd, Nat.reduceSub, reduceIte]
  refine ⟨by omega, by omega, ?_⟩
  refine awp_loop (fun i : Nat => i ≤ l.length) (fun i => stl [(0, .fsl 3 (l.map Fd.z)), (3, .usl 57 3 ((l.take i).map Fd.o ++ List.replicate (l.length - i) Fd.zr)), (4, .v (.int .i64 (i : Int))), (7, .dead)]) (fun i => l.length - i) 0 (Nat.zero_le _) ?_ ?_
  · simp only [EV, Nat.reduceEqDiff, Nat.reduceBEq, Nat.reduceLT, Nat.reduceLeDiff, Nat.reduceAdd, Nat.reduceSub, reduceIte]
    rfl
  · intro i hi
    simp only [EV, Nat.reduceEqDiff, Nat.reduceBEq, Nat.reduceLT, Nat.reduceLeDiff, Nat.reduceAdd, Nat.reduceSub, reduceIte]
    refine cK_cut (fun h => ?_) (fun h => ?_)
    · have h1 : i < l.length := by simpa using h
      have h2 : (i : Int) < (l.length : Int) := by omega
      have h3 : ((l.take i).map Fd.o ++ List.replicate (l.length - i) Fd.zr).length = l.length := by simp; omega
      simp only [FdE, nth_map h1, h2, EV, Nat.reduceEqDiff, Nat.reduceBEq, Nat.reduceLT, Nat.reduceLeDiff, Nat.reduceAdd, Nat.reduceSub, reduceIte]
      refine callK_i (d166 l[i] (hs l[i] (List.getElem_mem h1))) ?_
      simp only [FdE, h2, h3, EV, Nat.reduceEqDiff, Nat.reduceBEq, Nat.reduceLT, Nat.reduceLeDiff, Nat.reduceAdd, Nat.reduceSub, reduceIte]
      refine ⟨h1, i + 1, by omega, by omega, ?_⟩
      have ez : l[i].o ++ List.drop 3 Fd.zr = l[i].o := List.append_nil _
      rw [fill_nth h1, w64 _ (by omega), ez, fill_set h1]
      rfl
    · have h1 : i = l.length := by have : ¬ (i : Int) < l.length := by simpa using h
                                   omega
      subst h1
      simp only [EV, Nat.reduceEqDiff, Nat.reduceBEq, Nat.reduceLT, Nat.reduceLeDiff, Nat.reduceAdd, Nat.reduceSub, reduceIte]
      simp only [Nat.sub_self, List.replicate_zero, Fd.nfz, EV, Nat.reduceEqDiff, Nat.reduceBEq, Nat.reduceLT, Nat.reduceLeDiff, Nat.reduceAdd, Nat.reduceSub, reduceIte, retVC, cellV', evR, nfz, nfzs, nfzss, List.contains_nil, List.contains_cons, Bool.or_false, or_true]

/-- loop.example/g00837/laws.eqField -/
def m92 : MC :=
  (.seq
   (.reg [⟨(some 2), none, .a (.box 57 (.t 0))⟩,
     ⟨(some 3), none, .a (.box 57 (.t 1))⟩,
     ⟨(some 4), none, .a (.asg (.c (.bool false)))⟩])
   (.seq
    (.seq
     (.reg [⟨(some 5), none, .q (.fad 0 (.t 2))⟩,
       ⟨(some 6), none, .q (.load false 1 (.t 5))⟩,
       ⟨(some 7), none, .q (.fad 0 (.t 3))⟩,
       ⟨(some 8), none, .q (.load false 1 (.t 7))⟩,
       ⟨(some 9), none, .q (.bin false .neq (.t 6) (.t 8))⟩])
     (.cond (.t 9)
      (.seq
       (.reg [⟨(some 4), none, .a (.asg (.c (.bool false)))⟩])
       .ret)
      .skip))
    (.seq
     (.seq
      (.reg [⟨(some 10), none, .q (.fad 1 (.t 2))⟩,
        ⟨(some 11), none, .q (.load false 1 (.t 10))⟩,
        ⟨(some 12), none, .q (.fad 1 (.t 3))⟩,
        ⟨(some 13), none, .q (.load false 1 (.t 12))⟩,
        ⟨(some 14), none, .q (.bin false .neq (.t 11) (.t 13))⟩])
      (.cond (.t 14)
       (.seq
        (.reg [⟨(some 4), none, .a (.asg (.c (.bool false)))⟩])
        .ret)
       .skip))
     (.seq
      (.seq
       (.reg [⟨(some 15), none, .q (.fad 2 (.t 2))⟩,
         ⟨(some 16), none, .q (.load false 1 (.t 15))⟩,
         ⟨(some 17), none, .q (.fad 2 (.t 3))⟩,
         ⟨(some 18), none, .q (.load false 1 (.t 17))⟩,
         ⟨(some 19), none, .q (.bin false .neq (.t 16) (.t 18))⟩])
       (.cond (.t 19)
        (.seq
         (.reg [⟨(some 4), none, .a (.asg (.c (.bool false)))⟩])
         .ret)
        .skip))
      (.seq
       (.reg [⟨(some 4), none, .a (.asg (.c (.bool true)))⟩])
       .ret)))))


set_option maxRecDepth 100000 in
theorem d92 (s : Fd) (hs : s.sm) : Does Go.Proofs.Try.prog 92 [.agg s.z, .agg s.z] false (.v (.bool true)) [.dead, .dead] := by
  unfold Fd.sm at hs
  refine does_intro (mc := m92) (N := 20) (rs := [4]) (fx := []) 2 rfl (by decide +kernel) ?_
  simp only [m92, Fd.z, EV, Nat.reduceEqDiff, Nat.reduceBEq, Nat.reduceLT, Nat.reduceLeDiff, Nat.reduceAdd, Nat.reduceSub, reduceIte]
  simp only [EV, Nat.reduceEqDiff, Nat.reduceBEq, Nat.reduceLT, Nat.reduceLeDiff, Nat.reduceAdd, Nat.reduceSub, reduceIte, retVC, cellV', evR, nfz, nfzs, nfzss, List.contains_nil, List.contains_cons, Bool.or_false, or_true]

/-- loop.example/g00837/laws.eqFieldS -/
def m36 : MC :=
  (.seq
   (.reg [⟨(some 4), none, .a (.asg (.c (.bool false)))⟩])
   (.seq
    (.seq
     (.reg [⟨(some 6), none, .q (.mov (.t 0))⟩,
       ⟨(some 7), none, .q (.len false (.t 6))⟩,
       ⟨(some 8), none, .q (.mov (.t 1))⟩,
       ⟨(some 9), none, .q (.len false (.t 8))⟩,
       ⟨(some 10), none, .q (.bin false .neq (.t 7) (.t 9))⟩])
     (.cond (.t 10)
      (.seq
       (.reg [⟨(some 4), none, .a (.asg (.c (.bool false)))⟩])
       .ret)
      .skip))
    (.seq
     (.seq
      (.reg [⟨(some 5), none, .a (.asg (.c (.int .i64 0)))⟩])
      (.block 0
       (.loop [0, 1, 5]
        (.seq
         (.seq
          (.reg [⟨(some 11), none, .q (.mov (.t 5))⟩,
            ⟨(some 12), none, .q (.mov (.t 0))⟩,
            ⟨(some 13), none, .q (.len false (.t 12))⟩,
            ⟨(some 14), none, .q (.bin false .lss (.t 11) (.t 13))⟩])
          (.cond (.t 14)
           .skip
           (.exit 0)))
         (.seq
          (.block 1
           (.seq
            (.dreg [⟨(some 17), none, .q (.mov (.t 0))⟩,
              ⟨(some 18), none, .q (.mov (.t 5))⟩,
              ⟨(some 19), none, .q (.iad 3 (.t 17) (.t 18))⟩,
              ⟨(some 20), none, .q (.load true 3 (.t 19))⟩,
              ⟨(some 21), none, .q (.mov (.t 1))⟩,
              ⟨(some 22), none, .q (.mov (.t 5))⟩,
              ⟨(some 23), none, .q (.iad 3 (.t 21) (.t 22))⟩,
              ⟨(some 24), none, .q (.load true 3 (.t 23))⟩,
              ⟨(some 25), none, .a (.call (.fn 92) false [.lend (.t 20), .lend (.t 24)])⟩,
              ⟨(some 26), none, .q (.un .not (.t 25))⟩])
            (.cond (.t 26)
             (.seq
              (.reg [⟨(some 4), none, .a (.asg (.c (.bool false)))⟩])
              .ret)
             .skip)))
          (.reg [⟨(some 15), none, .q (.mov (.t 5))⟩,
            ⟨(some 16), none, .q (.bin false .add (.t 15) (.c (.int .i64 1)))⟩,
            ⟨(some 5), none, .a (.asg (.t 16))⟩]))))))
     (.seq
      (.reg [⟨(some 4), none, .a (.asg (.c (.bool true)))⟩])
      .ret))))


theorem d36 (l : List Fd) (hl : (l.length : Int) ≤ 1048576) (hs : ∀ s ∈ l, s.sm) : Does Go.Proofs.Try.prog 36 [.fsl 3 (l.map Fd.z), .fsl 3 (l.map Fd.z)] false (.v (.bool true)) [.dead, .dead] := by
  refine does_intro (mc := m36) (N := 27) (rs := [4]) (fx := []) 2 rfl (by decide +kernel) ?_
  simp only [m36, EV, Nat.reduceEqDiff, Nat.reduceBEq, Nat.reduceLT, Nat.reduceLeDiff, Nat.reduceAdd, Nat.reduceSub, reduceIte]
  refine awp_loop (fun i : Nat => i ≤ l.length) (fun i => stl [(0, .fsl 3 (l.map Fd.z)), (1, .fsl 3 (l.map Fd.z)), (5, .v (.int .i64 (i : Int)))]) (fun i => l.length - i) 0 (Nat.zero_le _) ?_ ?_
  · simp only [EV, Nat.reduceEqDiff, Nat.reduceBEq, Nat.reduceLT, Nat.reduceLeDiff, Nat.reduceAdd, Nat.reduceSub, reduceIte]
    rfl
  · intro i hi
    simp only [EV, Nat.reduceEqDiff, Nat.reduceBEq, Nat.reduceLT, Nat.reduceLeDiff, Nat.reduceAdd, Nat.reduceSub, reduceIte]
    refine cK_cut (fun h => ?_) (fun h => ?_)
    · have h1 : i < l.length := by simpa using h
      have h2 : (i : Int) < (l.length : Int) := by omega
      simp only [FdE, nth_map h1, h2, EV, Nat.reduceEqDiff, Nat.reduceBEq, Nat.reduceLT, Nat.reduceLeDiff, Nat.reduceAdd, Nat.reduceSub, reduceIte]
      refine callD_i (d92 l[i] (hs l[i] (List.getElem_mem h1))) rfl ?_
      simp only [EV, Nat.reduceEqDiff, Nat.reduceBEq, Nat.reduceLT, Nat.reduceLeDiff, Nat.reduceAdd, Nat.reduceSub, reduceIte]
      refine ⟨i + 1, by omega, by omega, ?_⟩
      rw [w64 _ (by omega)]
      rfl
    · have h1 : i = l.length := by have : ¬ (i : Int) < l.length := by simpa using h
                                   omega
      simp only [EV, Nat.reduceEqDiff, Nat.reduceBEq, Nat.reduceLT, Nat.reduceLeDiff, Nat.reduceAdd, Nat.reduceSub, reduceIte]
      simp only [EV, Nat.reduceEqDiff, Nat.reduceBEq, Nat.reduceLT, Nat.reduceLeDiff, Nat.reduceAdd, Nat.reduceSub, reduceIte, retVC, cellV', evR, nfz, nfzs, nfzss, List.contains_nil, List.contains_cons, Bool.or_false, or_true]

end Go.AM
