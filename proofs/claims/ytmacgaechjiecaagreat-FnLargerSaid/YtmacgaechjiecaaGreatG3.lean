/- Contracts of functions of the given program, for the law FnLarger: what they return and what they write, under the bounds that each theorem states. -/
import Derived.Test.YtmacgaechjiecaaGreatG2
import Derived.RangeFuncNested
import Derived.RangeFuncBound
import Derived.RangeFuncCalls
import Derived.RangeFuncLeaves
import Derived.RangeFuncBox
import Derived.Shelf.Abstract
import Derived.WalkKit
import Derived.OwnWalkIn
import Derived.TacticsInMore
import Derived.LoopNIn
import Derived.LoopIn
namespace Go.AM
set_option linter.unusedVariables false
set_option linter.unusedSimpArgs false
/-- A byte as a row of one cell. -/
def bv (n : Int) : List AV := [.v (.int .u8 n)]

structure Cur where
  code : List Int
  pos : Int
  seed : Int

def Cur.z (c : Cur) : List AV := [.fsl 1 (c.code.map bv), .v (.int .i64 c.pos), .v (.int .u64 c.seed)]

def Cur.ok (c : Cur) (n : Int) : Prop := (c.code.length : Int) ≤ 1048576 ∧ (∀ b ∈ c.code, 0 ≤ b ∧ b ≤ 255) ∧ 0 ≤ c.pos ∧ c.pos ≤ n

theorem Cur.ok.up {c : Cur} {n m : Int} (h : c.ok n) (hm : n ≤ m) : c.ok m := ⟨h.1, h.2.1, h.2.2.1, by have := h.2.2.2; omega⟩

def andK (kd : IntKind) (a b : Int) : Int := kd.wrap (BitVec.ofInt kd.bits a &&& BitVec.ofInt kd.bits b).toNat

def shrK (kd : IntKind) (a b : Int) : Int := a.fdiv (2 ^ (min b.toNat kd.bits))

theorem evB2 :
    (∀ (kd ky : IntKind) (a b : Int) (K : AV → Prop), (binV .shr (.v (.int kd a)) (.v (.int ky b)) K = (0 ≤ b ∧ K (.v (.int kd (shrK kd a b)))))) ∧
    (∀ (kd : IntKind) (a b : Int) (K : AV → Prop), (binV .and (.v (.int kd a)) (.v (.int kd b)) K = K (.v (.int kd (andK kd a b))))) := by
  refine ⟨?_, ?_⟩ <;> intros <;> simp [binV, binC, binR, andK, shrK]

theorem andK_255 (a : Int) : 0 ≤ andK .u64 a 255 ∧ andK .u64 a 255 ≤ 255 := by
  have h2 : (BitVec.ofInt IntKind.u64.bits 255).toNat = 255 := by decide
  have e : (BitVec.ofInt IntKind.u64.bits a &&& BitVec.ofInt IntKind.u64.bits 255).toNat ≤ 255 := by
    rw [BitVec.toNat_and, h2]
    exact Nat.and_le_right
  have w : ∀ n : Nat, n ≤ 255 → IntKind.u64.wrap (n : Int) = (n : Int) := by
    intro n h1
    simp [IntKind.wrap, IntKind.bits, IntKind.signed]
    omega
  unfold andK
  rw [w _ e]
  omega

theorem evN (n : Nat) (p : List (Nat × Nat)) (i k : Nat) (K : AV → Prop) : nilchkV (.ref n p i k) K = K (.ref n p i k) := rfl

/-- (*loop.example/g00837/spec.l1Cur).next -/
def m138 : MC :=
  (.seq
   (.reg [⟨(some 2), none, .a (.asg (.c (.int .i64 0)))⟩])
   (.seq
    (.reg [⟨(some 3), none, .a (.asg (.c (.int .i64 0)))⟩])
    (.join [0, 3]
     (.seq
      (.dreg [⟨(some 4), none, .q (.mov (.t 0))⟩,
        ⟨(some 5), none, .q (.nilchk (.t 4))⟩,
        ⟨(some 6), none, .q (.fad 1 (.t 5))⟩,
        ⟨(some 7), none, .q (.load false 1 (.t 6))⟩,
        ⟨(some 8), none, .q (.mov (.t 0))⟩,
        ⟨(some 9), none, .q (.nilchk (.t 8))⟩,
        ⟨(some 10), none, .q (.fad 0 (.t 9))⟩,
        ⟨(some 11), none, .q (.load false 1 (.t 10))⟩,
        ⟨(some 12), none, .q (.len false (.t 11))⟩,
        ⟨(some 13), none, .q (.bin false .lss (.t 7) (.t 12))⟩])
      (.cond (.t 13)
       (.dreg [⟨(some 14), none, .q (.mov (.t 0))⟩,
         ⟨(some 15), none, .q (.nilchk (.t 14))⟩,
         ⟨(some 16), none, .q (.fad 0 (.t 15))⟩,
         ⟨(some 17), none, .q (.load false 1 (.t 16))⟩,
         ⟨(some 18), none, .q (.mov (.t 0))⟩,
         ⟨(some 19), none, .q (.nilchk (.t 18))⟩,
         ⟨(some 20), none, .q (.fad 1 (.t 19))⟩,
         ⟨(some 21), none, .q (.load false 1 (.t 20))⟩,
         ⟨(some 22), none, .q (.iad 1 (.t 17) (.t 21))⟩,
         ⟨(some 23), none, .q (.load false 1 (.t 22))⟩,
         ⟨(some 24), none, .q (.conv .i64 (.t 23))⟩,
         ⟨(some 3), none, .q (.mov (.t 24))⟩])
       .skip))
     (.seq
      (.reg [⟨(some 25), none, .q (.mov (.t 0))⟩,
        ⟨(some 26), none, .q (.nilchk (.t 25))⟩,
        ⟨(some 27), none, .q (.fad 1 (.t 26))⟩,
        ⟨(some 28), none, .q (.load false 1 (.t 27))⟩,
        ⟨(some 29), none, .q (.bin false .add (.t 28) (.c (.int .i64 1)))⟩,
        ⟨(some 30), none, .q (.nilchk (.t 25))⟩,
        ⟨(some 31), none, .q (.fad 1 (.t 30))⟩,
        ⟨none, none, .a (.store 1 (.t 31) (.t 29))⟩])
      (.seq
       (.reg [⟨(some 32), none, .q (.mov (.t 0))⟩,
         ⟨(some 33), none, .q (.mov (.t 0))⟩,
         ⟨(some 34), none, .q (.nilchk (.t 33))⟩,
         ⟨(some 35), none, .q (.fad 2 (.t 34))⟩,
         ⟨(some 36), none, .q (.load false 1 (.t 35))⟩,
         ⟨(some 37), none, .q (.bin false .mul (.t 36) (.c (.int .u64 6364136223846793005)))⟩,
         ⟨(some 38), none, .q (.mov (.t 3))⟩,
         ⟨(some 39), none, .q (.conv .u64 (.t 38))⟩,
         ⟨(some 40), none, .q (.bin false .add (.t 37) (.t 39))⟩,
         ⟨(some 41), none, .q (.bin false .add (.t 40) (.c (.int .u64 1442695040888963407)))⟩,
         ⟨(some 42), none, .q (.nilchk (.t 32))⟩,
         ⟨(some 43), none, .q (.fad 2 (.t 42))⟩,
         ⟨none, none, .a (.store 1 (.t 43) (.t 41))⟩])
       (.seq
        (.seq
         (.dreg [⟨(some 44), none, .q (.mov (.t 0))⟩,
           ⟨(some 45), none, .q (.nilchk (.t 44))⟩,
           ⟨(some 46), none, .q (.fad 1 (.t 45))⟩,
           ⟨(some 47), none, .q (.load false 1 (.t 46))⟩,
           ⟨(some 48), none, .q (.mov (.t 0))⟩,
           ⟨(some 49), none, .q (.nilchk (.t 48))⟩,
           ⟨(some 50), none, .q (.fad 0 (.t 49))⟩,
           ⟨(some 51), none, .q (.load false 1 (.t 50))⟩,
           ⟨(some 52), none, .q (.len false (.t 51))⟩,
           ⟨(some 53), none, .q (.bin false .leq (.t 47) (.t 52))⟩])
         (.cond (.t 53)
          (.seq
           (.reg [⟨(some 54), none, .q (.mov (.t 3))⟩,
             ⟨(some 2), none, .a (.asg (.t 54))⟩])
           .ret)
          .skip))
        (.seq
         (.reg [⟨(some 55), none, .q (.mov (.t 0))⟩,
           ⟨(some 56), none, .q (.nilchk (.t 55))⟩,
           ⟨(some 57), none, .q (.fad 2 (.t 56))⟩,
           ⟨(some 58), none, .q (.load false 1 (.t 57))⟩,
           ⟨(some 59), none, .q (.bin false .shr (.t 58) (.c (.int .u64 40)))⟩,
           ⟨(some 60), none, .q (.bin false .and (.t 59) (.c (.int .u64 255)))⟩,
           ⟨(some 61), none, .q (.conv .i64 (.t 60))⟩,
           ⟨(some 2), none, .a (.asg (.t 61))⟩])
         .ret)))))))

set_option maxRecDepth 100000 in
theorem d138 (c : Cur) (n : Int) (hc : c.ok n) (hn : n ≤ 1152921504606846976) :
    DoesE Go.Proofs.Tryz.prog 138 [.box 87 c.z] false (fun r o => ∃ (v : Int) (c' : Cur), r = .v (.int .i64 v) ∧ o = [.box 87 c'.z] ∧ 0 ≤ v ∧ v ≤ 255 ∧ c'.ok (n + 1)) := by
  obtain ⟨h1, h2, h3, h4⟩ := hc
  refine doesE_intro (mc := m138) (N := 62) (rs := [2]) (fx := [0]) 1 rfl (by decide +kernel) ?_
  simp only [m138, EV, Nat.reduceEqDiff, Nat.reduceBEq, Nat.reduceLT, Nat.reduceLeDiff, Nat.reduceAdd, Nat.reduceSub, reduceIte]
  refine awp_join (fun v : Int => 0 ≤ v ∧ v ≤ 255) (fun v => stl [(0, .box 87 c.z), (3, .v (.int .i64 v))]) ?_ ?_
  · simp only [Cur.z, evN, EV, Nat.reduceEqDiff, Nat.reduceBEq, Nat.reduceLT, Nat.reduceLeDiff, Nat.reduceAdd, Nat.reduceSub, reduceIte]
    refine cK_cut (fun h => ?_) (fun h => ?_)
    · have g1 : c.pos.toNat < c.code.length := by have : c.pos < (c.code.length : Int) := by simpa using h
                                                  omega
      have g2 : c.pos < (c.code.length : Int) := by omega
      have gb := h2 _ (List.getElem_mem g1)
      have w := w64 c.code[c.pos.toNat] (by omega)
      simp only [h3, g2, nth_map g1, bv, w, evN, EV, Nat.reduceEqDiff, Nat.reduceBEq, Nat.reduceLT, Nat.reduceLeDiff, Nat.reduceAdd, Nat.reduceSub, reduceIte]
      exact ⟨_, gb, rfl⟩
    · simp only [evN, EV, Nat.reduceEqDiff, Nat.reduceBEq, Nat.reduceLT, Nat.reduceLeDiff, Nat.reduceAdd, Nat.reduceSub, reduceIte]
      exact ⟨0, by omega, rfl⟩
  · rintro v ⟨v0, v1⟩
    have w1 := w64 (c.pos + 1) (by omega)
    simp only [Cur.z, evN, evB2, w1, EV, Nat.reduceEqDiff, Nat.reduceBEq, Nat.reduceLT, Nat.reduceLeDiff, Nat.reduceAdd, Nat.reduceSub, reduceIte]
    refine cK_cut (fun h => ?_) (fun h => ?_)
    · simp only [evN, evB2, EV, Nat.reduceEqDiff, Nat.reduceBEq, Nat.reduceLT, Nat.reduceLeDiff, Nat.reduceAdd, Nat.reduceSub, reduceIte]
      simp only [EV, Nat.reduceEqDiff, Nat.reduceBEq, Nat.reduceLT, Nat.reduceLeDiff, Nat.reduceAdd, Nat.reduceSub, reduceIte, evRE, retVC, cellV', evR, nfz, nfzs, nfzss, List.contains_nil, List.contains_cons, Bool.or_false, or_true]
      exact ⟨v, ⟨c.code, c.pos + 1, _⟩, rfl, rfl, v0, v1, h1, h2, by simp only; omega, by simp only; omega⟩
    · simp only [evN, evB2, EV, Nat.reduceEqDiff, Nat.reduceBEq, Nat.reduceLT, Nat.reduceLeDiff, Nat.reduceAdd, Nat.reduceSub, reduceIte]
      refine ⟨by omega, ?_⟩
      have ab := andK_255 (shrK .u64 (IntKind.u64.wrap (IntKind.u64.wrap (IntKind.u64.wrap (c.seed * 6364136223846793005) + IntKind.u64.wrap v) + 1442695040888963407)) 40)
      rw [w64 _ (by omega)]
      simp only [EV, Nat.reduceEqDiff, Nat.reduceBEq, Nat.reduceLT, Nat.reduceLeDiff, Nat.reduceAdd, Nat.reduceSub, reduceIte, evRE, retVC, cellV', evR, nfz, nfzs, nfzss, List.contains_nil, List.contains_cons, Bool.or_false, or_true]
      exact ⟨_, ⟨c.code, c.pos + 1, _⟩, rfl, rfl, ab.1, ab.2, h1, h2, by simp only; omega, by simp only; omega⟩

/-- A call that draws a number: told by what it says of the number and of the rest. -/
def Draws (f : Nat) (args : List AV) (c : Cur) (n m : Int) (Q : AV → Prop) : Prop :=
  DoesE Go.Proofs.Tryz.prog f (.box 87 c.z :: args) false fun r o => ∃ c' : Cur, o = .box 87 c'.z :: args.map (fun _ => AV.dead) ∧ c'.ok (n + m) ∧ Q r

theorem Draws.call {f : Nat} {args : List AV} {c : Cur} {n m : Int} {Q : AV → Prop} (h : Draws f args c n m Q) {O : AV → List AV} (hO : ∀ out, O out = out :: args.map fun _ => AV.dead) {S : AV → AV → Prop}
    (k : ∀ (r : AV) (c' : Cur), c'.ok (n + m) → Q r → S (.box 87 c'.z) r) : callK2 Go.Proofs.Tryz.prog f (.box 87 c.z :: args) false O (.box 87 c.z) S := by
  refine callE2_i (T := fun r out => ∃ c' : Cur, out = .box 87 c'.z ∧ c'.ok (n + m) ∧ Q r) h ?_ ?_
  · rintro r o ⟨c', rfl, h1, h2⟩
    exact ⟨.box 87 c'.z, ⟨c', rfl, h1, h2⟩, (hO _).symm⟩
  · rintro r out ⟨c', rfl, h1, h2⟩
    exact ⟨rfl, rfl, k r c' h1 h2⟩

theorem p138 (c : Cur) (n : Int) (hc : c.ok n) (hn : n ≤ 1152921504606846976) : Draws 138 [] c n 1 fun r => ∃ v : Int, r = .v (.int .i64 v) ∧ 0 ≤ v ∧ v ≤ 255 := by
  have h := d138 c n hc hn
  refine ⟨h.1, fun w Fz xs os h1 h2 h3 h4 => (h.2 w Fz xs os h1 h2 h3 h4).mono ?_⟩
  rintro e w' ⟨res, outs, ⟨v, c', rfl, rfl, g1, g2, g3⟩, hh⟩
  exact ⟨_, _, ⟨c', rfl, g3, v, rfl, g1, g2⟩, hh⟩

/-- (*loop.example/g00837/spec.l1Cur).pick -/
def m70 : MC :=
  (.seq
   (.reg [⟨(some 4), none, .a (.asg (.c (.int .i64 0)))⟩])
   (.seq
    (.seq
     (.reg [⟨(some 6), none, .q (.mov (.t 1))⟩,
       ⟨(some 7), none, .q (.bin false .leq (.t 6) (.c (.int .i64 1)))⟩])
     (.cond (.t 7)
      (.seq
       (.reg [⟨(some 4), none, .a (.asg (.c (.int .i64 0)))⟩])
       .ret)
      .skip))
    (.seq
     (.reg [⟨(some 8), none, .q (.mov (.t 0))⟩,
       ⟨(some 9), none, .a (.call (.fn 138) false [.io (.t 8)])⟩,
       ⟨(some 5), none, .a (.asg (.t 9))⟩])
     (.join [0, 1, 5]
      (.seq
       (.reg [⟨(some 10), none, .q (.mov (.t 1))⟩,
         ⟨(some 11), none, .q (.bin false .gtr (.t 10) (.c (.int .i64 200)))⟩])
       (.cond (.t 11)
        (.reg [⟨(some 12), none, .q (.mov (.t 5))⟩,
          ⟨(some 13), none, .q (.bin false .mul (.t 12) (.c (.int .i64 256)))⟩,
          ⟨(some 14), none, .q (.mov (.t 0))⟩,
          ⟨(some 15), none, .a (.call (.fn 138) false [.io (.t 14)])⟩,
          ⟨(some 16), none, .q (.bin false .add (.t 13) (.t 15))⟩,
          ⟨(some 5), none, .a (.asg (.t 16))⟩])
        .skip))
      (.seq
       (.reg [⟨(some 17), none, .q (.mov (.t 5))⟩,
         ⟨(some 18), none, .q (.mov (.t 1))⟩,
         ⟨(some 19), none, .q (.bin false .rem (.t 17) (.t 18))⟩,
         ⟨(some 4), none, .a (.asg (.t 19))⟩])
       .ret)))))

set_option maxRecDepth 100000 in
theorem p70 (c : Cur) (n k : Int) (hc : c.ok n) (hn : n ≤ 1152921504606846) (hk : k ≤ 1048577) : Draws 70 [.v (.int .i64 k)] c n 2 fun r => ∃ v : Int, r = .v (.int .i64 v) ∧ 0 ≤ v ∧ (1 < k → v < k) ∧ (k ≤ 1 → v = 0) := by
  refine doesE_intro (mc := m70) (N := 20) (rs := [4]) (fx := [0]) 2 rfl (by decide +kernel) ?_
  simp only [m70, EV, Nat.reduceEqDiff, Nat.reduceBEq, Nat.reduceLT, Nat.reduceLeDiff, Nat.reduceAdd, Nat.reduceSub, reduceIte]
  refine cK_cut (fun h => ?_) (fun h => ?_)
  · have hk1 : k ≤ 1 := by simpa using h
    simp only [EV, Nat.reduceEqDiff, Nat.reduceBEq, Nat.reduceLT, Nat.reduceLeDiff, Nat.reduceAdd, Nat.reduceSub, reduceIte]
    simp only [EV, Nat.reduceEqDiff, Nat.reduceBEq, Nat.reduceLT, Nat.reduceLeDiff, Nat.reduceAdd, Nat.reduceSub, reduceIte, evRE, retVC, cellV', evR, nfz, nfzs, nfzss, List.contains_nil, List.contains_cons, Bool.or_false, or_true]
    exact ⟨c, rfl, hc.up (by omega), 0, rfl, Int.le_refl _, fun h => absurd h (by omega), fun _ => rfl⟩
  have hk1 : 1 < k := by have : ¬ k ≤ 1 := by simpa using h
                         omega
  clear h
  simp only [EV, Nat.reduceEqDiff, Nat.reduceBEq, Nat.reduceLT, Nat.reduceLeDiff, Nat.reduceAdd, Nat.reduceSub, reduceIte]
  refine (p138 c n hc (by omega)).call (fun _ => rfl) ?_
  rintro _ c1 hc1 ⟨v, rfl, v0, v1⟩
  simp only [EV, Nat.reduceEqDiff, Nat.reduceBEq, Nat.reduceLT, Nat.reduceLeDiff, Nat.reduceAdd, Nat.reduceSub, reduceIte]
  refine awp_join (fun p : Int × Cur => 0 ≤ p.1 ∧ p.1 ≤ 65535 ∧ p.2.ok (n + 2)) (fun p => stl [(0, .box 87 p.2.z), (1, .v (.int .i64 k)), (5, .v (.int .i64 p.1))]) ?_ ?_
  · simp only [EV, Nat.reduceEqDiff, Nat.reduceBEq, Nat.reduceLT, Nat.reduceLeDiff, Nat.reduceAdd, Nat.reduceSub, reduceIte]
    refine cK_cut (fun h => ?_) (fun h => ?_)
    · simp only [EV, Nat.reduceEqDiff, Nat.reduceBEq, Nat.reduceLT, Nat.reduceLeDiff, Nat.reduceAdd, Nat.reduceSub, reduceIte]
      refine (p138 c1 (n + 1) hc1 (by omega)).call (fun _ => rfl) ?_
      rintro _ c2 hc2 ⟨u, rfl, u0, u1⟩
      simp only [EV, Nat.reduceEqDiff, Nat.reduceBEq, Nat.reduceLT, Nat.reduceLeDiff, Nat.reduceAdd, Nat.reduceSub, reduceIte]
      rw [w64 (v * 256) (by omega), w64 _ (by omega)]
      exact ⟨(v * 256 + u, c2), ⟨by simp only; omega, by simp only; omega, hc2.up (by omega)⟩, rfl⟩
    · simp only [EV, Nat.reduceEqDiff, Nat.reduceBEq, Nat.reduceLT, Nat.reduceLeDiff, Nat.reduceAdd, Nat.reduceSub, reduceIte]
      exact ⟨(v, c1), ⟨v0, by simp only; omega, hc1.up (by omega)⟩, rfl⟩
  · rintro ⟨v, c'⟩ ⟨g0, g1, g2⟩
    simp only at g0 g1 g2
    have em : v.tmod k = v % k := Int.tmod_eq_emod_of_nonneg g0
    have e0 := Int.emod_nonneg v (show k ≠ 0 by omega)
    have e1 := Int.emod_lt_of_pos v (show 0 < k by omega)
    simp only [EV, Nat.reduceEqDiff, Nat.reduceBEq, Nat.reduceLT, Nat.reduceLeDiff, Nat.reduceAdd, Nat.reduceSub, reduceIte]
    refine ⟨by omega, ?_⟩
    simp only [EV, Nat.reduceEqDiff, Nat.reduceBEq, Nat.reduceLT, Nat.reduceLeDiff, Nat.reduceAdd, Nat.reduceSub, reduceIte, evRE, retVC, cellV', evR, nfz, nfzs, nfzss, List.contains_nil, List.contains_cons, Bool.or_false, or_true]
    exact ⟨c', rfl, g2, _, rfl, by omega, fun _ => by omega, fun h => by omega⟩

/-- (*loop.example/g00837/spec.l1Cur).one -/
def m76 : MC :=
  (.seq
   (.reg [⟨(some 4), none, .a (.asg (.c (.bool false)))⟩])
   (.seq
    (.reg [⟨(some 5), none, .q (.mov (.t 0))⟩,
      ⟨(some 6), none, .q (.mov (.t 1))⟩,
      ⟨(some 7), none, .a (.call (.fn 70) false [.io (.t 5), .lend (.t 6)])⟩,
      ⟨(some 8), none, .q (.bin false .eql (.t 7) (.c (.int .i64 0)))⟩,
      ⟨(some 4), none, .a (.asg (.t 8))⟩])
    .ret))

theorem p76 (c : Cur) (n k : Int) (hc : c.ok n) (hn : n ≤ 1152921504606846) (hk : k ≤ 1048577) : Draws 76 [.v (.int .i64 k)] c n 2 fun r => ∃ b : Bool, r = .v (.bool b) := by
  refine doesE_intro (mc := m76) (N := 9) (rs := [4]) (fx := [0]) 2 rfl (by decide +kernel) ?_
  simp only [m76, EV, Nat.reduceEqDiff, Nat.reduceBEq, Nat.reduceLT, Nat.reduceLeDiff, Nat.reduceAdd, Nat.reduceSub, reduceIte]
  refine (p70 c n k hc hn hk).call (fun _ => rfl) ?_
  rintro _ c' hc' ⟨v, rfl, _⟩
  simp only [EV, Nat.reduceEqDiff, Nat.reduceBEq, Nat.reduceLT, Nat.reduceLeDiff, Nat.reduceAdd, Nat.reduceSub, reduceIte]
  simp only [EV, Nat.reduceEqDiff, Nat.reduceBEq, Nat.reduceLT, Nat.reduceLeDiff, Nat.reduceAdd, Nat.reduceSub, reduceIte, evRE, retVC, cellV', evR, nfz, nfzs, nfzss, List.contains_nil, List.contains_cons, Bool.or_false, or_true]
  exact ⟨c', rfl, hc', _, rfl⟩

/-- (*loop.example/g00837/spec.l1Cur).of -/
def m124 : MC :=
  (.seq
   (.reg [⟨(some 4), none, .a (.asg (.c (.string ({ data := #[] }))))⟩])
   (.seq
    (.reg [⟨(some 5), none, .q (.mov (.t 1))⟩,
      ⟨(some 6), none, .q (.mov (.t 0))⟩,
      ⟨(some 7), none, .q (.mov (.t 1))⟩,
      ⟨(some 8), none, .q (.len false (.t 7))⟩,
      ⟨(some 9), none, .a (.call (.fn 70) false [.io (.t 6), .lend (.t 8)])⟩,
      ⟨(some 10), none, .q (.iad 1 (.t 5) (.t 9))⟩,
      ⟨(some 11), none, .q (.load false 1 (.t 10))⟩,
      ⟨(some 4), none, .a (.asg (.t 11))⟩])
    .ret))

theorem p124 (c : Cur) (n : Int) (l : List ByteArray) (hc : c.ok n) (hn : n ≤ 1152921504606846) (h0 : 0 < l.length) (hk : (l.length : Int) ≤ 1048577) :
    Draws 124 [.fsl 1 (l.map fun s => [.v (.string s)])] c n 2 fun r => ∃ s ∈ l, r = .v (.string s) := by
  refine doesE_intro (mc := m124) (N := 12) (rs := [4]) (fx := [0]) 2 rfl (by decide +kernel) ?_
  simp only [m124, EV, Nat.reduceEqDiff, Nat.reduceBEq, Nat.reduceLT, Nat.reduceLeDiff, Nat.reduceAdd, Nat.reduceSub, reduceIte]
  refine (p70 c n l.length hc hn hk).call (fun _ => rfl) ?_
  rintro _ c' hc' ⟨v, rfl, v0, v1, v2⟩
  have hv : v < (l.length : Int) := by
    by_cases h : 1 < (l.length : Int)
    · exact v1 h
    · have := v2 (by omega); omega
  have hn' : v.toNat < l.length := by omega
  simp only [v0, hv, nth_map hn', EV, Nat.reduceEqDiff, Nat.reduceBEq, Nat.reduceLT, Nat.reduceLeDiff, Nat.reduceAdd, Nat.reduceSub, reduceIte]
  simp only [EV, Nat.reduceEqDiff, Nat.reduceBEq, Nat.reduceLT, Nat.reduceLeDiff, Nat.reduceAdd, Nat.reduceSub, reduceIte, evRE, retVC, cellV', evR, nfz, nfzs, nfzss, List.contains_nil, List.contains_cons, Bool.or_false, or_true]
  exact ⟨c', rfl, hc', _, List.getElem_mem hn', rfl⟩

/-- loop.example/g00837/spec.l1Most -/
def m75 : MC :=
  (.seq
   (.reg [⟨(some 4), none, .a (.asg (.c (.int .i64 0)))⟩])
   (.seq
    (.seq
     (.reg [⟨(some 5), none, .q (.mov (.t 0))⟩,
       ⟨(some 6), none, .q (.mov (.t 1))⟩,
       ⟨(some 7), none, .q (.bin false .gtr (.t 5) (.t 6))⟩])
     (.cond (.t 7)
      (.seq
       (.reg [⟨(some 8), none, .q (.mov (.t 0))⟩,
         ⟨(some 4), none, .a (.asg (.t 8))⟩])
       .ret)
      .skip))
    (.seq
     (.reg [⟨(some 9), none, .q (.mov (.t 1))⟩,
       ⟨(some 4), none, .a (.asg (.t 9))⟩])
     .ret)))

theorem d75 (a b : Int) : Does Go.Proofs.Tryz.prog 75 [.v (.int .i64 a), .v (.int .i64 b)] false (.v (.int .i64 (max a b))) [.dead, .dead] := by
  refine does_intro (mc := m75) (N := 10) (rs := [4]) (fx := []) 2 rfl (by decide +kernel) ?_
  simp only [m75, EV, Nat.reduceEqDiff, Nat.reduceBEq, Nat.reduceLT, Nat.reduceLeDiff, Nat.reduceAdd, Nat.reduceSub, reduceIte]
  refine cK_cut (fun h => ?_) (fun h => ?_)
  · have e : max a b = a := by have : b < a := by simpa using h
                               omega
    simp only [EV, Nat.reduceEqDiff, Nat.reduceBEq, Nat.reduceLT, Nat.reduceLeDiff, Nat.reduceAdd, Nat.reduceSub, reduceIte]
    simp only [e, EV, Nat.reduceEqDiff, Nat.reduceBEq, Nat.reduceLT, Nat.reduceLeDiff, Nat.reduceAdd, Nat.reduceSub, reduceIte, evRE, retVC, cellV', evR, nfz, nfzs, nfzss, List.contains_nil, List.contains_cons, Bool.or_false, or_true]
  · have e : max a b = b := by have : ¬ b < a := by simpa using h
                               omega
    simp only [EV, Nat.reduceEqDiff, Nat.reduceBEq, Nat.reduceLT, Nat.reduceLeDiff, Nat.reduceAdd, Nat.reduceSub, reduceIte]
    simp only [e, EV, Nat.reduceEqDiff, Nat.reduceBEq, Nat.reduceLT, Nat.reduceLeDiff, Nat.reduceAdd, Nat.reduceSub, reduceIte, evRE, retVC, cellV', evR, nfz, nfzs, nfzss, List.contains_nil, List.contains_cons, Bool.or_false, or_true]

end Go.AM
namespace Go.AM
set_option linter.unusedVariables false
set_option linter.unusedSimpArgs false
/-- loop.example/g00837/spec.l1Num -/
def m183 : MC :=
  (.seq
   (.reg [⟨(some 2), none, .a (.asg (.c (.string ({ data := #[] }))))⟩])
   (.seq
    (.seq
     (.reg [⟨(some 3), none, .q (.mov (.t 0))⟩,
       ⟨(some 4), none, .q (.bin false .lss (.t 3) (.c (.int .i64 10)))⟩])
     (.cond (.t 4)
      (.seq
       (.reg [⟨(some 5), none, .q (.mov (.t 0))⟩,
         ⟨(some 6), none, .q (.bin false .add (.c (.int .i64 48)) (.t 5))⟩,
         ⟨(some 7), none, .q (.conv .u8 (.t 6))⟩,
         ⟨(some 8), none, .a (.bsl 5 1 [.t 7])⟩,
         ⟨(some 9), none, .q (.b2s (.t 8))⟩,
         ⟨(some 2), none, .a (.asg (.t 9))⟩])
       .ret)
      .skip))
    (.seq
     (.mixt [] [0, 2] [] [] []
       []
       (.step 0 ⟨(some 10), none, .q (.mov (.t 0))⟩
       (.step 1 ⟨(some 11), none, .q (.bin false .quo (.t 10) (.c (.int .i64 10)))⟩
        (.step 3 ⟨(some 13), none, .q (.mov (.t 0))⟩
         (.step 4 ⟨(some 14), none, .q (.bin false .rem (.t 13) (.c (.int .i64 10)))⟩
          (.step 5 ⟨(some 15), none, .q (.bin false .add (.c (.int .i64 48)) (.t 14))⟩
           (.alt (.step 2 ⟨(some 12), none, .a (.call (.fn 183) false [.lend (.t 11)])⟩
            (.step 6 ⟨(some 16), none, .q (.conv .u8 (.t 15))⟩
             (.step 7 ⟨(some 17), none, .a (.bsl 5 1 [.t 16])⟩
              (.step 8 ⟨(some 18), none, .q (.b2s (.t 17))⟩
               (.step 9 ⟨(some 19), none, .q (.bin false .add (.t 12) (.t 18))⟩
                (.step 10 ⟨(some 2), none, .a (.asg (.t 19))⟩
                 .nil))))))
            (.step 6 ⟨(some 16), none, .q (.conv .u8 (.t 15))⟩
            (.alt (.step 2 ⟨(some 12), none, .a (.call (.fn 183) false [.lend (.t 11)])⟩
             (.step 7 ⟨(some 17), none, .a (.bsl 5 1 [.t 16])⟩
              (.step 8 ⟨(some 18), none, .q (.b2s (.t 17))⟩
               (.step 9 ⟨(some 19), none, .q (.bin false .add (.t 12) (.t 18))⟩
                (.step 10 ⟨(some 2), none, .a (.asg (.t 19))⟩
                 .nil)))))
             (.step 7 ⟨(some 17), none, .a (.bsl 5 1 [.t 16])⟩
             (.alt (.step 2 ⟨(some 12), none, .a (.call (.fn 183) false [.lend (.t 11)])⟩
              (.step 8 ⟨(some 18), none, .q (.b2s (.t 17))⟩
               (.step 9 ⟨(some 19), none, .q (.bin false .add (.t 12) (.t 18))⟩
                (.step 10 ⟨(some 2), none, .a (.asg (.t 19))⟩
                 .nil))))
              (.step 8 ⟨(some 18), none, .q (.b2s (.t 17))⟩
              (.step 2 ⟨(some 12), none, .a (.call (.fn 183) false [.lend (.t 11)])⟩
               (.step 9 ⟨(some 19), none, .q (.bin false .add (.t 12) (.t 18))⟩
                (.step 10 ⟨(some 2), none, .a (.asg (.t 19))⟩
                 .nil)))))))))))))))
     .ret)))

set_option maxHeartbeats 1000000 in
set_option maxRecDepth 100000 in
theorem d183 : ∀ (f : Nat) (n : Int), 0 ≤ n → n < f → n ≤ 1000000 → DoesE Go.Proofs.Tryz.prog 183 [.v (.int .i64 n)] false fun r o => ∃ s : ByteArray, r = .v (.string s) ∧ (s.size : Int) ≤ n + 1 ∧ o = [.dead]
  | 0, n, h0, h1, _ => by omega
  | f + 1, n, h0, h1, h2 => by
    refine doesE_intro (mc := m183) (N := 20) (rs := [2]) (fx := []) 1 rfl (by decide +kernel) ?_
    simp only [m183, EV, Nat.reduceEqDiff, Nat.reduceBEq, Nat.reduceLT, Nat.reduceLeDiff, Nat.reduceAdd, Nat.reduceSub, reduceIte]
    refine cK_cut (fun h => ?_) (fun h => ?_)
    · have h3 : n < 10 := by simpa using h
      simp only [EV, Nat.reduceEqDiff, Nat.reduceBEq, Nat.reduceLT, Nat.reduceLeDiff, Nat.reduceAdd, Nat.reduceSub, reduceIte]
      simp only [EV, Nat.reduceEqDiff, Nat.reduceBEq, Nat.reduceLT, Nat.reduceLeDiff, Nat.reduceAdd, Nat.reduceSub, reduceIte, evRE, retVC, cellV', evR, nfz, nfzs, nfzss, List.contains_nil, List.contains_cons, Bool.or_false, or_true]
      have h9 : (strA [IntKind.u8.wrap (IntKind.i64.wrap (48 + n))]).size = 1 := rfl
      exact ⟨_, rfl, by rw [h9]; omega⟩
    · have h3 : ¬ n < 10 := by simpa using h
      have ed : n.tdiv 10 = n / 10 := Int.tdiv_eq_ediv_of_nonneg (by omega)
      have ih := d183 f (n / 10) (by omega) (by omega) (by omega)
      have h9 : ∀ x : Int, (strA [x]).size = 1 := fun _ => rfl
      have fin : ∀ {K : AV → Prop}, (∀ s : ByteArray, (s.size : Int) ≤ n / 10 + 1 → K (.v (.string s))) → callK Go.Proofs.Tryz.prog 183 [.v (.int .i64 (n / 10))] false [.dead] K := fun hk =>
        callE_i (S := fun r => ∃ s : ByteArray, r = .v (.string s) ∧ (s.size : Int) ≤ n / 10 + 1) ih (by rintro r o ⟨s, g1, g2, g3⟩; exact ⟨⟨s, g1, g2⟩, g3⟩) (by rintro r ⟨s, rfl, g2⟩; exact hk s g2)
      simp only [ed, w64 (n / 10) (by omega), EV, Nat.reduceEqDiff, Nat.reduceBEq, Nat.reduceLT, Nat.reduceLeDiff, Nat.reduceAdd, Nat.reduceSub, reduceIte]
      refine ⟨by omega, by omega, ?_, ?_, ?_, ?_⟩
      all_goals refine fin fun s hs => ?_
      all_goals simp only [EV, Nat.reduceEqDiff, Nat.reduceBEq, Nat.reduceLT, Nat.reduceLeDiff, Nat.reduceAdd, Nat.reduceSub, reduceIte]
      all_goals refine ⟨by rw [h9]; omega, ?_⟩
      all_goals simp only [EV, Nat.reduceEqDiff, Nat.reduceBEq, Nat.reduceLT, Nat.reduceLeDiff, Nat.reduceAdd, Nat.reduceSub, reduceIte, evRE, retVC, cellV', evR, nfz, nfzs, nfzss, List.contains_nil, List.contains_cons, Bool.or_false, or_true]
      all_goals exact ⟨_, rfl, by rw [ByteArray.size_append, h9]; omega⟩

theorem base_len3 : baseTs.length = 3 := rfl

theorem n183 {n : Int} (h0 : 0 ≤ n) (h1 : n ≤ 1000000) {K : AV → Prop} (k : ∀ s : ByteArray, (s.size : Int) ≤ n + 1 → K (.v (.string s))) : callK Go.Proofs.Tryz.prog 183 [.v (.int .i64 n)] false [.dead] K :=
  callE_i (S := fun r => ∃ s : ByteArray, r = .v (.string s) ∧ (s.size : Int) ≤ n + 1) (d183 (n.toNat + 1) n h0 (by omega) h1) (by rintro r o ⟨s, g1, g2, g3⟩; exact ⟨⟨s, g1, g2⟩, g3⟩) (by rintro r ⟨s, rfl, g2⟩; exact k s g2)

end Go.AM
namespace Go.AM
set_option linter.unusedVariables false
set_option linter.unusedSimpArgs false
/-- What is drawn: small, and a pointer leads to a type. -/
structure TyD (n : Int) (t : Ty) : Prop where
  few : t.fields.length ≤ 3
  names : ∀ f ∈ t.fields, 0 < (f.name.size : Int) ∧ (f.name.size : Int) ≤ 40
  owner : (t.owner.size : Int) ≤ 40
  name : (t.name.size : Int) ≤ 40
  ptr : t.kind = 6 → 0 ≤ t.base ∧ t.base < n

theorem TyD.sm {n : Int} {t : Ty} (h : TyD n t) : t.sm := by
  have := h.few; have h2 := h.owner; have h3 := h.name
  exact ⟨trivial, trivial, trivial, ⟨by omega, fun f hf => ⟨by have := (h.names f hf).2; omega, trivial, trivial⟩⟩, by omega, by omega⟩

theorem base_tyD (n : Int) : ∀ t ∈ baseTs, TyD n t := by
  intro t ht
  simp only [baseTs, List.mem_cons, List.not_mem_nil, or_false] at ht
  rcases ht with rfl | rfl | rfl <;> exact ⟨by simp, by simp, by decide, by decide, fun h => absurd h (by decide)⟩

theorem TyD.put {n : Int} {t : Ty} (h : TyD n t) {o m : ByteArray} (h1 : (o.size : Int) ≤ 40) (h2 : (m.size : Int) ≤ 40) : TyD n { t with owner := o, name := m } := ⟨h.few, h.names, h1, h2, h.ptr⟩

/-- (*loop.example/g00837/spec.l1Cur).types -/
def m123 : MC :=
  (.seq
   (.reg [⟨(some 2), none, .a (.asg (.nils 40 6))⟩])
   (.seq
    (.reg [⟨(some 10), none, .a (.call (.fn 182) false [])⟩,
      ⟨(some 3), none, .a (.asg (.t 10))⟩])
    (.seq
     (.reg [⟨(some 11), none, .q (.mov (.t 0))⟩,
       ⟨(some 12), none, .a (.call (.fn 70) false [.io (.t 11), .lend (.c (.int .i64 7))])⟩,
       ⟨(some 13), none, .q (.bin false .add (.c (.int .i64 3)) (.t 12))⟩,
       ⟨(some 4), none, .a (.asg (.t 13))⟩])
     (.seq
      (.block 0
       (.loop [0, 3, 4, 10, 90]
        (.seq
         (.seq
          (.reg [⟨(some 14), none, .q (.mov (.t 3))⟩,
            ⟨(some 15), none, .q (.len false (.t 14))⟩,
            ⟨(some 16), none, .q (.mov (.t 4))⟩,
            ⟨(some 17), none, .q (.bin false .lss (.t 15) (.t 16))⟩])
          (.cond (.t 17)
           .skip
           (.exit 0)))
         (.block 1
          (.seq
           (.reg [⟨(some 18), none, .q (.mov (.t 0))⟩,
             ⟨(some 19), none, .a (.call (.fn 70) false [.io (.t 18), .lend (.c (.int .i64 3))])⟩,
             ⟨(some 20), none, .q (.bin false .add (.c (.int .i64 4)) (.t 19))⟩,
             ⟨(some 21), none, .a (.build [0, 2] [0, 2] [1, 1] [.v (.int .i64 0), .v (.int .i64 0), .v (.int .i64 0), .s 97 3, .v (.string ({ data := #[] })), .v (.string ({ data := #[] }))] [.t 20, .c (.int .i64 (-1))])⟩,
             ⟨(some 5), none, .a (.alloc 40 [.v (.int .i64 0), .v (.int .i64 0), .v (.int .i64 0), .s 97 3, .v (.string ({ data := #[] })), .v (.string ({ data := #[] }))])⟩,
             ⟨none, none, .a (.store 6 (.t 5) (.t 21))⟩])
           (.join [0, 3, 4, 5, 10, 90]
            (.seq
             (.reg [⟨(some 22), none, .q (.mov (.t 0))⟩,
               ⟨(some 23), none, .a (.call (.fn 76) false [.io (.t 22), .lend (.c (.int .i64 2))])⟩])
             (.cond (.t 23)
              (.seq
               (.reg [⟨(some 24), none, .q (.mov (.t 0))⟩,
                 ⟨(some 25), none, .a (.bsl 9 1 [.c (.string ({ data := #[65] })), .c (.string ({ data := #[66] }))])⟩,
                 ⟨(some 26), none, .a (.call (.fn 124) false [.io (.t 24), .give (.t 25)])⟩,
                 ⟨(some 27), none, .q (.fad 4 (.t 5))⟩,
                 ⟨none, none, .a (.store 1 (.t 27) (.t 26))⟩])
               (.reg [⟨(some 28), none, .q (.mov (.t 3))⟩,
                 ⟨(some 29), none, .q (.len false (.t 28))⟩,
                 ⟨(some 30), none, .a (.call (.fn 183) false [.lend (.t 29)])⟩,
                 ⟨(some 31), none, .q (.bin false .add (.c (.string ({ data := #[84] }))) (.t 30))⟩,
                 ⟨(some 32), none, .q (.fad 5 (.t 5))⟩,
                 ⟨none, none, .a (.store 1 (.t 32) (.t 31))⟩]))
              .skip))
            (.join [0, 3, 4, 5, 10, 90]
             (.seq
              (.reg [⟨(some 33), none, .q (.fad 0 (.t 5))⟩,
                ⟨(some 34), none, .q (.load false 1 (.t 33))⟩])
              (.block 2
               (.seq
                (.reg [⟨(some 42), none, .q (.bin false .eql (.t 34) (.c (.int .i64 4)))⟩,
                  ⟨(some 41), none, .a (.asg (.t 42))⟩])
                (.cond (.t 41)
                 (.seq
                  (.reg [⟨(some 43), none, .q (.mov (.t 0))⟩,
                    ⟨(some 44), none, .a (.call (.fn 70) false [.io (.t 43), .lend (.c (.int .i64 5))])⟩,
                    ⟨(some 45), none, .q (.bin false .add (.c (.int .i64 1)) (.t 44))⟩,
                    ⟨(some 46), none, .q (.fad 1 (.t 5))⟩,
                    ⟨none, none, .a (.store 1 (.t 46) (.t 45))⟩])
                  (.reg [⟨(some 47), none, .q (.mov (.t 0))⟩,
                    ⟨(some 48), none, .q (.mov (.t 3))⟩,
                    ⟨(some 49), none, .q (.len false (.t 48))⟩,
                    ⟨(some 50), none, .a (.call (.fn 70) false [.io (.t 47), .lend (.t 49)])⟩,
                    ⟨(some 51), none, .q (.fad 2 (.t 5))⟩,
                    ⟨none, none, .a (.store 1 (.t 51) (.t 50))⟩]))
                 (.seq
                  (.reg [⟨(some 53), none, .q (.bin false .eql (.t 34) (.c (.int .i64 5)))⟩,
                    ⟨(some 52), none, .a (.asg (.t 53))⟩])
                  (.cond (.t 52)
                   (.join [0, 3, 4, 5, 10, 90]
                    (.seq
                     (.reg [⟨(some 54), none, .q (.mov (.t 0))⟩,
                       ⟨(some 55), none, .q (.mov (.t 3))⟩,
                       ⟨(some 56), none, .q (.len false (.t 55))⟩,
                       ⟨(some 57), none, .a (.call (.fn 70) false [.io (.t 54), .lend (.t 56)])⟩,
                       ⟨(some 6), none, .a (.asg (.t 57))⟩])
                     (.seq
                      (.reg [⟨(some 58), none, .q (.mov (.t 3))⟩,
                        ⟨(some 59), none, .q (.mov (.t 6))⟩,
                        ⟨(some 60), none, .q (.iad 6 (.t 58) (.t 59))⟩,
                        ⟨(some 61), none, .q (.fad 0 (.t 60))⟩,
                        ⟨(some 62), none, .q (.load false 1 (.t 61))⟩,
                        ⟨(some 63), none, .q (.bin false .eql (.t 62) (.c (.int .i64 5)))⟩])
                      (.cond (.t 63)
                       (.reg [⟨(some 64), none, .q (.mov (.t 6))⟩,
                         ⟨(some 65), none, .q (.fad 2 (.t 5))⟩,
                         ⟨none, none, .a (.store 1 (.t 65) (.t 64))⟩])
                       .skip)))
                    (.seq
                     (.reg [⟨(some 66), none, .q (.mov (.t 0))⟩,
                       ⟨(some 67), none, .a (.call (.fn 70) false [.io (.t 66), .lend (.c (.int .i64 4))])⟩,
                       ⟨(some 7), none, .a (.asg (.t 67))⟩])
                     (.block 3
                      (.loop [0, 3, 4, 5, 7, 10, 90]
                       (.seq
                        (.seq
                         (.reg [⟨(some 68), none, .q (.mov (.t 7))⟩,
                           ⟨(some 69), none, .q (.bin false .gtr (.t 68) (.c (.int .i64 0)))⟩])
                         (.cond (.t 69)
                          .skip
                          (.exit 3)))
                        (.seq
                         (.block 4
                          (.mixt [] [0, 3, 4, 5, 7, 10, 90] [] [] []
                            []
                            (.step 0 ⟨(some 72), none, .q (.fad 3 (.t 5))⟩
                            (.step 2 ⟨(some 74), none, .q (.mov (.t 7))⟩
                             (.step 5 ⟨(some 77), none, .q (.mov (.t 0))⟩
                              (.step 7 ⟨(some 79), none, .q (.mov (.t 0))⟩
                               (.step 8 ⟨(some 80), none, .q (.mov (.t 3))⟩
                                (.step 9 ⟨(some 81), none, .q (.len false (.t 80))⟩
                                 (.alt (.step 1 ⟨(some 73), none, .q (.load false 1 (.t 72))⟩
                                  (.step 3 ⟨(some 75), none, .a (.call (.fn 183) false [.lend (.t 74)])⟩
                                   (.step 4 ⟨(some 76), none, .q (.bin false .add (.c (.string ({ data := #[102] }))) (.t 75))⟩
                                    (.step 6 ⟨(some 78), none, .a (.call (.fn 70) false [.io (.t 77), .lend (.c (.int .i64 3))])⟩
                                     (.step 10 ⟨(some 82), none, .a (.call (.fn 70) false [.io (.t 79), .lend (.t 81)])⟩
                                      (.step 11 ⟨(some 83), none, .a (.build [0, 1, 2] [0, 1, 2] [1, 1, 1] [.v (.string ({ data := #[] })), .v (.int .i64 0), .v (.int .i64 0)] [.t 76, .t 78, .t 82])⟩
                                       (.step 12 ⟨(some 84), none, .a (.bsl 97 3 [.t 83])⟩
                                        (.step 13 ⟨(some 85), none, .a (.app true 97 3 32 (.t 73) (.t 84))⟩
                                         (.step 14 ⟨(some 86), none, .q (.fad 3 (.t 5))⟩
                                          (.step 15 ⟨none, none, .a (.store 1 (.t 86) (.t 85))⟩
                                           .nil))))))))))
                                  (.step 3 ⟨(some 75), none, .a (.call (.fn 183) false [.lend (.t 74)])⟩
                                  (.step 4 ⟨(some 76), none, .q (.bin false .add (.c (.string ({ data := #[102] }))) (.t 75))⟩
                                   (.alt (.step 1 ⟨(some 73), none, .q (.load false 1 (.t 72))⟩
                                    (.step 6 ⟨(some 78), none, .a (.call (.fn 70) false [.io (.t 77), .lend (.c (.int .i64 3))])⟩
                                     (.step 10 ⟨(some 82), none, .a (.call (.fn 70) false [.io (.t 79), .lend (.t 81)])⟩
                                      (.step 11 ⟨(some 83), none, .a (.build [0, 1, 2] [0, 1, 2] [1, 1, 1] [.v (.string ({ data := #[] })), .v (.int .i64 0), .v (.int .i64 0)] [.t 76, .t 78, .t 82])⟩
                                       (.step 12 ⟨(some 84), none, .a (.bsl 97 3 [.t 83])⟩
                                        (.step 13 ⟨(some 85), none, .a (.app true 97 3 32 (.t 73) (.t 84))⟩
                                         (.step 14 ⟨(some 86), none, .q (.fad 3 (.t 5))⟩
                                          (.step 15 ⟨none, none, .a (.store 1 (.t 86) (.t 85))⟩
                                           .nil))))))))
                                    (.step 6 ⟨(some 78), none, .a (.call (.fn 70) false [.io (.t 77), .lend (.c (.int .i64 3))])⟩
                                    (.alt (.step 1 ⟨(some 73), none, .q (.load false 1 (.t 72))⟩
                                     (.step 10 ⟨(some 82), none, .a (.call (.fn 70) false [.io (.t 79), .lend (.t 81)])⟩
                                      (.step 11 ⟨(some 83), none, .a (.build [0, 1, 2] [0, 1, 2] [1, 1, 1] [.v (.string ({ data := #[] })), .v (.int .i64 0), .v (.int .i64 0)] [.t 76, .t 78, .t 82])⟩
                                       (.step 12 ⟨(some 84), none, .a (.bsl 97 3 [.t 83])⟩
                                        (.step 13 ⟨(some 85), none, .a (.app true 97 3 32 (.t 73) (.t 84))⟩
                                         (.step 14 ⟨(some 86), none, .q (.fad 3 (.t 5))⟩
                                          (.step 15 ⟨none, none, .a (.store 1 (.t 86) (.t 85))⟩
                                           .nil)))))))
                                     (.step 10 ⟨(some 82), none, .a (.call (.fn 70) false [.io (.t 79), .lend (.t 81)])⟩
                                     (.alt (.step 1 ⟨(some 73), none, .q (.load false 1 (.t 72))⟩
                                      (.step 11 ⟨(some 83), none, .a (.build [0, 1, 2] [0, 1, 2] [1, 1, 1] [.v (.string ({ data := #[] })), .v (.int .i64 0), .v (.int .i64 0)] [.t 76, .t 78, .t 82])⟩
                                       (.step 12 ⟨(some 84), none, .a (.bsl 97 3 [.t 83])⟩
                                        (.step 13 ⟨(some 85), none, .a (.app true 97 3 32 (.t 73) (.t 84))⟩
                                         (.step 14 ⟨(some 86), none, .q (.fad 3 (.t 5))⟩
                                          (.step 15 ⟨none, none, .a (.store 1 (.t 86) (.t 85))⟩
                                           .nil))))))
                                      (.step 11 ⟨(some 83), none, .a (.build [0, 1, 2] [0, 1, 2] [1, 1, 1] [.v (.string ({ data := #[] })), .v (.int .i64 0), .v (.int .i64 0)] [.t 76, .t 78, .t 82])⟩
                                      (.alt (.step 1 ⟨(some 73), none, .q (.load false 1 (.t 72))⟩
                                       (.step 12 ⟨(some 84), none, .a (.bsl 97 3 [.t 83])⟩
                                        (.step 13 ⟨(some 85), none, .a (.app true 97 3 32 (.t 73) (.t 84))⟩
                                         (.step 14 ⟨(some 86), none, .q (.fad 3 (.t 5))⟩
                                          (.step 15 ⟨none, none, .a (.store 1 (.t 86) (.t 85))⟩
                                           .nil)))))
                                       (.step 12 ⟨(some 84), none, .a (.bsl 97 3 [.t 83])⟩
                                       (.step 1 ⟨(some 73), none, .q (.load false 1 (.t 72))⟩
                                        (.step 13 ⟨(some 85), none, .a (.app true 97 3 32 (.t 73) (.t 84))⟩
                                         (.step 14 ⟨(some 86), none, .q (.fad 3 (.t 5))⟩
                                          (.step 15 ⟨none, none, .a (.store 1 (.t 86) (.t 85))⟩
                                           .nil)))))))))))))))))))))))
                         (.reg [⟨(some 70), none, .q (.mov (.t 7))⟩,
                           ⟨(some 71), none, .q (.bin false .sub (.t 70) (.c (.int .i64 1)))⟩,
                           ⟨(some 7), none, .a (.asg (.t 71))⟩])))))))
                   (.reg [⟨(some 35), none, .q (.mov (.t 0))⟩,
                     ⟨(some 36), none, .q (.mov (.t 4))⟩,
                     ⟨(some 37), none, .q (.bin false .sub (.t 36) (.c (.int .i64 3)))⟩,
                     ⟨(some 38), none, .a (.call (.fn 70) false [.io (.t 35), .lend (.t 37)])⟩,
                     ⟨(some 39), none, .q (.bin false .add (.c (.int .i64 3)) (.t 38))⟩,
                     ⟨(some 40), none, .q (.fad 2 (.t 5))⟩,
                     ⟨none, none, .a (.store 1 (.t 40) (.t 39))⟩])))))))
             (.reg [⟨(some 87), none, .q (.mov (.t 3))⟩,
               ⟨(some 88), none, .q (.load true 6 (.t 5))⟩,
               ⟨(some 89), none, .a (.bsl 40 6 [.t 88])⟩,
               ⟨(some 90), none, .a (.app true 40 6 80 (.t 87) (.t 89))⟩,
               ⟨(some 3), none, .a (.asg (.t 90))⟩]))))))))
      (.seq
       (.seq
        (.reg [⟨(some 91), none, .q (.mov (.t 3))⟩,
          ⟨(some 92), none, .q (.len false (.t 91))⟩,
          ⟨(some 93), none, .q (.mov (.c (.int .i64 0)))⟩])
        (.block 5
         (.loop [0, 3, 10, 90, 91, 92, 93]
          (.seq
           (.reg [⟨(some 94), none, .q (.bin false .lss (.t 93) (.t 92))⟩])
           (.seq
            (.cond (.t 94)
             .skip
             (.exit 5))
            (.join [0, 3, 10, 90, 91, 92, 93]
             (.block 6
              (.seq
               (.reg [⟨(some 95), none, .q (.mov (.t 93))⟩,
                 ⟨(some 96), none, .q (.iad 6 (.t 91) (.t 93))⟩,
                 ⟨(some 97), none, .q (.load true 6 (.t 96))⟩,
                 ⟨(some 9), none, .a (.alloc 40 [.v (.int .i64 0), .v (.int .i64 0), .v (.int .i64 0), .s 97 3, .v (.string ({ data := #[] })), .v (.string ({ data := #[] }))])⟩,
                 ⟨(some 8), none, .a (.asg (.t 95))⟩,
                 ⟨none, none, .a (.storek 6 (.t 9) (.t 97))⟩])
               (.seq
                (.reg [⟨(some 98), none, .q (.fad 0 (.t 9))⟩,
                  ⟨(some 99), none, .q (.load false 1 (.t 98))⟩,
                  ⟨(some 100), none, .q (.bin false .eql (.t 99) (.c (.int .i64 6)))⟩,
                  ⟨(some 101), none, .q (.mov (.t 100))⟩,
                  ⟨(some 102), (some (101, true)), .q (.mov (.t 3))⟩,
                  ⟨(some 103), (some (101, true)), .q (.fad 2 (.t 9))⟩,
                  ⟨(some 104), (some (101, true)), .q (.load false 1 (.t 103))⟩,
                  ⟨(some 105), (some (101, true)), .q (.iad 6 (.t 102) (.t 104))⟩,
                  ⟨(some 106), (some (101, true)), .q (.fad 0 (.t 105))⟩,
                  ⟨(some 107), (some (101, true)), .q (.load false 1 (.t 106))⟩,
                  ⟨(some 108), (some (101, true)), .q (.bin false .eql (.t 107) (.c (.int .i64 6)))⟩,
                  ⟨(some 109), none, .q (.pick (.t 101) (.t 108) (.c (.bool false)))⟩])
                (.cond (.t 109)
                 (.seq
                  (.reg [⟨(some 110), none, .q (.mov (.t 3))⟩,
                    ⟨(some 111), none, .q (.mov (.t 8))⟩,
                    ⟨(some 112), none, .q (.iad 6 (.t 110) (.t 111))⟩,
                    ⟨(some 113), none, .q (.fad 0 (.t 112))⟩,
                    ⟨none, none, .a (.store 1 (.t 113) (.c (.int .i64 5)))⟩])
                  (.reg [⟨(some 114), none, .q (.mov (.t 3))⟩,
                    ⟨(some 115), none, .q (.mov (.t 8))⟩,
                    ⟨(some 116), none, .q (.iad 6 (.t 114) (.t 115))⟩,
                    ⟨(some 117), none, .q (.fad 2 (.t 116))⟩,
                    ⟨none, none, .a (.store 1 (.t 117) (.c (.int .i64 (-1))))⟩]))
                 .skip))))
             (.reg [⟨(some 118), none, .q (.bin false .add (.t 93) (.c (.int .i64 1)))⟩,
               ⟨(some 93), none, .q (.mov (.t 118))⟩])))))))
       (.seq
        (.reg [⟨(some 119), none, .q (.mov (.t 3))⟩,
          ⟨(some 2), none, .a (.asg (.t 119))⟩])
        .ret))))))

set_option maxHeartbeats 4000000 in
set_option maxRecDepth 100000 in
theorem p123 (c : Cur) (n : Int) (hc : c.ok n) (hn : n ≤ 115292150460) : Draws 123 [] c n 600 fun r => ∃ l : List Ty, r = .usl 40 6 (l.map Ty.o) ∧ 3 ≤ l.length ∧ l.length ≤ 9 ∧ ∀ t ∈ l, TyD l.length t := by
  refine doesE_intro (mc := m123) (N := 120) (rs := [2]) (fx := [0]) 1 rfl (by decide +kernel) ?_
  simp only [m123, EV, Nat.reduceEqDiff, Nat.reduceBEq, Nat.reduceLT, Nat.reduceLeDiff, Nat.reduceAdd, Nat.reduceSub, reduceIte]
  refine callK_i d182 ?_
  simp only [EV, Nat.reduceEqDiff, Nat.reduceBEq, Nat.reduceLT, Nat.reduceLeDiff, Nat.reduceAdd, Nat.reduceSub, reduceIte]
  refine (p70 c n 7 hc (by omega) (by omega)).call (fun _ => rfl) ?_
  rintro _ c1 hc1 ⟨v, rfl, v0, v1, _⟩
  have v2 := v1 (by omega)
  have hw : IntKind.i64.wrap (3 + v) = 3 + v := w64 _ (by omega)
  have hv : ∃ m : Nat, 3 + v = (m : Int) := ⟨(3 + v).toNat, by omega⟩
  obtain ⟨m, hm⟩ := hv
  have hm3 : 3 ≤ m := by omega
  have hm9 : m ≤ 9 := by omega
  have hwm : IntKind.i64.wrap (m : Int) = m := w64 _ (by omega)
  simp only [hm, hwm, EV, Nat.reduceEqDiff, Nat.reduceBEq, Nat.reduceLT, Nat.reduceLeDiff, Nat.reduceAdd, Nat.reduceSub, reduceIte]
  refine awp_loop (fun p : List Ty × Cur => 3 ≤ p.1.length ∧ p.1.length ≤ m ∧ (∀ t ∈ p.1, TyD m t) ∧ p.2.ok (n + 2 + 60 * p.1.length)) (fun p => stl [(0, .box 87 p.2.z), (3, .usl 40 6 (p.1.map Ty.o)), (4, .v (.int .i64 (m : Int))), (10, .dead), (90, .dead)]) (fun p => m - p.1.length) (baseTs, c1) ⟨by simp only [base_len3]; omega, by simp only [base_len3]; omega, base_tyD _, hc1.up (by simp only [base_len3]; omega)⟩ ?_ ?_
  · simp only [EV, Nat.reduceEqDiff, Nat.reduceBEq, Nat.reduceLT, Nat.reduceLeDiff, Nat.reduceAdd, Nat.reduceSub, reduceIte]
  · rintro ⟨l, c⟩ ⟨l3, lm, lD, hc⟩
    simp only at l3 lm lD hc
    simp only [EV, Nat.reduceEqDiff, Nat.reduceBEq, Nat.reduceLT, Nat.reduceLeDiff, Nat.reduceAdd, Nat.reduceSub, reduceIte]
    refine cK_cut (fun h => ?_) (fun h => ?_)
    · have hlm : l.length < m := by have : (l.length : Int) < (m : Int) := by simpa using h
                                    omega
      clear h
      simp only [EV, Nat.reduceEqDiff, Nat.reduceBEq, Nat.reduceLT, Nat.reduceLeDiff, Nat.reduceAdd, Nat.reduceSub, reduceIte]
      refine (p70 c _ 3 hc (by omega) (by omega)).call (fun _ => rfl) ?_
      rintro _ c2 hc2 ⟨kd, rfl, k0, k1, _⟩
      have k2 := k1 (by omega)
      have hwk : IntKind.i64.wrap (4 + kd) = 4 + kd := w64 _ (by omega)
      have hck : ∃ q : Int, 4 + kd = q := ⟨_, rfl⟩
      obtain ⟨q, hq⟩ := hck
      have hwq : IntKind.i64.wrap q = q := w64 _ (by omega)
      simp only [hq, hwq, EV, Nat.reduceEqDiff, Nat.reduceBEq, Nat.reduceLT, Nat.reduceLeDiff, Nat.reduceAdd, Nat.reduceSub, reduceIte]
      refine awp_join (fun p : Ty × Cur => (∃ o m : ByteArray, p.1 = ⟨q, 0, -1, [], o, m⟩ ∧ (o.size : Int) ≤ 40 ∧ (m.size : Int) ≤ 40) ∧ p.2.ok (n + 2 + 60 * l.length + 6)) (fun p => stl [(0, .box 87 p.2.z), (3, .usl 40 6 (l.map Ty.o)), (4, .v (.int .i64 (m : Int))), (5, .box 40 p.1.o), (10, .dead), (90, .dead)]) ?_ ?_
      · simp only [EV, Nat.reduceEqDiff, Nat.reduceBEq, Nat.reduceLT, Nat.reduceLeDiff, Nat.reduceAdd, Nat.reduceSub, reduceIte]
        refine (p76 c2 _ 2 hc2 (by omega) (by omega)).call (fun _ => rfl) ?_
        rintro _ c3 hc3 ⟨b, rfl⟩
        simp only [EV, Nat.reduceEqDiff, Nat.reduceBEq, Nat.reduceLT, Nat.reduceLeDiff, Nat.reduceAdd, Nat.reduceSub, reduceIte]
        cases b
        · simp only [EV, Nat.reduceEqDiff, Nat.reduceBEq, Nat.reduceLT, Nat.reduceLeDiff, Nat.reduceAdd, Nat.reduceSub, reduceIte]
          exact ⟨(⟨q, 0, -1, [], ⟨#[]⟩, ⟨#[]⟩⟩, c3), ⟨⟨_, _, rfl, by decide, by decide⟩, hc3.up (by omega)⟩, rfl⟩
        · simp only [EV, Nat.reduceEqDiff, Nat.reduceBEq, Nat.reduceLT, Nat.reduceLeDiff, Nat.reduceAdd, Nat.reduceSub, reduceIte]
          refine (p124 c3 _ [⟨#[65]⟩, ⟨#[66]⟩] hc3 (by omega) (by decide) (by decide)).call (fun _ => rfl) ?_
          rintro _ c4 hc4 ⟨s, hs, rfl⟩
          have hs1 : (s.size : Int) ≤ 40 := by
            simp only [List.mem_cons, List.not_mem_nil, or_false] at hs
            rcases hs with rfl | rfl <;> decide
          simp only [EV, Nat.reduceEqDiff, Nat.reduceBEq, Nat.reduceLT, Nat.reduceLeDiff, Nat.reduceAdd, Nat.reduceSub, reduceIte]
          refine n183 (by omega) (by omega) fun nm hnm => ?_
          simp only [EV, Nat.reduceEqDiff, Nat.reduceBEq, Nat.reduceLT, Nat.reduceLeDiff, Nat.reduceAdd, Nat.reduceSub, reduceIte]
          have h84 : ((⟨#[84]⟩ : ByteArray).size : Nat) = 1 := rfl
          refine ⟨by rw [h84]; omega, (⟨q, 0, -1, [], s, ⟨#[84]⟩ ++ nm⟩, c4), ⟨⟨_, _, rfl, hs1, by rw [ByteArray.size_append, h84]; omega⟩, hc4.up (by omega)⟩, rfl⟩
      rintro ⟨t, c5⟩ ⟨⟨o, mm, rfl, ho, hmm⟩, hc5⟩
      simp only at hc5
      simp only [Ty.o, List.map_nil, EV, Nat.reduceEqDiff, Nat.reduceBEq, Nat.reduceLT, Nat.reduceLeDiff, Nat.reduceAdd, Nat.reduceSub, reduceIte]
      refine awp_join (fun p : Ty × Cur => TyD m p.1 ∧ p.2.ok (n + 2 + 60 * l.length + 50)) (fun p => stl [(0, .box 87 p.2.z), (3, .usl 40 6 (l.map Ty.o)), (4, .v (.int .i64 (m : Int))), (5, .box 40 p.1.o), (10, .dead), (90, .dead)]) ?_ ?_
      · simp only [EV, Nat.reduceEqDiff, Nat.reduceBEq, Nat.reduceLT, Nat.reduceLeDiff, Nat.reduceAdd, Nat.reduceSub, reduceIte]
        rcases e4 : (q == 4) with _ | _
        rotate_left
        · have q4 : q = 4 := by simpa using e4
          simp only [e4, EV, Nat.reduceEqDiff, Nat.reduceBEq, Nat.reduceLT, Nat.reduceLeDiff, Nat.reduceAdd, Nat.reduceSub, reduceIte]
          refine (p70 c5 _ 5 hc5 (by omega) (by omega)).call (fun _ => rfl) ?_
          rintro _ c6 hc6 ⟨u, rfl, u0, u1, _⟩
          simp only [EV, Nat.reduceEqDiff, Nat.reduceBEq, Nat.reduceLT, Nat.reduceLeDiff, Nat.reduceAdd, Nat.reduceSub, reduceIte]
          refine (p70 c6 _ l.length hc6 (by omega) (by omega)).call (fun _ => rfl) ?_
          rintro _ c7 hc7 ⟨u2, rfl, _⟩
          simp only [EV, Nat.reduceEqDiff, Nat.reduceBEq, Nat.reduceLT, Nat.reduceLeDiff, Nat.reduceAdd, Nat.reduceSub, reduceIte]
          exact ⟨(⟨q, IntKind.i64.wrap (1 + u), u2, [], o, mm⟩, c7), ⟨⟨by simp, by simp, ho, hmm, fun h => by simp only at h; omega⟩, hc7.up (by omega)⟩, rfl⟩
        rcases e5 : (q == 5) with _ | _
        · have q6 : q = 6 := by
            have h4 : ¬ q = 4 := by simpa using e4
            have h5 : ¬ q = 5 := by simpa using e5
            omega
          simp only [e4, e5, EV, Nat.reduceEqDiff, Nat.reduceBEq, Nat.reduceLT, Nat.reduceLeDiff, Nat.reduceAdd, Nat.reduceSub, reduceIte]
          rw [w64 ((m : Int) - 3) (by omega)]
          refine (p70 c5 _ ((m : Int) - 3) hc5 (by omega) (by omega)).call (fun _ => rfl) ?_
          rintro _ c6 hc6 ⟨u, rfl, u0, u1, u2⟩
          have hu : 3 + u < (m : Int) := by
            by_cases h : 1 < (m : Int) - 3
            · have := u1 h; omega
            · have := u2 (by omega); omega
          simp only [EV, Nat.reduceEqDiff, Nat.reduceBEq, Nat.reduceLT, Nat.reduceLeDiff, Nat.reduceAdd, Nat.reduceSub, reduceIte]
          rw [w64 (3 + u) (by omega)]
          exact ⟨(⟨q, 0, 3 + u, [], o, mm⟩, c6), ⟨⟨by simp, by simp, ho, hmm, fun _ => ⟨by simp only; omega, hu⟩⟩, hc6.up (by omega)⟩, rfl⟩
        · have q5 : ¬ q = 6 := by have : q = 5 := by simpa using e5
                                  omega
          simp only [e4, e5, EV, Nat.reduceEqDiff, Nat.reduceBEq, Nat.reduceLT, Nat.reduceLeDiff, Nat.reduceAdd, Nat.reduceSub, reduceIte]
          refine awp_join (fun p : Int × Cur => p.2.ok (n + 2 + 60 * l.length + 8)) (fun p => stl [(0, .box 87 p.2.z), (3, .usl 40 6 (l.map Ty.o)), (4, .v (.int .i64 (m : Int))), (5, .box 40 (Ty.o ⟨q, 0, p.1, [], o, mm⟩)), (10, .dead), (90, .dead)]) ?_ ?_
          · simp only [EV, Nat.reduceEqDiff, Nat.reduceBEq, Nat.reduceLT, Nat.reduceLeDiff, Nat.reduceAdd, Nat.reduceSub, reduceIte]
            refine (p70 c5 _ l.length hc5 (by omega) (by omega)).call (fun _ => rfl) ?_
            rintro _ c6 hc6 ⟨u, rfl, u0, u1, _⟩
            have hu := u1 (by omega)
            have hun : u.toNat < l.length := by omega
            simp only [u0, hu, hun, nth_map hun, Ty.o, EV, Nat.reduceEqDiff, Nat.reduceBEq, Nat.reduceLT, Nat.reduceLeDiff, Nat.reduceAdd, Nat.reduceSub, reduceIte]
            rcases e : (l[u.toNat].kind == 5) with _ | _
            · simp only [Ty.o, EV, Nat.reduceEqDiff, Nat.reduceBEq, Nat.reduceLT, Nat.reduceLeDiff, Nat.reduceAdd, Nat.reduceSub, reduceIte]
              exact ⟨(-1, c6), hc6.up (by omega), rfl⟩
            · simp only [Ty.o, EV, Nat.reduceEqDiff, Nat.reduceBEq, Nat.reduceLT, Nat.reduceLeDiff, Nat.reduceAdd, Nat.reduceSub, reduceIte]
              exact ⟨(u, c6), hc6.up (by omega), rfl⟩
          rintro ⟨b, c6⟩ hc6
          simp only at hc6
          simp only [Ty.o, List.map_nil, EV, Nat.reduceEqDiff, Nat.reduceBEq, Nat.reduceLT, Nat.reduceLeDiff, Nat.reduceAdd, Nat.reduceSub, reduceIte]
          refine (p70 c6 _ 4 hc6 (by omega) (by omega)).call (fun _ => rfl) ?_
          rintro _ c7 hc7 ⟨k, rfl, k0, k1, _⟩
          have k3 := k1 (by omega)
          simp only [EV, Nat.reduceEqDiff, Nat.reduceBEq, Nat.reduceLT, Nat.reduceLeDiff, Nat.reduceAdd, Nat.reduceSub, reduceIte]
          refine awp_loop (fun p : List Fd × Int × Cur => (p.1.length : Int) + p.2.1 ≤ 3 ∧ 0 ≤ p.2.1 ∧ (∀ f ∈ p.1, 0 < (f.name.size : Int) ∧ (f.name.size : Int) ≤ 40) ∧ p.2.2.ok (n + 2 + 60 * l.length + 10 + 6 * p.1.length)) (fun p => stl [(0, .box 87 p.2.2.z), (3, .usl 40 6 (l.map Ty.o)), (4, .v (.int .i64 (m : Int))), (5, .box 40 (Ty.o ⟨q, 0, b, p.1, o, mm⟩)), (7, .v (.int .i64 p.2.1)), (10, .dead), (90, .dead)]) (fun p => p.2.1.toNat) ([], k, c7) ⟨by simp; omega, k0, by simp, hc7.up (by simp; omega)⟩ ?_ ?_
          · simp only [Ty.o, List.map_nil, EV, Nat.reduceEqDiff, Nat.reduceBEq, Nat.reduceLT, Nat.reduceLeDiff, Nat.reduceAdd, Nat.reduceSub, reduceIte]
          · rintro ⟨fs, k, c8⟩ ⟨g1, g2, g3, g4⟩
            simp only at g1 g2 g3 g4
            simp only [Ty.o, EV, Nat.reduceEqDiff, Nat.reduceBEq, Nat.reduceLT, Nat.reduceLeDiff, Nat.reduceAdd, Nat.reduceSub, reduceIte]
            refine cK_cut (fun h => ?_) (fun h => ?_)
            · have hk : 0 < k := by simpa using h
              clear h
              have h102 : ((⟨#[102]⟩ : ByteArray).size : Nat) = 1 := rfl
              have wk := w64 (k - 1) (by omega)
              simp only [wk, EV, Nat.reduceEqDiff, Nat.reduceBEq, Nat.reduceLT, Nat.reduceLeDiff, Nat.reduceAdd, Nat.reduceSub, reduceIte]
              have ld : ∀ (nm : ByteArray) (u v : Int) (c' : Cur), (nm.size : Int) ≤ k + 1 → c'.ok (n + 2 + 60 * l.length + 10 + 6 * fs.length + 2 + 2) →
                  (((fs ++ [(⟨⟨#[102]⟩ ++ nm, u, v⟩ : Fd)]).length : Int) + (k - 1) ≤ 3 ∧ 0 ≤ k - 1 ∧ (∀ f ∈ fs ++ [(⟨⟨#[102]⟩ ++ nm, u, v⟩ : Fd)], 0 < (f.name.size : Int) ∧ (f.name.size : Int) ≤ 40) ∧ c'.ok (n + 2 + 60 * l.length + 10 + 6 * (fs ++ [(⟨⟨#[102]⟩ ++ nm, u, v⟩ : Fd)]).length)) := by
                intro nm u v c' hnm hc'
                refine ⟨by simp; omega, by omega, ?_, hc'.up (by simp; omega)⟩
                intro f hf
                rcases List.mem_append.1 hf with hf | hf
                · exact g3 f hf
                · rw [List.mem_singleton] at hf
                  rw [hf]
                  simp only [ByteArray.size_append, h102]; omega
              have lm1 : ∀ (nm : ByteArray) (u v : Int), List.map Fd.o fs ++ [[AV.v (.string (⟨#[102]⟩ ++ nm)), AV.v (.int .i64 u), AV.v (.int .i64 v)]] = List.map Fd.o (fs ++ [⟨⟨#[102]⟩ ++ nm, u, v⟩]) := fun nm u v => by rw [List.map_append]; rfl
              refine ⟨?_, ?_⟩
              · refine n183 (by omega) (by omega) fun nm hnm => ?_
                simp only [EV, Nat.reduceEqDiff, Nat.reduceBEq, Nat.reduceLT, Nat.reduceLeDiff, Nat.reduceAdd, Nat.reduceSub, reduceIte]
                refine ⟨by rw [h102]; omega, ?_⟩
                refine (p70 c8 _ 3 g4 (by omega) (by omega)).call (fun _ => rfl) ?_
                rintro _ c9 hc9 ⟨u, rfl, _⟩
                simp only [EV, Nat.reduceEqDiff, Nat.reduceBEq, Nat.reduceLT, Nat.reduceLeDiff, Nat.reduceAdd, Nat.reduceSub, reduceIte]
                refine (p70 c9 _ l.length hc9 (by omega) (by omega)).call (fun _ => rfl) ?_
                rintro _ c10 hc10 ⟨v, rfl, _⟩
                simp only [wk, EV, Nat.reduceEqDiff, Nat.reduceBEq, Nat.reduceLT, Nat.reduceLeDiff, Nat.reduceAdd, Nat.reduceSub, reduceIte]
                refine ⟨by omega, by omega, (fs ++ [⟨⟨#[102]⟩ ++ nm, u, v⟩], k - 1, c10), ld nm u v c10 hnm hc10, by simp only; omega, ?_⟩
                simp only [lm1]
              · refine n183 (by omega) (by omega) fun nm hnm => ?_
                simp only [EV, Nat.reduceEqDiff, Nat.reduceBEq, Nat.reduceLT, Nat.reduceLeDiff, Nat.reduceAdd, Nat.reduceSub, reduceIte]
                refine ⟨by rw [h102]; omega, ?_⟩
                refine ⟨?_, ?_⟩
                · refine (p70 c8 _ 3 g4 (by omega) (by omega)).call (fun _ => rfl) ?_
                  rintro _ c9 hc9 ⟨u, rfl, _⟩
                  simp only [EV, Nat.reduceEqDiff, Nat.reduceBEq, Nat.reduceLT, Nat.reduceLeDiff, Nat.reduceAdd, Nat.reduceSub, reduceIte]
                  refine (p70 c9 _ l.length hc9 (by omega) (by omega)).call (fun _ => rfl) ?_
                  rintro _ c10 hc10 ⟨v, rfl, _⟩
                  simp only [wk, EV, Nat.reduceEqDiff, Nat.reduceBEq, Nat.reduceLT, Nat.reduceLeDiff, Nat.reduceAdd, Nat.reduceSub, reduceIte]
                  refine ⟨by omega, by omega, (fs ++ [⟨⟨#[102]⟩ ++ nm, u, v⟩], k - 1, c10), ld nm u v c10 hnm hc10, by simp only; omega, ?_⟩
                  simp only [lm1]
                · refine (p70 c8 _ 3 g4 (by omega) (by omega)).call (fun _ => rfl) ?_
                  rintro _ c9 hc9 ⟨u, rfl, _⟩
                  simp only [EV, Nat.reduceEqDiff, Nat.reduceBEq, Nat.reduceLT, Nat.reduceLeDiff, Nat.reduceAdd, Nat.reduceSub, reduceIte]
                  refine ⟨?_, ?_⟩
                  · refine (p70 c9 _ l.length hc9 (by omega) (by omega)).call (fun _ => rfl) ?_
                    rintro _ c10 hc10 ⟨v, rfl, _⟩
                    simp only [wk, EV, Nat.reduceEqDiff, Nat.reduceBEq, Nat.reduceLT, Nat.reduceLeDiff, Nat.reduceAdd, Nat.reduceSub, reduceIte]
                    refine ⟨by omega, by omega, (fs ++ [⟨⟨#[102]⟩ ++ nm, u, v⟩], k - 1, c10), ld nm u v c10 hnm hc10, by simp only; omega, ?_⟩
                    simp only [lm1]
                  · refine (p70 c9 _ l.length hc9 (by omega) (by omega)).call (fun _ => rfl) ?_
                    rintro _ c10 hc10 ⟨v, rfl, _⟩
                    simp only [wk, EV, Nat.reduceEqDiff, Nat.reduceBEq, Nat.reduceLT, Nat.reduceLeDiff, Nat.reduceAdd, Nat.reduceSub, reduceIte]
                    refine ⟨by omega, by omega, (fs ++ [⟨⟨#[102]⟩ ++ nm, u, v⟩], k - 1, c10), ld nm u v c10 hnm hc10, by simp only; omega, ?_⟩
                    simp only [lm1]
            · simp only [EV, Nat.reduceEqDiff, Nat.reduceBEq, Nat.reduceLT, Nat.reduceLeDiff, Nat.reduceAdd, Nat.reduceSub, reduceIte]
              exact ⟨(⟨q, 0, b, fs, o, mm⟩, c8), ⟨⟨by simp only; omega, g3, ho, hmm, fun h => absurd h q5⟩, g4.up (by omega)⟩, rfl⟩
      · rintro ⟨t, c6⟩ ⟨hD, hc6⟩
        simp only at hD hc6
        simp only [Ty.o, EV, Nat.reduceEqDiff, Nat.reduceBEq, Nat.reduceLT, Nat.reduceLeDiff, Nat.reduceAdd, Nat.reduceSub, reduceIte]
        refine ⟨by omega, by omega, (l ++ [t], c6), ⟨by simp; omega, by simp; omega, ?_, hc6.up (by simp; omega)⟩, by simp; omega, ?_⟩
        · intro s hs
          rcases List.mem_append.1 hs with hs | hs
          · exact lD s hs
          · rw [List.mem_singleton] at hs; rw [hs]; exact hD
        · rw [List.map_append]
          rfl
    · have hlm : l.length = m := by have : ¬ (l.length : Int) < (m : Int) := by simpa using h
                                    omega
      simp only [EV, Nat.reduceEqDiff, Nat.reduceBEq, Nat.reduceLT, Nat.reduceLeDiff, Nat.reduceAdd, Nat.reduceSub, reduceIte]
      refine awp_loop (fun p : List Ty × Nat => p.1.length = m ∧ p.2 ≤ m ∧ ∀ t ∈ p.1, TyD m t) (fun p => stl [(0, .box 87 c.z), (3, .usl 40 6 (p.1.map Ty.o)), (10, .dead), (90, .dead), (91, .sref 3 [] 0 m), (92, .v (.int .i64 (m : Int))), (93, .v (.int .i64 (p.2 : Int)))]) (fun p => m - p.2) (l, 0) ⟨hlm, Nat.zero_le _, lD⟩ ?_ ?_
      · simp only [hlm, EV, Nat.reduceEqDiff, Nat.reduceBEq, Nat.reduceLT, Nat.reduceLeDiff, Nat.reduceAdd, Nat.reduceSub, reduceIte]
        rfl
      · rintro ⟨l, i⟩ ⟨hlm, him, lD⟩
        simp only at hlm him lD
        simp only [EV, Nat.reduceEqDiff, Nat.reduceBEq, Nat.reduceLT, Nat.reduceLeDiff, Nat.reduceAdd, Nat.reduceSub, reduceIte]
        refine cK_cut (fun h => ?_) (fun h => ?_)
        · have hi : i < m := by have : (i : Int) < (m : Int) := by simpa using h
                                omega
          have hil : i < l.length := by omega
          have hi2 : (i : Int) < (m : Int) := by omega
          have hD := lD _ (List.getElem_mem hil)
          clear h
          refine awp_join (fun l : List Ty => l.length = m ∧ ∀ t ∈ l, TyD m t) (fun l => stl [(0, .box 87 c.z), (3, .usl 40 6 (l.map Ty.o)), (10, .dead), (90, .dead), (91, .sref 3 [] 0 m), (92, .v (.int .i64 (m : Int))), (93, .v (.int .i64 (i : Int)))]) ?_ ?_
          · simp only [hlm, hi, hi2, hil, nth_map hil, Ty.o, EV, Nat.reduceEqDiff, Nat.reduceBEq, Nat.reduceLT, Nat.reduceLeDiff, Nat.reduceAdd, Nat.reduceSub, reduceIte]
            have same : ∃ a : List Ty, (a.length = m ∧ ∀ t ∈ a, TyD m t) ∧ List.map Ty.o l = List.map Ty.o a := ⟨l, ⟨hlm, lD⟩, rfl⟩
            rcases e6 : (l[i].kind == 6) with _ | _
            · simp only [EV, Nat.reduceEqDiff, Nat.reduceBEq, Nat.reduceLT, Nat.reduceLeDiff, Nat.reduceAdd, Nat.reduceSub, reduceIte]
              exact ⟨l, ⟨hlm, lD⟩, rfl⟩
            · have hp := hD.ptr (by simpa using e6)
              have hb : l[i].base.toNat < l.length := by omega
              have hb1 : l[i].base.toNat < m := by omega
              have h4 : i < (l.map Ty.o).length := by simp; exact hil
              simp only [e6, hlm, hi, hi2, hil, hb, hb1, hp.1, hp.2, nth_map hb, Ty.o, EV, Nat.reduceEqDiff, Nat.reduceBEq, Nat.reduceLT, Nat.reduceLeDiff, Nat.reduceAdd, Nat.reduceSub, reduceIte]
              rcases e7 : (l[l[i].base.toNat].kind == 6) with _ | _
              · simp only [EV, Nat.reduceEqDiff, Nat.reduceBEq, Nat.reduceLT, Nat.reduceLeDiff, Nat.reduceAdd, Nat.reduceSub, reduceIte]
                exact ⟨l, ⟨hlm, lD⟩, rfl⟩
              · simp only [hlm, hi, hi2, hil, nth_map hil, nth_set h4, List.getElem?_set_self h4, h4, modify_set, Ty.o, EV, Nat.reduceEqDiff, Nat.reduceBEq, Nat.reduceLT, Nat.reduceLeDiff, Nat.reduceAdd, Nat.reduceSub, reduceIte]
                refine ⟨l.set i ⟨5, l[i].long, -1, l[i].fields, l[i].owner, l[i].name⟩, ⟨by rw [List.length_set]; exact hlm, ?_⟩, ?_⟩
                · intro t ht
                  rcases List.mem_or_eq_of_mem_set ht with h | h
                  · exact lD t h
                  · rw [h]
                    exact ⟨hD.few, hD.names, hD.owner, hD.name, fun h => absurd h (show ¬ (5 : Int) = 6 by decide)⟩
                · rw [List.map_set]
                  rfl
          · rintro l ⟨hlm, lD⟩
            simp only [EV, Nat.reduceEqDiff, Nat.reduceBEq, Nat.reduceLT, Nat.reduceLeDiff, Nat.reduceAdd, Nat.reduceSub, reduceIte]
            rw [w64 _ (by omega)]
            exact ⟨(l, i + 1), ⟨hlm, hi, lD⟩, by simp only; omega, rfl⟩
        · simp only [EV, Nat.reduceEqDiff, Nat.reduceBEq, Nat.reduceLT, Nat.reduceLeDiff, Nat.reduceAdd, Nat.reduceSub, reduceIte]
          simp only [EV, Nat.reduceEqDiff, Nat.reduceBEq, Nat.reduceLT, Nat.reduceLeDiff, Nat.reduceAdd, Nat.reduceSub, reduceIte, evRE, retVC, cellV', evR, nfz, nfzs, nfzss, List.contains_nil, List.contains_cons, Bool.or_false, or_true]
          exact ⟨⟨c, rfl, hc.up (by omega), l, rfl, by omega, by omega, by rw [hlm]; exact lD⟩, Or.inr (Ty.nfz l)⟩

end Go.AM
namespace Go.AM
set_option linter.unusedVariables false
set_option linter.unusedSimpArgs false
theorem modify_get {l : List (List AV)} {i : Nat} {a : List AV} {f : List AV → List AV} (h : l[i]? = some a) : l.modify i f = l.set i (f a) := by
  apply List.ext_getElem?
  intro j
  rw [List.getElem?_modify]
  by_cases hj : i = j
  · subst hj
    have hi : i < l.length := by
      rcases Nat.lt_or_ge i l.length with h1 | h1
      · exact h1
      · rw [List.getElem?_eq_none h1] at h; cases h
    have hl : l[i] = a := by rw [List.getElem?_eq_getElem hi] at h; exact Option.some.inj h
    simp [hi, hl]
  · simp [hj, List.getElem?_set_ne hj]

/-- What is drawn, in all forms: few fields, and each has a name. -/
def Ty.dr (t : Ty) : Prop := t.fields.length ≤ 3 ∧ (∀ f ∈ t.fields, 0 < (f.name.size : Int) ∧ (f.name.size : Int) ≤ 40) ∧ (t.owner.size : Int) ≤ 40 ∧ (t.name.size : Int) ≤ 40

theorem Ty.dr.sm {t : Ty} (h : t.dr) : t.sm := by
  obtain ⟨h1, h2, h3, h4⟩ := h
  exact ⟨trivial, trivial, trivial, ⟨by omega, fun f hf => ⟨by have := (h2 f hf).2; omega, trivial, trivial⟩⟩, by omega, by omega⟩

theorem TyD.dr {n : Int} {t : Ty} (h : TyD n t) : t.dr := ⟨h.few, h.names, h.owner, h.name⟩

theorem set_dr (l : List Ty) {k : Nat} (h : k < l.length) (t : Ty) (ht : t.dr) (hs : ∀ s ∈ l, s.dr) (hl : l.length ≤ 9) : ∃ a : List Ty, (a.length ≤ 9 ∧ ∀ s ∈ a, s.dr) ∧ (l.map Ty.o).set k t.o = a.map Ty.o :=
  ⟨l.set k t, ⟨by rw [List.length_set]; exact hl, fun s hm => (List.mem_or_eq_of_mem_set hm).elim (hs s) (fun e => e ▸ ht)⟩, by rw [List.map_set]⟩

theorem Draws.mono {f : Nat} {args : List AV} {c : Cur} {n m : Int} {Q Q' : AV → Prop} (h : Draws f args c n m Q) (hq : ∀ r, Q r → Q' r) : Draws f args c n m Q' := by
  refine ⟨h.1, fun w Fz xs os h1 h2 h3 h4 => (h.2 w Fz xs os h1 h2 h3 h4).mono ?_⟩
  rintro e w' ⟨res, outs, ⟨c', g1, g2, g3⟩, hh⟩
  exact ⟨_, _, ⟨c', g1, g2, hq _ g3⟩, hh⟩

/-- (*loop.example/g00837/spec.l1Cur).anyTypes -/
def m53 : MC :=
  (.seq
   (.reg [⟨(some 2), none, .a (.asg (.nils 40 6))⟩])
   (.seq
    (.reg [⟨(some 5), none, .q (.mov (.t 0))⟩,
      ⟨(some 6), none, .a (.call (.fn 123) false [.io (.t 5)])⟩,
      ⟨(some 3), none, .a (.asg (.t 6))⟩])
    (.seq
     (.reg [⟨(some 7), none, .q (.mov (.t 0))⟩,
       ⟨(some 8), none, .q (.mov (.t 3))⟩,
       ⟨(some 9), none, .q (.len false (.t 8))⟩,
       ⟨(some 10), none, .a (.call (.fn 70) false [.io (.t 7), .lend (.t 9)])⟩,
       ⟨(some 4), none, .a (.asg (.t 10))⟩])
     (.join [0, 3, 6, 63, 65, 66]
      (.seq
       (.reg [⟨(some 11), none, .q (.mov (.t 0))⟩,
         ⟨(some 12), none, .a (.call (.fn 70) false [.io (.t 11), .lend (.c (.int .i64 30))])⟩])
       (.block 0
        (.seq
         (.reg [⟨(some 14), none, .q (.bin false .eql (.t 12) (.c (.int .i64 0)))⟩,
           ⟨(some 13), none, .a (.asg (.t 14))⟩])
         (.cond (.t 13)
          (.reg [⟨(some 15), none, .q (.mov (.t 3))⟩,
            ⟨(some 16), none, .q (.mov (.t 4))⟩,
            ⟨(some 17), none, .q (.iad 6 (.t 15) (.t 16))⟩,
            ⟨(some 18), none, .q (.fad 1 (.t 17))⟩,
            ⟨(some 19), none, .q (.load false 1 (.t 18))⟩,
            ⟨(some 20), none, .q (.bin false .add (.t 19) (.c (.int .i64 1)))⟩,
            ⟨(some 21), none, .q (.iad 6 (.t 15) (.t 16))⟩,
            ⟨(some 22), none, .q (.fad 1 (.t 21))⟩,
            ⟨none, none, .a (.store 1 (.t 22) (.t 20))⟩])
          (.seq
           (.reg [⟨(some 24), none, .q (.bin false .eql (.t 12) (.c (.int .i64 1)))⟩,
             ⟨(some 23), none, .a (.asg (.t 24))⟩])
           (.cond (.t 23)
            (.reg [⟨(some 25), none, .q (.mov (.t 3))⟩,
              ⟨(some 26), none, .q (.mov (.t 4))⟩,
              ⟨(some 27), none, .q (.mov (.t 0))⟩,
              ⟨(some 28), none, .a (.bsl 9 1 [.c (.string ({ data := #[] })), .c (.string ({ data := #[73, 78, 84] })), .c (.string ({ data := #[84, 51] }))])⟩,
              ⟨(some 29), none, .a (.call (.fn 124) false [.io (.t 27), .give (.t 28)])⟩,
              ⟨(some 30), none, .q (.iad 6 (.t 25) (.t 26))⟩,
              ⟨(some 31), none, .q (.fad 5 (.t 30))⟩,
              ⟨none, none, .a (.store 1 (.t 31) (.t 29))⟩])
            (.seq
             (.reg [⟨(some 33), none, .q (.bin false .eql (.t 12) (.c (.int .i64 2)))⟩,
               ⟨(some 32), none, .a (.asg (.t 33))⟩])
             (.cond (.t 32)
              (.seq
               (.reg [⟨(some 34), none, .q (.mov (.t 3))⟩,
                 ⟨(some 35), none, .q (.mov (.t 4))⟩,
                 ⟨(some 36), none, .q (.iad 6 (.t 34) (.t 35))⟩,
                 ⟨(some 37), none, .q (.fad 3 (.t 36))⟩,
                 ⟨(some 38), none, .q (.load false 1 (.t 37))⟩,
                 ⟨(some 39), none, .q (.len false (.t 38))⟩,
                 ⟨(some 40), none, .q (.bin false .gtr (.t 39) (.c (.int .i64 0)))⟩])
               (.cond (.t 40)
                (.mixt [4] [0, 3, 6, 63, 65, 66] [] [] [1]
                  [⟨(some 42), none, .q (.mov (.t 4))⟩]
                  (.step 0 ⟨(some 41), none, .q (.mov (.t 3))⟩
                  (.step 2 ⟨(some 43), none, .q (.iad 6 (.t 41) (.t 42))⟩
                   (.step 3 ⟨(some 44), none, .q (.fad 3 (.t 43))⟩
                    (.step 5 ⟨(some 46), none, .q (.mov (.t 0))⟩
                     (.step 6 ⟨(some 47), none, .q (.mov (.t 3))⟩
                      (.step 7 ⟨(some 48), none, .q (.len false (.t 47))⟩
                       (.step 8 ⟨(some 49), none, .q (.bin false .add (.t 48) (.c (.int .i64 1)))⟩
                        (.alt (.step 4 ⟨(some 45), none, .q (.load false 1 (.t 44))⟩
                         (.step 9 ⟨(some 50), none, .a (.call (.fn 70) false [.io (.t 46), .lend (.t 49)])⟩
                          (.step 10 ⟨(some 51), none, .q (.iad 3 (.t 45) (.c (.int .i64 0)))⟩
                           (.step 11 ⟨(some 52), none, .q (.fad 2 (.t 51))⟩
                            (.step 12 ⟨none, none, .a (.store 1 (.t 52) (.t 50))⟩
                             .nil)))))
                         (.step 9 ⟨(some 50), none, .a (.call (.fn 70) false [.io (.t 46), .lend (.t 49)])⟩
                         (.step 4 ⟨(some 45), none, .q (.load false 1 (.t 44))⟩
                          (.step 10 ⟨(some 51), none, .q (.iad 3 (.t 45) (.c (.int .i64 0)))⟩
                           (.step 11 ⟨(some 52), none, .q (.fad 2 (.t 51))⟩
                            (.step 12 ⟨none, none, .a (.store 1 (.t 52) (.t 50))⟩
                             .nil))))))))))))))
                .skip))
              (.seq
               (.reg [⟨(some 54), none, .q (.bin false .eql (.t 12) (.c (.int .i64 3)))⟩,
                 ⟨(some 53), none, .a (.asg (.t 54))⟩])
               (.cond (.t 53)
                (.reg [⟨(some 55), none, .q (.mov (.t 3))⟩,
                  ⟨(some 56), none, .q (.mov (.t 4))⟩,
                  ⟨(some 57), none, .q (.mov (.t 0))⟩,
                  ⟨(some 58), none, .a (.call (.fn 70) false [.io (.t 57), .lend (.c (.int .i64 8))])⟩,
                  ⟨(some 59), none, .q (.iad 6 (.t 55) (.t 56))⟩,
                  ⟨(some 60), none, .q (.fad 0 (.t 59))⟩,
                  ⟨none, none, .a (.store 1 (.t 60) (.t 58))⟩])
                (.seq
                 (.reg [⟨(some 62), none, .q (.bin false .eql (.t 12) (.c (.int .i64 4)))⟩,
                   ⟨(some 61), none, .a (.asg (.t 62))⟩])
                 (.cond (.t 61)
                  (.reg [⟨(some 63), none, .q (.mov (.t 3))⟩,
                    ⟨(some 64), none, .q (.mov (.t 0))⟩,
                    ⟨(some 65), none, .a (.call (.fn 70) false [.io (.t 64), .lend (.c (.int .i64 4))])⟩,
                    ⟨(some 66), none, .q (.slc false 6 (.t 63) none (some (.t 65)))⟩,
                    ⟨(some 3), none, .a (.asg (.t 66))⟩])
                  .skip))))))))))))
      (.seq
       (.reg [⟨(some 67), none, .q (.mov (.t 3))⟩,
         ⟨(some 2), none, .a (.asg (.t 67))⟩])
       .ret)))))

set_option maxHeartbeats 4000000 in
set_option maxRecDepth 100000 in
theorem q53 (c : Cur) (n : Int) (hc : c.ok n) (hn : n ≤ 115292150460) : Draws 53 [] c n 620 fun r => ∃ l : List Ty, r = .usl 40 6 (l.map Ty.o) ∧ l.length ≤ 9 ∧ ∀ t ∈ l, t.dr := by
  refine doesE_intro (mc := m53) (N := 68) (rs := [2]) (fx := [0]) 1 rfl (by decide +kernel) ?_
  simp only [m53, EV, Nat.reduceEqDiff, Nat.reduceBEq, Nat.reduceLT, Nat.reduceLeDiff, Nat.reduceAdd, Nat.reduceSub, reduceIte]
  refine (p123 c n hc hn).call (fun _ => rfl) ?_
  rintro _ c1 hc1 ⟨l, rfl, l3, l9, lD⟩
  have hs : ∀ t ∈ l, t.dr := fun t ht => (lD t ht).dr
  simp only [EV, Nat.reduceEqDiff, Nat.reduceBEq, Nat.reduceLT, Nat.reduceLeDiff, Nat.reduceAdd, Nat.reduceSub, reduceIte]
  refine (p70 c1 _ l.length hc1 (by omega) (by omega)).call (fun _ => rfl) ?_
  rintro _ c2 hc2 ⟨k, rfl, k0, k1, _⟩
  have kl := k1 (by omega)
  have kn : k.toNat < l.length := by omega
  simp only [EV, Nat.reduceEqDiff, Nat.reduceBEq, Nat.reduceLT, Nat.reduceLeDiff, Nat.reduceAdd, Nat.reduceSub, reduceIte]
  refine awp_join (fun p : List Ty × Cur × AV => (p.1.length ≤ 9 ∧ ∀ t ∈ p.1, t.dr) ∧ p.2.1.ok (n + 610)) (fun p => stl [(0, .box 87 p.2.1.z), (3, .usl 40 6 (p.1.map Ty.o)), (6, .dead), (63, .dead), (65, p.2.2), (66, .dead)]) ?_ ?_
  · simp only [EV, Nat.reduceEqDiff, Nat.reduceBEq, Nat.reduceLT, Nat.reduceLeDiff, Nat.reduceAdd, Nat.reduceSub, reduceIte]
    refine (p70 c2 _ 30 hc2 (by omega) (by omega)).call (fun _ => rfl) ?_
    rintro _ c3 hc3 ⟨q, rfl, q0, q1, _⟩
    have hk := hs _ (List.getElem_mem kn)
    have h4 : k.toNat < (l.map Ty.o).length := by simp; exact kn
    simp only [EV, Nat.reduceEqDiff, Nat.reduceBEq, Nat.reduceLT, Nat.reduceLeDiff, Nat.reduceAdd, Nat.reduceSub, reduceIte]
    rcases e0 : (q == 0) with _ | _
    rotate_left
    · simp only [e0, k0, kl, kn, nth_map kn, nth_set h4, List.getElem?_set_self h4, h4, modify_set, Ty.o, EV, Nat.reduceEqDiff, Nat.reduceBEq, Nat.reduceLT, Nat.reduceLeDiff, Nat.reduceAdd, Nat.reduceSub, reduceIte]
      obtain ⟨a, ha, he⟩ := set_dr l kn ⟨l[k.toNat].kind, IntKind.i64.wrap (l[k.toNat].long + 1), l[k.toNat].base, l[k.toNat].fields, l[k.toNat].owner, l[k.toNat].name⟩ (by unfold Ty.dr at hk ⊢; exact hk) hs l9
      exact ⟨(a, c3, .dead), ⟨ha, hc3.up (by omega)⟩, by rw [← he]; rfl⟩
    rcases e1 : (q == 1) with _ | _
    rotate_left
    · simp only [e0, e1, EV, Nat.reduceEqDiff, Nat.reduceBEq, Nat.reduceLT, Nat.reduceLeDiff, Nat.reduceAdd, Nat.reduceSub, reduceIte]
      refine (p124 c3 _ [⟨#[]⟩, ⟨#[73, 78, 84]⟩, ⟨#[84, 51]⟩] hc3 (by omega) (by decide) (by decide)).call (fun _ => rfl) ?_
      rintro _ c4 hc4 ⟨s, hs', rfl⟩
      simp only [e0, k0, kl, kn, nth_map kn, nth_set h4, List.getElem?_set_self h4, h4, modify_set, Ty.o, EV, Nat.reduceEqDiff, Nat.reduceBEq, Nat.reduceLT, Nat.reduceLeDiff, Nat.reduceAdd, Nat.reduceSub, reduceIte]
      have hs1 : (s.size : Int) ≤ 40 := by
        simp only [List.mem_cons, List.not_mem_nil, or_false] at hs'
        rcases hs' with rfl | rfl | rfl <;> decide
      obtain ⟨a, ha, he⟩ := set_dr l kn ⟨l[k.toNat].kind, l[k.toNat].long, l[k.toNat].base, l[k.toNat].fields, l[k.toNat].owner, s⟩ (by unfold Ty.dr at hk ⊢; exact ⟨hk.1, hk.2.1, hk.2.2.1, hs1⟩) hs l9
      exact ⟨(a, c4, .dead), ⟨ha, hc4.up (by omega)⟩, by rw [← he]; rfl⟩
    rcases e2 : (q == 2) with _ | _
    rotate_left
    · simp only [e0, e1, e2, k0, kl, kn, nth_map kn, Ty.o, EV, Nat.reduceEqDiff, Nat.reduceBEq, Nat.reduceLT, Nat.reduceLeDiff, Nat.reduceAdd, Nat.reduceSub, reduceIte]
      rcases f0 : decide (0 < (l[k.toNat].fields.length : Int)) with _ | _
      · simp only [EV, Nat.reduceEqDiff, Nat.reduceBEq, Nat.reduceLT, Nat.reduceLeDiff, Nat.reduceAdd, Nat.reduceSub, reduceIte]
        exact ⟨(l, c3, .dead), ⟨⟨l9, hs⟩, hc3.up (by omega)⟩, rfl⟩
      · have f1 : 0 < l[k.toNat].fields.length := by have : 0 < (l[k.toNat].fields.length : Int) := by simpa using f0
                                                     omega
        have wl := w64 ((l.length : Int) + 1) (by omega)
        have hg : (l.map Ty.o)[k.toNat]? = some [.v (.int .i64 l[k.toNat].kind), .v (.int .i64 l[k.toNat].long), .v (.int .i64 l[k.toNat].base), .usl 97 3 (l[k.toNat].fields.map Fd.o), .v (.string l[k.toNat].owner), .v (.string l[k.toNat].name)] := by simp [kn, Ty.o]
        have f2 : (0 : Int) < (l[k.toNat].fields.length : Int) := by omega
        have f4 : 0 < (l[k.toNat].fields.map Fd.o).length := by simp; exact f1
        simp only [f0, k0, kl, kn, nth_map kn, wl, Ty.o, EV, Nat.reduceEqDiff, Nat.reduceBEq, Nat.reduceLT, Nat.reduceLeDiff, Nat.reduceAdd, Nat.reduceSub, reduceIte]
        refine ⟨?_, ?_⟩
        · refine (p70 c3 _ ((l.length : Int) + 1) hc3 (by omega) (by omega)).call (fun _ => rfl) ?_
          rintro _ c4 hc4 ⟨u, rfl, _⟩
          simp only [hg, modify_get hg, f1, f2, f4, k0, kl, kn, nth_map kn, nth_map f1, nth_set h4, List.getElem?_set_self h4, h4, modify_set, Ty.o, Fd.o, EV, Nat.reduceEqDiff, Nat.reduceBEq, Nat.reduceLT, Nat.reduceLeDiff, Nat.reduceAdd, Nat.reduceSub, reduceIte]
          refine ⟨by omega, ?_⟩
          obtain ⟨a, ha, he⟩ := set_dr l kn ⟨l[k.toNat].kind, l[k.toNat].long, l[k.toNat].base, l[k.toNat].fields.set 0 ⟨l[k.toNat].fields[0].name, l[k.toNat].fields[0].mark, u⟩, l[k.toNat].owner, l[k.toNat].name⟩ (by
            unfold Ty.dr at hk ⊢
            refine ⟨by simpa using hk.1, fun f hf => ?_, hk.2.2.1, hk.2.2.2⟩
            rcases List.mem_or_eq_of_mem_set hf with h | h
            · exact hk.2.1 f h
            · rw [h]
              exact hk.2.1 l[k.toNat].fields[0] (List.getElem_mem f1)) hs l9
          refine ⟨(a, c4, .dead), ⟨ha, hc4.up (by omega)⟩, ?_⟩
          simp only [← he, Ty.o, List.map_set]
          rfl
        · refine (p70 c3 _ ((l.length : Int) + 1) hc3 (by omega) (by omega)).call (fun _ => rfl) ?_
          rintro _ c4 hc4 ⟨u, rfl, _⟩
          simp only [hg, modify_get hg, f1, f2, f4, k0, kl, kn, nth_map kn, nth_map f1, nth_set h4, List.getElem?_set_self h4, h4, modify_set, Ty.o, Fd.o, EV, Nat.reduceEqDiff, Nat.reduceBEq, Nat.reduceLT, Nat.reduceLeDiff, Nat.reduceAdd, Nat.reduceSub, reduceIte]
          refine ⟨by omega, ?_⟩
          obtain ⟨a, ha, he⟩ := set_dr l kn ⟨l[k.toNat].kind, l[k.toNat].long, l[k.toNat].base, l[k.toNat].fields.set 0 ⟨l[k.toNat].fields[0].name, l[k.toNat].fields[0].mark, u⟩, l[k.toNat].owner, l[k.toNat].name⟩ (by
            unfold Ty.dr at hk ⊢
            refine ⟨by simpa using hk.1, fun f hf => ?_, hk.2.2.1, hk.2.2.2⟩
            rcases List.mem_or_eq_of_mem_set hf with h | h
            · exact hk.2.1 f h
            · rw [h]
              exact hk.2.1 l[k.toNat].fields[0] (List.getElem_mem f1)) hs l9
          refine ⟨(a, c4, .dead), ⟨ha, hc4.up (by omega)⟩, ?_⟩
          simp only [← he, Ty.o, List.map_set]
          rfl
    rcases e3 : (q == 3) with _ | _
    rotate_left
    · simp only [e0, e1, e2, e3, EV, Nat.reduceEqDiff, Nat.reduceBEq, Nat.reduceLT, Nat.reduceLeDiff, Nat.reduceAdd, Nat.reduceSub, reduceIte]
      refine (p70 c3 _ 8 hc3 (by omega) (by omega)).call (fun _ => rfl) ?_
      rintro _ c4 hc4 ⟨u, rfl, _⟩
      simp only [e0, k0, kl, kn, nth_map kn, nth_set h4, List.getElem?_set_self h4, h4, modify_set, Ty.o, EV, Nat.reduceEqDiff, Nat.reduceBEq, Nat.reduceLT, Nat.reduceLeDiff, Nat.reduceAdd, Nat.reduceSub, reduceIte]
      obtain ⟨a, ha, he⟩ := set_dr l kn ⟨u, l[k.toNat].long, l[k.toNat].base, l[k.toNat].fields, l[k.toNat].owner, l[k.toNat].name⟩ (by unfold Ty.dr at hk ⊢; exact hk) hs l9
      exact ⟨(a, c4, .dead), ⟨ha, hc4.up (by omega)⟩, by rw [← he]; rfl⟩
    rcases e4' : (q == 4) with _ | _
    rotate_left
    · simp only [e0, e1, e2, e3, e4', EV, Nat.reduceEqDiff, Nat.reduceBEq, Nat.reduceLT, Nat.reduceLeDiff, Nat.reduceAdd, Nat.reduceSub, reduceIte]
      refine (p70 c3 _ 4 hc3 (by omega) (by omega)).call (fun _ => rfl) ?_
      rintro _ c4 hc4 ⟨u, rfl, u0, u1, _⟩
      have u4 := u1 (by omega)
      simp only [EV, Nat.reduceEqDiff, Nat.reduceBEq, Nat.reduceLT, Nat.reduceLeDiff, Nat.reduceAdd, Nat.reduceSub, reduceIte]
      refine ⟨by omega, u0, by omega, (l.take u.toNat, c4, .v (.int .i64 u)), ⟨⟨by simp; omega, fun t ht => hs t (List.mem_of_mem_take ht)⟩, hc4.up (by omega)⟩, ?_⟩
      rw [← List.map_take]
    · simp only [e0, e1, e2, e3, e4', EV, Nat.reduceEqDiff, Nat.reduceBEq, Nat.reduceLT, Nat.reduceLeDiff, Nat.reduceAdd, Nat.reduceSub, reduceIte]
      exact ⟨(l, c3, .dead), ⟨⟨l9, hs⟩, hc3.up (by omega)⟩, rfl⟩
  · rintro ⟨l, c, x65⟩ ⟨⟨l9, hs⟩, hc⟩
    simp only at l9 hs hc
    simp only [EV, Nat.reduceEqDiff, Nat.reduceBEq, Nat.reduceLT, Nat.reduceLeDiff, Nat.reduceAdd, Nat.reduceSub, reduceIte]
    simp only [Ty.nfz, EV, Nat.reduceEqDiff, Nat.reduceBEq, Nat.reduceLT, Nat.reduceLeDiff, Nat.reduceAdd, Nat.reduceSub, reduceIte, evRE, retVC, cellV', evR, nfz, nfzs, nfzss, List.contains_nil, List.contains_cons, Bool.or_false, or_true]
    exact ⟨c, rfl, hc.up (by omega), l, rfl, l9, hs⟩

theorem p53 (c : Cur) (n : Int) (hc : c.ok n) (hn : n ≤ 115292150460) : Draws 53 [] c n 620 fun r => ∃ l : List Ty, r = .usl 40 6 (l.map Ty.o) ∧ l.length ≤ 9 ∧ ∀ t ∈ l, t.sm :=
  (q53 c n hc hn).mono fun _ ⟨l, h, h9, hs⟩ => ⟨l, h, h9, fun t ht => (hs t ht).sm⟩

end Go.AM
namespace Go.AM
set_option linter.unusedVariables false
set_option linter.unusedSimpArgs false
/-- (*loop.example/g00837/spec.l1Cur).record -/
def m54 : MC :=
  (.seq
   (.reg [⟨(some 4), none, .a (.asg (.c (.int .i64 0)))⟩])
   (.seq
    (.reg [⟨(some 5), none, .a (.asg (.nils 3 1))⟩])
    (.seq
     (.seq
      (.reg [⟨(some 8), none, .q (.mov (.t 1))⟩,
        ⟨(some 9), none, .q (.len false (.t 8))⟩,
        ⟨(some 10), none, .q (.mov (.c (.int .i64 0)))⟩])
      (.block 0
       (.loop [0, 1, 5, 8, 9, 10, 21]
        (.seq
         (.reg [⟨(some 11), none, .q (.bin false .lss (.t 10) (.t 9))⟩])
         (.seq
          (.cond (.t 11)
           .skip
           (.exit 0))
          (.join [0, 1, 5, 8, 9, 10, 21]
           (.block 1
            (.seq
             (.reg [⟨(some 12), none, .q (.mov (.t 10))⟩,
               ⟨(some 13), none, .q (.iad 6 (.t 8) (.t 10))⟩,
               ⟨(some 14), none, .q (.load true 6 (.t 13))⟩,
               ⟨(some 7), none, .a (.alloc 40 [.v (.int .i64 0), .v (.int .i64 0), .v (.int .i64 0), .s 97 3, .v (.string ({ data := #[] })), .v (.string ({ data := #[] }))])⟩,
               ⟨(some 6), none, .a (.asg (.t 12))⟩,
               ⟨none, none, .a (.store 6 (.t 7) (.t 14))⟩])
             (.seq
              (.reg [⟨(some 15), none, .q (.fad 0 (.t 7))⟩,
                ⟨(some 16), none, .q (.load false 1 (.t 15))⟩,
                ⟨(some 17), none, .q (.bin false .eql (.t 16) (.c (.int .i64 5)))⟩])
              (.cond (.t 17)
               (.reg [⟨(some 18), none, .q (.mov (.t 5))⟩,
                 ⟨(some 19), none, .q (.mov (.t 6))⟩,
                 ⟨(some 20), none, .a (.bsl 3 1 [.t 19])⟩,
                 ⟨(some 21), none, .a (.app true 3 1 8 (.t 18) (.t 20))⟩,
                 ⟨(some 5), none, .a (.asg (.t 21))⟩])
               .skip))))
           (.reg [⟨(some 22), none, .q (.bin false .add (.t 10) (.c (.int .i64 1)))⟩,
             ⟨(some 10), none, .q (.mov (.t 22))⟩])))))))
     (.seq
      (.seq
       (.reg [⟨(some 23), none, .q (.mov (.t 5))⟩,
         ⟨(some 24), none, .q (.len false (.t 23))⟩,
         ⟨(some 25), none, .q (.bin false .eql (.t 24) (.c (.int .i64 0)))⟩,
         ⟨(some 26), none, .q (.mov (.t 25))⟩,
         ⟨(some 27), (some (26, false)), .q (.mov (.t 0))⟩,
         ⟨(some 28), (some (26, false)), .a (.call (.fn 76) false [.io (.t 27), .lend (.c (.int .i64 10))])⟩,
         ⟨(some 29), none, .q (.pick (.t 26) (.c (.bool true)) (.t 28))⟩])
       (.cond (.t 29)
        (.seq
         (.reg [⟨(some 30), none, .q (.mov (.t 0))⟩,
           ⟨(some 31), none, .q (.mov (.t 1))⟩,
           ⟨(some 32), none, .q (.len false (.t 31))⟩,
           ⟨(some 33), none, .a (.call (.fn 75) false [.lend (.c (.int .i64 1)), .lend (.t 32)])⟩,
           ⟨(some 34), none, .a (.call (.fn 70) false [.io (.t 30), .lend (.t 33)])⟩,
           ⟨(some 4), none, .a (.asg (.t 34))⟩])
         .ret)
        .skip))
      (.seq
       (.reg [⟨(some 35), none, .q (.mov (.t 5))⟩,
         ⟨(some 36), none, .q (.mov (.t 0))⟩,
         ⟨(some 37), none, .q (.mov (.t 5))⟩,
         ⟨(some 38), none, .q (.len false (.t 37))⟩,
         ⟨(some 39), none, .a (.call (.fn 70) false [.io (.t 36), .lend (.t 38)])⟩,
         ⟨(some 40), none, .q (.iad 1 (.t 35) (.t 39))⟩,
         ⟨(some 41), none, .q (.load false 1 (.t 40))⟩,
         ⟨(some 4), none, .a (.asg (.t 41))⟩])
       .ret)))))

set_option maxHeartbeats 1000000 in
set_option maxRecDepth 100000 in
theorem p54 (c : Cur) (n : Int) (l : List Ty) (hc : c.ok n) (hn : n ≤ 115292150460) (hl : l.length ≤ 9) : Draws 54 [.fsl 6 (l.map Ty.z)] c n 10 fun r => ∃ x : Int, r = .v (.int .i64 x) ∧ 0 ≤ x ∧ x ≤ 10 := by
  refine doesE_intro (mc := m54) (N := 42) (rs := [4]) (fx := [0]) 2 rfl (by decide +kernel) ?_
  simp only [m54, EV, Nat.reduceEqDiff, Nat.reduceBEq, Nat.reduceLT, Nat.reduceLeDiff, Nat.reduceAdd, Nat.reduceSub, reduceIte]
  refine awp_loop (fun p : List Int × Nat => p.2 ≤ l.length ∧ p.1.length ≤ p.2 ∧ ∀ k ∈ p.1, 0 ≤ k ∧ k ≤ 10) (fun p => stl [(0, .box 87 c.z), (1, .fsl 6 (l.map Ty.z)), (5, .usl 3 1 (p.1.map iv)), (8, .fsl 6 (l.map Ty.z)), (9, .v (.int .i64 (l.length : Int))), (10, .v (.int .i64 (p.2 : Int))), (21, .dead)]) (fun p => l.length - p.2) ([], 0) ⟨Nat.zero_le _, Nat.le_refl _, by simp⟩ ?_ ?_
  · simp only [EV, Nat.reduceEqDiff, Nat.reduceBEq, Nat.reduceLT, Nat.reduceLeDiff, Nat.reduceAdd, Nat.reduceSub, reduceIte]
    rfl
  · rintro ⟨ks, i⟩ ⟨g1, g2, g3⟩
    simp only at g1 g2 g3
    simp only [EV, Nat.reduceEqDiff, Nat.reduceBEq, Nat.reduceLT, Nat.reduceLeDiff, Nat.reduceAdd, Nat.reduceSub, reduceIte]
    refine cK_cut (fun h => ?_) (fun h => ?_)
    · have h1 : i < l.length := by simpa using h
      have h2 : (i : Int) < (l.length : Int) := by omega
      clear h
      refine awp_join (fun ks : List Int => ks.length ≤ i + 1 ∧ ∀ k ∈ ks, 0 ≤ k ∧ k ≤ 10) (fun ks => stl [(0, .box 87 c.z), (1, .fsl 6 (l.map Ty.z)), (5, .usl 3 1 (ks.map iv)), (8, .fsl 6 (l.map Ty.z)), (9, .v (.int .i64 (l.length : Int))), (10, .v (.int .i64 (i : Int))), (21, .dead)]) ?_ ?_
      · simp only [nth_map h1, h1, h2, TyE, Ty.z, EV, Nat.reduceEqDiff, Nat.reduceBEq, Nat.reduceLT, Nat.reduceLeDiff, Nat.reduceAdd, Nat.reduceSub, reduceIte]
        rcases e : (l[i].kind == 5) with _ | _
        · simp only [EV, Nat.reduceEqDiff, Nat.reduceBEq, Nat.reduceLT, Nat.reduceLeDiff, Nat.reduceAdd, Nat.reduceSub, reduceIte]
          exact ⟨ks, ⟨by omega, g3⟩, rfl⟩
        · simp only [EV, Nat.reduceEqDiff, Nat.reduceBEq, Nat.reduceLT, Nat.reduceLeDiff, Nat.reduceAdd, Nat.reduceSub, reduceIte]
          refine ⟨by omega, by omega, ks ++ [(i : Int)], ⟨by simp; omega, ?_⟩, by rw [List.map_append]; rfl⟩
          intro k hk
          rcases List.mem_append.1 hk with hk | hk
          · exact g3 k hk
          · rw [List.mem_singleton] at hk; omega
      · rintro ks ⟨g4, g5⟩
        simp only [EV, Nat.reduceEqDiff, Nat.reduceBEq, Nat.reduceLT, Nat.reduceLeDiff, Nat.reduceAdd, Nat.reduceSub, reduceIte]
        rw [w64 _ (by omega)]
        exact ⟨(ks, i + 1), ⟨h1, g4, g5⟩, by simp only; omega, rfl⟩
    · have last : ∀ (c : Cur), c.ok (n + 2) → callK2 Go.Proofs.Tryz.prog 70 [.box 87 c.z, .v (.int .i64 (max 1 (l.length : Int)))] false (fun out => [out, .dead]) (.box 87 c.z) (fun _ _ => True) → True := fun _ _ _ => trivial
      simp only [EV, Nat.reduceEqDiff, Nat.reduceBEq, Nat.reduceLT, Nat.reduceLeDiff, Nat.reduceAdd, Nat.reduceSub, reduceIte]
      rcases e0 : ((ks.length : Int) == 0) with _ | _
      rotate_left
      · simp only [EV, Nat.reduceEqDiff, Nat.reduceBEq, Nat.reduceLT, Nat.reduceLeDiff, Nat.reduceAdd, Nat.reduceSub, reduceIte]
        refine callK_i (d75 1 (l.length : Int)) ?_
        simp only [EV, Nat.reduceEqDiff, Nat.reduceBEq, Nat.reduceLT, Nat.reduceLeDiff, Nat.reduceAdd, Nat.reduceSub, reduceIte]
        refine (p70 c _ (max 1 (l.length : Int)) hc (by omega) (by omega)).call (fun _ => rfl) ?_
        rintro _ c1 hc1 ⟨u, rfl, u0, u1, u2⟩
        simp only [EV, Nat.reduceEqDiff, Nat.reduceBEq, Nat.reduceLT, Nat.reduceLeDiff, Nat.reduceAdd, Nat.reduceSub, reduceIte]
        simp only [EV, Nat.reduceEqDiff, Nat.reduceBEq, Nat.reduceLT, Nat.reduceLeDiff, Nat.reduceAdd, Nat.reduceSub, reduceIte, evRE, retVC, cellV', evR, nfz, nfzs, nfzss, List.contains_nil, List.contains_cons, Bool.or_false, or_true]
        refine ⟨c1, rfl, hc1.up (by omega), u, rfl, u0, ?_⟩
        by_cases h : 1 < max 1 (l.length : Int)
        · have := u1 h; omega
        · have := u2 (by omega); omega
      · have k0 : 0 < ks.length := by
          have : ¬ (ks.length : Int) = 0 := by simpa using e0
          omega
        simp only [EV, Nat.reduceEqDiff, Nat.reduceBEq, Nat.reduceLT, Nat.reduceLeDiff, Nat.reduceAdd, Nat.reduceSub, reduceIte]
        refine (p76 c _ 10 hc (by omega) (by omega)).call (fun _ => rfl) ?_
        rintro _ c1 hc1 ⟨b, rfl⟩
        simp only [EV, Nat.reduceEqDiff, Nat.reduceBEq, Nat.reduceLT, Nat.reduceLeDiff, Nat.reduceAdd, Nat.reduceSub, reduceIte]
        cases b
        · simp only [EV, Nat.reduceEqDiff, Nat.reduceBEq, Nat.reduceLT, Nat.reduceLeDiff, Nat.reduceAdd, Nat.reduceSub, reduceIte]
          refine (p70 c1 _ ks.length hc1 (by omega) (by omega)).call (fun _ => rfl) ?_
          rintro _ c2 hc2 ⟨u, rfl, u0, u1, u2⟩
          have hu : u < (ks.length : Int) := by
            by_cases h : 1 < (ks.length : Int)
            · exact u1 h
            · have := u2 (by omega); omega
          have hun : u.toNat < ks.length := by omega
          simp only [u0, hu, hun, nth_map hun, iv, EV, Nat.reduceEqDiff, Nat.reduceBEq, Nat.reduceLT, Nat.reduceLeDiff, Nat.reduceAdd, Nat.reduceSub, reduceIte]
          simp only [EV, Nat.reduceEqDiff, Nat.reduceBEq, Nat.reduceLT, Nat.reduceLeDiff, Nat.reduceAdd, Nat.reduceSub, reduceIte, evRE, retVC, cellV', evR, nfz, nfzs, nfzss, List.contains_nil, List.contains_cons, Bool.or_false, or_true]
          have := g3 _ (List.getElem_mem hun)
          exact ⟨c2, rfl, hc2.up (by omega), _, rfl, this.1, this.2⟩
        · simp only [EV, Nat.reduceEqDiff, Nat.reduceBEq, Nat.reduceLT, Nat.reduceLeDiff, Nat.reduceAdd, Nat.reduceSub, reduceIte]
          refine callK_i (d75 1 (l.length : Int)) ?_
          simp only [EV, Nat.reduceEqDiff, Nat.reduceBEq, Nat.reduceLT, Nat.reduceLeDiff, Nat.reduceAdd, Nat.reduceSub, reduceIte]
          refine (p70 c1 _ (max 1 (l.length : Int)) hc1 (by omega) (by omega)).call (fun _ => rfl) ?_
          rintro _ c2 hc2 ⟨u, rfl, u0, u1, u2⟩
          simp only [EV, Nat.reduceEqDiff, Nat.reduceBEq, Nat.reduceLT, Nat.reduceLeDiff, Nat.reduceAdd, Nat.reduceSub, reduceIte]
          simp only [EV, Nat.reduceEqDiff, Nat.reduceBEq, Nat.reduceLT, Nat.reduceLeDiff, Nat.reduceAdd, Nat.reduceSub, reduceIte, evRE, retVC, cellV', evR, nfz, nfzs, nfzss, List.contains_nil, List.contains_cons, Bool.or_false, or_true]
          refine ⟨c2, rfl, hc2.up (by omega), u, rfl, u0, ?_⟩
          by_cases h : 1 < max 1 (l.length : Int)
          · have := u1 h; omega
          · have := u2 (by omega); omega

end Go.AM
namespace Go.AM
set_option linter.unusedVariables false
set_option linter.unusedSimpArgs false
/-- loop.example/g00837/spec.DrawAllFields -/
def m67 : MC :=
  (.seq
   (.reg [⟨(some 2), none, .a (.asg (.nils 40 6))⟩,
     ⟨(some 3), none, .a (.asg (.c (.int .i64 0)))⟩])
   (.seq
    (.reg [⟨(some 6), none, .q (.mov (.t 0))⟩,
      ⟨(some 7), none, .a (.build [0] [0] [1] [.s 5 1, .v (.int .i64 0), .v (.int .u64 0)] [.t 6])⟩,
      ⟨(some 8), none, .a (.box 87 (.t 7))⟩,
      ⟨(some 4), none, .a (.asg (.t 8))⟩])
    (.seq
     (.reg [⟨(some 9), none, .q (.mov (.t 4))⟩,
       ⟨(some 10), none, .a (.call (.fn 53) false [.io (.t 9)])⟩,
       ⟨(some 5), none, .a (.asgf (.t 10))⟩])
     (.seq
      (.reg [⟨(some 11), none, .q (.mov (.t 5))⟩,
        ⟨(some 12), none, .q (.mov (.t 4))⟩,
        ⟨(some 13), none, .q (.mov (.t 5))⟩,
        ⟨(some 14), none, .a (.call (.fn 54) false [.io (.t 12), .lend (.t 13)])⟩,
        ⟨(some 2), none, .a (.asg (.t 11))⟩,
        ⟨(some 3), none, .a (.asg (.t 14))⟩])
      .ret))))

set_option maxRecDepth 100000 in
theorem p67 (code : List Int) (hl : (code.length : Int) ≤ 1048576) (hb : ∀ b ∈ code, 0 ≤ b ∧ b ≤ 255) :
    DoesE Go.Proofs.Tryz.prog 67 [.fsl 1 (code.map bv)] true fun r o => o = [.dead] ∧ ∃ (l : List Ty) (n : Int), r = .tup [.fsl 6 (l.map Ty.z), .v (.int .i64 n)] ∧ l.length ≤ 9 ∧ ∀ t ∈ l, t.sm := by
  have hc : Cur.ok ⟨code, 0, 0⟩ 0 := ⟨hl, hb, Int.le_refl _, Int.le_refl _⟩
  have pc := p53 ⟨code, 0, 0⟩ 0 hc (by omega)
  refine doesE_intro (mc := m67) (N := 15) (rs := [2, 3]) (fx := []) 1 rfl (by decide +kernel) ?_
  simp only [m67, EV, Nat.reduceEqDiff, Nat.reduceBEq, Nat.reduceLT, Nat.reduceLeDiff, Nat.reduceAdd, Nat.reduceSub, reduceIte]
  refine pc.call (fun _ => rfl) ?_
  rintro _ c1 hc1 ⟨l, rfl, l9, hs⟩
  simp only [Ty.frz, EV, Nat.reduceEqDiff, Nat.reduceBEq, Nat.reduceLT, Nat.reduceLeDiff, Nat.reduceAdd, Nat.reduceSub, reduceIte]
  refine (p54 c1 _ l hc1 (by omega) l9).call (fun _ => rfl) ?_
  rintro _ c2 hc2 ⟨x, rfl, _⟩
  simp only [EV, Nat.reduceEqDiff, Nat.reduceBEq, Nat.reduceLT, Nat.reduceLeDiff, Nat.reduceAdd, Nat.reduceSub, reduceIte]
  simp only [EV, Nat.reduceEqDiff, Nat.reduceBEq, Nat.reduceLT, Nat.reduceLeDiff, Nat.reduceAdd, Nat.reduceSub, reduceIte, evRE, retVC, cellV', evR, nfz, nfzs, nfzss, List.contains_nil, List.contains_cons, Bool.or_false, or_true]
  exact ⟨⟨l, x, rfl, l9, hs⟩, Or.inl trivial⟩

/-- loop.example/g00837/spec.DrawExtends -/
def m14 : MC :=
  (.seq
   (.reg [⟨(some 2), none, .a (.asg (.nils 40 6))⟩,
     ⟨(some 3), none, .a (.asg (.c (.int .i64 0)))⟩,
     ⟨(some 4), none, .a (.asg (.c (.int .i64 0)))⟩])
   (.seq
    (.reg [⟨(some 7), none, .q (.mov (.t 0))⟩,
      ⟨(some 8), none, .a (.build [0] [0] [1] [.s 5 1, .v (.int .i64 0), .v (.int .u64 0)] [.t 7])⟩,
      ⟨(some 9), none, .a (.box 87 (.t 8))⟩,
      ⟨(some 5), none, .a (.asg (.t 9))⟩])
    (.seq
     (.reg [⟨(some 10), none, .q (.mov (.t 5))⟩,
       ⟨(some 11), none, .a (.call (.fn 53) false [.io (.t 10)])⟩,
       ⟨(some 6), none, .a (.asgf (.t 11))⟩])
     (.seq
      (.reg [⟨(some 12), none, .q (.mov (.t 6))⟩,
        ⟨(some 13), none, .q (.mov (.t 5))⟩,
        ⟨(some 14), none, .q (.mov (.t 6))⟩,
        ⟨(some 15), none, .a (.call (.fn 54) false [.io (.t 13), .lend (.t 14)])⟩,
        ⟨(some 16), none, .q (.mov (.t 5))⟩,
        ⟨(some 17), none, .q (.mov (.t 6))⟩,
        ⟨(some 18), none, .a (.call (.fn 54) false [.io (.t 16), .lend (.t 17)])⟩,
        ⟨(some 2), none, .a (.asg (.t 12))⟩,
        ⟨(some 3), none, .a (.asg (.t 15))⟩,
        ⟨(some 4), none, .a (.asg (.t 18))⟩])
      .ret))))

set_option maxRecDepth 100000 in
theorem p14 (code : List Int) (hl : (code.length : Int) ≤ 1048576) (hb : ∀ b ∈ code, 0 ≤ b ∧ b ≤ 255) :
    DoesE Go.Proofs.Tryz.prog 14 [.fsl 1 (code.map bv)] true fun r o => o = [.dead] ∧ ∃ (l : List Ty) (n m : Int), r = .tup [.fsl 6 (l.map Ty.z), .v (.int .i64 n), .v (.int .i64 m)] ∧ l.length ≤ 9 ∧ ∀ t ∈ l, t.sm := by
  have hc : Cur.ok ⟨code, 0, 0⟩ 0 := ⟨hl, hb, Int.le_refl _, Int.le_refl _⟩
  have pc := p53 ⟨code, 0, 0⟩ 0 hc (by omega)
  refine doesE_intro (mc := m14) (N := 19) (rs := [2, 3, 4]) (fx := []) 1 rfl (by decide +kernel) ?_
  simp only [m14, EV, Nat.reduceEqDiff, Nat.reduceBEq, Nat.reduceLT, Nat.reduceLeDiff, Nat.reduceAdd, Nat.reduceSub, reduceIte]
  refine pc.call (fun _ => rfl) ?_
  rintro _ c1 hc1 ⟨l, rfl, l9, hs⟩
  simp only [Ty.frz, EV, Nat.reduceEqDiff, Nat.reduceBEq, Nat.reduceLT, Nat.reduceLeDiff, Nat.reduceAdd, Nat.reduceSub, reduceIte]
  refine (p54 c1 _ l hc1 (by omega) l9).call (fun _ => rfl) ?_
  rintro _ c2 hc2 ⟨x, rfl, _⟩
  simp only [EV, Nat.reduceEqDiff, Nat.reduceBEq, Nat.reduceLT, Nat.reduceLeDiff, Nat.reduceAdd, Nat.reduceSub, reduceIte]
  refine (p54 c2 _ l hc2 (by omega) l9).call (fun _ => rfl) ?_
  rintro _ c3 hc3 ⟨y, rfl, _⟩
  simp only [EV, Nat.reduceEqDiff, Nat.reduceBEq, Nat.reduceLT, Nat.reduceLeDiff, Nat.reduceAdd, Nat.reduceSub, reduceIte]
  simp only [EV, Nat.reduceEqDiff, Nat.reduceBEq, Nat.reduceLT, Nat.reduceLeDiff, Nat.reduceAdd, Nat.reduceSub, reduceIte, evRE, retVC, cellV', evR, nfz, nfzs, nfzss, List.contains_nil, List.contains_cons, Bool.or_false, or_true]
  exact ⟨⟨l, x, y, rfl, l9, hs⟩, Or.inl trivial⟩

def extOk (l : List Ty) (a b : Int) : Bool := (lineL l a).contains b

/-- loop.example/g00837/impl.Extends -/
def m15 : MC :=
  (.seq
   (.reg [⟨(some 6), none, .a (.asg (.c (.bool false)))⟩,
     ⟨(some 7), none, .a (.asg (.c (.bool false)))⟩])
   (.seq
    (.seq
     (.reg [⟨(some 8), none, .q (.mov (.t 0))⟩,
       ⟨(some 9), none, .a (.call (.fn 55) false [.lend (.t 8)])⟩,
       ⟨(some 10), none, .q (.un .not (.t 9))⟩,
       ⟨(some 11), none, .q (.mov (.t 10))⟩,
       ⟨(some 12), (some (11, false)), .q (.mov (.t 0))⟩,
       ⟨(some 13), (some (11, false)), .q (.mov (.t 1))⟩,
       ⟨(some 14), (some (11, false)), .a (.call (.fn 56) false [.lend (.t 12), .lend (.t 13)])⟩,
       ⟨(some 15), (some (11, false)), .q (.un .not (.t 14))⟩,
       ⟨(some 16), none, .q (.pick (.t 11) (.c (.bool true)) (.t 15))⟩,
       ⟨(some 17), none, .q (.mov (.t 16))⟩,
       ⟨(some 18), (some (17, false)), .q (.mov (.t 0))⟩,
       ⟨(some 19), (some (17, false)), .q (.mov (.t 2))⟩,
       ⟨(some 20), (some (17, false)), .a (.call (.fn 56) false [.lend (.t 18), .lend (.t 19)])⟩,
       ⟨(some 21), (some (17, false)), .q (.un .not (.t 20))⟩,
       ⟨(some 22), none, .q (.pick (.t 17) (.c (.bool true)) (.t 21))⟩])
     (.cond (.t 22)
      (.seq
       (.reg [⟨(some 6), none, .a (.asg (.c (.bool false)))⟩,
         ⟨(some 7), none, .a (.asg (.c (.bool false)))⟩])
       .ret)
      .skip))
    (.seq
     (.reg [⟨(some 23), none, .q (.mov (.t 0))⟩,
       ⟨(some 24), none, .q (.mov (.t 1))⟩,
       ⟨(some 25), none, .q (.mov (.t 2))⟩,
       ⟨(some 26), none, .a (.call (.fn 57) false [.lend (.t 23), .lend (.t 24), .lend (.t 25)])⟩,
       ⟨(some 6), none, .a (.asg (.t 26))⟩,
       ⟨(some 7), none, .a (.asg (.c (.bool true)))⟩])
     .ret)))

set_option maxRecDepth 100000 in
theorem d15 (l : List Ty) (a b : Int) (hl : (l.length : Int) ≤ 1048576) (hs : ∀ s ∈ l, s.sm) : Does Go.Proofs.Tryz.prog 15 [.fsl 6 (l.map Ty.z), .v (.int .i64 a), .v (.int .i64 b)] false (.tup [.v (.bool (recOk l a && recOk l b && extOk l a b)), .v (.bool (recOk l a && recOk l b))]) [.dead, .dead, .dead] := by
  refine does_intro (mc := m15) (N := 27) (rs := [6, 7]) (fx := []) 3 rfl (by decide +kernel) ?_
  simp only [m15, EV, Nat.reduceEqDiff, Nat.reduceBEq, Nat.reduceLT, Nat.reduceLeDiff, Nat.reduceAdd, Nat.reduceSub, reduceIte]
  refine callK_i (d55 l hl hs) ?_
  simp only [EV, Nat.reduceEqDiff, Nat.reduceBEq, Nat.reduceLT, Nat.reduceLeDiff, Nat.reduceAdd, Nat.reduceSub, reduceIte]
  rcases e : tabOk l with _ | _
  · simp only [Bool.not_false, EV, Nat.reduceEqDiff, Nat.reduceBEq, Nat.reduceLT, Nat.reduceLeDiff, Nat.reduceAdd, Nat.reduceSub, reduceIte]
    simp only [recOk, e, Bool.false_and, EV, Nat.reduceEqDiff, Nat.reduceBEq, Nat.reduceLT, Nat.reduceLeDiff, Nat.reduceAdd, Nat.reduceSub, reduceIte, evRE, retVC, cellV', evR, nfz, nfzs, nfzss, List.contains_nil, List.contains_cons, Bool.or_false, or_true]
  simp only [Bool.not_true, EV, Nat.reduceEqDiff, Nat.reduceBEq, Nat.reduceLT, Nat.reduceLeDiff, Nat.reduceAdd, Nat.reduceSub, reduceIte]
  refine callK_i (d56 l a hl) ?_
  simp only [EV, Nat.reduceEqDiff, Nat.reduceBEq, Nat.reduceLT, Nat.reduceLeDiff, Nat.reduceAdd, Nat.reduceSub, reduceIte]
  rcases e2 : isRec l a with _ | _
  · simp only [Bool.not_false, EV, Nat.reduceEqDiff, Nat.reduceBEq, Nat.reduceLT, Nat.reduceLeDiff, Nat.reduceAdd, Nat.reduceSub, reduceIte]
    simp only [recOk, e, e2, Bool.and_false, Bool.false_and, EV, Nat.reduceEqDiff, Nat.reduceBEq, Nat.reduceLT, Nat.reduceLeDiff, Nat.reduceAdd, Nat.reduceSub, reduceIte, evRE, retVC, cellV', evR, nfz, nfzs, nfzss, List.contains_nil, List.contains_cons, Bool.or_false, or_true]
  simp only [Bool.not_true, EV, Nat.reduceEqDiff, Nat.reduceBEq, Nat.reduceLT, Nat.reduceLeDiff, Nat.reduceAdd, Nat.reduceSub, reduceIte]
  refine callK_i (d56 l b hl) ?_
  simp only [EV, Nat.reduceEqDiff, Nat.reduceBEq, Nat.reduceLT, Nat.reduceLeDiff, Nat.reduceAdd, Nat.reduceSub, reduceIte]
  rcases e3 : isRec l b with _ | _
  · simp only [Bool.not_false, EV, Nat.reduceEqDiff, Nat.reduceBEq, Nat.reduceLT, Nat.reduceLeDiff, Nat.reduceAdd, Nat.reduceSub, reduceIte]
    simp only [recOk, e, e2, e3, Bool.and_false, Bool.false_and, EV, Nat.reduceEqDiff, Nat.reduceBEq, Nat.reduceLT, Nat.reduceLeDiff, Nat.reduceAdd, Nat.reduceSub, reduceIte, evRE, retVC, cellV', evR, nfz, nfzs, nfzss, List.contains_nil, List.contains_cons, Bool.or_false, or_true]
  simp only [Bool.not_true, EV, Nat.reduceEqDiff, Nat.reduceBEq, Nat.reduceLT, Nat.reduceLeDiff, Nat.reduceAdd, Nat.reduceSub, reduceIte]
  refine callK_i (d57 l a b hl e (.inr e2) (isRec_in e3).1) ?_
  simp only [EV, Nat.reduceEqDiff, Nat.reduceBEq, Nat.reduceLT, Nat.reduceLeDiff, Nat.reduceAdd, Nat.reduceSub, reduceIte]
  simp only [recOk, extOk, e, e2, e3, Bool.and_self, Bool.true_and, EV, Nat.reduceEqDiff, Nat.reduceBEq, Nat.reduceLT, Nat.reduceLeDiff, Nat.reduceAdd, Nat.reduceSub, reduceIte, evRE, retVC, cellV', evR, nfz, nfzs, nfzss, List.contains_nil, List.contains_cons, Bool.or_false, or_true]

/-- loop.example/g00837/spec.Extends -/
def m16 : MC :=
  (.seq
   (.reg [⟨(some 6), none, .a (.asg (.c (.bool false)))⟩,
     ⟨(some 7), none, .a (.asg (.c (.bool false)))⟩])
   (.seq
    (.seq
     (.reg [⟨(some 8), none, .q (.mov (.t 0))⟩,
       ⟨(some 9), none, .a (.call (.fn 58) false [.lend (.t 8)])⟩,
       ⟨(some 10), none, .q (.un .not (.t 9))⟩,
       ⟨(some 11), none, .q (.mov (.t 10))⟩,
       ⟨(some 12), (some (11, false)), .q (.mov (.t 0))⟩,
       ⟨(some 13), (some (11, false)), .q (.mov (.t 1))⟩,
       ⟨(some 14), (some (11, false)), .a (.call (.fn 59) false [.lend (.t 12), .lend (.t 13), .lend (.c (.int .i64 5)), .lend (.c (.int .i64 5))])⟩,
       ⟨(some 15), (some (11, false)), .q (.un .not (.t 14))⟩,
       ⟨(some 16), none, .q (.pick (.t 11) (.c (.bool true)) (.t 15))⟩,
       ⟨(some 17), none, .q (.mov (.t 16))⟩,
       ⟨(some 18), (some (17, false)), .q (.mov (.t 0))⟩,
       ⟨(some 19), (some (17, false)), .q (.mov (.t 2))⟩,
       ⟨(some 20), (some (17, false)), .a (.call (.fn 59) false [.lend (.t 18), .lend (.t 19), .lend (.c (.int .i64 5)), .lend (.c (.int .i64 5))])⟩,
       ⟨(some 21), (some (17, false)), .q (.un .not (.t 20))⟩,
       ⟨(some 22), none, .q (.pick (.t 17) (.c (.bool true)) (.t 21))⟩])
     (.cond (.t 22)
      (.seq
       (.reg [⟨(some 6), none, .a (.asg (.c (.bool false)))⟩,
         ⟨(some 7), none, .a (.asg (.c (.bool false)))⟩])
       .ret)
      .skip))
    (.seq
     (.reg [⟨(some 23), none, .q (.mov (.t 0))⟩,
       ⟨(some 24), none, .q (.mov (.t 1))⟩,
       ⟨(some 25), none, .q (.mov (.t 2))⟩,
       ⟨(some 26), none, .a (.call (.fn 60) false [.lend (.t 23), .lend (.t 24), .lend (.t 25)])⟩,
       ⟨(some 6), none, .a (.asg (.t 26))⟩,
       ⟨(some 7), none, .a (.asg (.c (.bool true)))⟩])
     .ret)))

set_option maxRecDepth 100000 in
theorem d16 (l : List Ty) (a b : Int) (hl : (l.length : Int) ≤ 1048576) (hs : ∀ s ∈ l, s.sm) : Does Go.Proofs.Tryz.prog 16 [.fsl 6 (l.map Ty.z), .v (.int .i64 a), .v (.int .i64 b)] false (.tup [.v (.bool (recOk l a && recOk l b && extOk l a b)), .v (.bool (recOk l a && recOk l b))]) [.dead, .dead, .dead] := by
  have e0 : ∀ n, (isNum l n && kd l n == 5) = isRec l n := fun _ => rfl
  refine does_intro (mc := m16) (N := 27) (rs := [6, 7]) (fx := []) 3 rfl (by decide +kernel) ?_
  simp only [m16, EV, Nat.reduceEqDiff, Nat.reduceBEq, Nat.reduceLT, Nat.reduceLeDiff, Nat.reduceAdd, Nat.reduceSub, reduceIte]
  refine callK_i (d58 l hl hs) ?_
  simp only [EV, Nat.reduceEqDiff, Nat.reduceBEq, Nat.reduceLT, Nat.reduceLeDiff, Nat.reduceAdd, Nat.reduceSub, reduceIte]
  rcases e : tabOk l with _ | _
  · simp only [Bool.not_false, EV, Nat.reduceEqDiff, Nat.reduceBEq, Nat.reduceLT, Nat.reduceLeDiff, Nat.reduceAdd, Nat.reduceSub, reduceIte]
    simp only [recOk, e, Bool.false_and, EV, Nat.reduceEqDiff, Nat.reduceBEq, Nat.reduceLT, Nat.reduceLeDiff, Nat.reduceAdd, Nat.reduceSub, reduceIte, evRE, retVC, cellV', evR, nfz, nfzs, nfzss, List.contains_nil, List.contains_cons, Bool.or_false, or_true]
  simp only [Bool.not_true, EV, Nat.reduceEqDiff, Nat.reduceBEq, Nat.reduceLT, Nat.reduceLeDiff, Nat.reduceAdd, Nat.reduceSub, reduceIte]
  refine callK_i (d59 l a 5 5 hl) ?_
  rw [kindIn_same, e0]
  simp only [EV, Nat.reduceEqDiff, Nat.reduceBEq, Nat.reduceLT, Nat.reduceLeDiff, Nat.reduceAdd, Nat.reduceSub, reduceIte]
  rcases e2 : isRec l a with _ | _
  · simp only [Bool.not_false, EV, Nat.reduceEqDiff, Nat.reduceBEq, Nat.reduceLT, Nat.reduceLeDiff, Nat.reduceAdd, Nat.reduceSub, reduceIte]
    simp only [recOk, e, e2, Bool.and_false, Bool.false_and, EV, Nat.reduceEqDiff, Nat.reduceBEq, Nat.reduceLT, Nat.reduceLeDiff, Nat.reduceAdd, Nat.reduceSub, reduceIte, evRE, retVC, cellV', evR, nfz, nfzs, nfzss, List.contains_nil, List.contains_cons, Bool.or_false, or_true]
  simp only [Bool.not_true, EV, Nat.reduceEqDiff, Nat.reduceBEq, Nat.reduceLT, Nat.reduceLeDiff, Nat.reduceAdd, Nat.reduceSub, reduceIte]
  refine callK_i (d59 l b 5 5 hl) ?_
  rw [kindIn_same, e0]
  simp only [EV, Nat.reduceEqDiff, Nat.reduceBEq, Nat.reduceLT, Nat.reduceLeDiff, Nat.reduceAdd, Nat.reduceSub, reduceIte]
  rcases e3 : isRec l b with _ | _
  · simp only [Bool.not_false, EV, Nat.reduceEqDiff, Nat.reduceBEq, Nat.reduceLT, Nat.reduceLeDiff, Nat.reduceAdd, Nat.reduceSub, reduceIte]
    simp only [recOk, e, e2, e3, Bool.and_false, Bool.false_and, EV, Nat.reduceEqDiff, Nat.reduceBEq, Nat.reduceLT, Nat.reduceLeDiff, Nat.reduceAdd, Nat.reduceSub, reduceIte, evRE, retVC, cellV', evR, nfz, nfzs, nfzss, List.contains_nil, List.contains_cons, Bool.or_false, or_true]
  simp only [Bool.not_true, EV, Nat.reduceEqDiff, Nat.reduceBEq, Nat.reduceLT, Nat.reduceLeDiff, Nat.reduceAdd, Nat.reduceSub, reduceIte]
  refine callK_i (d60 l a b hl e (.inr e2)) ?_
  simp only [EV, Nat.reduceEqDiff, Nat.reduceBEq, Nat.reduceLT, Nat.reduceLeDiff, Nat.reduceAdd, Nat.reduceSub, reduceIte]
  simp only [recOk, extOk, e, e2, e3, Bool.and_self, Bool.true_and, EV, Nat.reduceEqDiff, Nat.reduceBEq, Nat.reduceLT, Nat.reduceLeDiff, Nat.reduceAdd, Nat.reduceSub, reduceIte, evRE, retVC, cellV', evR, nfz, nfzs, nfzss, List.contains_nil, List.contains_cons, Bool.or_false, or_true]

end Go.AM
namespace Go.AM
set_option linter.unusedVariables false
set_option linter.unusedSimpArgs false
def fdsAt (l : List Ty) (n : Int) : List Fd := match l[n.toNat]? with
  | some t => t.fields
  | none => []

theorem fdsAt_eq {l : List Ty} {n : Int} (h : n.toNat < l.length) : fdsAt l n = l[n.toNat].fields := by simp [fdsAt, h]

def allL (l : List Ty) : List Int → List Fd
  | [] => []
  | n :: ns => allL l ns ++ fdsAt l n

def allF (l : List Ty) (n : Int) : List Fd := allL l (lineL l n)

theorem allL_app (l : List Ty) : ∀ a b : List Int, allL l (a ++ b) = allL l b ++ allL l a
  | [], b => by simp [allL]
  | n :: a, b => by simp only [List.cons_append, allL]; rw [allL_app l a b, List.append_assoc]

theorem fdsAt_len {l : List Ty} (ht : tysOk l = true) (n : Int) : (fdsAt l n).length ≤ 6 := by
  unfold fdsAt
  split
  · rename_i t h
    obtain ⟨hn, rfl⟩ := List.getElem?_eq_some_iff.1 h
    exact (tysOk_good ht hn).few
  · simp

theorem allL_len {l : List Ty} (ht : tysOk l = true) : ∀ ns : List Int, (allL l ns).length ≤ 6 * ns.length
  | [] => by simp [allL]
  | n :: ns => by
    have h1 := allL_len ht ns
    have h2 := fdsAt_len ht n
    simp only [allL, List.length_append, List.length_cons]
    omega

theorem allF_len {l : List Ty} (ht : tabOk l = true) (n : Int) : (allF l n).length ≤ 150 := by
  have h1 := allL_len (tabOk_tys ht) (lineL l n)
  have h2 := lineL_len l n
  have h3 := tabOk_len ht
  unfold allF
  omega

theorem allF_neg {l : List Ty} {n : Int} (h : n < 0) : allF l n = [] := by unfold allF; rw [lineL_neg h]; rfl

theorem allF_rec {l : List Ty} (ht : tabOk l = true) {n : Int} (h : isRec l n = true) : allF l n = allF l (baseAt l n) ++ fdsAt l n := by
  unfold allF; rw [lineL_rec ht h]; rfl

/-- loop.example/g00837/spec.l10All -/
def m134 : MC :=
  (.seq
   (.reg [⟨(some 4), none, .a (.asg (.nils 97 3))⟩])
   (.seq
    (.seq
     (.reg [⟨(some 5), none, .q (.mov (.t 1))⟩,
       ⟨(some 6), none, .q (.bin false .lss (.t 5) (.c (.int .i64 0)))⟩])
     (.cond (.t 6)
      (.seq
       (.reg [⟨(some 4), none, .a (.asg (.nils 97 3))⟩])
       .ret)
      .skip))
    (.seq
     (.mix [0, 1] [0, 4, 19] [] [0] [1, 2, 3, 4, 5, 7, 8, 9, 10, 11] [0, 6, 12, 13]
       [⟨(some 8), none, .q (.mov (.t 0))⟩,
        ⟨(some 9), none, .q (.mov (.t 1))⟩,
        ⟨(some 10), none, .q (.iad 6 (.t 8) (.t 9))⟩,
        ⟨(some 11), none, .q (.fad 2 (.t 10))⟩,
        ⟨(some 12), none, .q (.load false 1 (.t 11))⟩,
        ⟨(some 14), none, .q (.mov (.t 0))⟩,
        ⟨(some 15), none, .q (.mov (.t 1))⟩,
        ⟨(some 16), none, .q (.iad 6 (.t 14) (.t 15))⟩,
        ⟨(some 17), none, .q (.fad 3 (.t 16))⟩,
        ⟨(some 18), none, .q (.load false 1 (.t 17))⟩]
       [⟨(some 7), none, .q (.mov (.t 0))⟩,
        ⟨(some 13), none, .a (.call (.fn 134) false [.lend (.t 7), .lend (.t 12)])⟩,
        ⟨(some 19), none, .a (.app false 97 3 32 (.t 13) (.t 18))⟩,
        ⟨(some 4), none, .a (.asg (.t 19))⟩])
     .ret)))

set_option maxRecDepth 100000 in
theorem d134 (l : List Ty) (hl : (l.length : Int) ≤ 1048576) (ht : tabOk l = true) : ∀ (k : Nat) (n : Int), (lineL l n).length < k → isL l n → Does Go.Proofs.Tryz.prog 134 [.fsl 6 (l.map Ty.z), .v (.int .i64 n)] false (.usl 97 3 ((allF l n).map Fd.o)) [.dead, .dead]
  | 0, n, h, _ => absurd h (by omega)
  | k + 1, n, h, hn => by
    have ih := d134 l hl ht k
    refine does_intro (mc := m134) (N := 20) (rs := [4]) (fx := []) 2 rfl (by decide +kernel) ?_
    simp only [m134, EV, Nat.reduceEqDiff, Nat.reduceBEq, Nat.reduceLT, Nat.reduceLeDiff, Nat.reduceAdd, Nat.reduceSub, reduceIte]
    refine cK_cut (fun h0 => ?_) (fun h0 => ?_)
    · have h1 : n < 0 := by simpa using h0
      simp only [EV, Nat.reduceEqDiff, Nat.reduceBEq, Nat.reduceLT, Nat.reduceLeDiff, Nat.reduceAdd, Nat.reduceSub, reduceIte]
      simp only [allF_neg h1, List.map_nil, EV, Nat.reduceEqDiff, Nat.reduceBEq, Nat.reduceLT, Nat.reduceLeDiff, Nat.reduceAdd, Nat.reduceSub, reduceIte, evRE, retVC, cellV', evR, nfz, nfzs, nfzss, List.contains_nil, List.contains_cons, Bool.or_false, or_true]
    · have h1 : isRec l n = true := hn.resolve_left (by simpa using h0)
      obtain ⟨g0, g1, gn, _⟩ := isRec_in h1
      have hb := (isRec_base (tabOk_tys ht) h1).1
      have hlr := lineL_rec ht h1
      rw [hlr, List.length_cons] at h
      have hc := ih (baseAt l n) (by omega) hb
      have hbe := baseAt_eq gn
      rw [hbe] at hc
      have hal := allF_len ht n
      have har := allF_rec ht h1
      rw [fdsAt_eq gn, hbe] at har
      rw [har] at hal
      clear h0
      simp only [g0, g1, nth_map gn, Ty.z, EV, Nat.reduceEqDiff, Nat.reduceBEq, Nat.reduceLT, Nat.reduceLeDiff, Nat.reduceAdd, Nat.reduceSub, reduceIte]
      refine callK_i hc ?_
      simp only [List.length_append] at hal
      have he : List.map Fd.o (allF l n) = List.map Fd.o (allF l l[n.toNat].base) ++ List.map Fd.z l[n.toNat].fields := by rw [har, List.map_append]; rfl
      simp only [g0, g1, nth_map gn, Ty.z, EV, Nat.reduceEqDiff, Nat.reduceBEq, Nat.reduceLT, Nat.reduceLeDiff, Nat.reduceAdd, Nat.reduceSub, reduceIte]
      refine ⟨.inl trivial, by omega, by omega, ?_⟩
      rw [← he]
      simp only [Fd.nfz, Fd.frz, EV, Nat.reduceEqDiff, Nat.reduceBEq, Nat.reduceLT, Nat.reduceLeDiff, Nat.reduceAdd, Nat.reduceSub, reduceIte, evRE, retVC, cellV', evR, nfz, nfzs, nfzss, List.contains_nil, List.contains_cons, Bool.or_false, or_true]

end Go.AM
namespace Go.AM
open Go.RowKit
set_option linter.unusedVariables false
set_option linter.unusedSimpArgs false
theorem rows_in {P : Program} {row : String} {args : Array Value} {w : World} {R : Value → World → Prop} {l n : Nat} (h : Rows P row args w R) : RowsIn (Fence.wide.inRound l) n P row args w R :=
  fun c cs _ => let ⟨v, w', r, s⟩ := h c cs; ⟨v, w', r, stepsIn_wide.2 s⟩

theorem op_in {P : Program} {o : Oper} {a : Act} {w : World} {K : Act → World → Prop} {Q : Exit → Act → World → Prop} {l n : Nat} (hd : ∀ c, o.op ≠ .defer c) (hL : ¬ LetsOut Q) (h : o.wp P a w K Q) : o.wpIn (Fence.wide.inRound l) n P a w K Q := by
  refine ⟨fun _ _ => trivial, ?_⟩
  rw [Oper.semAt_eq _ _ _ hd]
  unfold Oper.wp at h
  generalize (execOp a.eval o).run P w = r at h
  cases r with
  | ok x w' =>
    cases x with
    | value v => exact h
    | skip => exact h
    | defer d => exact h
    | enter f args =>
      refine ⟨fun hh => by simp [Fence.wide] at hh, CallsIn.inRound l (callsIn_wide.2 ?_)⟩
      exact h
    | row r args => exact ⟨fun hh => by simp [Fence.wide] at hh, rows_in h⟩
    | _ => exact h.elim
  | halt x w' =>
    cases x with
    | panic v => exact h
    | _ => exact h.elim

theorem any_in {P : Program} {md : Region.Mode} {ops : Array Oper} {Q : Exit → Act → World → Prop} {l n : Nat} (hd : ∀ (i : Nat) (o : Oper) c, ops[i]? = some o → o.op ≠ .defer c) (hL : ¬ LetsOut Q) :
    ∀ (fuel : Nat) (listed : Array Bool) (a : Act) (w : World), wpAny P md ops Q fuel listed a w → wpAnyIn (Fence.wide.inRound l) n P md ops Q fuel listed a w
  | 0, _, _, _, h => h
  | fuel + 1, listed, a, w, h => by
    refine ⟨h.1, fun i hi => ?_⟩
    have := h.2 i hi
    unfold wpOp at this
    unfold wpOpIn
    cases ho : ops[i]? with
    | none => rw [ho] at this; exact any_in hd hL fuel _ _ _ this
    | some o =>
      rw [ho] at this
      simp only at this ⊢
      split
      · rename_i hw
        rw [if_pos hw] at this
        rcases this with this | this
        · exact Oper.wpIn_mono (fun a' w' h' => any_in hd hL fuel _ _ _ h') (op_in (fun c => hd i o c ho) hL this)
        · exact absurd this.2 hL
      · rename_i hw
        rw [if_neg hw] at this
        exact ⟨fun _ _ => trivial, any_in hd hL fuel _ _ _ this⟩

theorem mixt_any {P : Program} {N : Nat} {fx : List Nat} {ops : Array Oper} {Q : Exit → Act → World → Prop} {c : Ctx} {st : St} {a : Act} {w : World} (hfx : ∀ e, c.fx e ≠ none → e ∈ fx) {FL WL RL B fi : List Nat} {fs : List MO} {t : TT} (hm : mixtOk P N fx ops FL WL RL B fi fs t = true) (S : Sim c N st a w) {k : K} (h : mixtV P FL WL RL B fs t k st)
    (hQ : ∀ st a w, Sim c N st a w → k st → Q .normal a w) : P.follows .mixedOrders = true ∧ wpAny P .any ops (fun e a w => e = .normal ∧ Q .normal a w) ops.size (Array.replicate ops.size false) a w.drew := by
  simp only [mixtOk, Bool.and_eq_true] at hm
  obtain ⟨⟨⟨⟨⟨hsel, hfol⟩, hlen⟩, hFW⟩, hRW⟩, hm⟩ := hm
  have S1 : Sim c N st a w.drew := S.world (Ext.drew w [])
  obtain ⟨hB, h⟩ := h
  obtain ⟨hd, hs, own, C⟩ := S1
  have hbare : ∀ k ∈ B, own k = [] := fun k hk => bare_own (st k) (C.rep k) (by simpa using List.all_eq_true.1 hB k hk)
  have hno : ∀ (l : List Nat), notFl B l WL = true → ∀ k ∈ l, ∀ b ∈ own k, b ∉ WL.flatMap own := by
    intro l hl k hk b hb hb2
    obtain ⟨j, hj, hbj⟩ := List.mem_flatMap.1 hb2
    by_cases e : k = j
    · subst e
      have h1 := List.all_eq_true.1 hl k hk
      simp only [Bool.or_eq_true, Bool.not_eq_true', List.contains_eq_mem, decide_eq_true_eq, decide_eq_false_iff_not] at h1
      rcases h1 with h1 | h1
      · exact h1 hj
      · rw [hbare k h1] at hb; simp at hb
    · exact C.dj k j e b hb hbj
  have hdj : ∀ b ∈ FL.flatMap own, b ∉ WL.flatMap own := by
    intro b hb
    obtain ⟨k, hk, hbk⟩ := List.mem_flatMap.1 hb
    exact hno FL hFW k hk b hbk
  have hfx' : ∀ (l : List Nat) e, (ctxL c w.drew own l RL a).fx e ≠ none → e ∈ RL ++ fx := by
    intro l e he
    simp only [ctxL] at he
    split at he
    · rename_i h'; simp [h']
    · have := hfx e he; simp [this]
  have hslots : ∀ l, Slots (ctxL c w.drew own l RL a) N a := by
    intro l
    refine ⟨hs.1, ?_⟩
    intro k v hk
    simp only [ctxL] at hk
    split at hk
    · simpa using hk
    · exact hs.2 k v hk
  have SW : Sim (ctxL c w.drew own WL RL a) N (keepL WL st) a w.drew := ⟨hd, hslots WL, _, core_part C WL RL⟩
  refine ⟨hfol, wpAny_of_held (S := held w.drew (WL.flatMap own)) _ _ _ _ ?_⟩
  · have hsz : ops.size = fi.length + t.sz := by simp only [beq_iff_eq] at hlen; exact hlen.symm
    show wpAnyH P .any ops _ _ ops.size (Array.replicate ops.size false) a w.drew
    have key := f_sound (Q := fun e a w => e = .normal ∧ Q .normal a w) (n := t.sz) C (hfx' FL) hsel (by rintro _ _ _ ⟨h, _⟩; cases h) hdj
      (kk := fun _ sW => ttV P (fun s3 => k (backS RL st s3)) t sW) (F := fun listed => (headsOk ops listed t && ttOk P N (RL ++ fx) ops t listed))
      (fun listed a' sF sW hF SW' h' => tt_sound (cW := ctxL c w.drew own WL RL a) rfl rfl (hfx' WL) hsel (k := fun s3 => k (backS RL st s3))
        (fun s3 a3 w3 S3 h3 => ⟨rfl, hQ _ _ _ (back_sound C hs (hno RL hRW) S3) h3⟩) (by rintro _ _ _ ⟨h, _⟩; cases h) t.sz t listed sW a' _ rfl (by simp only [Bool.and_eq_true] at hF; exact hF.1) (by simp only [Bool.and_eq_true] at hF; exact hF.2) SW' h')
      fi fs (Array.replicate ops.size false) (keepL FL st) (keepL WL st) a (ownL FL own) hm (core_part C FL RL) (fun b hb => ownL_mem.2 hb) SW h
    rw [← hsz] at key
    exact key

theorem mixt_round {P : Program} {N : Nat} {fx : List Nat} {ops : Array Oper} {Q : Exit → Act → World → Prop} {c : Ctx} {l n id : Nat} {st : St} {a : Act} {w : World} (hd : ∀ (i : Nat) (o : Oper) c, ops[i]? = some o → o.op ≠ .defer c) (hfx : ∀ e, c.fx e ≠ none → e ∈ fx) {FL WL RL B fi : List Nat} {fs : List MO} {t : TT} (hm : mixtOk P N fx ops FL WL RL B fi fs t = true) (S : Sim c N st a w) {k : K} (h : mixtV P FL WL RL B fs t k st)
    (hQ : ∀ st a w, Sim c N st a w → k st → Q .normal a w) : (Code.region id ops true).wpIn (Fence.wide.inRound l) n P Q a w := by
  obtain ⟨hf, h⟩ := mixt_any hfx hm S h hQ
  refine wpIn_mono (Q := fun e a w => e = .normal ∧ Q .normal a w) ?_ ?_
  · exact wpIn_region_any hf (any_in hd (by rintro ⟨_, _, h, _⟩; cases h) _ _ _ _ h)
  · rintro e a w ⟨rfl, h⟩; exact h

end Go.AM
namespace Go.Proofs.Backw
open Go Go.RowKit Go.Shelf Go.Proofs
attribute [local go_sem] Oper.semAt_some
set_option linter.unusedVariables false
set_option linter.unusedSimpArgs false

/-- What has come when k rounds are over. -/
def upto {α : Type} (f : Nat → α) (k : Nat) : List α := (List.range k).map f
theorem upto_succ {α : Type} (f : Nat → α) (k : Nat) : upto f (k + 1) = upto f k ++ [f k] := by simp [upto, List.range_succ]
theorem upto_length {α : Type} (f : Nat → α) (k : Nat) : (upto f k).length = k := by simp [upto]
/-- The slice of ints, and the box that holds it. -/
def Rd (Bs b off len cap : Nat) (zs : List Int) (W : World) : Prop := W.cell? ⟨Bs, 0, none⟩ = some (.slice (some ⟨b, off, none⟩) len cap) ∧ ∀ j, j < len → W.cell? ⟨b, off + j, none⟩ = some (.int .i64 (zs[j]?.getD 0))

set_option maxRecDepth 100000 in
set_option maxHeartbeats 2000000 in
theorem back1_in (F : Fence) (n : Nat) (h7 : F.fn 200) (hro : F.round = none) (hn : 1 ≤ n) (l Bs b off len cap : Nat) (zs : List Int) {α : Type} (encs : α → Array Value) (f : Nat → α)
    (hf : ∀ k j, j + k + 1 = len → encs (f k) = #[.int .i64 (j : Int), .int .i64 (zs[j]?.getD 0)]) (hreach : len * 8 ≤ 140737488351232) (J Jx : List α → World → Prop)
    (hY : ∀ pre x W, J pre W → pre.length < len → YieldAt F (n - 1) Tryz.prog l (encs x) W fun e W' =>
      (e = .returned (.bool true) ∧ J (pre ++ [x]) W' ∧ (Rd Bs b off len cap zs W → Rd Bs b off len cap zs W')) ∨ (e = .returned (.bool false) ∧ Jx (pre ++ [x]) W'))
    (W : World) (hR : Rd Bs b off len cap zs W) (h0 : J [] W) :
    CallsIn F n Tryz.prog 200 #[.func (.yield l) #[] #[], .pointer (some ⟨Bs, 0, none⟩)] W fun e W' => (∃ v, e = .returned v) ∧
      ((∃ ys, ys = upto f len ∧ J ys W') ∨ (∃ pre, (∃ k, k ≤ len ∧ pre = upto f k) ∧ Jx pre W')) := by
  refine callsIn_of_wp Tryz.func200 rfl h7 ?_ hro
  simp only [Tryz.ntmps200, List.size_toArray, List.length_cons, List.length_nil, Nat.reduceAdd, Nat.reduceSub, Array.replicate_succ, Array.replicate_zero, List.push_toArray, List.append_toArray, List.nil_append, List.cons_append]
  have hBs := hR.1
  gi_wp2
  gi_loopw [3] (fun i wr => ∃ k : Nat, k ≤ len ∧ i = .int .i64 ((len : Int) - 1 - (k : Int)) ∧ J (upto f k) wr ∧ Rd Bs b off len cap zs wr)
    (fun i _ => (intOf i + 1).toNat)
  case atStart => exact ⟨0, Nat.zero_le _, by simp, h0, hR⟩
  case round =>
    obtain ⟨k, hk, rfl, hJs, hR1, hR2⟩ := hrel
    by_cases hlt : k < len
    · obtain ⟨j, hj⟩ : ∃ j, j + k + 1 = len := ⟨len - k - 1, by omega⟩
      have hcx := hR2 j (by omega)
      obtain ⟨fn, tmps, assign, body, hy, hRR⟩ := hY _ (f k) wr hJs (by rw [upto_length]; exact hlt)
      rw [hf k j hj] at hy
      have hi : (len : Int) - 1 - (k : Int) = (j : Int) := by omega
      rw [hi]
      have hjl : j < len := by omega
      gi_wp2
      refine hRR.mono ?_
      rintro e W3 (⟨rfl, hJ3, hk3⟩ | ⟨rfl, hJx3⟩)
      · gi_wp2
        go_roundw
        case rel => exact ⟨k + 1, by omega, by simp; omega, by rw [upto_succ]; exact hJ3, hk3 ⟨hR1, hR2⟩⟩
        case measure => simp [intOf]
      · gi_wp2
        refine bodyPost_ret (results_none rfl _ _ _) rfl ?_
        exact ⟨⟨_, rfl⟩, .inr ⟨_, ⟨k + 1, by omega, (upto_succ _ _).symm⟩, hJx3⟩⟩
    · obtain rfl : k = len := by omega
      have hi : (k : Int) - 1 - (k : Int) = -1 := by omega
      rw [hi]
      gi_wp2
      go_end0
      exact ⟨⟨_, rfl⟩, .inl ⟨_, rfl, hJs⟩⟩

set_option maxHeartbeats 1000000 in
theorem back_in (F : Fence) (n : Nat) (h5 : F.fn 132) (hro : F.round = none) (a : Option Addr) (len cap : Nat) (w : World) :
    CallsIn F n Tryz.prog 132 #[.slice a len cap] w fun e w' => e = .returned (.func (.func 200) #[] #[.pointer (some ⟨w.heap.size, 0, none⟩)]) ∧ w' = w.alloc (.cells #[.slice a len cap] 46) := by
  refine callsIn_of_wp Tryz.func132 rfl h5 ?_ hro
  simp only [Tryz.ntmps132, List.size_toArray, List.length_cons, List.length_nil, Nat.reduceAdd, Nat.reduceSub, Array.replicate_succ, Array.replicate_zero, List.push_toArray, List.append_toArray, List.nil_append, List.cons_append]
  gi_wp2
  go_ret
  exact ⟨rfl, rfl⟩

/-- What it hands back: a function to range over. -/
theorem back_stops (F : Fence) (n : Nat) (h7 : F.fn 200) (hro : F.round = none) (hn : 1 ≤ n) (Bs b off len cap : Nat) (zs : List Int) {α : Type} (encs : α → Array Value) (f : Nat → α)
    (hf : ∀ k j, j + k + 1 = len → encs (f k) = #[.int .i64 (j : Int), .int .i64 (zs[j]?.getD 0)]) (hreach : len * 8 ≤ 140737488351232) (w : World) (hBs : Bs < w.heap.size) (hb : b < w.heap.size) (hR : Rd Bs b off len cap zs w) :
    SeqStopsK F n Tryz.prog 200 #[.pointer (some ⟨Bs, 0, none⟩)] encs (fun A B => Rd Bs b off len cap zs A → Rd Bs b off len cap zs B) (fun ys => ys = upto f len) (fun _ => True) len w := fun l J Jx W hW _ _ hY h0 => by
  have hR' : Rd Bs b off len cap zs W := ⟨(hW.cell (p := ⟨Bs, 0, none⟩) hBs).trans hR.1, fun j hj => (hW.cell (p := ⟨b, off + j, none⟩) hb).trans (hR.2 j hj)⟩
  refine (back1_in F n h7 hro hn l Bs b off len cap zs encs f hf hreach J Jx hY W hR' h0).mono ?_
  rintro e W' ⟨he, ⟨ys, rfl, hj⟩ | ⟨pre, _, hj⟩⟩
  · exact ⟨he, .inl ⟨_, rfl, hj⟩⟩
  · exact ⟨he, .inr ⟨_, trivial, hj⟩⟩
end Go.Proofs.Backw

namespace Go.Proofs.AllF
open Go Go.AM Go.RowKit Go.Shelf Go.Proofs Go.Proofs.Backw
attribute [local go_sem] Oper.semAt_some
set_option linter.unusedVariables false
set_option linter.unusedSimpArgs false

theorem rows_iv {w : World} {Fz : Nat → Prop} : ∀ {zs : List Int} {xs : List Value} {o : List Nat}, RepRows w Fz 1 (zs.map iv) xs o → xs = zs.map (fun k => Value.int .i64 k) ∧ o = []
  | [], xs, o, h => by simpa [RepRows] using h
  | z :: zs, xs, o, h => by
    simp only [List.map_cons, RepRows] at h
    obtain ⟨x1, x2, o1, o2, rfl, rfl, _, hr, hrs⟩ := h
    obtain ⟨rfl, rfl⟩ := rows_iv hrs
    simp only [iv, RepRow, RepC] at hr
    obtain ⟨x, xs', o3, o4, rfl, rfl, ⟨rfl, _, rfl⟩, rfl, rfl⟩ := hr
    exact ⟨rfl, rfl⟩
theorem keepW {w w' : World} {Fz : Nat → Prop} {av : AV} {x : Value} (hlt : ∀ b, Fz b → b < w.heap.size) (hE : Ext w w' []) (h : RepC w Fz av x []) : RepC w' Fz av x [] :=
  h.keep _ _ _ ⟨fun b hb => ⟨hb, hE.blk b (hlt b hb) (by simp)⟩, fun b hb => by simp at hb⟩

/-- What a round is handed: the index, and the number of a type. -/
def InT (l : List Ty) : Type := { x : Int × Int // 0 ≤ x.2 ∧ x.2.toNat < l.length }
def flds (l : List Ty) (pre : List (InT l)) : List Go.AM.Fd := pre.flatMap fun x => fdsAt l x.1.2
theorem flds_snoc (l : List Ty) (pre : List (InT l)) (x : InT l) : flds l (pre ++ [x]) = flds l pre ++ fdsAt l x.1.2 := by simp [flds]
theorem flds_len {l : List Ty} (ht : tysOk l = true) : ∀ pre : List (InT l), (flds l pre).length ≤ 6 * pre.length
  | [] => by simp [flds]
  | x :: pre => by
    have h1 := flds_len ht pre
    have h2 := fdsAt_len ht x.1.2
    simp only [flds, List.flatMap_cons, List.length_append, List.length_cons] at h1 ⊢
    omega
theorem rows_fd {w : World} {Fz : Nat → Prop} : ∀ {fs : List Go.AM.Fd} {xs : List Value} {o : List Nat}, RepRows w Fz 3 (fs.map Go.AM.Fd.o) xs o → o = []
  | [], xs, o, h => by simp only [List.map_nil, RepRows] at h; exact h.2
  | f :: fs, xs, o, h => by
    simp only [List.map_cons, RepRows] at h
    obtain ⟨x1, x2, o1, o2, rfl, rfl, _, hr, hrs⟩ := h
    rw [rows_fd hrs, List.append_nil]
    simp only [Go.AM.Fd.o, RepRow, RepC] at hr
    obtain ⟨_, _, _, _, rfl, rfl, ⟨_, _, rfl⟩, _, _, _, _, rfl, rfl, ⟨_, _, rfl⟩, _, _, _, _, rfl, rfl, ⟨_, _, rfl⟩, _, rfl⟩ := hr
    rfl
/-- Whatever is owned here is cells. -/
theorem own_cells {w : World} {Fz : Nat → Prop} {fs : List Go.AM.Fd} {x : Value} {o : List Nat} (h : RepC w Fz (.box 38 [.usl 97 3 (fs.map Go.AM.Fd.o)]) x o) : ∀ b ∈ o, ∃ cur e p, w.heap[b]? = some (.cells cur e p) := by
  simp only [RepC, RepRow] at h
  obtain ⟨g, xs, o', rfl, rfl, hg, y, ys, o1, o2, rfl, rfl, hu, rfl, rfl⟩ := h
  intro b hb
  rcases List.mem_cons.1 hb with rfl | hb
  · exact ⟨_, _, _, hg⟩
  · simp only [List.append_nil] at hb
    rcases hu with ⟨_, _, rfl⟩ | ⟨g2, h2, c, cur, vs, o3, _, rfl, hg2, _, _, hr, _⟩
    · simp at hb
    · rw [rows_fd hr] at hb
      simp only [List.mem_singleton] at hb
      subst hb
      exact ⟨_, _, _, hg2⟩

def noF : Nat → Prop := fun _ => False
/-- Between two rounds. -/
def LI (B : Nat) (w6 : World) (l : List Ty) (pre : List (InT l)) (W : World) : Prop := ∃ o5, RepC W noF (.box 38 [.usl 97 3 ((flds l pre).map Go.AM.Fd.o)]) (.pointer (some ⟨B + 1 + 1, 0, none⟩)) o5 ∧ o5.Nodup ∧
  (∀ b ∈ o5, (b = B + 1 + 1 ∨ b = B + 1 ∨ w6.heap.size ≤ b) ∧ b < W.heap.size) ∧ Ext w6 W [B + 1 + 1, B + 1]
theorem LI_own (B : Nat) (w6 : World) (l : List Ty) : OwnFrom w6.heap.size (LI B w6 l) := by
  rintro s W W' row ⟨o5, h1, h2, h3, h4⟩ hg hr
  have hsame : ∀ b, b < W.heap.size → (∀ r, row = some r → b ≠ r) → W'.heap[b]? = W.heap[b]? := fun b hb hn => hg.block b hb (by intro e; exact hn b e.symm rfl)
  refine ⟨o5, h1.keep _ _ _ ⟨fun b hb => hb.elim, fun b hb => hsame b (h3 b hb).2 ?_⟩, h2, fun b hb => ⟨(h3 b hb).1, Nat.lt_of_lt_of_le (h3 b hb).2 hg.size⟩, ⟨hg.os.trans h4.os, hg.tape.trans h4.tape, hg.output.trans h4.output, Nat.le_trans h4.size hg.size, fun b hb hn => (hsame b (Nat.lt_of_lt_of_le hb h4.size) ?_).trans (h4.blk b hb hn)⟩⟩
  · rintro r e rfl
    obtain ⟨_, o, ho, hc⟩ := hr b e
    obtain ⟨cur, e', p, hcur⟩ := own_cells h1 b hb
    rw [hcur] at ho
    cases ho
    simp [Obj.isCells] at hc
  · rintro r e rfl
    have := (hr b e).1
    omega
theorem Rd_of {Bs b off len cap : Nat} {zs : List Int} {W W' : World} (h1 : W'.heap[Bs]? = W.heap[Bs]?) (h2 : W'.heap[b]? = W.heap[b]?) (h : Rd Bs b off len cap zs W) : Rd Bs b off len cap zs W' := by
  refine ⟨?_, fun j hj => ?_⟩
  · rw [World.cell?_of_block (w := W) h1]; exact h.1
  · rw [World.cell?_of_block (w := W) h2]; exact h.2 j hj
/-- How the body of a round is read. -/
def bCtx (W : World) (F0 : Nat → Prop) (o5 : List Nat) (v5 : Value) : Ctx := { w0 := W, Fz := F0, own0 := o5, fx := fun e => if e = 5 then some v5 else none }
def bSt (l : List Ty) (fs : List Go.AM.Fd) (k : Int) : St := stl [(2, .fptr [.fsl 6 (l.map Ty.z)]), (5, .box 38 [.usl 97 3 (fs.map Go.AM.Fd.o)]), (7, .v (.int .i64 k))]
theorem bSim' {l : List Ty} {fs : List Go.AM.Fd} {k : Int} {W : World} {F0 : Nat → Prop} {o5 : List Nat} {a : Act} (hd : a.defers = []) (hn : a.tmps.size = 23) (h2 : RepC W F0 (.fptr [.fsl 6 (l.map Ty.z)]) (tmOf a 2) []) (h5 : RepC W noF (.box 38 [.usl 97 3 (fs.map Go.AM.Fd.o)]) (tmOf a 5) o5)
    (h7 : tmOf a 7 = .int .i64 k) (hnd : o5.Nodup) (hlt : ∀ b ∈ o5, b < W.heap.size ∧ ¬ F0 b) (hF : ∀ b, F0 b → b < W.heap.size) : Sim (bCtx W F0 o5 (tmOf a 5)) 23 (bSt l fs k) a W := by
  refine ⟨hd, ⟨hn, fun k v h => ?_⟩, fun k => if k = 5 then o5 else [], Ext.refl _ _, fun k' => ?_, fun k => ?_, fun j k hjk b hb => ?_, by simp, by simp, ?_⟩
  · simp only [bCtx] at h
    split at h
    · rename_i e; subst e; exact Option.some.inj h
    · cases h
  · have hfz : ∀ b, F0 b → frz (bCtx W F0 o5 (tmOf a 5)) W (owned (fun k => if k = 5 then o5 else []) []) b := by
      intro b hb
      refine ⟨hF b hb, .inr (.inl hb), ?_⟩
      rintro (⟨k, hk⟩ | hk)
      · simp only at hk
        split at hk
        · exact (hlt b hk).2 hb
        · simp at hk
      · simp at hk
    by_cases e2 : k' = 2
    · subst e2
      exact (h2.keep (w' := W) (Fz' := frz (bCtx W F0 o5 (tmOf a 5)) W (owned (fun k => if k = 5 then o5 else []) [])) _ _ _ ⟨fun b hb => ⟨hfz b hb, rfl⟩, fun _ _ => rfl⟩).toV
    by_cases e5 : k' = 5
    · subst e5
      exact (h5.keep (w' := W) (Fz' := frz (bCtx W F0 o5 (tmOf a 5)) W (owned (fun k => if k = 5 then o5 else []) [])) _ _ _ ⟨fun b hb => hb.elim, fun _ _ => rfl⟩).toV
    by_cases e7 : k' = 7
    · subst e7
      rw [h7]
      simp [bSt, stl, RepV, RepC, Value.oneCell']
    · simp [bSt, stl, e2, e5, e7, RepV]
  · by_cases e : k = 5
    · simp [e, hnd]
    · simp [e]
  · by_cases e : j = 5
    · have hk : k ≠ 5 := fun h => hjk (e.trans h.symm)
      simp [hk]
    · simp [e] at hb
  · rintro b (⟨k, hk⟩ | hk)
    · simp only at hk
      split at hk
      · exact ⟨.inl hk, (hlt b hk).1⟩
      · simp at hk
    · simp at hk
theorem bSim {l : List Ty} {fs : List Go.AM.Fd} {k : Int} {W : World} {F0 : Nat → Prop} {o5 : List Nat} {a : Act} {v2 v5 : Value} (hd : a.defers = []) (hn : a.tmps.size = 23) (e2 : tmOf a 2 = v2) (e5 : tmOf a 5 = v5) (h7 : tmOf a 7 = .int .i64 k) (h2 : RepC W F0 (.fptr [.fsl 6 (l.map Ty.z)]) v2 []) (h5 : RepC W noF (.box 38 [.usl 97 3 (fs.map Go.AM.Fd.o)]) v5 o5)
    (hnd : o5.Nodup) (hlt : ∀ b ∈ o5, b < W.heap.size ∧ ¬ F0 b) (hF : ∀ b, F0 b → b < W.heap.size) : Sim (bCtx W F0 o5 v5) 23 (bSt l fs k) a W := by
  subst e2 e5
  exact bSim' hd hn h2 h5 h7 hnd hlt hF
end Go.Proofs.AllF

namespace Go.Proofs.AllF
open Go Go.AM Go.RowKit Go.Shelf Go.Proofs Go.Proofs.Backw
attribute [local go_sem] Oper.semAt_some
set_option linter.unusedVariables false
set_option linter.unusedSimpArgs false

def noDef (ops : Array Oper) : Bool := ops.all fun o => match o.op with
  | .defer _ => false
  | _ => true
theorem noDef_spec {ops : Array Oper} (h : noDef ops = true) (i : Nat) (o : Oper) (c : Call) (ho : ops[i]? = some o) : o.op ≠ .defer c := by
  intro e
  simp only [noDef, Array.all_eq_true] at h
  obtain ⟨hi, rfl⟩ := Array.getElem?_eq_some_iff.1 ho
  have := h i hi
  rw [e] at this
  simp at this
theorem allL_rev (l : List Ty) : ∀ zs : List Int, allL l zs = zs.reverse.flatMap (fdsAt l)
  | [] => rfl
  | z :: zs => by simp [allL, allL_rev l zs]
theorem flds_all {l : List Ty} {zs : List Int} {fr : Nat → InT l} (h : ∀ k, (fr k).1.2 = zs[zs.length - 1 - k]?.getD 0) : flds l (upto fr zs.length) = allL l zs := by
  have e : (upto fr zs.length).map (fun x => x.1.2) = zs.reverse := by
    apply List.ext_getElem
    · simp [upto]
    · intro i h1 h2
      have hi : i < zs.length := by simpa using h2
      have hj : zs.length - 1 - i < zs.length := by omega
      simp [upto, h, List.getElem_reverse, hj]
  rw [allL_rev, ← e, List.flatMap_map]
  rfl
def bodyT : TT := .alt (.step 0 ⟨(some 15), none, .q (.load false 1 (.t 5))⟩
           (.step 1 ⟨(some 16), none, .q (.load false 1 (.t 2))⟩
            (.step 3 ⟨(some 18), none, .q (.iad 6 (.t 16) (.t 17))⟩
             (.step 4 ⟨(some 19), none, .q (.fad 3 (.t 18))⟩
              (.step 5 ⟨(some 20), none, .q (.load false 1 (.t 19))⟩
               (.step 6 ⟨(some 21), none, .a (.app false 97 3 32 (.t 15) (.t 20))⟩
                (.step 7 ⟨none, none, .a (.store 1 (.t 5) (.t 21))⟩
                 .nil)))))))
           (.step 1 ⟨(some 16), none, .q (.load false 1 (.t 2))⟩
           (.step 3 ⟨(some 18), none, .q (.iad 6 (.t 16) (.t 17))⟩
            (.step 4 ⟨(some 19), none, .q (.fad 3 (.t 18))⟩
             (.alt (.step 0 ⟨(some 15), none, .q (.load false 1 (.t 5))⟩
              (.step 5 ⟨(some 20), none, .q (.load false 1 (.t 19))⟩
               (.step 6 ⟨(some 21), none, .a (.app false 97 3 32 (.t 15) (.t 20))⟩
                (.step 7 ⟨none, none, .a (.store 1 (.t 5) (.t 21))⟩
                 .nil))))
              (.step 5 ⟨(some 20), none, .q (.load false 1 (.t 19))⟩
              (.step 0 ⟨(some 15), none, .q (.load false 1 (.t 5))⟩
               (.step 6 ⟨(some 21), none, .a (.app false 97 3 32 (.t 15) (.t 20))⟩
                (.step 7 ⟨none, none, .a (.store 1 (.t 5) (.t 21))⟩
                 .nil))))))))
def bodyM : MC := .mixt [7] [2, 5] [] [] [2] [⟨(some 17), none, .q (.mov (.t 7))⟩] bodyT
set_option maxRecDepth 100000 in
/-- What a round does. -/
theorem body_awp {l : List Ty} {fs : List Go.AM.Fd} {k : Int} (h0 : 0 ≤ k) (h1 : k.toNat < l.length) (hl : fs.length + (fdsAt l k).length ≤ 1000) :
    awp Tryz.prog bodyM (fun e st => st 5 = .box 38 [.usl 97 3 ((fs ++ fdsAt l k).map Go.AM.Fd.o)]) (bSt l fs k) := by
  have h2 : k < (l.length : Int) := by omega
  have he : (fs ++ fdsAt l k).map Go.AM.Fd.o = fs.map Go.AM.Fd.o ++ l[k.toNat].fields.map Go.AM.Fd.z := by rw [fdsAt_eq h1, List.map_append]; rfl
  rw [fdsAt_eq h1] at hl
  simp only [he, bodyM, bodyT, bSt, h0, h1, h2, nth_map h1, Ty.z, EV, Nat.reduceEqDiff, Nat.reduceBEq, Nat.reduceLT, Nat.reduceLeDiff, Nat.reduceAdd, Nat.reduceSub, reduceIte]
  exact ⟨.inl trivial, by omega, by omega⟩

set_option maxRecDepth 100000 in
set_option maxHeartbeats 2000000 in
theorem c64 (l : List Ty) (n : Int) (hl : (l.length : Int) ≤ 1048576) (ht : tabOk l = true) (hr : isRec l n = true) : Con Tryz.prog 64 [.fsl 6 (l.map Ty.z), .v (.int .i64 n)] false (.usl 97 3 ((allF l n).map Go.AM.Fd.o)) [.dead, .dead] := by
  intro w Fz xs os hrep hos hfz hlt
  simp only [RepVs] at hrep
  obtain ⟨sv, _, o1, _, rfl, rfl, h1, _, _, o2, _, rfl, rfl, h2, rfl, rfl⟩ := hrep
  simp only [RepV] at h1 h2
  have h1' := h1
  simp only [RepC] at h1 h2
  obtain ⟨rfl, A, cap, rfl, hcap, hA⟩ := h1
  obtain ⟨rfl, _, rfl⟩ := h2
  refine callsIn_wide (n := 9).1 (callsIn_of_wp_marks Tryz.func64 rfl trivial ?_ rfl)
  simp only [Tryz.ntmps64, List.size_toArray, List.length_cons, List.length_nil, Nat.reduceAdd, Nat.reduceSub, Array.replicate_succ, Array.replicate_zero, List.push_toArray, List.append_toArray, List.nil_append, List.cons_append]
  obtain ⟨w4, hw4⟩ : ∃ w4, (((w.alloc (Obj.cells #[Value.slice A l.length cap] 24)).alloc (Obj.cells #[] 97)).alloc (Obj.cells #[Value.slice (some { block := w.heap.size + 1, off := 0 }) 0 0] 38)) = w4 := ⟨_, rfl⟩
  have hE4 : Ext w w4 [] := by
    rw [← hw4]
    exact ((Ext.alloc _ _ _).trans (Ext.alloc _ [] _) (by simp)).trans (Ext.alloc _ [] _) (by simp)
  have hs4 : w4.heap.size = w.heap.size + 3 := by rw [← hw4]; simp
  have hb2 : w4.heap[w.heap.size]? = some (.cells #[Value.slice A l.length cap] 24) := by
    rw [← hw4]
    rw [Below.heap_alloc _ _ _ (by simp; omega), Below.heap_alloc _ _ _ (by simp)]
    exact World.alloc_heap_new _ _
  have hb3 : w4.heap[w.heap.size + 1]? = some (.cells #[] 97) := by
    rw [← hw4]
    rw [Below.heap_alloc _ _ _ (by simp)]
    have := World.alloc_heap_new (w.alloc (Obj.cells #[Value.slice A l.length cap] 24)) (.cells #[] 97)
    rwa [World.size_alloc] at this
  have hb5 : w4.heap[w.heap.size + 1 + 1]? = some (.cells #[Value.slice (some { block := w.heap.size + 1, off := 0 }) 0 0] 38) := by
    rw [← hw4]
    have := World.alloc_heap_new ((w.alloc (Obj.cells #[Value.slice A l.length cap] 24)).alloc (.cells #[] 97)) (Obj.cells #[Value.slice (some { block := w.heap.size + 1, off := 0 }) 0 0] 38)
    rwa [World.size_alloc, World.size_alloc] at this
  have hline := (d133 l n hl ht (.inr hr)).2 w4 Fz [Value.slice A l.length cap, Value.int IntKind.i64 n] [] ⟨_, _, [], [], rfl, rfl, (keepW hlt hE4 (by simpa using h1')).toV, _, _, [], [], rfl, rfl, by simp [RepV, RepC, Value.oneCell'], rfl, rfl⟩ List.nodup_nil (by simp) (fun b hb => by have := hlt b hb; omega)
  have hc2 : w4.cell? ⟨w.heap.size, 0, none⟩ = some (Value.slice A l.length cap) := by rw [cell_of_cells hb2]; rfl
  gi_wp2
  refine ⟨trivial, (callsIn_wide.2 hline).mono ?_⟩
  rintro e w5 ⟨x, ox, oo, rfl, hE5, hx, ho, hnd, hold⟩
  simp only [RepV] at hx
  have hlr := lineL_rec ht hr
  obtain ⟨zs, hzs⟩ : ∃ zs, lineL l n = zs := ⟨_, rfl⟩
  rw [hzs] at hx
  have hz0 : zs ≠ [] := by rw [← hzs, hlr]; simp
  simp only [RepC] at hx
  rcases hx with ⟨_, hx, _⟩ | ⟨g, h, c, cur, vs, o', rfl, rfl, hg, hc, hfit, hrw, hat⟩
  · exact absurd (List.map_eq_nil_iff.1 hx) hz0
  obtain ⟨rfl, rfl⟩ := rows_iv hrw
  simp only [List.length_map, Nat.mul_one] at hat ⊢
  gi_wp2
  refine ⟨trivial, (back_in Fence.wide _ trivial rfl _ _ _ _).mono ?_⟩
  rintro e w6 ⟨rfl, hw6⟩
  gi_wp2
  rw [← hw6]
  have hE56 : Ext w5 w6 [] := by rw [hw6]; exact Ext.alloc _ _ _
  have hE46 : Ext w4 w6 [] := hE5.trans hE56 (by simp)
  have hE6 : Ext w w6 [] := hE4.trans hE46 (by simp)
  have hs6 : w6.heap.size = w5.heap.size + 1 := by rw [hw6]; simp
  have hg5 : g < w5.heap.size := (hold g (by simp)).2
  have hg4 : w4.heap.size ≤ g := by rcases (hold g (by simp)).1 with h | h; simp at h; exact h
  have hs5 := hE5.size
  have hbs : w6.heap[w5.heap.size]? = some (.cells #[Value.slice (some { block := g, off := h }) zs.length c] 46) := by rw [hw6]; exact World.alloc_heap_new _ _
  have hRd : Rd w5.heap.size g h zs.length c zs w6 := by
    refine ⟨by rw [cell_of_cells hbs]; rfl, fun j hj => ?_⟩
    have := (hat.of_block (hE56.blk g hg5 (by simp))) j (.int .i64 zs[j]) (by simp [hj])
    rw [this]; simp [hj]
  have c2 : w6.heap[w.heap.size]? = some (Obj.cells #[Value.slice A l.length cap] 24) := (hE46.blk _ (by omega) (by simp)).trans hb2
  have c3 : w6.heap[w.heap.size + 1]? = some (.cells #[] 97) := (hE46.blk _ (by omega) (by simp)).trans hb3
  have c5 : w6.heap[w.heap.size + 1 + 1]? = some (Obj.cells #[Value.slice (some { block := w.heap.size + 1, off := 0 }) 0 0] 38) := (hE46.blk _ (by omega) (by simp)).trans hb5
  have h0 : LI w.heap.size w6 l [] w6 := by
    refine ⟨[w.heap.size + 1 + 1, w.heap.size + 1], ?_, by simp, ?_, Ext.refl _ _⟩
    · simp only [RepC, RepRow]
      refine ⟨_, [Value.slice (some { block := w.heap.size + 1, off := 0 }) 0 0], [w.heap.size + 1], rfl, rfl, c5, _, [], [w.heap.size + 1], [], rfl, rfl, .inr ⟨w.heap.size + 1, 0, 0, #[], [], [], by simp [flds], rfl, c3, by simp [flds], by simp, by simp [flds, RepRows], ?_⟩, rfl, rfl⟩
      intro j u hj; simp at hj
    · intro b hb
      simp only [List.mem_cons, List.not_mem_nil, or_false] at hb
      rcases hb with rfl | rfl
      · exact ⟨.inl rfl, by omega⟩
      · exact ⟨.inr (.inl rfl), by omega⟩
  let F0 : Nat → Prop := fun b => Fz b ∨ b = w.heap.size
  have hF0 : ∀ b, F0 b → b < w.heap.size + 1 := by rintro b (h | rfl); exact Nat.lt_succ_of_lt (hlt b h); omega
  have hl6 : RepC w6 Fz (.fsl 6 (l.map Ty.z)) (Value.slice A l.length cap) [] := keepW hlt hE6 (by simpa using h1')
  have f2 : RepC w6 F0 (.fptr [.fsl 6 (l.map Ty.z)]) (.pointer (some ⟨w.heap.size, 0, none⟩)) [] := by
    simp only [RepC, RepRow]
    refine ⟨trivial, w.heap.size, 0, [Value.slice A l.length cap], rfl, .inr rfl, ⟨_, [], [], [], rfl, rfl, ?_, rfl, rfl⟩, ?_⟩
    · have := hl6.keep (w' := w6) (Fz' := F0) _ _ _ ⟨fun b hb => ⟨.inl hb, rfl⟩, fun _ _ => rfl⟩
      simpa only [RepC] using this
    · intro j u hj
      rw [cell_of_cells c2]
      simpa using hj
  have hzin : ∀ j : Nat, 0 ≤ (zs[j]?.getD (0 : Int)) ∧ (zs[j]?.getD (0 : Int)).toNat < l.length := by
    intro j
    have h3 := (tysOk_len (tabOk_tys ht)).1
    by_cases hj : j < zs.length
    · have hm : zs[j] ∈ lineL l n := by rw [hzs]; exact List.getElem_mem hj
      obtain ⟨q0, q1, q2, _⟩ := isRec_in (lineL_in ht _ _ (.inr hr) _ hm)
      simp [hj, q0, q2]
    · simp [List.getElem?_eq_none (Nat.le_of_not_lt hj)]; omega
  have hz25 : zs.length ≤ 25 := by have h1 := lineL_len l n; have h2 := tabOk_len ht; rw [hzs] at h1; omega
  let fr : Nat → InT l := fun k => ⟨(((zs.length - 1 - k : Nat) : Int), zs[zs.length - 1 - k]?.getD 0), hzin _⟩
  have hstop := back_stops Fence.wide 8 trivial rfl (by omega) w5.heap.size g h zs.length c zs (fun x : InT l => #[Value.int .i64 x.1.1, Value.int .i64 x.1.2]) fr
    (fun k j hj => by have : zs.length - 1 - k = j := by omega
                      simp only [fr, this]) (by omega) w6 (by omega) (by omega) hRd
  refine wpIn_rangeFunc_ownF rfl (by omega) (gf := 200) (lb := #[.pointer (some ⟨w5.heap.size, 0, none⟩)]) rfl trivial (enters_of Tryz.func200 (by kernel_rfl) rfl) hstop (fun h k r => k (h r))
    (fun W lo o o' hlo _ _ _ h => Rd_of (World.putObj_heap_other (by omega)) (World.putObj_heap_other (by omega)) h) (Below.refl _ _) (fun _ => rfl)
    (LI w.heap.size w6 l) (fun _ _ _ => False) (LI_own _ _ _) (fun _ _ _ _ _ hs _ _ => hs) h0
    (fun x => { tmps := #[Value.slice A l.length cap, Value.int IntKind.i64 n, Value.pointer (some { block := w.heap.size, off := 0 }),
          undef, Value.slice none 0 0, Value.pointer (some { block := w.heap.size + 1 + 1, off := 0 }), undef, Value.int IntKind.i64 x.1.2,
          Value.slice (some { block := w.heap.size + 1, off := 0 }) 0 0, Value.slice A l.length cap,
          Value.int IntKind.i64 n, Value.slice (some { block := g, off := h }) zs.length c,
          Value.func (Fn.func 200) #[] #[Value.pointer (some { block := w5.heap.size, off := 0 })], Value.int IntKind.i64 x.1.1, Value.int IntKind.i64 x.1.2, undef,
          undef, undef, undef, undef, undef, undef, undef], defers := [] }) ?assign ?body ?done ?stop
  case assign =>
    intro l x W K hK
    gi_wp2
    exact hK
  case stop =>
    rintro D c pre W _ _ h _
    exact h.elim
  case done =>
    rintro D ys W hD rfl hI hK
    obtain ⟨o5, i1, i2, i3, i4⟩ := hI
    have hfl : flds l (upto fr zs.length) = allF l n := by
      rw [flds_all (fun k => rfl)]
      unfold allF
      rw [hzs]
    rw [hfl] at i1
    have hcl := own_cells i1
    simp only [RepC, RepRow] at i1
    obtain ⟨g5, xs5, o', hp, rfl, hg5', y, _, oy, _, rfl, rfl, hu, rfl, rfl⟩ := i1
    simp only [Value.pointer.injEq, Option.some.injEq, Addr.mk.injEq, and_true] at hp
    subst hp
    have hc5 : W.cell? ⟨w.heap.size + 1 + 1, 0, none⟩ = some y := by rw [cell_of_cells hg5']; rfl
    simp only [List.append_nil] at i2 i3
    gi_wp2
    refine ⟨by simp, .inl ⟨_, _, rfl, run_takeDeferred hK, ?_⟩⟩
    have hu' : RepC W noF (.usl 97 3 ((allF l n).map Go.AM.Fd.o)) y oy := by simp only [RepC]; exact hu
    have hW6 := i4.size
    have hEw : Ext w W [] := hE6.trans i4 fun b hb hlt => by simp only [List.mem_cons, List.not_mem_nil, or_false] at hb; omega
    have hEp : Ext w (W.putObj D (.deferred none)) [] := ⟨hEw.os, hEw.tape, hEw.output, by have := hEw.size; simpa using this, fun b hb hn => (World.putObj_heap_other (by omega)).trans (hEw.blk b hb hn)⟩
    have hsame : ∀ b ∈ oy, (W.putObj D (.deferred none)).heap[b]? = W.heap[b]? := fun b hb => World.putObj_heap_other (by
      rintro rfl
      obtain ⟨cur, e, p, hcur⟩ := hcl _ (List.mem_cons_of_mem _ (by simpa using hb))
      rw [hcur] at hK
      cases hK)
    have hk' := hu'.keep (w' := W.putObj D (.deferred none)) (Fz' := noF) _ _ _ ⟨fun b hb => hb.elim, hsame⟩
    refine ⟨_, results_tmp rfl _ _ _, y, oy, [], rfl, hEp, (nfzC _ hk' (by simp only [nfz, Go.AM.Fd.nfz])).toV, ⟨_, _, [], [], rfl, rfl, rfl, _, _, [], [], rfl, rfl, rfl, rfl, rfl⟩, by simpa using (List.nodup_cons.1 i2).2, fun b hb => ?_⟩
    have hb' : b ∈ oy := by simpa using hb
    obtain ⟨q1, q2⟩ := i3 b (List.mem_cons_of_mem _ hb')
    exact ⟨.inr (by omega), by simpa using q2⟩
  case body =>
    rintro lp pre x W ⟨o5, i1, i2, i3, i4⟩ hlen
    have hx := x.2
    have f2W : RepC W F0 (.fptr [.fsl 6 (l.map Ty.z)]) (.pointer (some ⟨w.heap.size, 0, none⟩)) [] :=
      f2.keep _ _ _ ⟨fun b hb => ⟨hb, i4.blk b (by have := hF0 b hb; omega) (by have := hF0 b hb; simp; omega)⟩, fun b hb => by simp at hb⟩
    have hW6 := i4.size
    have hnF : ∀ b ∈ o5, b < W.heap.size ∧ ¬ F0 b := fun b hb => ⟨(i3 b hb).2, fun hf => by have := hF0 b hf; have := (i3 b hb).1; omega⟩
    have hp1 := flds_len (tabOk_tys ht) pre
    have hp2 := fdsAt_len (tabOk_tys ht) x.1.2
    refine wpIn_block ?_
    refine mixt_round (N := 23) (fx := [5]) (c := bCtx W F0 o5 (.pointer (some ⟨w.heap.size + 1 + 1, 0, none⟩))) (noDef_spec (by decide +kernel)) ?_ (FL := [7]) (WL := [2, 5]) (RL := []) (B := []) (fi := [2]) (fs := [⟨(some 17), none, .q (.mov (.t 7))⟩]) (t := bodyT) (by decide +kernel)
      (bSim (l := l) (fs := flds l pre) (k := x.1.2) (F0 := F0) (o5 := o5) (by rfl) (by rfl) (by rfl) (by rfl) (by rfl) f2W i1 i2 hnF (fun b hb => by have := hF0 b hb; omega)) (body_awp (fs := flds l pre) hx.1 hx.2 (by omega)) ?_
    · intro e he
      simp only [bCtx] at he
      split at he
      · rename_i h; simp [h]
      · exact absurd rfl he
    · rintro st a' W' S' h5
      obtain ⟨own, C⟩ := S'.core
      have r5 := C.rep 5
      have hv5 : tmOf a' 5 = .pointer (some ⟨w.heap.size + 1 + 1, 0, none⟩) := S'.size.2 5 _ (by simp [bCtx])
      rw [h5, hv5] at r5
      have r5' := nfzC (Fz' := noF) _ (by simpa only [RepV] using r5) (by simp only [nfz, nfzs, Go.AM.Fd.nfz, Bool.and_self])
      have hE : Ext W W' o5 := C.fr
      refine ⟨⟨hE.size, fun k o hk hc => ?_⟩, fun hR => ?_, own 5, by rw [flds_snoc]; exact r5', C.nd 5, fun b hb => ?_, ?_⟩
      · have hkW := (Array.getElem?_eq_some_iff.1 hk).1
        refine (hE.blk k hkW fun hm => ?_).trans hk
        obtain ⟨cur, e, p, hcur⟩ := own_cells i1 k hm
        rw [hcur] at hk
        cases hk
        simp [Obj.isCells] at hc
      · refine Rd_of (hE.blk _ (by omega) fun hm => ?_) (hE.blk _ (by omega) fun hm => ?_) hR
        · have := (i3 _ hm).1; omega
        · have := (i3 _ hm).1; omega
      · obtain ⟨q1, q2⟩ := C.old b (.inl ⟨5, hb⟩)
        refine ⟨?_, q2⟩
        rcases q1 with q1 | q1
        · exact (i3 b q1).1
        · simp only [bCtx] at q1; exact .inr (.inr (by omega))
      · refine i4.trans hE fun b hb hlt => ?_
        have := (i3 b hb).1
        simp only [List.mem_cons, List.not_mem_nil, or_false]
        omega
end Go.Proofs.AllF

namespace Go.AM
theorem d64 (l : List Ty) (n : Int) (hl : (l.length : Int) ≤ 1048576) (ht : tabOk l = true) (hr : isRec l n = true) : Does Go.Proofs.Tryz.prog 64 [.fsl 6 (l.map Ty.z), .v (.int .i64 n)] false (.usl 97 3 ((allF l n).map Fd.o)) [.dead, .dead] :=
  ⟨by decide +kernel, Go.Proofs.AllF.c64 l n hl ht hr⟩

end Go.AM
namespace Go.AM
set_option linter.unusedVariables false
set_option linter.unusedSimpArgs false
/-- loop.example/g00837/laws.big -/
def m13 : MC :=
  (.seq
   (.reg [⟨(some 4), none, .a (.asg (.c (.bool false)))⟩])
   (.seq
    (.reg [⟨(some 5), none, .q (.mov (.t 0))⟩,
      ⟨(some 6), none, .q (.len false (.t 5))⟩,
      ⟨(some 7), none, .q (.bin false .gtr (.t 6) (.c (.int .i64 1048576)))⟩,
      ⟨(some 8), none, .q (.mov (.t 7))⟩,
      ⟨(some 9), (some (8, false)), .q (.mov (.t 1))⟩,
      ⟨(some 10), (some (8, false)), .q (.len false (.t 9))⟩,
      ⟨(some 11), (some (8, false)), .q (.mov (.t 0))⟩,
      ⟨(some 12), (some (8, false)), .q (.len false (.t 11))⟩,
      ⟨(some 13), (some (8, false)), .q (.bin false .sub (.c (.int .i64 1048576)) (.t 12))⟩,
      ⟨(some 14), (some (8, false)), .q (.bin false .gtr (.t 10) (.t 13))⟩,
      ⟨(some 15), none, .q (.pick (.t 8) (.c (.bool true)) (.t 14))⟩,
      ⟨(some 4), none, .a (.asg (.t 15))⟩])
    .ret))

theorem d13 (a b : List Int) (ha : (a.length : Int) ≤ 9223372036854775807) (hb : (b.length : Int) ≤ 9223372036854775807) : Does Go.Proofs.Tryz.prog 13 [.fsl 1 (a.map bv), .fsl 1 (b.map bv)] false (.v (.bool (decide (1048576 < (a.length : Int)) || decide (1048576 - (a.length : Int) < (b.length : Int))))) [.dead, .dead] := by
  refine does_intro (mc := m13) (N := 16) (rs := [4]) (fx := []) 2 rfl (by decide +kernel) ?_
  simp only [m13, EV, Nat.reduceEqDiff, Nat.reduceBEq, Nat.reduceLT, Nat.reduceLeDiff, Nat.reduceAdd, Nat.reduceSub, reduceIte]
  rcases e : decide (1048576 < (a.length : Int)) with _ | _
  · have h : ¬ 1048576 < (a.length : Int) := by simpa using e
    have w := w64 (1048576 - (a.length : Int)) (by omega)
    simp only [w, EV, Nat.reduceEqDiff, Nat.reduceBEq, Nat.reduceLT, Nat.reduceLeDiff, Nat.reduceAdd, Nat.reduceSub, reduceIte]
    simp only [Bool.false_or, EV, Nat.reduceEqDiff, Nat.reduceBEq, Nat.reduceLT, Nat.reduceLeDiff, Nat.reduceAdd, Nat.reduceSub, reduceIte, evRE, retVC, cellV', evR, nfz, nfzs, nfzss, List.contains_nil, List.contains_cons, Bool.or_false, or_true]
  · simp only [EV, Nat.reduceEqDiff, Nat.reduceBEq, Nat.reduceLT, Nat.reduceLeDiff, Nat.reduceAdd, Nat.reduceSub, reduceIte]
    simp only [Bool.true_or, EV, Nat.reduceEqDiff, Nat.reduceBEq, Nat.reduceLT, Nat.reduceLeDiff, Nat.reduceAdd, Nat.reduceSub, reduceIte, evRE, retVC, cellV', evR, nfz, nfzs, nfzss, List.contains_nil, List.contains_cons, Bool.or_false, or_true]

end Go.AM
namespace Go.AM
set_option linter.unusedVariables false
set_option linter.unusedSimpArgs false
theorem line_suf {l : List Ty} (ht : tabOk l = true) : ∀ (k : Nat) (a b : Int), (lineL l a).length < k → isRec l a = true → b ∈ lineL l a → ∃ pre, lineL l a = pre ++ lineL l b
  | 0, a, b, h, _, _ => absurd h (by omega)
  | k + 1, a, b, h, hr, hm => by
    have hlr := lineL_rec ht hr
    rw [hlr] at hm
    rcases List.mem_cons.1 hm with rfl | hm
    · exact ⟨[], rfl⟩
    · rcases (isRec_base (tabOk_tys ht) hr).1 with hb | hb
      · rw [lineL_neg hb] at hm; simp at hm
      · rw [hlr, List.length_cons] at h
        obtain ⟨pre, hp⟩ := line_suf ht k (baseAt l a) b (by omega) hb hm
        exact ⟨a :: pre, by rw [hlr, hp]; rfl⟩

theorem ext_suf {l : List Ty} {a b : Int} (ha : recOk l a = true) (h : extOk l a b = true) : ∃ pre, lineL l a = pre ++ lineL l b := by
  simp only [recOk, Bool.and_eq_true] at ha
  exact line_suf ha.1 _ a b (Nat.lt_succ_self _) ha.2 (List.contains_iff_mem.1 h)

theorem ext_all {l : List Ty} {a b : Int} (ha : recOk l a = true) (h : extOk l a b = true) : ∃ X, allF l a = allF l b ++ X := by
  obtain ⟨pre, hp⟩ := ext_suf ha h
  unfold allF
  rw [hp, allL_app]
  exact ⟨_, rfl⟩

end Go.AM
namespace Go.AM
set_option linter.unusedVariables false
set_option linter.unusedSimpArgs false
def capS (t : Ty) (s : Int) : Int := min 1000000001 (if (t.kind == 4) = true then s * t.long else s)

def sumZ (g : Int → Int) : List Int → Int
  | [] => 0
  | k :: ks => g k + sumZ g ks

def oneT (t : Ty) (g : Int → Int) : Int :=
  if (t.kind == 1) = true then 4 else if (t.kind == 2 || t.kind == 3) = true then 1 else if (t.kind == 6) = true then 8 else capS t (sumZ g (prt false t))

def szN (l : List Ty) : Nat → Int → Int
  | 0, _ => 0
  | f + 1, n => match l[n.toNat]? with
    | some t => oneT t (szN l f)
    | none => 0

def sz (l : List Ty) (n : Int) : Int := szN l (l.length + 1) n

theorem sumZ_congr {g g' : Int → Int} : ∀ {ks : List Int}, (∀ k ∈ ks, g k = g' k) → sumZ g ks = sumZ g' ks
  | [], _ => rfl
  | k :: ks, h => by rw [sumZ, sumZ, h k (by simp), sumZ_congr fun k hk => h k (by simp [hk])]

theorem oneT_congr {t : Ty} {g g' : Int → Int} (h : ∀ k ∈ prt false t, g k = g' k) : oneT t g = oneT t g' := by
  unfold oneT; rw [sumZ_congr h]

theorem szN_irr {l : List Ty} (ht : tabOk l = true) : ∀ (f f' : Nat) (n : Int), 0 ≤ n → n < (l.length : Int) → rk l n < f → rk l n < f' → szN l f n = szN l f' n
  | 0, _, n, _, _, h, _ => absurd h (by omega)
  | f + 1, 0, n, _, _, _, h => absurd h (by omega)
  | f + 1, f' + 1, n, h0, h1, h, h' => by
    have hn : n.toNat < l.length := by omega
    simp only [szN, List.getElem?_eq_getElem hn]
    refine oneT_congr fun k hk => ?_
    rw [← kids_at hn] at hk
    have hki := kids_ok (tabOk_tys ht) h0 h1 hk
    have hlt := rk_lt ht h0 h1 hk
    exact szN_irr ht f f' k hki.1 hki.2 (by omega) (by omega)

theorem sz_eq {l : List Ty} (ht : tabOk l = true) {n : Int} (h0 : 0 ≤ n) (h1 : n < (l.length : Int)) {hn : n.toNat < l.length} : sz l n = oneT l[n.toNat] (sz l) := by
  have hr := rk_le l n
  show szN l (l.length + 1) n = _
  rw [szN_irr ht _ (l.length + 2) n h0 h1 (by omega) (by omega)]
  simp only [szN, List.getElem?_eq_getElem hn]
  rfl

theorem rk_small {l : List Ty} (ht : tabOk l = true) {n : Int} (h0 : 0 ≤ n) (h1 : n < (l.length : Int)) : rk l n < l.length := by
  have hrd := tabOk_round ht h0 h1
  have hnm : n ∉ reachL l false (kids l false n) := by
    intro h
    simp [roundAt] at hrd
    exact hrd h
  have hnd : (n :: reachL l false (kids l false n)).Nodup := List.nodup_cons.2 ⟨hnm, up_nodup (reachL_up _ _ _)⟩
  have := nodup_le hnd (fun k hk => by
    rcases List.mem_cons.1 hk with rfl | hk
    · exact ⟨h0, h1⟩
    · exact (mem_reachL.1 hk).1)
  simp only [List.length_cons] at this
  unfold rk
  omega

theorem sumZ_nn {g : Int → Int} : ∀ {ks : List Int}, (∀ k ∈ ks, 0 ≤ g k) → 0 ≤ sumZ g ks
  | [], _ => by simp [sumZ]
  | k :: ks, h => by have := h k (by simp); have := sumZ_nn (ks := ks) fun k hk => h k (by simp [hk]); simp only [sumZ]; omega

theorem sumZ_le {g : Int → Int} {B : Int} : ∀ {ks : List Int}, (∀ k ∈ ks, g k ≤ B) → sumZ g ks ≤ B * ks.length
  | [], _ => by simp [sumZ]
  | k :: ks, h => by
    have h1 := h k (by simp)
    have h2 := sumZ_le (ks := ks) fun k hk => h k (by simp [hk])
    simp only [sumZ, List.length_cons]
    rw [Int.natCast_add, Int.mul_add]
    omega

theorem szN_nn {l : List Ty} (ht : tysOk l = true) : ∀ (f : Nat) (n : Int), 0 ≤ szN l f n ∧ szN l f n ≤ 1000000001
  | 0, n => by simp [szN]
  | f + 1, n => by
    unfold szN
    split
    · rename_i t e
      obtain ⟨hn, rfl⟩ := List.getElem?_eq_some_iff.1 e
      unfold oneT
      split
      · omega
      split
      · omega
      split
      · omega
      · have h1 : 0 ≤ sumZ (szN l f) (prt false l[n.toNat]) := sumZ_nn fun k _ => (szN_nn ht f k).1
        unfold capS
        split
        · rename_i hk
          have hl := (tysOk_good ht hn).arr (by simpa using hk)
          have : 0 ≤ sumZ (szN l f) (prt false l[n.toNat]) * l[n.toNat].long := Int.mul_nonneg h1 (by omega)
          omega
        · omega
    · omega

theorem sz_nn {l : List Ty} (ht : tysOk l = true) (n : Int) : 0 ≤ sz l n ∧ sz l n ≤ 1000000001 := szN_nn ht _ _

/-- .. where some sizes are not known yet (below nought). -/
def getS (s : List Int) (k : Int) : Int := s[k.toNat]?.getD 0

def sumP (s : List Int) : List Int → Int → Option Int
  | [], a => some a
  | k :: ks, a => if getS s k < 0 then none else sumP s ks (a + getS s k)

def oneP (t : Ty) (s : List Int) : Int :=
  if (t.kind == 1) = true then 4 else if (t.kind == 2 || t.kind == 3) = true then 1 else if (t.kind == 6) = true then 8 else match sumP s (prt false t) 0 with
    | some x => capS t x
    | none => -1

theorem sumP_all {s : List Int} {g : Int → Int} (hg : ∀ k, 0 ≤ g k) : ∀ {ks : List Int} {a : Int}, (∀ k ∈ ks, getS s k = g k) → sumP s ks a = some (a + sumZ g ks)
  | [], a, _ => by simp [sumP, sumZ]
  | k :: ks, a, h => by
    have h1 := h k (by simp)
    have h2 := hg k
    rw [sumP, if_neg (by omega), sumP_all hg fun k hk => h k (by simp [hk]), sumZ, h1]
    congr 1; omega

theorem sumP_some {s : List Int} {g : Int → Int} (hg : ∀ k, 0 ≤ g k) : ∀ {ks : List Int} {a x : Int}, (∀ k ∈ ks, getS s k = g k ∨ getS s k = -1) → sumP s ks a = some x → x = a + sumZ g ks
  | [], a, x, _, h => by simp only [sumP, Option.some.injEq] at h; simp [sumZ, h]
  | k :: ks, a, x, h, hx => by
    have h1 := h k (by simp)
    unfold sumP at hx
    split at hx
    · cases hx
    · rw [sumP_some hg (fun k hk => h k (by simp [hk])) hx, sumZ]
      omega

theorem oneP_eq {t : Ty} {s : List Int} {g : Int → Int} (hg : ∀ k, 0 ≤ g k) (h : ∀ k ∈ prt false t, getS s k = g k) : oneP t s = oneT t g := by
  unfold oneP oneT
  rw [sumP_all hg h]
  simp

theorem oneP_or {t : Ty} {s : List Int} {g : Int → Int} (hg : ∀ k, 0 ≤ g k) (h : ∀ k ∈ prt false t, getS s k = g k ∨ getS s k = -1) : oneP t s = oneT t g ∨ oneP t s = -1 := by
  unfold oneP oneT
  rcases e : sumP s (prt false t) 0 with _ | x
  · split
    · exact .inl rfl
    split
    · exact .inl rfl
    split
    · exact .inl rfl
    · exact .inr rfl
  · rw [sumP_some hg h e]
    exact .inl (by simp)

end Go.AM
namespace Go.AM
set_option linter.unusedVariables false
set_option linter.unusedSimpArgs false
/-- loop.example/g00837/spec.l1Least -/
def m137 : MC :=
  (.seq
   (.reg [⟨(some 4), none, .a (.asg (.c (.int .i64 0)))⟩])
   (.seq
    (.seq
     (.reg [⟨(some 5), none, .q (.mov (.t 0))⟩,
       ⟨(some 6), none, .q (.mov (.t 1))⟩,
       ⟨(some 7), none, .q (.bin false .lss (.t 5) (.t 6))⟩])
     (.cond (.t 7)
      (.seq
       (.reg [⟨(some 8), none, .q (.mov (.t 0))⟩,
         ⟨(some 4), none, .a (.asg (.t 8))⟩])
       .ret)
      .skip))
    (.seq
     (.reg [⟨(some 9), none, .q (.mov (.t 1))⟩,
       ⟨(some 4), none, .a (.asg (.t 9))⟩])
     .ret)))

theorem d137 (a b : Int) : Does Go.Proofs.Tryz.prog 137 [.v (.int .i64 a), .v (.int .i64 b)] false (.v (.int .i64 (min a b))) [.dead, .dead] := by
  refine does_intro (mc := m137) (N := 10) (rs := [4]) (fx := []) 2 rfl (by decide +kernel) ?_
  simp only [m137, EV, Nat.reduceEqDiff, Nat.reduceBEq, Nat.reduceLT, Nat.reduceLeDiff, Nat.reduceAdd, Nat.reduceSub, reduceIte]
  refine cK_cut (fun h => ?_) (fun h => ?_)
  · have e : min a b = a := by have : a < b := by simpa using h
                               omega
    simp only [EV, Nat.reduceEqDiff, Nat.reduceBEq, Nat.reduceLT, Nat.reduceLeDiff, Nat.reduceAdd, Nat.reduceSub, reduceIte]
    simp only [e, EV, Nat.reduceEqDiff, Nat.reduceBEq, Nat.reduceLT, Nat.reduceLeDiff, Nat.reduceAdd, Nat.reduceSub, reduceIte, evRE, retVC, cellV', evR, nfz, nfzs, nfzss, List.contains_nil, List.contains_cons, Bool.or_false, or_true]
  · have e : min a b = b := by have : ¬ a < b := by simpa using h
                               omega
    simp only [EV, Nat.reduceEqDiff, Nat.reduceBEq, Nat.reduceLT, Nat.reduceLeDiff, Nat.reduceAdd, Nat.reduceSub, reduceIte]
    simp only [e, EV, Nat.reduceEqDiff, Nat.reduceBEq, Nat.reduceLT, Nat.reduceLeDiff, Nat.reduceAdd, Nat.reduceSub, reduceIte, evRE, retVC, cellV', evR, nfz, nfzs, nfzss, List.contains_nil, List.contains_cons, Bool.or_false, or_true]

theorem sumP_step {s : List Int} {ks : List Int} {i : Nat} {a : Int} (h : i < ks.length) : sumP s (ks.drop i) a = if getS s ks[i] < 0 then none else sumP s (ks.drop (i + 1)) (a + getS s ks[i]) := by
  rw [List.drop_eq_getElem_cons h, sumP]

/-- loop.example/g00837/spec.l3One -/
def m201 : MC :=
  (.seq
   (.reg [⟨(some 2), none, .a (.box 40 (.t 0))⟩,
     ⟨(some 4), none, .a (.asg (.c (.int .i64 0)))⟩])
   (.join [1, 2]
    (.seq
     (.reg [⟨(some 8), none, .q (.fad 0 (.t 2))⟩,
       ⟨(some 9), none, .q (.load false 1 (.t 8))⟩])
     (.block 0
      (.seq
       (.reg [⟨(some 11), none, .q (.bin false .eql (.t 9) (.c (.int .i64 1)))⟩,
         ⟨(some 10), none, .a (.asg (.t 11))⟩])
       (.cond (.t 10)
        (.seq
         (.reg [⟨(some 4), none, .a (.asg (.c (.int .i64 4)))⟩])
         .ret)
        (.join [1, 2, 9, 12]
         (.seq
          (.reg [⟨(some 13), none, .q (.bin false .eql (.t 9) (.c (.int .i64 2)))⟩,
            ⟨(some 12), none, .a (.asg (.t 13))⟩])
          (.cond (.t 12)
           .skip
           (.reg [⟨(some 14), none, .q (.bin false .eql (.t 9) (.c (.int .i64 3)))⟩,
             ⟨(some 12), none, .a (.asg (.t 14))⟩])))
         (.cond (.t 12)
          (.seq
           (.reg [⟨(some 4), none, .a (.asg (.c (.int .i64 1)))⟩])
           .ret)
          (.seq
           (.reg [⟨(some 16), none, .q (.bin false .eql (.t 9) (.c (.int .i64 6)))⟩,
             ⟨(some 15), none, .a (.asg (.t 16))⟩])
           (.cond (.t 15)
            (.seq
             (.reg [⟨(some 4), none, .a (.asg (.c (.int .i64 8)))⟩])
             .ret)
            .skip))))))))
    (.seq
     (.reg [⟨(some 5), none, .a (.asg (.c (.int .i64 0)))⟩])
     (.seq
      (.seq
       (.reg [⟨(some 17), none, .q (.load true 6 (.t 2))⟩,
         ⟨(some 18), none, .a (.call (.fn 198) false [.lend (.t 17)])⟩,
         ⟨(some 19), none, .q (.len false (.t 18))⟩,
         ⟨(some 20), none, .q (.mov (.c (.int .i64 0)))⟩])
       (.block 1
        (.loop [1, 2, 5, 18, 19, 20]
         (.seq
          (.reg [⟨(some 21), none, .q (.bin false .lss (.t 20) (.t 19))⟩])
          (.seq
           (.cond (.t 21)
            .skip
            (.exit 1))
           (.seq
            (.block 2
             (.seq
              (.reg [⟨(some 22), none, .q (.iad 1 (.t 18) (.t 20))⟩,
                ⟨(some 23), none, .q (.load false 1 (.t 22))⟩,
                ⟨(some 7), none, .a (.asg (.t 23))⟩])
              (.seq
               (.seq
                (.reg [⟨(some 24), none, .q (.mov (.t 1))⟩,
                  ⟨(some 25), none, .q (.mov (.t 7))⟩,
                  ⟨(some 26), none, .q (.iad 1 (.t 24) (.t 25))⟩,
                  ⟨(some 27), none, .q (.load false 1 (.t 26))⟩,
                  ⟨(some 28), none, .q (.bin false .lss (.t 27) (.c (.int .i64 0)))⟩])
                (.cond (.t 28)
                 (.seq
                  (.reg [⟨(some 4), none, .a (.asg (.c (.int .i64 (-1))))⟩])
                  .ret)
                 .skip))
               (.reg [⟨(some 29), none, .q (.mov (.t 5))⟩,
                 ⟨(some 30), none, .q (.mov (.t 1))⟩,
                 ⟨(some 31), none, .q (.mov (.t 7))⟩,
                 ⟨(some 32), none, .q (.iad 1 (.t 30) (.t 31))⟩,
                 ⟨(some 33), none, .q (.load false 1 (.t 32))⟩,
                 ⟨(some 34), none, .q (.bin false .add (.t 29) (.t 33))⟩,
                 ⟨(some 5), none, .a (.asg (.t 34))⟩]))))
            (.reg [⟨(some 35), none, .q (.bin false .add (.t 20) (.c (.int .i64 1)))⟩,
              ⟨(some 20), none, .q (.mov (.t 35))⟩])))))))
      (.join [5]
       (.seq
        (.reg [⟨(some 36), none, .q (.fad 0 (.t 2))⟩,
          ⟨(some 37), none, .q (.load false 1 (.t 36))⟩,
          ⟨(some 38), none, .q (.bin false .eql (.t 37) (.c (.int .i64 4)))⟩])
        (.cond (.t 38)
         (.reg [⟨(some 39), none, .q (.mov (.t 5))⟩,
           ⟨(some 40), none, .q (.fad 1 (.t 2))⟩,
           ⟨(some 41), none, .q (.load false 1 (.t 40))⟩,
           ⟨(some 42), none, .q (.bin false .mul (.t 39) (.t 41))⟩,
           ⟨(some 5), none, .a (.asg (.t 42))⟩])
         .skip))
       (.seq
        (.reg [⟨(some 43), none, .q (.mov (.t 5))⟩,
          ⟨(some 44), none, .a (.call (.fn 137) false [.lend (.c (.int .i64 1000000001)), .lend (.t 43)])⟩,
          ⟨(some 4), none, .a (.asg (.t 44))⟩])
        .ret))))))

set_option maxHeartbeats 1000000 in
set_option maxRecDepth 100000 in
theorem d201 (t : Ty) (s : List Int) (ht : t.sm) (hk : ∀ k ∈ prt false t, 0 ≤ k ∧ k < (s.length : Int)) (h7 : (prt false t).length ≤ 7) (hl : (s.length : Int) ≤ 1048576) (hs : ∀ x ∈ s, x ≤ 1000000001) (hlong : (t.kind == 4) = true → 0 ≤ t.long ∧ t.long ≤ 1000) :
    Does Go.Proofs.Tryz.prog 201 [.agg t.z, .fsl 1 (s.map iv)] false (.v (.int .i64 (oneP t s))) [.dead, .dead] := by
  refine does_intro (mc := m201) (N := 45) (rs := [4]) (fx := []) 2 rfl (by decide +kernel) ?_
  simp only [m201, Ty.z, EV, Nat.reduceEqDiff, Nat.reduceBEq, Nat.reduceLT, Nat.reduceLeDiff, Nat.reduceAdd, Nat.reduceSub, reduceIte]
  refine awp_join (fun _ : Unit => (t.kind == 1) = false ∧ (t.kind == 2) = false ∧ (t.kind == 3) = false ∧ (t.kind == 6) = false) (fun _ => stl [(1, .fsl 1 (s.map iv)), (2, .box 40 t.z)]) ?_ ?_
  · simp only [Ty.z, EV, Nat.reduceEqDiff, Nat.reduceBEq, Nat.reduceLT, Nat.reduceLeDiff, Nat.reduceAdd, Nat.reduceSub, reduceIte]
    rcases e1 : (t.kind == 1) with _ | _
    rotate_left
    · have e : oneP t s = 4 := by unfold oneP; rw [if_pos e1]
      simp only [e1, EV, Nat.reduceEqDiff, Nat.reduceBEq, Nat.reduceLT, Nat.reduceLeDiff, Nat.reduceAdd, Nat.reduceSub, reduceIte]
      simp only [e, EV, Nat.reduceEqDiff, Nat.reduceBEq, Nat.reduceLT, Nat.reduceLeDiff, Nat.reduceAdd, Nat.reduceSub, reduceIte, evRE, retVC, cellV', evR, nfz, nfzs, nfzss, List.contains_nil, List.contains_cons, Bool.or_false, or_true]
    simp only [e1, Ty.z, EV, Nat.reduceEqDiff, Nat.reduceBEq, Nat.reduceLT, Nat.reduceLeDiff, Nat.reduceAdd, Nat.reduceSub, reduceIte]
    refine awp_join (fun b : Bool => b = (t.kind == 2 || t.kind == 3)) (fun b => stl [(1, .fsl 1 (s.map iv)), (2, .box 40 t.z), (9, .v (.int .i64 t.kind)), (12, .v (.bool b))]) ?_ ?_
    · simp only [Ty.z, EV, Nat.reduceEqDiff, Nat.reduceBEq, Nat.reduceLT, Nat.reduceLeDiff, Nat.reduceAdd, Nat.reduceSub, reduceIte]
      rcases e2 : (t.kind == 2) with _ | _
      · simp only [e2, EV, Nat.reduceEqDiff, Nat.reduceBEq, Nat.reduceLT, Nat.reduceLeDiff, Nat.reduceAdd, Nat.reduceSub, reduceIte]
        exact ⟨_, (Bool.false_or _).symm, rfl⟩
      · simp only [e2, EV, Nat.reduceEqDiff, Nat.reduceBEq, Nat.reduceLT, Nat.reduceLeDiff, Nat.reduceAdd, Nat.reduceSub, reduceIte]
        exact ⟨true, rfl, rfl⟩
    · rintro b rfl
      rcases e2 : (t.kind == 2 || t.kind == 3) with _ | _
      · simp only [Bool.or_eq_false_iff] at e2
        rcases e6 : (t.kind == 6) with _ | _
        · simp only [e6, Ty.z, EV, Nat.reduceEqDiff, Nat.reduceBEq, Nat.reduceLT, Nat.reduceLeDiff, Nat.reduceAdd, Nat.reduceSub, reduceIte]
          exact ⟨(), e2⟩
        · have e : oneP t s = 8 := by unfold oneP; rw [if_neg (by simp [e1]), if_neg (by simp [e2.1, e2.2]), if_pos e6]
          simp only [e6, Ty.z, EV, Nat.reduceEqDiff, Nat.reduceBEq, Nat.reduceLT, Nat.reduceLeDiff, Nat.reduceAdd, Nat.reduceSub, reduceIte]
          simp only [e, EV, Nat.reduceEqDiff, Nat.reduceBEq, Nat.reduceLT, Nat.reduceLeDiff, Nat.reduceAdd, Nat.reduceSub, reduceIte, evRE, retVC, cellV', evR, nfz, nfzs, nfzss, List.contains_nil, List.contains_cons, Bool.or_false, or_true]
      · have e : oneP t s = 1 := by unfold oneP; rw [if_neg (by simp [e1]), if_pos e2]
        simp only [Ty.z, EV, Nat.reduceEqDiff, Nat.reduceBEq, Nat.reduceLT, Nat.reduceLeDiff, Nat.reduceAdd, Nat.reduceSub, reduceIte]
        simp only [e, EV, Nat.reduceEqDiff, Nat.reduceBEq, Nat.reduceLT, Nat.reduceLeDiff, Nat.reduceAdd, Nat.reduceSub, reduceIte, evRE, retVC, cellV', evR, nfz, nfzs, nfzss, List.contains_nil, List.contains_cons, Bool.or_false, or_true]
  rintro _ ⟨e1, e2, e3, e6⟩
  have ho : oneP t s = match sumP s (prt false t) 0 with
    | some x => capS t x
    | none => -1 := by unfold oneP; rw [if_neg (by simp [e1]), if_neg (by simp [e2, e3]), if_neg (by simp [e6])]; all_goals (rcases sumP s (prt false t) 0 with _ | _ <;> rfl)
  simp only [Ty.z, EV, Nat.reduceEqDiff, Nat.reduceBEq, Nat.reduceLT, Nat.reduceLeDiff, Nat.reduceAdd, Nat.reduceSub, reduceIte]
  refine callK_i (d198 t ht) ?_
  simp only [Ty.z, EV, Nat.reduceEqDiff, Nat.reduceBEq, Nat.reduceLT, Nat.reduceLeDiff, Nat.reduceAdd, Nat.reduceSub, reduceIte]
  refine awp_loop (fun p : Nat × Int => p.1 ≤ (prt false t).length ∧ sumP s (prt false t) 0 = sumP s ((prt false t).drop p.1) p.2 ∧ p.2 ≤ 1000000001 * p.1 ∧ -1000000001 ≤ p.2) (fun p => stl [(1, .fsl 1 (s.map iv)), (2, .box 40 t.z), (5, .v (.int .i64 p.2)), (18, .usl 3 1 ((prt false t).map iv)), (19, .v (.int .i64 ((prt false t).length : Int))), (20, .v (.int .i64 (p.1 : Int)))]) (fun p => (prt false t).length - p.1) (0, 0) ⟨Nat.zero_le _, rfl, by simp, by omega⟩ ?_ ?_
  · simp only [Ty.z, EV, Nat.reduceEqDiff, Nat.reduceBEq, Nat.reduceLT, Nat.reduceLeDiff, Nat.reduceAdd, Nat.reduceSub, reduceIte]
    rfl
  · rintro ⟨i, a⟩ ⟨p1, p2, p3, p4⟩
    simp only at p1 p2 p3 p4
    simp only [Ty.z, EV, Nat.reduceEqDiff, Nat.reduceBEq, Nat.reduceLT, Nat.reduceLeDiff, Nat.reduceAdd, Nat.reduceSub, reduceIte]
    refine cK_cut (fun h => ?_) (fun h => ?_)
    · have q1 : i < (prt false t).length := by simpa using h
      have q2 : (i : Int) < ((prt false t).length : Int) := by omega
      obtain ⟨k0, k1⟩ := hk _ (List.getElem_mem q1)
      have kn : (prt false t)[i].toNat < s.length := by omega
      have hg : getS s (prt false t)[i] = s[(prt false t)[i].toNat] := by simp [getS, kn]
      have hle := hs _ (List.getElem_mem kn)
      rw [sumP_step q1, hg] at p2
      clear h
      simp only [nth_map q1, q1, q2, nth_map kn, kn, k0, k1, iv, Ty.z, EV, Nat.reduceEqDiff, Nat.reduceBEq, Nat.reduceLT, Nat.reduceLeDiff, Nat.reduceAdd, Nat.reduceSub, reduceIte]
      refine cK_cut (fun h => ?_) (fun h => ?_)
      · have hneg : s[(prt false t)[i].toNat] < 0 := by simpa using h
        rw [if_pos hneg] at p2
        have e : oneP t s = -1 := by rw [ho, p2]
        simp only [EV, Nat.reduceEqDiff, Nat.reduceBEq, Nat.reduceLT, Nat.reduceLeDiff, Nat.reduceAdd, Nat.reduceSub, reduceIte]
        simp only [e, EV, Nat.reduceEqDiff, Nat.reduceBEq, Nat.reduceLT, Nat.reduceLeDiff, Nat.reduceAdd, Nat.reduceSub, reduceIte, evRE, retVC, cellV', evR, nfz, nfzs, nfzss, List.contains_nil, List.contains_cons, Bool.or_false, or_true]
      · have hneg : ¬ s[(prt false t)[i].toNat] < 0 := by simpa using h
        rw [if_neg hneg] at p2
        simp only [nth_map kn, kn, k0, k1, iv, Ty.z, EV, Nat.reduceEqDiff, Nat.reduceBEq, Nat.reduceLT, Nat.reduceLeDiff, Nat.reduceAdd, Nat.reduceSub, reduceIte]
        rw [w64 _ (by omega), w64 _ (by omega)]
        exact ⟨(i + 1, a + s[(prt false t)[i].toNat]), ⟨q1, p2, by simp only; omega, by simp only; omega⟩, by simp only; omega, rfl⟩
    · have q1 : i = (prt false t).length := by have : ¬ (i : Int) < ((prt false t).length : Int) := by simpa using h
                                               omega
      subst q1
      rw [List.drop_length, sumP] at p2
      rw [p2] at ho
      clear h
      simp only [Ty.z, EV, Nat.reduceEqDiff, Nat.reduceBEq, Nat.reduceLT, Nat.reduceLeDiff, Nat.reduceAdd, Nat.reduceSub, reduceIte]
      refine awp_join (fun _ : Unit => True) (fun _ => stl [(5, .v (.int .i64 (if (t.kind == 4) = true then a * t.long else a)))]) ?_ ?_
      · simp only [Ty.z, EV, Nat.reduceEqDiff, Nat.reduceBEq, Nat.reduceLT, Nat.reduceLeDiff, Nat.reduceAdd, Nat.reduceSub, reduceIte]
        rcases e4 : (t.kind == 4) with _ | _
        · simp only [Ty.z, EV, Nat.reduceEqDiff, Nat.reduceBEq, Nat.reduceLT, Nat.reduceLeDiff, Nat.reduceAdd, Nat.reduceSub, reduceIte]
          first
            | exact ⟨(), rfl⟩
            | exact ⟨(), trivial⟩
        · obtain ⟨l0, l1⟩ := hlong e4
          have m1 : a * t.long ≤ 7000000007 * t.long := Int.mul_le_mul_of_nonneg_right (by omega) l0
          have m2 : -1000000001 * t.long ≤ a * t.long := Int.mul_le_mul_of_nonneg_right (by omega) l0
          simp only [Ty.z, EV, Nat.reduceEqDiff, Nat.reduceBEq, Nat.reduceLT, Nat.reduceLeDiff, Nat.reduceAdd, Nat.reduceSub, reduceIte]
          rw [w64 _ (by omega)]
          first
            | exact ⟨(), rfl⟩
            | exact ⟨(), trivial⟩
      · rintro _ _
        simp only [EV, Nat.reduceEqDiff, Nat.reduceBEq, Nat.reduceLT, Nat.reduceLeDiff, Nat.reduceAdd, Nat.reduceSub, reduceIte]
        refine callK_i (d137 _ _) ?_
        simp only [EV, Nat.reduceEqDiff, Nat.reduceBEq, Nat.reduceLT, Nat.reduceLeDiff, Nat.reduceAdd, Nat.reduceSub, reduceIte]
        simp only [ho, capS, EV, Nat.reduceEqDiff, Nat.reduceBEq, Nat.reduceLT, Nat.reduceLeDiff, Nat.reduceAdd, Nat.reduceSub, reduceIte, evRE, retVC, cellV', evR, nfz, nfzs, nfzss, List.contains_nil, List.contains_cons, Bool.or_false, or_true]

end Go.AM
