/- Contracts of functions of the given program, for the law FnExactRoundFingers: what they return and what they write, under the bounds that each theorem states. -/
import Derived.Test.YtmacgaechjiecaaG1
import Derived.Shelf.Lay
import Derived.Shelf.Sort.Plain
import Derived.Ground.Names2Prog
import Derived.Shelf.Slices.CompactI
import Derived.Shelf.Slices.In.SortNone
namespace Go.AM
set_option linter.unusedVariables false
set_option linter.unusedSimpArgs false
def xorK (kd : IntKind) (a b : Int) : Int := kd.wrap (BitVec.ofInt kd.bits a ^^^ BitVec.ofInt kd.bits b).toNat

theorem evB3 : ∀ (kd : IntKind) (a b : Int) (K : AV → Prop), (binV .xor (.v (.int kd a)) (.v (.int kd b)) K = K (.v (.int kd (xorK kd a b)))) := by
  intros; simp [binV, binC, binR, xorK]

def mix1 (a b : Int) : Int := IntKind.u64.wrap (IntKind.u64.wrap (IntKind.u64.wrap (IntKind.u64.wrap a * 31) + IntKind.u64.wrap (IntKind.u64.wrap b * 131)) + 17)

def mix2 (z : Int) : Int := IntKind.u64.wrap (xorK .u64 z (shrK .u64 z 29) * 1000003)

def mix3 (z : Int) : Int := IntKind.i64.wrap (andK .u64 (xorK .u64 z (shrK .u64 z 32)) 4611686018427387903)

def mixN (a b : Int) : Int := mix3 (mix2 (mix1 a b))

def mixL (l : List Int) : Int := l.foldl mixN (l.length : Int)

def byI (s : ByteArray) : List Int := (List.range s.size).map fun i : Nat => IntKind.i64.wrap (sAt s (i : Int))

theorem byI_len (s : ByteArray) : (byI s).length = s.size := by simp [byI]

def textN (s : ByteArray) : Int := mixL (byI s)

theorem fold_take {l : List Int} {i : Nat} (h : i < l.length) (a : Int) : (l.take (i + 1)).foldl mixN a = mixN ((l.take i).foldl mixN a) l[i] := by
  rw [List.take_succ_eq_append_getElem h, List.foldl_append]; rfl

/-- loop.example/g00837/impl.mix -/
def m55 : MC :=
  (.seq
   (.reg [⟨(some 4), none, .a (.asg (.c (.int .i64 0)))⟩])
   (.seq
    (.reg [⟨(some 6), none, .q (.mov (.t 0))⟩,
      ⟨(some 7), none, .q (.conv .u64 (.t 6))⟩,
      ⟨(some 8), none, .q (.bin false .mul (.t 7) (.c (.int .u64 31)))⟩,
      ⟨(some 9), none, .q (.mov (.t 1))⟩,
      ⟨(some 10), none, .q (.conv .u64 (.t 9))⟩,
      ⟨(some 11), none, .q (.bin false .mul (.t 10) (.c (.int .u64 131)))⟩,
      ⟨(some 12), none, .q (.bin false .add (.t 8) (.t 11))⟩,
      ⟨(some 13), none, .q (.bin false .add (.t 12) (.c (.int .u64 17)))⟩,
      ⟨(some 5), none, .a (.asg (.t 13))⟩])
    (.seq
     (.reg [⟨(some 14), none, .q (.mov (.t 5))⟩,
       ⟨(some 15), none, .q (.mov (.t 5))⟩,
       ⟨(some 16), none, .q (.bin false .shr (.t 15) (.c (.int .u64 29)))⟩,
       ⟨(some 17), none, .q (.bin false .xor (.t 14) (.t 16))⟩,
       ⟨(some 5), none, .a (.asg (.t 17))⟩])
     (.seq
      (.reg [⟨(some 18), none, .q (.mov (.t 5))⟩,
        ⟨(some 19), none, .q (.bin false .mul (.t 18) (.c (.int .u64 1000003)))⟩,
        ⟨(some 5), none, .a (.asg (.t 19))⟩])
      (.seq
       (.reg [⟨(some 20), none, .q (.mov (.t 5))⟩,
         ⟨(some 21), none, .q (.mov (.t 5))⟩,
         ⟨(some 22), none, .q (.bin false .shr (.t 21) (.c (.int .u64 32)))⟩,
         ⟨(some 23), none, .q (.bin false .xor (.t 20) (.t 22))⟩,
         ⟨(some 5), none, .a (.asg (.t 23))⟩])
       (.seq
        (.reg [⟨(some 24), none, .q (.mov (.t 5))⟩,
          ⟨(some 25), none, .q (.bin false .and (.t 24) (.c (.int .u64 4611686018427387903)))⟩,
          ⟨(some 26), none, .q (.conv .i64 (.t 25))⟩,
          ⟨(some 4), none, .a (.asg (.t 26))⟩])
        .ret))))))

theorem d55 (a b : Int) : Does Go.Proofs.Try.prog 55 [.v (.int .i64 a), .v (.int .i64 b)] false (.v (.int .i64 (mixN a b))) [.dead, .dead] := by
  refine does_intro (mc := m55) (N := 27) (rs := [4]) (fx := []) 2 rfl (by decide +kernel) ?_
  simp only [m55, evB2, evB3, EV, Nat.reduceEqDiff, Nat.reduceBEq, Nat.reduceLT, Nat.reduceLeDiff, Nat.reduceAdd, Nat.reduceSub, reduceIte]
  refine ⟨by decide, by decide, ?_⟩
  simp only [mixN, mix1, mix2, mix3, EV, Nat.reduceEqDiff, Nat.reduceBEq, Nat.reduceLT, Nat.reduceLeDiff, Nat.reduceAdd, Nat.reduceSub, reduceIte, evRE, retVC, cellV', evR, nfz, nfzs, nfzss, List.contains_nil, List.contains_cons, Bool.or_false, or_true]

/-- loop.example/g00837/spec.Mix -/
def m42 : MC :=
  (.seq
   (.reg [⟨(some 4), none, .a (.asg (.c (.int .i64 0)))⟩])
   (.seq
    (.reg [⟨(some 6), none, .q (.mov (.t 0))⟩,
      ⟨(some 7), none, .q (.conv .u64 (.t 6))⟩,
      ⟨(some 8), none, .q (.bin false .mul (.t 7) (.c (.int .u64 31)))⟩,
      ⟨(some 9), none, .q (.mov (.t 1))⟩,
      ⟨(some 10), none, .q (.conv .u64 (.t 9))⟩,
      ⟨(some 11), none, .q (.bin false .mul (.t 10) (.c (.int .u64 131)))⟩,
      ⟨(some 12), none, .q (.bin false .add (.t 8) (.t 11))⟩,
      ⟨(some 13), none, .q (.bin false .add (.t 12) (.c (.int .u64 17)))⟩,
      ⟨(some 5), none, .a (.asg (.t 13))⟩])
    (.seq
     (.reg [⟨(some 14), none, .q (.mov (.t 5))⟩,
       ⟨(some 15), none, .q (.mov (.t 5))⟩,
       ⟨(some 16), none, .q (.bin false .shr (.t 15) (.c (.int .u64 29)))⟩,
       ⟨(some 17), none, .q (.bin false .xor (.t 14) (.t 16))⟩,
       ⟨(some 18), none, .q (.bin false .mul (.t 17) (.c (.int .u64 1000003)))⟩,
       ⟨(some 5), none, .a (.asg (.t 18))⟩])
     (.seq
      (.reg [⟨(some 19), none, .q (.mov (.t 5))⟩,
        ⟨(some 20), none, .q (.mov (.t 5))⟩,
        ⟨(some 21), none, .q (.bin false .shr (.t 20) (.c (.int .u64 32)))⟩,
        ⟨(some 22), none, .q (.bin false .xor (.t 19) (.t 21))⟩,
        ⟨(some 5), none, .a (.asg (.t 22))⟩])
      (.seq
       (.reg [⟨(some 23), none, .q (.mov (.t 5))⟩,
         ⟨(some 24), none, .q (.bin false .and (.t 23) (.c (.int .u64 4611686018427387903)))⟩,
         ⟨(some 25), none, .q (.conv .i64 (.t 24))⟩,
         ⟨(some 4), none, .a (.asg (.t 25))⟩])
       .ret)))))

theorem d42 (a b : Int) : Does Go.Proofs.Try.prog 42 [.v (.int .i64 a), .v (.int .i64 b)] false (.v (.int .i64 (mixN a b))) [.dead, .dead] := by
  refine does_intro (mc := m42) (N := 26) (rs := [4]) (fx := []) 2 rfl (by decide +kernel) ?_
  simp only [m42, evB2, evB3, EV, Nat.reduceEqDiff, Nat.reduceBEq, Nat.reduceLT, Nat.reduceLeDiff, Nat.reduceAdd, Nat.reduceSub, reduceIte]
  refine ⟨by decide, by decide, ?_⟩
  simp only [mixN, mix1, mix2, mix3, EV, Nat.reduceEqDiff, Nat.reduceBEq, Nat.reduceLT, Nat.reduceLeDiff, Nat.reduceAdd, Nat.reduceSub, reduceIte, evRE, retVC, cellV', evR, nfz, nfzs, nfzss, List.contains_nil, List.contains_cons, Bool.or_false, or_true]

/-- loop.example/g00837/impl.mixAll -/
def m33 : MC :=
  (.seq
   (.reg [⟨(some 2), none, .a (.asg (.c (.int .i64 0)))⟩])
   (.seq
    (.reg [⟨(some 6), none, .q (.mov (.t 0))⟩,
      ⟨(some 7), none, .q (.len false (.t 6))⟩,
      ⟨(some 3), none, .a (.asg (.t 7))⟩])
    (.seq
     (.seq
      (.reg [⟨(some 8), none, .q (.mov (.t 0))⟩,
        ⟨(some 9), none, .q (.len false (.t 8))⟩,
        ⟨(some 10), none, .q (.mov (.c (.int .i64 0)))⟩])
      (.block 0
       (.loop [0, 3, 8, 9, 10]
        (.seq
         (.reg [⟨(some 11), none, .q (.bin false .lss (.t 10) (.t 9))⟩])
         (.seq
          (.cond (.t 11)
           .skip
           (.exit 0))
          (.seq
           (.block 1
            (.seq
             (.reg [⟨(some 12), none, .q (.iad 1 (.t 8) (.t 10))⟩,
               ⟨(some 13), none, .q (.load false 1 (.t 12))⟩,
               ⟨(some 5), none, .a (.asg (.t 13))⟩])
             (.reg [⟨(some 14), none, .q (.mov (.t 3))⟩,
               ⟨(some 15), none, .q (.mov (.t 5))⟩,
               ⟨(some 16), none, .a (.call (.fn 55) false [.lend (.t 14), .lend (.t 15)])⟩,
               ⟨(some 3), none, .a (.asg (.t 16))⟩])))
           (.reg [⟨(some 17), none, .q (.bin false .add (.t 10) (.c (.int .i64 1)))⟩,
             ⟨(some 10), none, .q (.mov (.t 17))⟩])))))))
     (.seq
      (.reg [⟨(some 18), none, .q (.mov (.t 3))⟩,
        ⟨(some 2), none, .a (.asg (.t 18))⟩])
      .ret))))

theorem d33 (l : List Int) (hl : (l.length : Int) ≤ 4611686018427387904) : Does Go.Proofs.Try.prog 33 [.fsl 1 (l.map iv)] false (.v (.int .i64 (mixL l))) [.dead] := by
  refine does_intro (mc := m33) (N := 19) (rs := [2]) (fx := []) 1 rfl (by decide +kernel) ?_
  simp only [m33, EV, Nat.reduceEqDiff, Nat.reduceBEq, Nat.reduceLT, Nat.reduceLeDiff, Nat.reduceAdd, Nat.reduceSub, reduceIte]
  refine awp_loop (fun i : Nat => i ≤ l.length) (fun i => stl [(0, .fsl 1 (l.map iv)), (3, .v (.int .i64 ((l.take i).foldl mixN (l.length : Int)))), (8, .fsl 1 (l.map iv)), (9, .v (.int .i64 (l.length : Int))), (10, .v (.int .i64 (i : Int)))]) (fun i => l.length - i) 0 (Nat.zero_le _) ?_ ?_
  · simp only [List.take_zero, List.foldl_nil, EV, Nat.reduceEqDiff, Nat.reduceBEq, Nat.reduceLT, Nat.reduceLeDiff, Nat.reduceAdd, Nat.reduceSub, reduceIte]
    rfl
  · intro i hi
    simp only [EV, Nat.reduceEqDiff, Nat.reduceBEq, Nat.reduceLT, Nat.reduceLeDiff, Nat.reduceAdd, Nat.reduceSub, reduceIte]
    refine cK_cut (fun h => ?_) (fun h => ?_)
    · have h1 : i < l.length := by simpa using h
      have h2 : (i : Int) < (l.length : Int) := by omega
      simp only [h2, nth_map h1, iv, EV, Nat.reduceEqDiff, Nat.reduceBEq, Nat.reduceLT, Nat.reduceLeDiff, Nat.reduceAdd, Nat.reduceSub, reduceIte]
      refine callK_i (d55 _ _) ?_
      simp only [EV, Nat.reduceEqDiff, Nat.reduceBEq, Nat.reduceLT, Nat.reduceLeDiff, Nat.reduceAdd, Nat.reduceSub, reduceIte]
      rw [w64 _ (by omega)]
      exact ⟨i + 1, h1, by omega, by rw [fold_take h1]; rfl⟩
    · have h1 : i = l.length := by have : ¬ (i : Int) < l.length := by simpa using h
                                   omega
      subst h1
      simp only [EV, Nat.reduceEqDiff, Nat.reduceBEq, Nat.reduceLT, Nat.reduceLeDiff, Nat.reduceAdd, Nat.reduceSub, reduceIte]
      simp only [mixL, List.take_length, EV, Nat.reduceEqDiff, Nat.reduceBEq, Nat.reduceLT, Nat.reduceLeDiff, Nat.reduceAdd, Nat.reduceSub, reduceIte, evRE, retVC, cellV', evR, nfz, nfzs, nfzss, List.contains_nil, List.contains_cons, Bool.or_false, or_true]

/-- loop.example/g00837/spec.l1MixAll -/
def m27 : MC :=
  (.seq
   (.reg [⟨(some 2), none, .a (.asg (.c (.int .i64 0)))⟩])
   (.seq
    (.reg [⟨(some 6), none, .q (.mov (.t 0))⟩,
      ⟨(some 7), none, .q (.len false (.t 6))⟩,
      ⟨(some 3), none, .a (.asg (.t 7))⟩])
    (.seq
     (.seq
      (.reg [⟨(some 8), none, .q (.mov (.t 0))⟩,
        ⟨(some 9), none, .q (.len false (.t 8))⟩,
        ⟨(some 10), none, .q (.mov (.c (.int .i64 0)))⟩])
      (.block 0
       (.loop [0, 3, 8, 9, 10]
        (.seq
         (.reg [⟨(some 11), none, .q (.bin false .lss (.t 10) (.t 9))⟩])
         (.seq
          (.cond (.t 11)
           .skip
           (.exit 0))
          (.seq
           (.block 1
            (.seq
             (.reg [⟨(some 12), none, .q (.iad 1 (.t 8) (.t 10))⟩,
               ⟨(some 13), none, .q (.load false 1 (.t 12))⟩,
               ⟨(some 5), none, .a (.asg (.t 13))⟩])
             (.reg [⟨(some 14), none, .q (.mov (.t 3))⟩,
               ⟨(some 15), none, .q (.mov (.t 5))⟩,
               ⟨(some 16), none, .a (.call (.fn 42) false [.lend (.t 14), .lend (.t 15)])⟩,
               ⟨(some 3), none, .a (.asg (.t 16))⟩])))
           (.reg [⟨(some 17), none, .q (.bin false .add (.t 10) (.c (.int .i64 1)))⟩,
             ⟨(some 10), none, .q (.mov (.t 17))⟩])))))))
     (.seq
      (.reg [⟨(some 18), none, .q (.mov (.t 3))⟩,
        ⟨(some 2), none, .a (.asg (.t 18))⟩])
      .ret))))

theorem d27 (l : List Int) (hl : (l.length : Int) ≤ 4611686018427387904) : Does Go.Proofs.Try.prog 27 [.fsl 1 (l.map iv)] false (.v (.int .i64 (mixL l))) [.dead] := by
  refine does_intro (mc := m27) (N := 19) (rs := [2]) (fx := []) 1 rfl (by decide +kernel) ?_
  simp only [m27, EV, Nat.reduceEqDiff, Nat.reduceBEq, Nat.reduceLT, Nat.reduceLeDiff, Nat.reduceAdd, Nat.reduceSub, reduceIte]
  refine awp_loop (fun i : Nat => i ≤ l.length) (fun i => stl [(0, .fsl 1 (l.map iv)), (3, .v (.int .i64 ((l.take i).foldl mixN (l.length : Int)))), (8, .fsl 1 (l.map iv)), (9, .v (.int .i64 (l.length : Int))), (10, .v (.int .i64 (i : Int)))]) (fun i => l.length - i) 0 (Nat.zero_le _) ?_ ?_
  · simp only [List.take_zero, List.foldl_nil, EV, Nat.reduceEqDiff, Nat.reduceBEq, Nat.reduceLT, Nat.reduceLeDiff, Nat.reduceAdd, Nat.reduceSub, reduceIte]
    rfl
  · intro i hi
    simp only [EV, Nat.reduceEqDiff, Nat.reduceBEq, Nat.reduceLT, Nat.reduceLeDiff, Nat.reduceAdd, Nat.reduceSub, reduceIte]
    refine cK_cut (fun h => ?_) (fun h => ?_)
    · have h1 : i < l.length := by simpa using h
      have h2 : (i : Int) < (l.length : Int) := by omega
      simp only [h2, nth_map h1, iv, EV, Nat.reduceEqDiff, Nat.reduceBEq, Nat.reduceLT, Nat.reduceLeDiff, Nat.reduceAdd, Nat.reduceSub, reduceIte]
      refine callK_i (d42 _ _) ?_
      simp only [EV, Nat.reduceEqDiff, Nat.reduceBEq, Nat.reduceLT, Nat.reduceLeDiff, Nat.reduceAdd, Nat.reduceSub, reduceIte]
      rw [w64 _ (by omega)]
      exact ⟨i + 1, h1, by omega, by rw [fold_take h1]; rfl⟩
    · have h1 : i = l.length := by have : ¬ (i : Int) < l.length := by simpa using h
                                   omega
      subst h1
      simp only [EV, Nat.reduceEqDiff, Nat.reduceBEq, Nat.reduceLT, Nat.reduceLeDiff, Nat.reduceAdd, Nat.reduceSub, reduceIte]
      simp only [mixL, List.take_length, EV, Nat.reduceEqDiff, Nat.reduceBEq, Nat.reduceLT, Nat.reduceLeDiff, Nat.reduceAdd, Nat.reduceSub, reduceIte, evRE, retVC, cellV', evR, nfz, nfzs, nfzss, List.contains_nil, List.contains_cons, Bool.or_false, or_true]

theorem byI_take {s : ByteArray} {i : Nat} (h : i < s.size) : (byI s).take (i + 1) = (byI s).take i ++ [IntKind.i64.wrap (sAt s (i : Int))] := by
  have h1 : i < (byI s).length := by rw [byI_len]; exact h
  rw [List.take_succ_eq_append_getElem h1]
  simp [byI]

/-- loop.example/g00837/impl.bytesOf -/
def m56 : MC :=
  (.seq
   (.reg [⟨(some 2), none, .a (.asg (.nils 3 1))⟩])
   (.seq
    (.reg [⟨(some 5), none, .a (.bsl 3 1 [])⟩,
      ⟨(some 3), none, .a (.asg (.t 5))⟩])
    (.seq
     (.seq
      (.reg [⟨(some 6), none, .q (.mov (.t 0))⟩,
        ⟨(some 7), none, .q (.len true (.t 6))⟩,
        ⟨(some 8), none, .q (.mov (.c (.int .i64 0)))⟩])
      (.block 0
       (.loop [0, 3, 5, 7, 8, 17]
        (.seq
         (.reg [⟨(some 9), none, .q (.bin false .lss (.t 8) (.t 7))⟩])
         (.seq
          (.cond (.t 9)
           .skip
           (.exit 0))
          (.seq
           (.block 1
            (.seq
             (.reg [⟨(some 10), none, .q (.mov (.t 8))⟩,
               ⟨(some 4), none, .a (.asg (.t 10))⟩])
             (.reg [⟨(some 11), none, .q (.mov (.t 3))⟩,
               ⟨(some 12), none, .q (.mov (.t 0))⟩,
               ⟨(some 13), none, .q (.mov (.t 4))⟩,
               ⟨(some 14), none, .q (.idx (.t 12) (.t 13))⟩,
               ⟨(some 15), none, .q (.conv .i64 (.t 14))⟩,
               ⟨(some 16), none, .a (.bsl 3 1 [.t 15])⟩,
               ⟨(some 17), none, .a (.app true 3 1 8 (.t 11) (.t 16))⟩,
               ⟨(some 3), none, .a (.asg (.t 17))⟩])))
           (.reg [⟨(some 18), none, .q (.bin false .add (.t 8) (.c (.int .i64 1)))⟩,
             ⟨(some 8), none, .q (.mov (.t 18))⟩])))))))
     (.seq
      (.reg [⟨(some 19), none, .q (.mov (.t 3))⟩,
        ⟨(some 2), none, .a (.asg (.t 19))⟩])
      .ret))))

theorem d56 (s : ByteArray) (hs : (s.size : Int) ≤ 1048576) : Does Go.Proofs.Try.prog 56 [.v (.string s)] false (.usl 3 1 ((byI s).map iv)) [.dead] := by
  refine does_intro (mc := m56) (N := 20) (rs := [2]) (fx := []) 1 rfl (by decide +kernel) ?_
  simp only [m56, EV, Nat.reduceEqDiff, Nat.reduceBEq, Nat.reduceLT, Nat.reduceLeDiff, Nat.reduceAdd, Nat.reduceSub, reduceIte]
  refine awp_loop (fun i : Nat => i ≤ s.size) (fun i => stl [(0, .v (.string s)), (3, .usl 3 1 (((byI s).take i).map iv)), (5, .dead), (7, .v (.int .i64 (s.size : Int))), (8, .v (.int .i64 (i : Int))), (17, .dead)]) (fun i => s.size - i) 0 (Nat.zero_le _) ?_ ?_
  · simp only [List.take_zero, List.map_nil, EV, Nat.reduceEqDiff, Nat.reduceBEq, Nat.reduceLT, Nat.reduceLeDiff, Nat.reduceAdd, Nat.reduceSub, reduceIte]
    rfl
  · intro i hi
    simp only [EV, Nat.reduceEqDiff, Nat.reduceBEq, Nat.reduceLT, Nat.reduceLeDiff, Nat.reduceAdd, Nat.reduceSub, reduceIte]
    refine cK_cut (fun h => ?_) (fun h => ?_)
    · have h2 : (i : Int) < s.size := by simpa using h
      have h1 : i < s.size := by omega
      have hb := byI_len s
      simp only [h2, EV, Nat.reduceEqDiff, Nat.reduceBEq, Nat.reduceLT, Nat.reduceLeDiff, Nat.reduceAdd, Nat.reduceSub, reduceIte]
      refine ⟨by simp; omega, by simp; omega, ?_⟩
      rw [w64 ((i : Int) + 1) (by omega)]
      exact ⟨i + 1, h1, by omega, by rw [byI_take h1, List.map_append]; rfl⟩
    · have h1 : i = s.size := by have : ¬ (i : Int) < s.size := by simpa using h
                                 omega
      subst h1
      have e : (byI s).take s.size = byI s := by rw [List.take_of_length_le]; rw [byI_len]; exact Nat.le_refl _
      simp only [EV, Nat.reduceEqDiff, Nat.reduceBEq, Nat.reduceLT, Nat.reduceLeDiff, Nat.reduceAdd, Nat.reduceSub, reduceIte]
      simp only [e, iv_nfz, EV, Nat.reduceEqDiff, Nat.reduceBEq, Nat.reduceLT, Nat.reduceLeDiff, Nat.reduceAdd, Nat.reduceSub, reduceIte, evRE, retVC, cellV', evR, nfz, nfzs, nfzss, List.contains_nil, List.contains_cons, Bool.or_false, or_true]

/-- loop.example/g00837/impl.textFinger -/
def m34 : MC :=
  (.seq
   (.reg [⟨(some 2), none, .a (.asg (.c (.int .i64 0)))⟩])
   (.seq
    (.reg [⟨(some 3), none, .q (.mov (.t 0))⟩,
      ⟨(some 4), none, .a (.call (.fn 56) false [.lend (.t 3)])⟩,
      ⟨(some 5), none, .a (.call (.fn 33) false [.lend (.t 4)])⟩,
      ⟨(some 2), none, .a (.asg (.t 5))⟩])
    .ret))

theorem d34 (s : ByteArray) (hs : (s.size : Int) ≤ 1048576) : Does Go.Proofs.Try.prog 34 [.v (.string s)] false (.v (.int .i64 (textN s))) [.dead] := by
  have hb := byI_len s
  refine does_intro (mc := m34) (N := 6) (rs := [2]) (fx := []) 1 rfl (by decide +kernel) ?_
  simp only [m34, EV, Nat.reduceEqDiff, Nat.reduceBEq, Nat.reduceLT, Nat.reduceLeDiff, Nat.reduceAdd, Nat.reduceSub, reduceIte]
  refine callK_i (d56 s hs) ?_
  simp only [iv_frz, EV, Nat.reduceEqDiff, Nat.reduceBEq, Nat.reduceLT, Nat.reduceLeDiff, Nat.reduceAdd, Nat.reduceSub, reduceIte]
  refine callK_i (d33 (byI s) (by omega)) ?_
  simp only [EV, Nat.reduceEqDiff, Nat.reduceBEq, Nat.reduceLT, Nat.reduceLeDiff, Nat.reduceAdd, Nat.reduceSub, reduceIte]
  simp only [textN, EV, Nat.reduceEqDiff, Nat.reduceBEq, Nat.reduceLT, Nat.reduceLeDiff, Nat.reduceAdd, Nat.reduceSub, reduceIte, evRE, retVC, cellV', evR, nfz, nfzs, nfzss, List.contains_nil, List.contains_cons, Bool.or_false, or_true]

/-- loop.example/g00837/spec.l8Text -/
def m28 : MC :=
  (.seq
   (.reg [⟨(some 2), none, .a (.asg (.c (.int .i64 0)))⟩])
   (.seq
    (.reg [⟨(some 3), none, .a (.asg (.nils 3 1))⟩])
    (.seq
     (.seq
      (.reg [⟨(some 4), none, .a (.asg (.c (.int .i64 0)))⟩])
      (.block 0
       (.loop [0, 3, 4, 17]
        (.seq
         (.seq
          (.reg [⟨(some 5), none, .q (.mov (.t 4))⟩,
            ⟨(some 6), none, .q (.mov (.t 0))⟩,
            ⟨(some 7), none, .q (.len true (.t 6))⟩,
            ⟨(some 8), none, .q (.bin false .lss (.t 5) (.t 7))⟩])
          (.cond (.t 8)
           .skip
           (.exit 0)))
         (.seq
          (.block 1
           (.reg [⟨(some 11), none, .q (.mov (.t 3))⟩,
             ⟨(some 12), none, .q (.mov (.t 0))⟩,
             ⟨(some 13), none, .q (.mov (.t 4))⟩,
             ⟨(some 14), none, .q (.idx (.t 12) (.t 13))⟩,
             ⟨(some 15), none, .q (.conv .i64 (.t 14))⟩,
             ⟨(some 16), none, .a (.bsl 3 1 [.t 15])⟩,
             ⟨(some 17), none, .a (.app true 3 1 8 (.t 11) (.t 16))⟩,
             ⟨(some 3), none, .a (.asg (.t 17))⟩]))
          (.reg [⟨(some 9), none, .q (.mov (.t 4))⟩,
            ⟨(some 10), none, .q (.bin false .add (.t 9) (.c (.int .i64 1)))⟩,
            ⟨(some 4), none, .a (.asg (.t 10))⟩]))))))
     (.seq
      (.reg [⟨(some 18), none, .q (.mov (.t 3))⟩,
        ⟨(some 19), none, .a (.call (.fn 27) false [.lend (.t 18)])⟩,
        ⟨(some 2), none, .a (.asg (.t 19))⟩])
      .ret))))

theorem d28 (s : ByteArray) (hs : (s.size : Int) ≤ 1048576) : Does Go.Proofs.Try.prog 28 [.v (.string s)] false (.v (.int .i64 (textN s))) [.dead] := by
  have hb := byI_len s
  refine does_intro (mc := m28) (N := 20) (rs := [2]) (fx := []) 1 rfl (by decide +kernel) ?_
  simp only [m28, EV, Nat.reduceEqDiff, Nat.reduceBEq, Nat.reduceLT, Nat.reduceLeDiff, Nat.reduceAdd, Nat.reduceSub, reduceIte]
  refine awp_loop (fun i : Nat => i ≤ s.size) (fun i => stl [(0, .v (.string s)), (3, .usl 3 1 (((byI s).take i).map iv)), (4, .v (.int .i64 (i : Int))), (17, .dead)]) (fun i => s.size - i) 0 (Nat.zero_le _) ?_ ?_
  · simp only [List.take_zero, List.map_nil, EV, Nat.reduceEqDiff, Nat.reduceBEq, Nat.reduceLT, Nat.reduceLeDiff, Nat.reduceAdd, Nat.reduceSub, reduceIte]
    rfl
  · intro i hi
    simp only [EV, Nat.reduceEqDiff, Nat.reduceBEq, Nat.reduceLT, Nat.reduceLeDiff, Nat.reduceAdd, Nat.reduceSub, reduceIte]
    refine cK_cut (fun h => ?_) (fun h => ?_)
    · have h2 : (i : Int) < s.size := by simpa using h
      have h1 : i < s.size := by omega
      simp only [h2, EV, Nat.reduceEqDiff, Nat.reduceBEq, Nat.reduceLT, Nat.reduceLeDiff, Nat.reduceAdd, Nat.reduceSub, reduceIte]
      refine ⟨by simp; omega, by simp; omega, ?_⟩
      rw [w64 ((i : Int) + 1) (by omega)]
      exact ⟨i + 1, h1, by omega, by rw [byI_take h1, List.map_append]; rfl⟩
    · have h1 : i = s.size := by have : ¬ (i : Int) < s.size := by simpa using h
                                 omega
      subst h1
      have e : (byI s).take s.size = byI s := by rw [List.take_of_length_le]; rw [byI_len]; exact Nat.le_refl _
      simp only [EV, Nat.reduceEqDiff, Nat.reduceBEq, Nat.reduceLT, Nat.reduceLeDiff, Nat.reduceAdd, Nat.reduceSub, reduceIte]
      simp only [e, iv_frz, EV, Nat.reduceEqDiff, Nat.reduceBEq, Nat.reduceLT, Nat.reduceLeDiff, Nat.reduceAdd, Nat.reduceSub, reduceIte]
      refine callK_i (d27 (byI s) (by omega)) ?_
      simp only [EV, Nat.reduceEqDiff, Nat.reduceBEq, Nat.reduceLT, Nat.reduceLeDiff, Nat.reduceAdd, Nat.reduceSub, reduceIte]
      simp only [textN, EV, Nat.reduceEqDiff, Nat.reduceBEq, Nat.reduceLT, Nat.reduceLeDiff, Nat.reduceAdd, Nat.reduceSub, reduceIte, evRE, retVC, cellV', evR, nfz, nfzs, nfzss, List.contains_nil, List.contains_cons, Bool.or_false, or_true]

end Go.AM
namespace Go.AM
set_option linter.unusedVariables false
set_option linter.unusedSimpArgs false
def nil' (s : ByteArray) : Bool := s.toList == (⟨#[]⟩ : ByteArray).toList

theorem loop_len (bs : ByteArray) : ∀ (n i : Nat) (r : List UInt8), bs.size - i ≤ n → r.length ≤ (ByteArray.toList.loop bs i r).length
  | 0, i, r, h => by
    rw [ByteArray.toList.loop.eq_1, if_neg (by omega)]
    simp
  | n + 1, i, r, h => by
    rw [ByteArray.toList.loop.eq_1]
    split
    · have := loop_len bs n (i + 1) (bs.get! i :: r) (by omega)
      simp only [List.length_cons] at this
      omega
    · simp

theorem nil_size {s : ByteArray} (h : nil' s = true) : s.size = 0 := by
  have e : s.toList = (⟨#[]⟩ : ByteArray).toList := by simpa [nil'] using h
  have e0 : (⟨#[]⟩ : ByteArray).toList = [] := ByteArray.toList_empty
  rw [e0, ByteArray.toList.eq_1, ByteArray.toList.loop.eq_1] at e
  split at e
  · have := loop_len s s.size (0 + 1) [s.get! 0] (by omega)
    rw [e] at this
    simp at this
  · omega

theorem nil_name {s : ByteArray} (h : nil' s = true) : nameOk s = false := by
  have := nil_size h
  simp only [nameOk, decide_eq_false_iff_not]
  rintro ⟨_, h1, _⟩
  omega

noncomputable def fdAt (l : List Ty) (fs : List Fd) (i : Nat) (h : i < fs.length) : Bool :=
  (decide (0 ≤ fs[i].mark) && decide (fs[i].mark ≤ 2)) && (isNum l fs[i].typ && (if nil' fs[i].name = true then fs[i].mark == 0 else nameOk fs[i].name && !((fs.take i).any (fdNm fs[i]))))

def fdTo (l : List Ty) (fs : List Fd) (n : Nat) : Prop := ∀ i (h : i < fs.length), i < n → fdAt l fs i h = true

open Classical in
noncomputable def fdsOk (l : List Ty) (fs : List Fd) : Bool := decide (fdTo l fs fs.length ∧ fs.length ≤ 6)

theorem fdTo_succ {l : List Ty} {fs : List Fd} {i : Nat} (h : i < fs.length) (h1 : fdTo l fs i) (h2 : fdAt l fs i h = true) : fdTo l fs (i + 1) := by
  intro j hj hji
  by_cases e : j = i
  · subst e; exact h2
  · exact h1 j hj (by omega)

theorem fdsOk_no {l : List Ty} {fs : List Fd} {i : Nat} (h : i < fs.length) (h2 : fdAt l fs i h = false) : fdsOk l fs = false := by
  simp only [fdsOk, decide_eq_false_iff_not]
  rintro ⟨h1, _⟩
  have := h1 i h h
  rw [h2] at this; cases this

theorem fdsOk_yes {l : List Ty} {fs : List Fd} (h : fdTo l fs fs.length) : fdsOk l fs = decide ((fs.length : Int) ≤ 6) := by
  have e2 : decide ((fs.length : Int) ≤ 6) = decide (fs.length ≤ 6) := by congr 1; apply propext; omega
  simp [fdsOk, h, e2]

/-- loop.example/g00837/impl.areFields -/
def m68 : MC :=
  (.seq
   (.reg [⟨(some 4), none, .a (.asg (.c (.bool false)))⟩])
   (.seq
    (.seq
     (.reg [⟨(some 7), none, .q (.mov (.t 1))⟩,
       ⟨(some 8), none, .q (.len false (.t 7))⟩,
       ⟨(some 9), none, .q (.mov (.c (.int .i64 0)))⟩])
     (.block 0
      (.loop [0, 1, 7, 8, 9]
       (.seq
        (.reg [⟨(some 10), none, .q (.bin false .lss (.t 9) (.t 8))⟩])
        (.seq
         (.cond (.t 10)
          .skip
          (.exit 0))
         (.join [0, 1, 7, 8, 9]
          (.block 1
           (.seq
            (.reg [⟨(some 11), none, .q (.mov (.t 9))⟩,
              ⟨(some 12), none, .q (.iad 3 (.t 7) (.t 9))⟩,
              ⟨(some 13), none, .q (.load true 3 (.t 12))⟩,
              ⟨(some 6), none, .a (.alloc 54 [.v (.string ({ data := #[] })), .v (.int .i64 0), .v (.int .i64 0)])⟩,
              ⟨(some 5), none, .a (.asg (.t 11))⟩,
              ⟨none, none, .a (.store 3 (.t 6) (.t 13))⟩])
            (.seq
             (.seq
              (.reg [⟨(some 14), none, .q (.fad 1 (.t 6))⟩,
                ⟨(some 15), none, .q (.load false 1 (.t 14))⟩,
                ⟨(some 16), none, .a (.call (.fn 19) false [.lend (.t 15), .lend (.c (.int .i64 0)), .lend (.c (.int .i64 2))])⟩,
                ⟨(some 17), none, .q (.un .not (.t 16))⟩,
                ⟨(some 18), none, .q (.mov (.t 17))⟩,
                ⟨(some 19), (some (18, false)), .q (.mov (.t 0))⟩,
                ⟨(some 20), (some (18, false)), .q (.fad 2 (.t 6))⟩,
                ⟨(some 21), (some (18, false)), .q (.load false 1 (.t 20))⟩,
                ⟨(some 22), (some (18, false)), .a (.call (.fn 66) false [.lend (.t 19), .lend (.t 21)])⟩,
                ⟨(some 23), (some (18, false)), .q (.un .not (.t 22))⟩,
                ⟨(some 24), none, .q (.pick (.t 18) (.c (.bool true)) (.t 23))⟩])
              (.cond (.t 24)
               (.seq
                (.reg [⟨(some 4), none, .a (.asg (.c (.bool false)))⟩])
                .ret)
               .skip))
             (.seq
              (.seq
               (.reg [⟨(some 25), none, .q (.fad 0 (.t 6))⟩,
                 ⟨(some 26), none, .q (.load false 1 (.t 25))⟩,
                 ⟨(some 27), none, .q (.bin false .eql (.t 26) (.c (.string ({ data := #[] }))))⟩])
               (.cond (.t 27)
                (.seq
                 (.seq
                  (.reg [⟨(some 28), none, .q (.fad 1 (.t 6))⟩,
                    ⟨(some 29), none, .q (.load false 1 (.t 28))⟩,
                    ⟨(some 30), none, .q (.bin false .neq (.t 29) (.c (.int .i64 0)))⟩])
                  (.cond (.t 30)
                   (.seq
                    (.reg [⟨(some 4), none, .a (.asg (.c (.bool false)))⟩])
                    .ret)
                   .skip))
                 (.exit 1))
                .skip))
              (.seq
               (.reg [⟨(some 31), none, .q (.fad 0 (.t 6))⟩,
                 ⟨(some 32), none, .q (.load false 1 (.t 31))⟩,
                 ⟨(some 33), none, .a (.call (.fn 73) false [.lend (.t 32)])⟩,
                 ⟨(some 34), none, .q (.un .not (.t 33))⟩,
                 ⟨(some 35), none, .q (.mov (.t 34))⟩,
                 ⟨(some 36), (some (35, false)), .q (.mov (.t 1))⟩,
                 ⟨(some 37), (some (35, false)), .q (.mov (.t 5))⟩,
                 ⟨(some 38), (some (35, false)), .q (.slc false 3 (.t 36) none (some (.t 37)))⟩,
                 ⟨(some 39), (some (35, false)), .q (.mkf 75 [.t 6])⟩,
                 ⟨(some 40), (some (35, false)), .a (.call (.fn 74) false [.lend (.t 38), .lend (.t 39)])⟩,
                 ⟨(some 41), none, .q (.pick (.t 35) (.c (.bool true)) (.t 40))⟩])
               (.cond (.t 41)
                (.seq
                 (.reg [⟨(some 4), none, .a (.asg (.c (.bool false)))⟩])
                 .ret)
                .skip))))))
          (.reg [⟨(some 42), none, .q (.bin false .add (.t 9) (.c (.int .i64 1)))⟩,
            ⟨(some 9), none, .q (.mov (.t 42))⟩])))))))
    (.seq
     (.reg [⟨(some 43), none, .q (.mov (.t 1))⟩,
       ⟨(some 44), none, .q (.len false (.t 43))⟩,
       ⟨(some 45), none, .q (.bin false .leq (.t 44) (.c (.int .i64 6)))⟩,
       ⟨(some 4), none, .a (.asg (.t 45))⟩])
     .ret)))

set_option maxHeartbeats 1000000 in
set_option maxRecDepth 100000 in
theorem d68 (l : List Ty) (fs : List Fd) (hl : (l.length : Int) ≤ 1048576) (hf : (fs.length : Int) ≤ 1048576) (hs : ∀ s ∈ fs, s.sm) :
    Does Go.Proofs.Try.prog 68 [.fsl 6 (l.map Ty.z), .fsl 3 (fs.map Fd.z)] false (.v (.bool (fdsOk l fs))) [.dead, .dead] := by
  refine does_intro (mc := m68) (N := 46) (rs := [4]) (fx := []) 2 rfl (by decide +kernel) ?_
  simp only [m68, EV, Nat.reduceEqDiff, Nat.reduceBEq, Nat.reduceLT, Nat.reduceLeDiff, Nat.reduceAdd, Nat.reduceSub, reduceIte]
  refine awp_loop (fun i : Nat => i ≤ fs.length ∧ fdTo l fs i) (fun i => stl [(0, .fsl 6 (l.map Ty.z)), (1, .fsl 3 (fs.map Fd.z)), (7, .fsl 3 (fs.map Fd.z)), (8, .v (.int .i64 (fs.length : Int))), (9, .v (.int .i64 (i : Int)))]) (fun i => fs.length - i) 0 ⟨Nat.zero_le _, fun j hj h => absurd h (by omega)⟩ ?_ ?_
  · simp only [EV, Nat.reduceEqDiff, Nat.reduceBEq, Nat.reduceLT, Nat.reduceLeDiff, Nat.reduceAdd, Nat.reduceSub, reduceIte]
    rfl
  · rintro i ⟨hi, hok⟩
    simp only [EV, Nat.reduceEqDiff, Nat.reduceBEq, Nat.reduceLT, Nat.reduceLeDiff, Nat.reduceAdd, Nat.reduceSub, reduceIte]
    refine cK_cut (fun h => ?_) (fun h => ?_)
    · have h1 : i < fs.length := by simpa using h
      have h2 : (i : Int) < (fs.length : Int) := by omega
      have hso := hs fs[i] (List.getElem_mem h1)
      simp only [Fd.sm] at hso
      clear h
      have p9 : fdAt l fs i h1 = false → fdsOk l fs = false := fdsOk_no h1
      refine awp_join (fun _ : Unit => fdAt l fs i h1 = true) (fun _ => stl [(0, .fsl 6 (l.map Ty.z)), (1, .fsl 3 (fs.map Fd.z)), (7, .fsl 3 (fs.map Fd.z)), (8, .v (.int .i64 (fs.length : Int))), (9, .v (.int .i64 (i : Int)))]) ?_ ?_
      · simp only [FdE, nth_map h1, h2, Fd.z, EV, Nat.reduceEqDiff, Nat.reduceBEq, Nat.reduceLT, Nat.reduceLeDiff, Nat.reduceAdd, Nat.reduceSub, reduceIte]
        refine callK_i (d19 _ _ _) ?_
        simp only [EV, Nat.reduceEqDiff, Nat.reduceBEq, Nat.reduceLT, Nat.reduceLeDiff, Nat.reduceAdd, Nat.reduceSub, reduceIte]
        rcases e1 : (decide (0 ≤ fs[i].mark) && decide (fs[i].mark ≤ 2)) with _ | _
        · have e : fdsOk l fs = false := p9 (by simp only [fdAt, e1, Bool.false_and])
          simp only [EV, Nat.reduceEqDiff, Nat.reduceBEq, Nat.reduceLT, Nat.reduceLeDiff, Nat.reduceAdd, Nat.reduceSub, reduceIte]
          simp only [e, EV, Nat.reduceEqDiff, Nat.reduceBEq, Nat.reduceLT, Nat.reduceLeDiff, Nat.reduceAdd, Nat.reduceSub, reduceIte, evRE, retVC, cellV', evR, nfz, nfzs, nfzss, List.contains_nil, List.contains_cons, Bool.or_false, or_true]
        simp only [EV, Nat.reduceEqDiff, Nat.reduceBEq, Nat.reduceLT, Nat.reduceLeDiff, Nat.reduceAdd, Nat.reduceSub, reduceIte]
        refine callK_i (d66 l _ hl) ?_
        simp only [EV, Nat.reduceEqDiff, Nat.reduceBEq, Nat.reduceLT, Nat.reduceLeDiff, Nat.reduceAdd, Nat.reduceSub, reduceIte]
        rcases e2 : isNum l fs[i].typ with _ | _
        · have e : fdsOk l fs = false := p9 (by simp only [fdAt, e1, e2, Bool.true_and, Bool.false_and])
          simp only [EV, Nat.reduceEqDiff, Nat.reduceBEq, Nat.reduceLT, Nat.reduceLeDiff, Nat.reduceAdd, Nat.reduceSub, reduceIte]
          simp only [e, EV, Nat.reduceEqDiff, Nat.reduceBEq, Nat.reduceLT, Nat.reduceLeDiff, Nat.reduceAdd, Nat.reduceSub, reduceIte, evRE, retVC, cellV', evR, nfz, nfzs, nfzss, List.contains_nil, List.contains_cons, Bool.or_false, or_true]
        simp only [EV, Nat.reduceEqDiff, Nat.reduceBEq, Nat.reduceLT, Nat.reduceLeDiff, Nat.reduceAdd, Nat.reduceSub, reduceIte]
        have en : (fs[i].name.toList == (⟨#[]⟩ : ByteArray).toList) = nil' fs[i].name := rfl
        rw [en]
        rcases e3 : nil' fs[i].name with _ | _
        · simp only [EV, Nat.reduceEqDiff, Nat.reduceBEq, Nat.reduceLT, Nat.reduceLeDiff, Nat.reduceAdd, Nat.reduceSub, reduceIte]
          refine callK_i (d73 _ (by omega)) ?_
          simp only [EV, Nat.reduceEqDiff, Nat.reduceBEq, Nat.reduceLT, Nat.reduceLeDiff, Nat.reduceAdd, Nat.reduceSub, reduceIte]
          rcases e4 : nameOk fs[i].name with _ | _
          · have e : fdsOk l fs = false := p9 (by simp only [fdAt, e1, e2, e3, e4, Bool.true_and, Bool.false_and, Bool.false_eq_true, if_false])
            simp only [EV, Nat.reduceEqDiff, Nat.reduceBEq, Nat.reduceLT, Nat.reduceLeDiff, Nat.reduceAdd, Nat.reduceSub, reduceIte]
            simp only [e, EV, Nat.reduceEqDiff, Nat.reduceBEq, Nat.reduceLT, Nat.reduceLeDiff, Nat.reduceAdd, Nat.reduceSub, reduceIte, evRE, retVC, cellV', evR, nfz, nfzs, nfzss, List.contains_nil, List.contains_cons, Bool.or_false, or_true]
          simp only [FdE, nth_map h1, h2, Fd.z, EV, Nat.reduceEqDiff, Nat.reduceBEq, Nat.reduceLT, Nat.reduceLeDiff, Nat.reduceAdd, Nat.reduceSub, reduceIte]
          refine ⟨by omega, by omega, ?_⟩
          rw [← List.map_take]
          refine callK_i (d74 (fs.take i) (by simp; omega) 75 [.fptr fs[i].z] (fdNm fs[i]) rfl rfl (fun _ => rfl) (fun _ => rfl) (fun s _ => d75 s fs[i])) ?_
          simp only [EV, Nat.reduceEqDiff, Nat.reduceBEq, Nat.reduceLT, Nat.reduceLeDiff, Nat.reduceAdd, Nat.reduceSub, reduceIte]
          rcases e5 : (fs.take i).any (fdNm fs[i]) with _ | _
          · simp only [EV, Nat.reduceEqDiff, Nat.reduceBEq, Nat.reduceLT, Nat.reduceLeDiff, Nat.reduceAdd, Nat.reduceSub, reduceIte]
            exact ⟨(), by simp only [fdAt, e1, e2, e3, e4, e5, Bool.true_and, Bool.false_eq_true, if_false, Bool.not_false]⟩
          · have e : fdsOk l fs = false := p9 (by simp only [fdAt, e1, e2, e3, e4, e5, Bool.true_and, Bool.false_eq_true, if_false, Bool.not_true])
            simp only [EV, Nat.reduceEqDiff, Nat.reduceBEq, Nat.reduceLT, Nat.reduceLeDiff, Nat.reduceAdd, Nat.reduceSub, reduceIte]
            simp only [e, EV, Nat.reduceEqDiff, Nat.reduceBEq, Nat.reduceLT, Nat.reduceLeDiff, Nat.reduceAdd, Nat.reduceSub, reduceIte, evRE, retVC, cellV', evR, nfz, nfzs, nfzss, List.contains_nil, List.contains_cons, Bool.or_false, or_true]
        · simp only [EV, Nat.reduceEqDiff, Nat.reduceBEq, Nat.reduceLT, Nat.reduceLeDiff, Nat.reduceAdd, Nat.reduceSub, reduceIte]
          rcases e4 : (fs[i].mark == 0) with _ | _
          · have e : fdsOk l fs = false := p9 (by simp only [fdAt, e1, e2, e3, e4, Bool.true_and, if_true])
            simp only [bne, e4, EV, Nat.reduceEqDiff, Nat.reduceBEq, Nat.reduceLT, Nat.reduceLeDiff, Nat.reduceAdd, Nat.reduceSub, reduceIte]
            simp only [e, EV, Nat.reduceEqDiff, Nat.reduceBEq, Nat.reduceLT, Nat.reduceLeDiff, Nat.reduceAdd, Nat.reduceSub, reduceIte, evRE, retVC, cellV', evR, nfz, nfzs, nfzss, List.contains_nil, List.contains_cons, Bool.or_false, or_true]
          · simp only [bne, e4, EV, Nat.reduceEqDiff, Nat.reduceBEq, Nat.reduceLT, Nat.reduceLeDiff, Nat.reduceAdd, Nat.reduceSub, reduceIte]
            exact ⟨(), by simp only [fdAt, e1, e2, e3, e4, Bool.true_and, if_true]⟩
      · rintro _ hq
        simp only [EV, Nat.reduceEqDiff, Nat.reduceBEq, Nat.reduceLT, Nat.reduceLeDiff, Nat.reduceAdd, Nat.reduceSub, reduceIte]
        rw [w64 _ (by omega)]
        exact ⟨i + 1, ⟨h1, fdTo_succ h1 hok hq⟩, by omega, rfl⟩
    · have h1 : i = fs.length := by have : ¬ (i : Int) < fs.length := by simpa using h
                                    omega
      subst h1
      simp only [EV, Nat.reduceEqDiff, Nat.reduceBEq, Nat.reduceLT, Nat.reduceLeDiff, Nat.reduceAdd, Nat.reduceSub, reduceIte]
      simp only [fdsOk_yes hok, EV, Nat.reduceEqDiff, Nat.reduceBEq, Nat.reduceLT, Nat.reduceLeDiff, Nat.reduceAdd, Nat.reduceSub, reduceIte, evRE, retVC, cellV', evR, nfz, nfzs, nfzss, List.contains_nil, List.contains_cons, Bool.or_false, or_true]

end Go.AM
namespace Go.AM
set_option linter.unusedVariables false
set_option linter.unusedSimpArgs false
theorem fdNm_comm (x o : Fd) : (x.name.toList == o.name.toList) = fdNm x o := by
  unfold fdNm
  rw [Bool.beq_comm]

theorem any_take {α : Type} {q : α → Bool} {l : List α} {k : Nat} (h : k < l.length) (h1 : (l.take k).any q = false) (h2 : q l[k] = false) : (l.take (k + 1)).any q = false := by
  rw [List.take_succ_eq_append_getElem h, List.any_append, h1]
  simp [h2]

theorem any_at {α : Type} {q : α → Bool} {l : List α} {k : Nat} (h : k < l.length) (h2 : q l[k] = true) : l.any q = true := by
  rw [List.any_eq_true]; exact ⟨l[k], List.getElem_mem h, h2⟩

theorem fdAt_no {l : List Ty} {fs : List Fd} {i : Nat} {h : i < fs.length} (g : (nameOk fs[i].name = false ∧ nil' fs[i].name = false) ∨ (nil' fs[i].name = true ∧ (fs[i].mark == 0) = false) ∨ (decide (0 ≤ fs[i].mark) && decide (fs[i].mark ≤ 2)) = false ∨ isNum l fs[i].typ = false) : fdAt l fs i h = false := by
  unfold fdAt
  rcases g with ⟨g, g2⟩ | ⟨g, g2⟩ | g | g
  · simp only [g, g2, Bool.false_eq_true, if_false, Bool.false_and, Bool.and_false]
  · simp only [g, g2, if_true, Bool.and_false]
  · simp only [g, Bool.false_and]
  · simp only [g, Bool.false_and, Bool.and_false]

/-- loop.example/g00837/spec.l3Fields -/
def m61 : MC :=
  (.seq
   (.reg [⟨(some 4), none, .a (.asg (.c (.bool false)))⟩])
   (.seq
    (.seq
     (.reg [⟨(some 9), none, .q (.mov (.t 1))⟩,
       ⟨(some 10), none, .q (.len false (.t 9))⟩,
       ⟨(some 11), none, .q (.mov (.c (.int .i64 0)))⟩])
     (.block 0
      (.loop [0, 1, 9, 10, 11]
       (.seq
        (.reg [⟨(some 12), none, .q (.bin false .lss (.t 11) (.t 10))⟩])
        (.seq
         (.cond (.t 12)
          .skip
          (.exit 0))
         (.seq
          (.block 1
           (.seq
            (.reg [⟨(some 13), none, .q (.mov (.t 11))⟩,
              ⟨(some 14), none, .q (.iad 3 (.t 9) (.t 11))⟩,
              ⟨(some 15), none, .q (.load true 3 (.t 14))⟩,
              ⟨(some 6), none, .a (.alloc 54 [.v (.string ({ data := #[] })), .v (.int .i64 0), .v (.int .i64 0)])⟩,
              ⟨(some 5), none, .a (.asg (.t 13))⟩,
              ⟨none, none, .a (.store 3 (.t 6) (.t 15))⟩])
            (.seq
             (.seq
              (.reg [⟨(some 16), none, .q (.fad 0 (.t 6))⟩,
                ⟨(some 17), none, .q (.load false 1 (.t 16))⟩,
                ⟨(some 18), none, .a (.call (.fn 59) false [.lend (.t 17)])⟩,
                ⟨(some 19), none, .q (.un .not (.t 18))⟩,
                ⟨(some 20), none, .q (.mov (.t 19))⟩,
                ⟨(some 21), (some (20, true)), .q (.fad 0 (.t 6))⟩,
                ⟨(some 22), (some (20, true)), .q (.load false 1 (.t 21))⟩,
                ⟨(some 23), (some (20, true)), .q (.bin false .neq (.t 22) (.c (.string ({ data := #[] }))))⟩,
                ⟨(some 24), (some (20, true)), .q (.mov (.t 23))⟩,
                ⟨(some 25), (some (24, false)), .q (.fad 1 (.t 6))⟩,
                ⟨(some 26), (some (24, false)), .q (.load false 1 (.t 25))⟩,
                ⟨(some 27), (some (24, false)), .q (.bin false .neq (.t 26) (.c (.int .i64 0)))⟩,
                ⟨(some 28), (some (20, true)), .q (.pick (.t 24) (.c (.bool true)) (.t 27))⟩,
                ⟨(some 29), none, .q (.pick (.t 20) (.t 28) (.c (.bool false)))⟩,
                ⟨(some 30), none, .q (.mov (.t 29))⟩,
                ⟨(some 31), (some (30, false)), .q (.fad 1 (.t 6))⟩,
                ⟨(some 32), (some (30, false)), .q (.load false 1 (.t 31))⟩,
                ⟨(some 33), (some (30, false)), .a (.call (.fn 15) false [.lend (.t 32), .lend (.c (.int .i64 0)), .lend (.c (.int .i64 2))])⟩,
                ⟨(some 34), (some (30, false)), .q (.un .not (.t 33))⟩,
                ⟨(some 35), none, .q (.pick (.t 30) (.c (.bool true)) (.t 34))⟩,
                ⟨(some 36), none, .q (.mov (.t 35))⟩,
                ⟨(some 37), (some (36, false)), .q (.fad 2 (.t 6))⟩,
                ⟨(some 38), (some (36, false)), .q (.load false 1 (.t 37))⟩,
                ⟨(some 39), (some (36, false)), .q (.mov (.t 0))⟩,
                ⟨(some 40), (some (36, false)), .q (.len false (.t 39))⟩,
                ⟨(some 41), (some (36, false)), .q (.bin false .sub (.t 40) (.c (.int .i64 1)))⟩,
                ⟨(some 42), (some (36, false)), .a (.call (.fn 15) false [.lend (.t 38), .lend (.c (.int .i64 0)), .lend (.t 41)])⟩,
                ⟨(some 43), (some (36, false)), .q (.un .not (.t 42))⟩,
                ⟨(some 44), none, .q (.pick (.t 36) (.c (.bool true)) (.t 43))⟩])
              (.cond (.t 44)
               (.seq
                (.reg [⟨(some 4), none, .a (.asg (.c (.bool false)))⟩])
                .ret)
               .skip))
             (.seq
              (.reg [⟨(some 45), none, .q (.mov (.t 1))⟩,
                ⟨(some 46), none, .q (.mov (.t 5))⟩,
                ⟨(some 47), none, .q (.slc false 3 (.t 45) none (some (.t 46)))⟩,
                ⟨(some 48), none, .q (.len false (.t 47))⟩,
                ⟨(some 49), none, .q (.mov (.c (.int .i64 0)))⟩])
              (.block 2
               (.loop [0, 1, 6, 9, 10, 11, 45, 46, 47, 48, 49]
                (.seq
                 (.reg [⟨(some 50), none, .q (.bin false .lss (.t 49) (.t 48))⟩])
                 (.seq
                  (.cond (.t 50)
                   .skip
                   (.exit 2))
                  (.seq
                   (.block 3
                    (.seq
                     (.reg [⟨(some 51), none, .q (.iad 3 (.t 47) (.t 49))⟩,
                       ⟨(some 52), none, .q (.load true 3 (.t 51))⟩,
                       ⟨(some 8), none, .a (.alloc 54 [.v (.string ({ data := #[] })), .v (.int .i64 0), .v (.int .i64 0)])⟩,
                       ⟨none, none, .a (.store 3 (.t 8) (.t 52))⟩])
                     (.seq
                      (.reg [⟨(some 53), none, .q (.fad 0 (.t 6))⟩,
                        ⟨(some 54), none, .q (.load false 1 (.t 53))⟩,
                        ⟨(some 55), none, .q (.bin false .neq (.t 54) (.c (.string ({ data := #[] }))))⟩,
                        ⟨(some 56), none, .q (.mov (.t 55))⟩,
                        ⟨(some 57), (some (56, true)), .q (.fad 0 (.t 6))⟩,
                        ⟨(some 58), (some (56, true)), .q (.load false 1 (.t 57))⟩,
                        ⟨(some 59), (some (56, true)), .q (.fad 0 (.t 8))⟩,
                        ⟨(some 60), (some (56, true)), .q (.load false 1 (.t 59))⟩,
                        ⟨(some 61), (some (56, true)), .q (.bin false .eql (.t 58) (.t 60))⟩,
                        ⟨(some 62), none, .q (.pick (.t 56) (.t 61) (.c (.bool false)))⟩])
                      (.cond (.t 62)
                       (.seq
                        (.reg [⟨(some 4), none, .a (.asg (.c (.bool false)))⟩])
                        .ret)
                       .skip))))
                   (.reg [⟨(some 63), none, .q (.bin false .add (.t 49) (.c (.int .i64 1)))⟩,
                     ⟨(some 49), none, .q (.mov (.t 63))⟩]))))))))))
          (.reg [⟨(some 64), none, .q (.bin false .add (.t 11) (.c (.int .i64 1)))⟩,
            ⟨(some 11), none, .q (.mov (.t 64))⟩])))))))
    (.seq
     (.reg [⟨(some 65), none, .q (.mov (.t 1))⟩,
       ⟨(some 66), none, .q (.len false (.t 65))⟩,
       ⟨(some 67), none, .q (.bin false .leq (.t 66) (.c (.int .i64 6)))⟩,
       ⟨(some 4), none, .a (.asg (.t 67))⟩])
     .ret)))

set_option maxHeartbeats 1000000 in
set_option maxRecDepth 100000 in
theorem d61 (l : List Ty) (fs : List Fd) (hl : (l.length : Int) ≤ 1048576) (hf : (fs.length : Int) ≤ 1048576) (hs : ∀ s ∈ fs, s.sm) :
    Does Go.Proofs.Try.prog 61 [.fsl 6 (l.map Ty.z), .fsl 3 (fs.map Fd.z)] false (.v (.bool (fdsOk l fs))) [.dead, .dead] := by
  refine does_intro (mc := m61) (N := 68) (rs := [4]) (fx := []) 2 rfl (by decide +kernel) ?_
  simp only [m61, EV, Nat.reduceEqDiff, Nat.reduceBEq, Nat.reduceLT, Nat.reduceLeDiff, Nat.reduceAdd, Nat.reduceSub, reduceIte]
  refine awp_loop (fun i : Nat => i ≤ fs.length ∧ fdTo l fs i) (fun i => stl [(0, .fsl 6 (l.map Ty.z)), (1, .fsl 3 (fs.map Fd.z)), (9, .fsl 3 (fs.map Fd.z)), (10, .v (.int .i64 (fs.length : Int))), (11, .v (.int .i64 (i : Int)))]) (fun i => fs.length - i) 0 ⟨Nat.zero_le _, fun j hj h => absurd h (by omega)⟩ ?_ ?_
  · simp only [EV, Nat.reduceEqDiff, Nat.reduceBEq, Nat.reduceLT, Nat.reduceLeDiff, Nat.reduceAdd, Nat.reduceSub, reduceIte]
    rfl
  · rintro i ⟨hi, hok⟩
    simp only [EV, Nat.reduceEqDiff, Nat.reduceBEq, Nat.reduceLT, Nat.reduceLeDiff, Nat.reduceAdd, Nat.reduceSub, reduceIte]
    refine cK_cut (fun h => ?_) (fun h => ?_)
    · have h1 : i < fs.length := by simpa using h
      have h2 : (i : Int) < (fs.length : Int) := by omega
      have hso := hs fs[i] (List.getElem_mem h1)
      simp only [Fd.sm] at hso
      clear h
      have p9 : fdAt l fs i h1 = false → fdsOk l fs = false := fdsOk_no h1
      have ht : (fs.take i).length = i := by simp; omega
      have en : (fs[i].name.toList == (⟨#[]⟩ : ByteArray).toList) = nil' fs[i].name := rfl
      have eb : (fs[i].name.toList != (⟨#[]⟩ : ByteArray).toList) = !nil' fs[i].name := rfl
      have rest : nameOk fs[i].name = true ∨ (nil' fs[i].name = true ∧ (fs[i].mark == 0) = true) → (decide (0 ≤ fs[i].mark) && decide (fs[i].mark ≤ 2)) = true → isNum l fs[i].typ = true →
          (nil' fs[i].name = true ∨ (fs.take i).any (fdNm fs[i]) = false) → fdAt l fs i h1 = true := by
        intro q1 q2 q3 q4
        simp only [fdAt, q2, q3, Bool.true_and]
        rcases e3 : nil' fs[i].name with _ | _
        · rw [e3] at q1 q4
          simp only [Bool.false_eq_true, false_and, false_or, or_false] at q1 q4
          simp only [Bool.false_eq_true, if_false, q1, q4, Bool.not_false, Bool.and_self]
        · have := nil_name e3
          rw [this] at q1
          simp only [Bool.false_eq_true, false_or] at q1
          simp only [if_true, q1.2]
      simp only [FdE, nth_map h1, h2, Fd.z, EV, Nat.reduceEqDiff, Nat.reduceBEq, Nat.reduceLT, Nat.reduceLeDiff, Nat.reduceAdd, Nat.reduceSub, reduceIte]
      refine callK_i (d59 _ (by omega)) ?_
      simp only [eb, EV, Nat.reduceEqDiff, Nat.reduceBEq, Nat.reduceLT, Nat.reduceLeDiff, Nat.reduceAdd, Nat.reduceSub, reduceIte]
      have hw : IntKind.i64.wrap ((l.length : Int) - 1) = (l.length : Int) - 1 := w64 _ (by omega)
      repeat' (first
    | (refine gK_cut (fun h => ?_) (fun h => ?_) <;> simp only [h, eb, hw, EV, Nat.reduceEqDiff, Nat.reduceBEq, Nat.reduceLT, Nat.reduceLeDiff, Nat.reduceAdd, Nat.reduceSub, reduceIte])
    | (refine cK_cut (fun h => ?_) (fun h => ?_) <;> simp only [h, eb, hw, EV, Nat.reduceEqDiff, Nat.reduceBEq, Nat.reduceLT, Nat.reduceLeDiff, Nat.reduceAdd, Nat.reduceSub, reduceIte])
    | (refine callK_i (d15 _ _ _) ?_ <;> simp only [h, eb, hw, EV, Nat.reduceEqDiff, Nat.reduceBEq, Nat.reduceLT, Nat.reduceLeDiff, Nat.reduceAdd, Nat.reduceSub, reduceIte]))
      all_goals simp only [en, bne, Bool.not_eq_true', Bool.not_eq_false'] at *
      all_goals first
        | (have e : fdsOk l fs = false := p9 (fdAt_no (by
             first
               | (left; exact ⟨by assumption, by assumption⟩)
               | (right; left; exact ⟨by assumption, by assumption⟩)
               | (right; right; left; assumption)
               | (right; right; right; unfold isNum; assumption)))
           simp only [e, EV, Nat.reduceEqDiff, Nat.reduceBEq, Nat.reduceLT, Nat.reduceLeDiff, Nat.reduceAdd, Nat.reduceSub, reduceIte, evRE, retVC, cellV', evR, nfz, nfzs, nfzss, List.contains_nil, List.contains_cons, Bool.or_false, or_true]
           done)
        | skip
      all_goals refine ⟨by omega, by omega, ?_⟩
      all_goals have q1 : nameOk fs[i].name = true ∨ (nil' fs[i].name = true ∧ (fs[i].mark == 0) = true) := (by first | exact Or.inl (by assumption) | exact Or.inr ⟨by assumption, by assumption⟩)
      all_goals have q2 : (decide (0 ≤ fs[i].mark) && decide (fs[i].mark ≤ 2)) = true := by assumption
      all_goals have q3 : isNum l fs[i].typ = true := by unfold isNum; assumption
      all_goals have q9 := rest q1 q2 q3
      all_goals clear rest q1 q2 q3
      all_goals simp only [← List.map_take]
      all_goals refine awp_loop (fun k : Nat => k ≤ i ∧ (nil' fs[i].name = true ∨ ((fs.take i).take k).any (fdNm fs[i]) = false)) (fun k => stl [(0, .fsl 6 (l.map Ty.z)), (1, .fsl 3 (fs.map Fd.z)), (6, .box 54 fs[i].z), (9, .fsl 3 (fs.map Fd.z)), (10, .v (.int .i64 (fs.length : Int))), (11, .v (.int .i64 (i : Int))), (45, .fsl 3 (fs.map Fd.z)), (46, .v (.int .i64 (i : Int))), (47, .fsl 3 ((fs.take i).map Fd.z)), (48, .v (.int .i64 (i : Int))), (49, .v (.int .i64 (k : Int)))]) (fun k => i - k) 0 ⟨Nat.zero_le _, by simp⟩ ?_ ?_
      all_goals first
        | (simp only [Fd.z, EV, Nat.reduceEqDiff, Nat.reduceBEq, Nat.reduceLT, Nat.reduceLeDiff, Nat.reduceAdd, Nat.reduceSub, reduceIte]
           rw [ht]
           rfl)
        | skip
      all_goals rintro k ⟨hk, hno⟩
      all_goals simp only [Fd.z, EV, Nat.reduceEqDiff, Nat.reduceBEq, Nat.reduceLT, Nat.reduceLeDiff, Nat.reduceAdd, Nat.reduceSub, reduceIte]
      · refine cK_cut (fun h => ?_) (fun h => ?_)
        · have k3 : k < i := by have : (k : Int) < i := by simpa using h
                                omega
          have k1 : k < (fs.take i).length := by rw [ht]; exact k3
          have k2 : (k : Int) < i := by omega
          clear h
          simp only [FdE, nth_map k1, k2, k3, ht, Fd.z, EV, Nat.reduceEqDiff, Nat.reduceBEq, Nat.reduceLT, Nat.reduceLeDiff, Nat.reduceAdd, Nat.reduceSub, reduceIte]
          refine gK_cut (fun h => ?_) (fun h => ?_)
          · have e3 : nil' fs[i].name = false := by unfold nil'; simpa [bne] using h
            have hno' : ((fs.take i).take k).any (fdNm fs[i]) = false := by
              rcases hno with hno | hno
              · rw [e3] at hno; cases hno
              · exact hno
            simp only [h, FdE, nth_map k1, k2, k3, ht, Fd.z, EV, Nat.reduceEqDiff, Nat.reduceBEq, Nat.reduceLT, Nat.reduceLeDiff, Nat.reduceAdd, Nat.reduceSub, reduceIte]
            rw [fdNm_comm]
            rcases e5 : fdNm fs[i] (fs.take i)[k] with _ | _
            · simp only [EV, Nat.reduceEqDiff, Nat.reduceBEq, Nat.reduceLT, Nat.reduceLeDiff, Nat.reduceAdd, Nat.reduceSub, reduceIte]
              rw [w64 _ (by omega)]
              exact ⟨k + 1, ⟨k3, Or.inr (any_take k1 hno' e5)⟩, by omega, rfl⟩
            · have e4 := any_at k1 e5
              have e : fdsOk l fs = false := p9 (by
                unfold fdAt
                rw [e3, e4]
                simp only [Bool.false_eq_true, if_false, Bool.not_true, Bool.and_false])
              simp only [EV, Nat.reduceEqDiff, Nat.reduceBEq, Nat.reduceLT, Nat.reduceLeDiff, Nat.reduceAdd, Nat.reduceSub, reduceIte]
              simp only [e, EV, Nat.reduceEqDiff, Nat.reduceBEq, Nat.reduceLT, Nat.reduceLeDiff, Nat.reduceAdd, Nat.reduceSub, reduceIte, evRE, retVC, cellV', evR, nfz, nfzs, nfzss, List.contains_nil, List.contains_cons, Bool.or_false, or_true]
          · have e3 : nil' fs[i].name = true := by unfold nil'; simpa [bne] using h
            simp only [h, EV, Nat.reduceEqDiff, Nat.reduceBEq, Nat.reduceLT, Nat.reduceLeDiff, Nat.reduceAdd, Nat.reduceSub, reduceIte]
            rw [w64 _ (by omega)]
            exact ⟨k + 1, ⟨k3, Or.inl e3⟩, by omega, rfl⟩
        · have k1 : k = i := by have : ¬ (k : Int) < i := by simpa using h
                                omega
          subst k1
          have hq : fdAt l fs k h1 = true := q9 (by
            rcases hno with hno | hno
            · exact Or.inl hno
            · rw [List.take_take, Nat.min_self] at hno
              exact Or.inr hno)
          simp only [EV, Nat.reduceEqDiff, Nat.reduceBEq, Nat.reduceLT, Nat.reduceLeDiff, Nat.reduceAdd, Nat.reduceSub, reduceIte]
          rw [w64 _ (by omega)]
          exact ⟨k + 1, ⟨h1, fdTo_succ h1 hok hq⟩, by omega, rfl⟩
      · refine cK_cut (fun h => ?_) (fun h => ?_)
        · have k3 : k < i := by have : (k : Int) < i := by simpa using h
                                omega
          have k1 : k < (fs.take i).length := by rw [ht]; exact k3
          have k2 : (k : Int) < i := by omega
          clear h
          simp only [FdE, nth_map k1, k2, k3, ht, Fd.z, EV, Nat.reduceEqDiff, Nat.reduceBEq, Nat.reduceLT, Nat.reduceLeDiff, Nat.reduceAdd, Nat.reduceSub, reduceIte]
          refine gK_cut (fun h => ?_) (fun h => ?_)
          · have e3 : nil' fs[i].name = false := by unfold nil'; simpa [bne] using h
            have hno' : ((fs.take i).take k).any (fdNm fs[i]) = false := by
              rcases hno with hno | hno
              · rw [e3] at hno; cases hno
              · exact hno
            simp only [h, FdE, nth_map k1, k2, k3, ht, Fd.z, EV, Nat.reduceEqDiff, Nat.reduceBEq, Nat.reduceLT, Nat.reduceLeDiff, Nat.reduceAdd, Nat.reduceSub, reduceIte]
            rw [fdNm_comm]
            rcases e5 : fdNm fs[i] (fs.take i)[k] with _ | _
            · simp only [EV, Nat.reduceEqDiff, Nat.reduceBEq, Nat.reduceLT, Nat.reduceLeDiff, Nat.reduceAdd, Nat.reduceSub, reduceIte]
              rw [w64 _ (by omega)]
              exact ⟨k + 1, ⟨k3, Or.inr (any_take k1 hno' e5)⟩, by omega, rfl⟩
            · have e4 := any_at k1 e5
              have e : fdsOk l fs = false := p9 (by
                unfold fdAt
                rw [e3, e4]
                simp only [Bool.false_eq_true, if_false, Bool.not_true, Bool.and_false])
              simp only [EV, Nat.reduceEqDiff, Nat.reduceBEq, Nat.reduceLT, Nat.reduceLeDiff, Nat.reduceAdd, Nat.reduceSub, reduceIte]
              simp only [e, EV, Nat.reduceEqDiff, Nat.reduceBEq, Nat.reduceLT, Nat.reduceLeDiff, Nat.reduceAdd, Nat.reduceSub, reduceIte, evRE, retVC, cellV', evR, nfz, nfzs, nfzss, List.contains_nil, List.contains_cons, Bool.or_false, or_true]
          · have e3 : nil' fs[i].name = true := by unfold nil'; simpa [bne] using h
            simp only [h, EV, Nat.reduceEqDiff, Nat.reduceBEq, Nat.reduceLT, Nat.reduceLeDiff, Nat.reduceAdd, Nat.reduceSub, reduceIte]
            rw [w64 _ (by omega)]
            exact ⟨k + 1, ⟨k3, Or.inl e3⟩, by omega, rfl⟩
        · have k1 : k = i := by have : ¬ (k : Int) < i := by simpa using h
                                omega
          subst k1
          have hq : fdAt l fs k h1 = true := q9 (by
            rcases hno with hno | hno
            · exact Or.inl hno
            · rw [List.take_take, Nat.min_self] at hno
              exact Or.inr hno)
          simp only [EV, Nat.reduceEqDiff, Nat.reduceBEq, Nat.reduceLT, Nat.reduceLeDiff, Nat.reduceAdd, Nat.reduceSub, reduceIte]
          rw [w64 _ (by omega)]
          exact ⟨k + 1, ⟨h1, fdTo_succ h1 hok hq⟩, by omega, rfl⟩
    · have h1 : i = fs.length := by have : ¬ (i : Int) < fs.length := by simpa using h
                                    omega
      subst h1
      simp only [EV, Nat.reduceEqDiff, Nat.reduceBEq, Nat.reduceLT, Nat.reduceLeDiff, Nat.reduceAdd, Nat.reduceSub, reduceIte]
      simp only [fdsOk_yes hok, EV, Nat.reduceEqDiff, Nat.reduceBEq, Nat.reduceLT, Nat.reduceLeDiff, Nat.reduceAdd, Nat.reduceSub, reduceIte, evRE, retVC, cellV', evR, nfz, nfzs, nfzss, List.contains_nil, List.contains_cons, Bool.or_false, or_true]

end Go.AM
namespace Go.AM
set_option linter.unusedVariables false
set_option linter.unusedSimpArgs false
noncomputable def tyOk (l : List Ty) (t : Ty) : Bool :=
  named t && (!((!(t.kind == 5)) && decide (0 < (t.fields.length : Int))) &&
  (if (t.kind == 4) = true then (decide (1 ≤ t.long) && decide (t.long ≤ 1000)) && isNum l t.base
  else if (t.kind == 5) = true then ((t.long == 0) && ((t.base == -1) || isRec l t.base)) && fdsOk l t.fields
  else if (t.kind == 6) = true then (t.long == 0) && (isRec l t.base || (isNum l t.base && kd l t.base == 4))
  else false))

/-- loop.example/g00837/impl.isType -/
def m49 : MC :=
  (.seq
   (.reg [⟨(some 3), none, .a (.box 43 (.t 1))⟩,
     ⟨(some 4), none, .a (.asg (.c (.bool false)))⟩])
   (.seq
    (.seq
     (.reg [⟨(some 5), none, .q (.load true 6 (.t 3))⟩,
       ⟨(some 6), none, .a (.call (.fn 65) false [.lend (.t 5)])⟩,
       ⟨(some 7), none, .q (.un .not (.t 6))⟩,
       ⟨(some 8), none, .q (.mov (.t 7))⟩,
       ⟨(some 9), (some (8, false)), .q (.fad 0 (.t 3))⟩,
       ⟨(some 10), (some (8, false)), .q (.load false 1 (.t 9))⟩,
       ⟨(some 11), (some (8, false)), .q (.bin false .neq (.t 10) (.c (.int .i64 5)))⟩,
       ⟨(some 12), (some (8, false)), .q (.mov (.t 11))⟩,
       ⟨(some 13), (some (12, true)), .q (.fad 3 (.t 3))⟩,
       ⟨(some 14), (some (12, true)), .q (.load false 1 (.t 13))⟩,
       ⟨(some 15), (some (12, true)), .q (.len false (.t 14))⟩,
       ⟨(some 16), (some (12, true)), .q (.bin false .gtr (.t 15) (.c (.int .i64 0)))⟩,
       ⟨(some 17), (some (8, false)), .q (.pick (.t 12) (.t 16) (.c (.bool false)))⟩,
       ⟨(some 18), none, .q (.pick (.t 8) (.c (.bool true)) (.t 17))⟩])
     (.cond (.t 18)
      (.seq
       (.reg [⟨(some 4), none, .a (.asg (.c (.bool false)))⟩])
       .ret)
      .skip))
    (.seq
     (.seq
      (.reg [⟨(some 19), none, .q (.fad 0 (.t 3))⟩,
        ⟨(some 20), none, .q (.load false 1 (.t 19))⟩])
      (.block 0
       (.seq
        (.reg [⟨(some 22), none, .q (.bin false .eql (.t 20) (.c (.int .i64 4)))⟩,
          ⟨(some 21), none, .a (.asg (.t 22))⟩])
        (.cond (.t 21)
         (.seq
          (.reg [⟨(some 23), none, .q (.fad 1 (.t 3))⟩,
            ⟨(some 24), none, .q (.load false 1 (.t 23))⟩,
            ⟨(some 25), none, .a (.call (.fn 19) false [.lend (.t 24), .lend (.c (.int .i64 1)), .lend (.c (.int .i64 1000))])⟩,
            ⟨(some 26), none, .q (.mov (.t 25))⟩,
            ⟨(some 27), (some (26, true)), .q (.mov (.t 0))⟩,
            ⟨(some 28), (some (26, true)), .q (.fad 2 (.t 3))⟩,
            ⟨(some 29), (some (26, true)), .q (.load false 1 (.t 28))⟩,
            ⟨(some 30), (some (26, true)), .a (.call (.fn 66) false [.lend (.t 27), .lend (.t 29)])⟩,
            ⟨(some 31), none, .q (.pick (.t 26) (.t 30) (.c (.bool false)))⟩,
            ⟨(some 4), none, .a (.asg (.t 31))⟩])
          .ret)
         (.seq
          (.reg [⟨(some 33), none, .q (.bin false .eql (.t 20) (.c (.int .i64 5)))⟩,
            ⟨(some 32), none, .a (.asg (.t 33))⟩])
          (.cond (.t 32)
           (.seq
            (.reg [⟨(some 34), none, .q (.fad 1 (.t 3))⟩,
              ⟨(some 35), none, .q (.load false 1 (.t 34))⟩,
              ⟨(some 36), none, .q (.bin false .eql (.t 35) (.c (.int .i64 0)))⟩,
              ⟨(some 37), none, .q (.mov (.t 36))⟩,
              ⟨(some 38), (some (37, true)), .q (.fad 2 (.t 3))⟩,
              ⟨(some 39), (some (37, true)), .q (.load false 1 (.t 38))⟩,
              ⟨(some 40), (some (37, true)), .q (.bin false .eql (.t 39) (.c (.int .i64 (-1))))⟩,
              ⟨(some 41), (some (37, true)), .q (.mov (.t 40))⟩,
              ⟨(some 42), (some (41, false)), .q (.mov (.t 0))⟩,
              ⟨(some 43), (some (41, false)), .q (.fad 2 (.t 3))⟩,
              ⟨(some 44), (some (41, false)), .q (.load false 1 (.t 43))⟩,
              ⟨(some 45), (some (41, false)), .a (.call (.fn 67) false [.lend (.t 42), .lend (.t 44)])⟩,
              ⟨(some 46), (some (37, true)), .q (.pick (.t 41) (.c (.bool true)) (.t 45))⟩,
              ⟨(some 47), none, .q (.pick (.t 37) (.t 46) (.c (.bool false)))⟩,
              ⟨(some 48), none, .q (.mov (.t 47))⟩,
              ⟨(some 49), (some (48, true)), .q (.mov (.t 0))⟩,
              ⟨(some 50), (some (48, true)), .q (.fad 3 (.t 3))⟩,
              ⟨(some 51), (some (48, true)), .q (.load false 1 (.t 50))⟩,
              ⟨(some 52), (some (48, true)), .a (.call (.fn 68) false [.lend (.t 49), .lend (.t 51)])⟩,
              ⟨(some 53), none, .q (.pick (.t 48) (.t 52) (.c (.bool false)))⟩,
              ⟨(some 4), none, .a (.asg (.t 53))⟩])
            .ret)
           (.seq
            (.reg [⟨(some 55), none, .q (.bin false .eql (.t 20) (.c (.int .i64 6)))⟩,
              ⟨(some 54), none, .a (.asg (.t 55))⟩])
            (.cond (.t 54)
             (.seq
              (.reg [⟨(some 56), none, .q (.fad 1 (.t 3))⟩,
                ⟨(some 57), none, .q (.load false 1 (.t 56))⟩,
                ⟨(some 58), none, .q (.bin false .eql (.t 57) (.c (.int .i64 0)))⟩,
                ⟨(some 59), none, .q (.mov (.t 58))⟩,
                ⟨(some 60), (some (59, true)), .q (.mov (.t 0))⟩,
                ⟨(some 61), (some (59, true)), .q (.fad 2 (.t 3))⟩,
                ⟨(some 62), (some (59, true)), .q (.load false 1 (.t 61))⟩,
                ⟨(some 63), (some (59, true)), .a (.call (.fn 67) false [.lend (.t 60), .lend (.t 62)])⟩,
                ⟨(some 64), (some (59, true)), .q (.mov (.t 63))⟩,
                ⟨(some 65), (some (64, false)), .q (.mov (.t 0))⟩,
                ⟨(some 66), (some (64, false)), .q (.fad 2 (.t 3))⟩,
                ⟨(some 67), (some (64, false)), .q (.load false 1 (.t 66))⟩,
                ⟨(some 68), (some (64, false)), .a (.call (.fn 66) false [.lend (.t 65), .lend (.t 67)])⟩,
                ⟨(some 69), (some (64, false)), .q (.mov (.t 68))⟩,
                ⟨(some 70), (some (69, true)), .q (.mov (.t 0))⟩,
                ⟨(some 71), (some (69, true)), .q (.fad 2 (.t 3))⟩,
                ⟨(some 72), (some (69, true)), .q (.load false 1 (.t 71))⟩,
                ⟨(some 73), (some (69, true)), .q (.iad 6 (.t 70) (.t 72))⟩,
                ⟨(some 74), (some (69, true)), .q (.fad 0 (.t 73))⟩,
                ⟨(some 75), (some (69, true)), .q (.load false 1 (.t 74))⟩,
                ⟨(some 76), (some (69, true)), .q (.bin false .eql (.t 75) (.c (.int .i64 4)))⟩,
                ⟨(some 77), (some (64, false)), .q (.pick (.t 69) (.t 76) (.c (.bool false)))⟩,
                ⟨(some 78), (some (59, true)), .q (.pick (.t 64) (.c (.bool true)) (.t 77))⟩,
                ⟨(some 79), none, .q (.pick (.t 59) (.t 78) (.c (.bool false)))⟩,
                ⟨(some 4), none, .a (.asg (.t 79))⟩])
              .ret)
             .skip))))))))
     (.seq
      (.reg [⟨(some 4), none, .a (.asg (.c (.bool false)))⟩])
      .ret))))

set_option maxHeartbeats 1000000 in
set_option maxRecDepth 100000 in
theorem d49 (l : List Ty) (t : Ty) (hl : (l.length : Int) ≤ 1048576) (ht : t.sm) :
    Does Go.Proofs.Try.prog 49 [.fsl 6 (l.map Ty.z), .agg t.z] false (.v (.bool (tyOk l t))) [.dead, .dead] := by
  have ht0 := ht
  unfold Ty.sm at ht
  have d7 := d68 l t.fields hl ht.2.2.2.1.1 ht.2.2.2.1.2
  have d6 := d65 t ht0
  have hz : t.z = [.v (.int .i64 t.kind), .v (.int .i64 t.long), .v (.int .i64 t.base), .fsl 3 (t.fields.map Fd.z), .v (.string t.owner), .v (.string t.name)] := rfl
  rw [hz] at d6
  refine does_intro (mc := m49) (N := 80) (rs := [4]) (fx := []) 2 rfl (by decide +kernel) ?_
  simp only [m49, hz, EV, Nat.reduceEqDiff, Nat.reduceBEq, Nat.reduceLT, Nat.reduceLeDiff, Nat.reduceAdd, Nat.reduceSub, reduceIte]
  refine callK_i d6 ?_
  simp only [EV, Nat.reduceEqDiff, Nat.reduceBEq, Nat.reduceLT, Nat.reduceLeDiff, Nat.reduceAdd, Nat.reduceSub, reduceIte]
  repeat' (first
    | (refine gK_cut (fun h => ?_) (fun h => ?_) <;> simp only [h, bne, EV, Nat.reduceEqDiff, Nat.reduceBEq, Nat.reduceLT, Nat.reduceLeDiff, Nat.reduceAdd, Nat.reduceSub, reduceIte])
    | (refine cK_cut (fun h => ?_) (fun h => ?_) <;> simp only [h, bne, EV, Nat.reduceEqDiff, Nat.reduceBEq, Nat.reduceLT, Nat.reduceLeDiff, Nat.reduceAdd, Nat.reduceSub, reduceIte])
    | (refine callK_i d7 ?_ <;> simp only [h, bne, EV, Nat.reduceEqDiff, Nat.reduceBEq, Nat.reduceLT, Nat.reduceLeDiff, Nat.reduceAdd, Nat.reduceSub, reduceIte])
    | (refine callK_i (d19 _ _ _) ?_ <;> simp only [h, bne, EV, Nat.reduceEqDiff, Nat.reduceBEq, Nat.reduceLT, Nat.reduceLeDiff, Nat.reduceAdd, Nat.reduceSub, reduceIte])
    | (refine callK_i (d66 l _ hl) ?_ <;> simp only [h, bne, EV, Nat.reduceEqDiff, Nat.reduceBEq, Nat.reduceLT, Nat.reduceLeDiff, Nat.reduceAdd, Nat.reduceSub, reduceIte])
    | (refine callK_i (d67 l _ hl) ?_ <;> simp only [h, bne, EV, Nat.reduceEqDiff, Nat.reduceBEq, Nat.reduceLT, Nat.reduceLeDiff, Nat.reduceAdd, Nat.reduceSub, reduceIte]))
  all_goals simp only [Bool.not_eq_true', Bool.not_eq_false'] at *
  all_goals first
    | exact absurd ((‹(t.kind == 5) = false›).symm.trans ‹(t.kind == 5) = true›) Bool.false_ne_true
    | (simp only [tyOk, *, Bool.not_true, Bool.not_false, Bool.true_and, Bool.false_and, Bool.and_true, Bool.and_false, Bool.true_or, Bool.false_or, Bool.or_false, Bool.or_true, Bool.false_eq_true, if_true, if_false, EV, Nat.reduceEqDiff, Nat.reduceBEq, Nat.reduceLT, Nat.reduceLeDiff, Nat.reduceAdd, Nat.reduceSub, reduceIte, evRE, retVC, cellV', evR, nfz, nfzs, nfzss, List.contains_nil, List.contains_cons, Bool.or_false, or_true]
       done)
    | (obtain ⟨h0, h1, hn, hk⟩ := isNum_lt ‹isNum l t.base = true›
       simp only [h0, h1, nth_map hn, Ty.z, EV, Nat.reduceEqDiff, Nat.reduceBEq, Nat.reduceLT, Nat.reduceLeDiff, Nat.reduceAdd, Nat.reduceSub, reduceIte]
       simp only [tyOk, *, Bool.not_true, Bool.not_false, Bool.true_and, Bool.false_and, Bool.and_true, Bool.and_false, Bool.true_or, Bool.false_or, Bool.or_false, Bool.or_true, Bool.false_eq_true, if_true, if_false, EV, Nat.reduceEqDiff, Nat.reduceBEq, Nat.reduceLT, Nat.reduceLeDiff, Nat.reduceAdd, Nat.reduceSub, reduceIte, evRE, retVC, cellV', evR, nfz, nfzs, nfzss, List.contains_nil, List.contains_cons, Bool.or_false, or_true]
       done)

end Go.AM
namespace Go.AM
set_option linter.unusedVariables false
set_option linter.unusedSimpArgs false
theorem kindIn_same (l : List Ty) (n a : Int) : kindIn l n a a = (isNum l n && kd l n == a) := by
  unfold kindIn; rw [Bool.or_self]

theorem kindIn_two (l : List Ty) (n a b : Int) : kindIn l n a b = ((isNum l n && kd l n == a) || (isNum l n && kd l n == b)) := by
  unfold kindIn; rw [Bool.and_or_distrib_left]

noncomputable def tyRest (l : List Ty) (t : Ty) : Bool :=
  if (t.kind == 4) = true then (decide (1 ≤ t.long) && decide (t.long ≤ 1000)) && isNum l t.base
  else if (t.kind == 5) = true then ((t.long == 0) && ((t.base == -1) || kindIn l t.base 5 5)) && fdsOk l t.fields
  else if (t.kind == 6) = true then (t.long == 0) && kindIn l t.base 5 4
  else false

noncomputable def tyHead (t : Ty) : Bool := named t && !((!(t.kind == 5)) && decide (0 < (t.fields.length : Int)))

theorem tyOk_eq (l : List Ty) (t : Ty) : tyOk l t = (tyHead t && tyRest l t) := by
  unfold tyOk tyHead tyRest
  rw [kindIn_same, kindIn_two]
  exact (Bool.and_assoc _ _ _).symm

/-- loop.example/g00837/spec.l3Type -/
def m38 : MC :=
  (.seq
   (.reg [⟨(some 3), none, .a (.box 43 (.t 1))⟩,
     ⟨(some 4), none, .a (.asg (.c (.bool false)))⟩])
   (.join [0, 3, 5]
    (.reg [⟨(some 6), none, .q (.fad 5 (.t 3))⟩,
      ⟨(some 7), none, .q (.load false 1 (.t 6))⟩,
      ⟨(some 8), none, .a (.call (.fn 59) false [.lend (.t 7)])⟩,
      ⟨(some 9), none, .q (.mov (.t 8))⟩,
      ⟨(some 10), (some (9, true)), .q (.fad 4 (.t 3))⟩,
      ⟨(some 11), (some (9, true)), .q (.load false 1 (.t 10))⟩,
      ⟨(some 12), (some (9, true)), .a (.call (.fn 59) false [.lend (.t 11)])⟩,
      ⟨(some 13), none, .q (.pick (.t 9) (.t 12) (.c (.bool false)))⟩,
      ⟨(some 5), none, .a (.asg (.t 13))⟩])
    (.seq
     (.join [0, 3, 36]
      (.reg [⟨(some 14), none, .q (.mov (.t 5))⟩,
        ⟨(some 15), none, .q (.un .not (.t 14))⟩,
        ⟨(some 16), none, .q (.mov (.t 15))⟩,
        ⟨(some 17), (some (16, true)), .q (.fad 5 (.t 3))⟩,
        ⟨(some 18), (some (16, true)), .q (.load false 1 (.t 17))⟩,
        ⟨(some 19), (some (16, true)), .q (.bin false .neq (.t 18) (.c (.string ({ data := #[] }))))⟩,
        ⟨(some 20), (some (16, true)), .q (.mov (.t 19))⟩,
        ⟨(some 21), (some (20, false)), .q (.fad 4 (.t 3))⟩,
        ⟨(some 22), (some (20, false)), .q (.load false 1 (.t 21))⟩,
        ⟨(some 23), (some (20, false)), .q (.bin false .neq (.t 22) (.c (.string ({ data := #[] }))))⟩,
        ⟨(some 24), (some (16, true)), .q (.pick (.t 20) (.c (.bool true)) (.t 23))⟩,
        ⟨(some 25), none, .q (.pick (.t 16) (.t 24) (.c (.bool false)))⟩,
        ⟨(some 26), none, .q (.mov (.t 25))⟩,
        ⟨(some 27), (some (26, false)), .q (.fad 0 (.t 3))⟩,
        ⟨(some 28), (some (26, false)), .q (.load false 1 (.t 27))⟩,
        ⟨(some 29), (some (26, false)), .q (.bin false .neq (.t 28) (.c (.int .i64 5)))⟩,
        ⟨(some 30), (some (26, false)), .q (.mov (.t 29))⟩,
        ⟨(some 31), (some (30, true)), .q (.fad 3 (.t 3))⟩,
        ⟨(some 32), (some (30, true)), .q (.load false 1 (.t 31))⟩,
        ⟨(some 33), (some (30, true)), .q (.len false (.t 32))⟩,
        ⟨(some 34), (some (30, true)), .q (.bin false .gtr (.t 33) (.c (.int .i64 0)))⟩,
        ⟨(some 35), (some (26, false)), .q (.pick (.t 30) (.t 34) (.c (.bool false)))⟩,
        ⟨(some 36), none, .q (.pick (.t 26) (.c (.bool true)) (.t 35))⟩])
      (.cond (.t 36)
       (.seq
        (.reg [⟨(some 4), none, .a (.asg (.c (.bool false)))⟩])
        .ret)
       .skip))
     (.seq
      (.seq
       (.reg [⟨(some 37), none, .q (.fad 0 (.t 3))⟩,
         ⟨(some 38), none, .q (.load false 1 (.t 37))⟩])
       (.block 0
        (.seq
         (.reg [⟨(some 40), none, .q (.bin false .eql (.t 38) (.c (.int .i64 4)))⟩,
           ⟨(some 39), none, .a (.asg (.t 40))⟩])
         (.cond (.t 39)
          (.seq
           (.reg [⟨(some 41), none, .q (.fad 1 (.t 3))⟩,
             ⟨(some 42), none, .q (.load false 1 (.t 41))⟩,
             ⟨(some 43), none, .a (.call (.fn 15) false [.lend (.t 42), .lend (.c (.int .i64 1)), .lend (.c (.int .i64 1000))])⟩,
             ⟨(some 44), none, .q (.mov (.t 43))⟩,
             ⟨(some 45), (some (44, true)), .q (.fad 2 (.t 3))⟩,
             ⟨(some 46), (some (44, true)), .q (.load false 1 (.t 45))⟩,
             ⟨(some 47), (some (44, true)), .q (.mov (.t 0))⟩,
             ⟨(some 48), (some (44, true)), .q (.len false (.t 47))⟩,
             ⟨(some 49), (some (44, true)), .q (.bin false .sub (.t 48) (.c (.int .i64 1)))⟩,
             ⟨(some 50), (some (44, true)), .a (.call (.fn 15) false [.lend (.t 46), .lend (.c (.int .i64 0)), .lend (.t 49)])⟩,
             ⟨(some 51), none, .q (.pick (.t 44) (.t 50) (.c (.bool false)))⟩,
             ⟨(some 4), none, .a (.asg (.t 51))⟩])
           .ret)
          (.seq
           (.reg [⟨(some 53), none, .q (.bin false .eql (.t 38) (.c (.int .i64 5)))⟩,
             ⟨(some 52), none, .a (.asg (.t 53))⟩])
           (.cond (.t 52)
            (.seq
             (.reg [⟨(some 54), none, .q (.fad 1 (.t 3))⟩,
               ⟨(some 55), none, .q (.load false 1 (.t 54))⟩,
               ⟨(some 56), none, .q (.bin false .eql (.t 55) (.c (.int .i64 0)))⟩,
               ⟨(some 57), none, .q (.mov (.t 56))⟩,
               ⟨(some 58), (some (57, true)), .q (.fad 2 (.t 3))⟩,
               ⟨(some 59), (some (57, true)), .q (.load false 1 (.t 58))⟩,
               ⟨(some 60), (some (57, true)), .q (.bin false .eql (.t 59) (.c (.int .i64 (-1))))⟩,
               ⟨(some 61), (some (57, true)), .q (.mov (.t 60))⟩,
               ⟨(some 62), (some (61, false)), .q (.mov (.t 0))⟩,
               ⟨(some 63), (some (61, false)), .q (.fad 2 (.t 3))⟩,
               ⟨(some 64), (some (61, false)), .q (.load false 1 (.t 63))⟩,
               ⟨(some 65), (some (61, false)), .a (.call (.fn 60) false [.lend (.t 62), .lend (.t 64), .lend (.c (.int .i64 5)), .lend (.c (.int .i64 5))])⟩,
               ⟨(some 66), (some (57, true)), .q (.pick (.t 61) (.c (.bool true)) (.t 65))⟩,
               ⟨(some 67), none, .q (.pick (.t 57) (.t 66) (.c (.bool false)))⟩,
               ⟨(some 68), none, .q (.mov (.t 67))⟩,
               ⟨(some 69), (some (68, true)), .q (.mov (.t 0))⟩,
               ⟨(some 70), (some (68, true)), .q (.fad 3 (.t 3))⟩,
               ⟨(some 71), (some (68, true)), .q (.load false 1 (.t 70))⟩,
               ⟨(some 72), (some (68, true)), .a (.call (.fn 61) false [.lend (.t 69), .lend (.t 71)])⟩,
               ⟨(some 73), none, .q (.pick (.t 68) (.t 72) (.c (.bool false)))⟩,
               ⟨(some 4), none, .a (.asg (.t 73))⟩])
             .ret)
            .skip))))))
      (.seq
       (.reg [⟨(some 74), none, .q (.fad 0 (.t 3))⟩,
         ⟨(some 75), none, .q (.load false 1 (.t 74))⟩,
         ⟨(some 76), none, .q (.bin false .eql (.t 75) (.c (.int .i64 6)))⟩,
         ⟨(some 77), none, .q (.mov (.t 76))⟩,
         ⟨(some 78), (some (77, true)), .q (.fad 1 (.t 3))⟩,
         ⟨(some 79), (some (77, true)), .q (.load false 1 (.t 78))⟩,
         ⟨(some 80), (some (77, true)), .q (.bin false .eql (.t 79) (.c (.int .i64 0)))⟩,
         ⟨(some 81), none, .q (.pick (.t 77) (.t 80) (.c (.bool false)))⟩,
         ⟨(some 82), none, .q (.mov (.t 81))⟩,
         ⟨(some 83), (some (82, true)), .q (.mov (.t 0))⟩,
         ⟨(some 84), (some (82, true)), .q (.fad 2 (.t 3))⟩,
         ⟨(some 85), (some (82, true)), .q (.load false 1 (.t 84))⟩,
         ⟨(some 86), (some (82, true)), .a (.call (.fn 60) false [.lend (.t 83), .lend (.t 85), .lend (.c (.int .i64 5)), .lend (.c (.int .i64 4))])⟩,
         ⟨(some 87), none, .q (.pick (.t 82) (.t 86) (.c (.bool false)))⟩,
         ⟨(some 4), none, .a (.asg (.t 87))⟩])
       .ret)))))

set_option maxHeartbeats 1000000 in
set_option maxRecDepth 100000 in
theorem d38 (l : List Ty) (t : Ty) (hl : (l.length : Int) ≤ 1048576) (ht : t.sm) :
    Does Go.Proofs.Try.prog 38 [.fsl 6 (l.map Ty.z), .agg t.z] false (.v (.bool (tyOk l t))) [.dead, .dead] := by
  have ht0 := ht
  unfold Ty.sm at ht
  have d7 := d61 l t.fields hl ht.2.2.2.1.1 ht.2.2.2.1.2
  have hw : IntKind.i64.wrap ((l.length : Int) - 1) = (l.length : Int) - 1 := w64 _ (by omega)
  refine does_intro (mc := m38) (N := 88) (rs := [4]) (fx := []) 2 rfl (by decide +kernel) ?_
  simp only [m38, Ty.z, EV, Nat.reduceEqDiff, Nat.reduceBEq, Nat.reduceLT, Nat.reduceLeDiff, Nat.reduceAdd, Nat.reduceSub, reduceIte]
  refine awp_join (fun _ : Unit => True) (fun _ => stl [(0, .fsl 6 (l.map Ty.z)), (3, .box 43 t.z), (5, .v (.bool (nameOk t.name && nameOk t.owner)))]) ?_ ?_
  · simp only [EV, Nat.reduceEqDiff, Nat.reduceBEq, Nat.reduceLT, Nat.reduceLeDiff, Nat.reduceAdd, Nat.reduceSub, reduceIte]
    refine callK_i (d59 _ (by omega)) ?_
    simp only [EV, Nat.reduceEqDiff, Nat.reduceBEq, Nat.reduceLT, Nat.reduceLeDiff, Nat.reduceAdd, Nat.reduceSub, reduceIte]
    rcases e1 : nameOk t.name with _ | _
    · simp only [e1, Ty.z, EV, Nat.reduceEqDiff, Nat.reduceBEq, Nat.reduceLT, Nat.reduceLeDiff, Nat.reduceAdd, Nat.reduceSub, reduceIte]
      first | exact ⟨(), rfl⟩ | exact ⟨(), trivial⟩
    · simp only [e1, Ty.z, EV, Nat.reduceEqDiff, Nat.reduceBEq, Nat.reduceLT, Nat.reduceLeDiff, Nat.reduceAdd, Nat.reduceSub, reduceIte]
      refine callK_i (d59 _ (by omega)) ?_
      simp only [e1, Ty.z, EV, Nat.reduceEqDiff, Nat.reduceBEq, Nat.reduceLT, Nat.reduceLeDiff, Nat.reduceAdd, Nat.reduceSub, reduceIte]
      first | exact ⟨(), rfl⟩ | exact ⟨(), trivial⟩
  rintro _ _
  simp only [Ty.z, EV, Nat.reduceEqDiff, Nat.reduceBEq, Nat.reduceLT, Nat.reduceLeDiff, Nat.reduceAdd, Nat.reduceSub, reduceIte]
  refine awp_join (fun _ : Unit => True) (fun _ => stl [(0, .fsl 6 (l.map Ty.z)), (3, .box 43 t.z), (36, .v (.bool (!tyHead t)))]) ?_ ?_
  · simp only [EV, Nat.reduceEqDiff, Nat.reduceBEq, Nat.reduceLT, Nat.reduceLeDiff, Nat.reduceAdd, Nat.reduceSub, reduceIte]
    rcases q : (nameOk t.name && nameOk t.owner) with _ | _ <;> rcases e5 : (t.kind == 5) with _ | _ <;> rcases e0 : decide (0 < (t.fields.length : Int)) with _ | _ <;> rcases en : (t.name.toList == (⟨#[]⟩ : ByteArray).toList) with _ | _ <;> rcases eo : (t.owner.toList == (⟨#[]⟩ : ByteArray).toList) with _ | _
    all_goals simp only [q, e5, e0, en, eo, bne, tyHead, named, Bool.not_not, Bool.not_true, Bool.not_false, Bool.true_and, Bool.false_and, Bool.and_true, Bool.and_false, Bool.true_or, Bool.false_or, Bool.or_false, Bool.or_true, Bool.and_self, Ty.z, EV, Nat.reduceEqDiff, Nat.reduceBEq, Nat.reduceLT, Nat.reduceLeDiff, Nat.reduceAdd, Nat.reduceSub, reduceIte]
    all_goals first | exact ⟨(), rfl⟩ | exact ⟨(), trivial⟩
  rintro _ _
  simp only [Ty.z, EV, Nat.reduceEqDiff, Nat.reduceBEq, Nat.reduceLT, Nat.reduceLeDiff, Nat.reduceAdd, Nat.reduceSub, reduceIte]
  rcases q : tyHead t with _ | _
  · have e : tyOk l t = false := by rw [tyOk_eq, q, Bool.false_and]
    simp only [Bool.not_false, EV, Nat.reduceEqDiff, Nat.reduceBEq, Nat.reduceLT, Nat.reduceLeDiff, Nat.reduceAdd, Nat.reduceSub, reduceIte]
    simp only [e, EV, Nat.reduceEqDiff, Nat.reduceBEq, Nat.reduceLT, Nat.reduceLeDiff, Nat.reduceAdd, Nat.reduceSub, reduceIte, evRE, retVC, cellV', evR, nfz, nfzs, nfzss, List.contains_nil, List.contains_cons, Bool.or_false, or_true]
  have e : tyOk l t = tyRest l t := by rw [tyOk_eq, q, Bool.true_and]
  have hnum : (decide (0 ≤ t.base) && decide (t.base ≤ (l.length : Int) - 1)) = isNum l t.base := rfl
  simp only [Bool.not_true, EV, Nat.reduceEqDiff, Nat.reduceBEq, Nat.reduceLT, Nat.reduceLeDiff, Nat.reduceAdd, Nat.reduceSub, reduceIte]
  repeat' (first
    | (refine gK_cut (fun h => ?_) (fun h => ?_) <;> simp only [h, bne, hw, EV, Nat.reduceEqDiff, Nat.reduceBEq, Nat.reduceLT, Nat.reduceLeDiff, Nat.reduceAdd, Nat.reduceSub, reduceIte])
    | (refine cK_cut (fun h => ?_) (fun h => ?_) <;> simp only [h, bne, hw, EV, Nat.reduceEqDiff, Nat.reduceBEq, Nat.reduceLT, Nat.reduceLeDiff, Nat.reduceAdd, Nat.reduceSub, reduceIte])
    | (refine callK_i d7 ?_ <;> simp only [h, bne, hw, EV, Nat.reduceEqDiff, Nat.reduceBEq, Nat.reduceLT, Nat.reduceLeDiff, Nat.reduceAdd, Nat.reduceSub, reduceIte])
    | (refine callK_i (d15 _ _ _) ?_ <;> simp only [h, bne, hw, EV, Nat.reduceEqDiff, Nat.reduceBEq, Nat.reduceLT, Nat.reduceLeDiff, Nat.reduceAdd, Nat.reduceSub, reduceIte])
    | (refine callK_i (d60 l _ _ _ hl) ?_ <;> simp only [h, bne, hw, EV, Nat.reduceEqDiff, Nat.reduceBEq, Nat.reduceLT, Nat.reduceLeDiff, Nat.reduceAdd, Nat.reduceSub, reduceIte]))
  all_goals (try simp only [Bool.not_eq_true', Bool.not_eq_false'] at *)
  all_goals first
    | exact absurd ((‹(t.kind == 5) = false›).symm.trans ‹(t.kind == 5) = true›) Bool.false_ne_true
    | (simp only [e, tyRest, *, Bool.not_true, Bool.not_false, Bool.true_and, Bool.false_and, Bool.and_true, Bool.and_false, Bool.true_or, Bool.false_or, Bool.or_false, Bool.or_true, Bool.false_eq_true, if_true, if_false, EV, Nat.reduceEqDiff, Nat.reduceBEq, Nat.reduceLT, Nat.reduceLeDiff, Nat.reduceAdd, Nat.reduceSub, reduceIte, evRE, retVC, cellV', evR, nfz, nfzs, nfzss, List.contains_nil, List.contains_cons, Bool.or_false, or_true]
       done)

end Go.AM
namespace Go.AM
set_option linter.unusedVariables false
set_option linter.unusedSimpArgs false
noncomputable def tyAt (l m : List Ty) (i : Nat) (h : i < m.length) : Bool :=
  !(!nil' m[i].name && (m.take i).any (tyNm m[i])) && tyOk l m[i]

def tyTo (l m : List Ty) (n : Nat) : Prop := ∀ i (h : i < m.length), i < n → tyAt l m i h = true

open Classical in
noncomputable def tysOk (l : List Ty) : Bool := (decide (3 ≤ (l.length : Int)) && decide ((l.length : Int) ≤ 24)) && (eqL sameTy (l.take 3) baseTs && decide (tyTo l (l.drop 3) (l.drop 3).length))

theorem tyTo_succ {l m : List Ty} {i : Nat} (h : i < m.length) (h1 : tyTo l m i) (h2 : tyAt l m i h = true) : tyTo l m (i + 1) := by
  intro j hj hji
  by_cases e : j = i
  · subst e; exact h2
  · exact h1 j hj (by omega)

theorem tysOk_no {l : List Ty} {i : Nat} (h : i < (l.drop 3).length) (h2 : tyAt l (l.drop 3) i h = false) : tysOk l = false := by
  have : ¬ tyTo l (l.drop 3) (l.drop 3).length := by
    intro h1
    have := h1 i h h
    rw [h2] at this; cases this
  simp only [tysOk, this, decide_false, Bool.and_false]

theorem tysOk_yes {l : List Ty} (h1 : (decide (3 ≤ (l.length : Int)) && decide ((l.length : Int) ≤ 24)) = true) (h2 : eqL sameTy (l.take 3) baseTs = true) (h : tyTo l (l.drop 3) (l.drop 3).length) : tysOk l = true := by
  simp only [tysOk, h1, h2, h, decide_true, Bool.and_self]

theorem base_len : baseTs.length = 3 := rfl

theorem base_sm : ∀ b ∈ baseTs, b.sm := by
  intro b hb
  have hz : ∀ x : ByteArray, x = ⟨#[]⟩ ∨ x = ⟨#[73, 78, 84]⟩ ∨ x = ⟨#[66, 79, 79, 76]⟩ ∨ x = ⟨#[67, 72, 65, 82]⟩ → (x.size : Int) ≤ 1048576 := by
    rintro x (rfl | rfl | rfl | rfl) <;> decide
  simp only [baseTs, List.mem_cons, List.not_mem_nil, or_false] at hb
  rcases hb with rfl | rfl | rfl <;> exact ⟨trivial, trivial, trivial, ⟨by simp, by simp⟩, hz _ (by simp), hz _ (by simp)⟩

/-- loop.example/g00837/impl.areTypes -/
def m31 : MC :=
  (.seq
   (.reg [⟨(some 2), none, .a (.asg (.c (.bool false)))⟩])
   (.seq
    (.reg [⟨(some 7), none, .a (.call (.fn 44) false [])⟩,
      ⟨(some 3), none, .a (.asg (.t 7))⟩])
    (.seq
     (.seq
      (.reg [⟨(some 8), none, .q (.mov (.t 0))⟩,
        ⟨(some 9), none, .q (.len false (.t 8))⟩,
        ⟨(some 10), none, .q (.mov (.t 3))⟩,
        ⟨(some 11), none, .q (.len false (.t 10))⟩,
        ⟨(some 12), none, .a (.call (.fn 19) false [.lend (.t 9), .lend (.t 11), .lend (.c (.int .i64 24))])⟩,
        ⟨(some 13), none, .q (.un .not (.t 12))⟩,
        ⟨(some 14), none, .q (.mov (.t 13))⟩,
        ⟨(some 15), (some (14, false)), .q (.mov (.t 0))⟩,
        ⟨(some 16), (some (14, false)), .q (.mov (.t 3))⟩,
        ⟨(some 17), (some (14, false)), .q (.len false (.t 16))⟩,
        ⟨(some 18), (some (14, false)), .q (.slc false 6 (.t 15) none (some (.t 17)))⟩,
        ⟨(some 19), (some (14, false)), .q (.mov (.t 3))⟩,
        ⟨(some 20), (some (14, false)), .a (.call (.fn 45) false [.lend (.t 18), .lend (.t 19), .lend (.fn 46)])⟩,
        ⟨(some 21), (some (14, false)), .q (.un .not (.t 20))⟩,
        ⟨(some 22), none, .q (.pick (.t 14) (.c (.bool true)) (.t 21))⟩])
      (.cond (.t 22)
       (.seq
        (.reg [⟨(some 2), none, .a (.asg (.c (.bool false)))⟩])
        .ret)
       .skip))
     (.seq
      (.seq
       (.reg [⟨(some 23), none, .q (.mov (.t 0))⟩,
         ⟨(some 24), none, .q (.mov (.t 3))⟩,
         ⟨(some 25), none, .q (.len false (.t 24))⟩,
         ⟨(some 26), none, .q (.slc false 6 (.t 23) (some (.t 25)) none)⟩,
         ⟨(some 27), none, .q (.len false (.t 26))⟩,
         ⟨(some 28), none, .q (.mov (.c (.int .i64 0)))⟩])
       (.block 0
        (.loop [0, 3, 7, 23, 25, 26, 27, 28]
         (.seq
          (.reg [⟨(some 29), none, .q (.bin false .lss (.t 28) (.t 27))⟩])
          (.seq
           (.cond (.t 29)
            .skip
            (.exit 0))
           (.seq
            (.block 1
             (.seq
              (.reg [⟨(some 30), none, .q (.mov (.t 28))⟩,
                ⟨(some 31), none, .q (.iad 6 (.t 26) (.t 28))⟩,
                ⟨(some 32), none, .q (.load true 6 (.t 31))⟩,
                ⟨(some 5), none, .a (.alloc 43 [.v (.int .i64 0), .v (.int .i64 0), .v (.int .i64 0), .s 54 3, .v (.string ({ data := #[] })), .v (.string ({ data := #[] }))])⟩,
                ⟨(some 4), none, .a (.asg (.t 30))⟩,
                ⟨none, none, .a (.store 6 (.t 5) (.t 32))⟩])
              (.seq
               (.reg [⟨(some 33), none, .q (.fad 5 (.t 5))⟩,
                 ⟨(some 34), none, .q (.load false 1 (.t 33))⟩,
                 ⟨(some 35), none, .q (.bin false .neq (.t 34) (.c (.string ({ data := #[] }))))⟩,
                 ⟨(some 36), none, .q (.mov (.t 35))⟩,
                 ⟨(some 37), (some (36, true)), .q (.mov (.t 0))⟩,
                 ⟨(some 38), (some (36, true)), .q (.mov (.t 3))⟩,
                 ⟨(some 39), (some (36, true)), .q (.len false (.t 38))⟩,
                 ⟨(some 40), (some (36, true)), .q (.mov (.t 3))⟩,
                 ⟨(some 41), (some (36, true)), .q (.len false (.t 40))⟩,
                 ⟨(some 42), (some (36, true)), .q (.mov (.t 4))⟩,
                 ⟨(some 43), (some (36, true)), .q (.bin false .add (.t 41) (.t 42))⟩,
                 ⟨(some 44), (some (36, true)), .q (.slc false 6 (.t 37) (some (.t 39)) (some (.t 43)))⟩,
                 ⟨(some 45), (some (36, true)), .q (.mkf 48 [.t 5])⟩,
                 ⟨(some 46), (some (36, true)), .a (.call (.fn 47) false [.lend (.t 44), .lend (.t 45)])⟩,
                 ⟨(some 47), none, .q (.pick (.t 36) (.t 46) (.c (.bool false)))⟩,
                 ⟨(some 6), none, .a (.asg (.t 47))⟩])
               (.seq
                (.reg [⟨(some 48), none, .q (.mov (.t 6))⟩,
                  ⟨(some 49), none, .q (.mov (.t 48))⟩,
                  ⟨(some 50), (some (49, false)), .q (.mov (.t 0))⟩,
                  ⟨(some 51), (some (49, false)), .q (.load true 6 (.t 5))⟩,
                  ⟨(some 52), (some (49, false)), .a (.call (.fn 49) false [.lend (.t 50), .lend (.t 51)])⟩,
                  ⟨(some 53), (some (49, false)), .q (.un .not (.t 52))⟩,
                  ⟨(some 54), none, .q (.pick (.t 49) (.c (.bool true)) (.t 53))⟩])
                (.cond (.t 54)
                 (.seq
                  (.reg [⟨(some 2), none, .a (.asg (.c (.bool false)))⟩])
                  .ret)
                 .skip)))))
            (.reg [⟨(some 55), none, .q (.bin false .add (.t 28) (.c (.int .i64 1)))⟩,
              ⟨(some 28), none, .q (.mov (.t 55))⟩])))))))
      (.seq
       (.reg [⟨(some 2), none, .a (.asg (.c (.bool true)))⟩])
       .ret)))))

set_option maxHeartbeats 1000000 in
set_option maxRecDepth 100000 in
theorem d31 (l : List Ty) (hl : (l.length : Int) ≤ 1048576) (hs : ∀ s ∈ l, s.sm) : Does Go.Proofs.Try.prog 31 [.fsl 6 (l.map Ty.z)] false (.v (.bool (tysOk l))) [.dead] := by
  refine does_intro (mc := m31) (N := 56) (rs := [2]) (fx := []) 1 rfl (by decide +kernel) ?_
  simp only [m31, EV, Nat.reduceEqDiff, Nat.reduceBEq, Nat.reduceLT, Nat.reduceLeDiff, Nat.reduceAdd, Nat.reduceSub, reduceIte]
  refine callK_i d44 ?_
  have h3 : ((3 : Nat) : Int) = 3 := rfl
  simp only [base_len, h3, EV, Nat.reduceEqDiff, Nat.reduceBEq, Nat.reduceLT, Nat.reduceLeDiff, Nat.reduceAdd, Nat.reduceSub, reduceIte]
  refine callK_i (d19 _ _ _) ?_
  simp only [base_len, h3, EV, Nat.reduceEqDiff, Nat.reduceBEq, Nat.reduceLT, Nat.reduceLeDiff, Nat.reduceAdd, Nat.reduceSub, reduceIte]
  rcases e1 : (decide (3 ≤ (l.length : Int)) && decide ((l.length : Int) ≤ 24)) with _ | _
  · have e : tysOk l = false := by simp only [tysOk, e1, Bool.false_and]
    simp only [EV, Nat.reduceEqDiff, Nat.reduceBEq, Nat.reduceLT, Nat.reduceLeDiff, Nat.reduceAdd, Nat.reduceSub, reduceIte]
    simp only [e, Ty.nfz, EV, Nat.reduceEqDiff, Nat.reduceBEq, Nat.reduceLT, Nat.reduceLeDiff, Nat.reduceAdd, Nat.reduceSub, reduceIte, evRE, retVC, cellV', evR, nfz, nfzs, nfzss, List.contains_nil, List.contains_cons, Bool.or_false, or_true]
  have hl3 : 3 ≤ (l.length : Int) ∧ (l.length : Int) ≤ 24 := by simpa using e1
  have ht3 : (l.take 3).length = 3 := by simp; omega
  have hd3 : (l.drop 3).length = l.length - 3 := by simp
  simp only [base_len, h3, Ty.frz, EV, Nat.reduceEqDiff, Nat.reduceBEq, Nat.reduceLT, Nat.reduceLeDiff, Nat.reduceAdd, Nat.reduceSub, reduceIte]
  refine ⟨by omega, by omega, hl3.1, ?_⟩
  have t3 : (3 : Int).toNat = 3 := rfl
  simp only [← List.map_take, t3]
  refine callK_i (d45 (l.take 3) baseTs (by omega) (by rw [base_len]; omega) 46 sameTy (fun a ha b hb => d46 a b (hs a (List.mem_of_mem_take ha)) (base_sm b hb))) ?_
  simp only [base_len, h3, EV, Nat.reduceEqDiff, Nat.reduceBEq, Nat.reduceLT, Nat.reduceLeDiff, Nat.reduceAdd, Nat.reduceSub, reduceIte]
  rcases e2 : eqL sameTy (l.take 3) baseTs with _ | _
  · have e : tysOk l = false := by simp only [tysOk, e1, e2, Bool.false_and, Bool.and_false]
    simp only [EV, Nat.reduceEqDiff, Nat.reduceBEq, Nat.reduceLT, Nat.reduceLeDiff, Nat.reduceAdd, Nat.reduceSub, reduceIte]
    simp only [e, Ty.nfz, EV, Nat.reduceEqDiff, Nat.reduceBEq, Nat.reduceLT, Nat.reduceLeDiff, Nat.reduceAdd, Nat.reduceSub, reduceIte, evRE, retVC, cellV', evR, nfz, nfzs, nfzss, List.contains_nil, List.contains_cons, Bool.or_false, or_true]
  simp only [base_len, h3, EV, Nat.reduceEqDiff, Nat.reduceBEq, Nat.reduceLT, Nat.reduceLeDiff, Nat.reduceAdd, Nat.reduceSub, reduceIte]
  refine ⟨by omega, hl3.1, by omega, ?_⟩
  simp only [← List.map_drop, ← List.map_take, t3]
  have hm : ∃ m, m = l.drop 3 := ⟨_, rfl⟩
  obtain ⟨m, hm⟩ := hm
  have hml : (m.length : Int) = (l.length : Int) - 3 := by rw [hm]; simp; omega
  have hsub : ∀ x ∈ m, x ∈ l := by rw [hm]; exact fun x hx => List.mem_of_mem_drop hx
  have p9 : ∀ i (h : i < m.length), tyAt l m i h = false → tysOk l = false := by
    subst hm; exact fun i h e => tysOk_no h e
  refine awp_loop (fun i : Nat => i ≤ m.length ∧ tyTo l m i) (fun i => stl [(0, .fsl 6 (l.map Ty.z)), (3, .usl 43 6 (baseTs.map Ty.o)), (7, .dead), (23, .fsl 6 (l.map Ty.z)), (25, .v (.int .i64 3)), (26, .fsl 6 (m.map Ty.z)), (27, .v (.int .i64 (m.length : Int))), (28, .v (.int .i64 (i : Int)))]) (fun i => m.length - i) 0 ⟨Nat.zero_le _, fun j hj h => absurd h (by omega)⟩ ?_ ?_
  · have htk : List.take (l.length - 3) m = m := List.take_of_length_le (by omega)
    simp only [← hm, htk, EV, Nat.reduceEqDiff, Nat.reduceBEq, Nat.reduceLT, Nat.reduceLeDiff, Nat.reduceAdd, Nat.reduceSub, reduceIte]
    rfl
  · rintro i ⟨hi, hok⟩
    simp only [EV, Nat.reduceEqDiff, Nat.reduceBEq, Nat.reduceLT, Nat.reduceLeDiff, Nat.reduceAdd, Nat.reduceSub, reduceIte]
    refine cK_cut (fun h => ?_) (fun h => ?_)
    · have h1 : i < m.length := by simpa using h
      have h2 : (i : Int) < (m.length : Int) := by omega
      have hso : m[i].sm := hs m[i] (hsub _ (List.getElem_mem h1))
      clear h
      simp only [TyE, nth_map h1, h2, base_len, h3, Ty.z, EV, Nat.reduceEqDiff, Nat.reduceBEq, Nat.reduceLT, Nat.reduceLeDiff, Nat.reduceAdd, Nat.reduceSub, reduceIte]
      have hw : IntKind.i64.wrap (3 + (i : Int)) = ((3 + i : Nat) : Int) := by rw [w64 _ (by omega)]; omega
      have hdt : List.take (3 + i - 3) (List.drop 3 (l.map Ty.z)) = (m.take i).map Ty.z := by
        rw [hm, Nat.add_sub_cancel_left, ← List.map_drop, ← List.map_take]
      have en : (m[i].name.toList == (⟨#[]⟩ : ByteArray).toList) = nil' m[i].name := rfl
      have hcl : Ty.z m[i] = [.v (.int .i64 m[i].kind), .v (.int .i64 m[i].long), .v (.int .i64 m[i].base), .fsl 3 (m[i].fields.map Fd.z), .v (.string m[i].owner), .v (.string m[i].name)] := rfl
      have d7 := d49 l m[i] hl hso
      have dc := d47 (m.take i) (by simp; omega) 48 [.fptr m[i].z] (tyNm m[i]) rfl rfl (fun _ => rfl) (fun _ => rfl) (fun s _ => d48 s m[i])
      rw [hcl] at d7 dc
      rw [en]
      rcases e3 : nil' m[i].name with _ | _
      · simp only [Bool.not_false, base_len, h3, hw, t3, EV, Nat.reduceEqDiff, Nat.reduceBEq, Nat.reduceLT, Nat.reduceLeDiff, Nat.reduceAdd, Nat.reduceSub, reduceIte]
        refine ⟨by omega, by omega, by omega, ?_⟩
        rw [hdt]
        refine callK_i dc ?_
        simp only [EV, Nat.reduceEqDiff, Nat.reduceBEq, Nat.reduceLT, Nat.reduceLeDiff, Nat.reduceAdd, Nat.reduceSub, reduceIte]
        rcases e4 : (m.take i).any (tyNm m[i]) with _ | _
        · simp only [EV, Nat.reduceEqDiff, Nat.reduceBEq, Nat.reduceLT, Nat.reduceLeDiff, Nat.reduceAdd, Nat.reduceSub, reduceIte]
          refine callK_i d7 ?_
          simp only [EV, Nat.reduceEqDiff, Nat.reduceBEq, Nat.reduceLT, Nat.reduceLeDiff, Nat.reduceAdd, Nat.reduceSub, reduceIte]
          rcases e5 : tyOk l m[i] with _ | _
          · have e : tysOk l = false := p9 i h1 (by simp only [tyAt, e5, Bool.and_false])
            simp only [EV, Nat.reduceEqDiff, Nat.reduceBEq, Nat.reduceLT, Nat.reduceLeDiff, Nat.reduceAdd, Nat.reduceSub, reduceIte]
            simp only [e, Ty.nfz, EV, Nat.reduceEqDiff, Nat.reduceBEq, Nat.reduceLT, Nat.reduceLeDiff, Nat.reduceAdd, Nat.reduceSub, reduceIte, evRE, retVC, cellV', evR, nfz, nfzs, nfzss, List.contains_nil, List.contains_cons, Bool.or_false, or_true]
          · simp only [EV, Nat.reduceEqDiff, Nat.reduceBEq, Nat.reduceLT, Nat.reduceLeDiff, Nat.reduceAdd, Nat.reduceSub, reduceIte]
            rw [w64 _ (by omega)]
            exact ⟨i + 1, ⟨h1, tyTo_succ h1 hok (by simp only [tyAt, e3, e4, e5, Bool.and_false, Bool.not_false, Bool.and_self])⟩, by omega, rfl⟩
        · have e : tysOk l = false := p9 i h1 (by simp only [tyAt, e3, e4, Bool.not_false, Bool.and_self, Bool.not_true, Bool.false_and])
          simp only [EV, Nat.reduceEqDiff, Nat.reduceBEq, Nat.reduceLT, Nat.reduceLeDiff, Nat.reduceAdd, Nat.reduceSub, reduceIte]
          simp only [e, Ty.nfz, EV, Nat.reduceEqDiff, Nat.reduceBEq, Nat.reduceLT, Nat.reduceLeDiff, Nat.reduceAdd, Nat.reduceSub, reduceIte, evRE, retVC, cellV', evR, nfz, nfzs, nfzss, List.contains_nil, List.contains_cons, Bool.or_false, or_true]
      · simp only [Bool.not_true, EV, Nat.reduceEqDiff, Nat.reduceBEq, Nat.reduceLT, Nat.reduceLeDiff, Nat.reduceAdd, Nat.reduceSub, reduceIte]
        refine callK_i d7 ?_
        simp only [EV, Nat.reduceEqDiff, Nat.reduceBEq, Nat.reduceLT, Nat.reduceLeDiff, Nat.reduceAdd, Nat.reduceSub, reduceIte]
        rcases e5 : tyOk l m[i] with _ | _
        · have e : tysOk l = false := p9 i h1 (by simp only [tyAt, e5, Bool.and_false])
          simp only [EV, Nat.reduceEqDiff, Nat.reduceBEq, Nat.reduceLT, Nat.reduceLeDiff, Nat.reduceAdd, Nat.reduceSub, reduceIte]
          simp only [e, Ty.nfz, EV, Nat.reduceEqDiff, Nat.reduceBEq, Nat.reduceLT, Nat.reduceLeDiff, Nat.reduceAdd, Nat.reduceSub, reduceIte, evRE, retVC, cellV', evR, nfz, nfzs, nfzss, List.contains_nil, List.contains_cons, Bool.or_false, or_true]
        · simp only [EV, Nat.reduceEqDiff, Nat.reduceBEq, Nat.reduceLT, Nat.reduceLeDiff, Nat.reduceAdd, Nat.reduceSub, reduceIte]
          rw [w64 _ (by omega)]
          exact ⟨i + 1, ⟨h1, tyTo_succ h1 hok (by simp only [tyAt, e3, e5, Bool.not_true, Bool.false_and, Bool.not_false, Bool.and_self])⟩, by omega, rfl⟩
    · have h1 : i = m.length := by have : ¬ (i : Int) < m.length := by simpa using h
                                   omega
      subst h1
      have e : tysOk l = true := tysOk_yes e1 e2 (by rw [← hm]; exact hok)
      simp only [EV, Nat.reduceEqDiff, Nat.reduceBEq, Nat.reduceLT, Nat.reduceLeDiff, Nat.reduceAdd, Nat.reduceSub, reduceIte]
      simp only [e, Ty.nfz, EV, Nat.reduceEqDiff, Nat.reduceBEq, Nat.reduceLT, Nat.reduceLeDiff, Nat.reduceAdd, Nat.reduceSub, reduceIte, evRE, retVC, cellV', evR, nfz, nfzs, nfzss, List.contains_nil, List.contains_cons, Bool.or_false, or_true]

end Go.AM
namespace Go.AM
set_option linter.unusedVariables false
set_option linter.unusedSimpArgs false
def prt (ptr : Bool) (t : Ty) : List Int := (if (decide (0 ≤ t.base) && (ptr || !(t.kind == 6))) = true then [t.base] else []) ++ t.fields.map Fd.typ

def kids (l : List Ty) (ptr : Bool) (n : Int) : List Int := match l[n.toNat]? with
  | some t => prt ptr t
  | none => []

theorem kids_at {l : List Ty} {ptr : Bool} {n : Int} (h : n.toNat < l.length) : kids l ptr n = prt ptr l[n.toNat] := by simp [kids, h]

inductive Rch (l : List Ty) (ptr : Bool) (fr : List Int) : Int → Prop where
  | base {n : Int} : n ∈ fr → Rch l ptr fr n
  | step {m n : Int} : Rch l ptr fr m → n ∈ kids l ptr m → Rch l ptr fr n

theorem Rch.mono {l : List Ty} {ptr : Bool} {fr fr' : List Int} (h : ∀ n ∈ fr, Rch l ptr fr' n) {n : Int} (hr : Rch l ptr fr n) : Rch l ptr fr' n := by
  induction hr with
  | base hm => exact h _ hm
  | step _ hk ih => exact .step ih hk

/-- All parts are numbers of types. -/
def kidsIn (l : List Ty) : Prop := ∀ n : Int, 0 ≤ n → n < l.length → ∀ k ∈ kids l true n, 0 ≤ k ∧ k < (l.length : Int)

theorem kids_sub {l : List Ty} {ptr : Bool} {n k : Int} (h : k ∈ kids l ptr n) : k ∈ kids l true n := by
  cases ptr with
  | true => exact h
  | false =>
    unfold kids at h ⊢
    split
    · rename_i t ht
      rw [ht] at h
      simp only [prt, List.mem_append] at h ⊢
      rcases h with h | h
      · left
        split at h
        · rename_i hc
          rw [if_pos (by simp only [Bool.and_eq_true] at hc ⊢; exact ⟨hc.1, rfl⟩)]
          exact h
        · simp at h
      · exact .inr h
    · rename_i ht; rw [ht] at h; exact h

theorem Rch.inr {l : List Ty} {ptr : Bool} {fr : List Int} (hk : kidsIn l) (hf : ∀ k ∈ fr, 0 ≤ k ∧ k < (l.length : Int)) {n : Int} (h : Rch l ptr fr n) : 0 ≤ n ∧ n < (l.length : Int) := by
  induction h with
  | base hm => exact hf _ hm
  | step _ hm ih => exact hk _ ih.1 ih.2 _ (kids_sub hm)

open Classical in
noncomputable def reachL (l : List Ty) (ptr : Bool) (fr : List Int) : List Int := ((List.range l.length).map Int.ofNat).filter fun n => decide (Rch l ptr fr n)

theorem mem_reachL {l : List Ty} {ptr : Bool} {fr : List Int} {n : Int} : n ∈ reachL l ptr fr ↔ (0 ≤ n ∧ n < (l.length : Int)) ∧ Rch l ptr fr n := by
  simp only [reachL, List.mem_filter, List.mem_map, List.mem_range, decide_eq_true_eq]
  constructor
  · rintro ⟨⟨k, hk, rfl⟩, h⟩
    exact ⟨⟨Int.natCast_nonneg k, by exact Int.ofNat_lt.2 hk⟩, h⟩
  · rintro ⟨⟨h0, h1⟩, h⟩
    exact ⟨⟨n.toNat, by omega, by exact Int.toNat_of_nonneg h0⟩, h⟩

theorem range_up : ∀ n : Nat, ((List.range n).map Int.ofNat).Pairwise (· < ·) := by
  intro n
  rw [List.pairwise_map]
  exact List.Pairwise.imp (fun h => Int.ofNat_lt.2 h) List.pairwise_lt_range

theorem reachL_up (l : List Ty) (ptr : Bool) (fr : List Int) : (reachL l ptr fr).Pairwise (· < ·) := List.Pairwise.filter _ (range_up _)

/-- Lists that rise and have the same members are the same. -/
theorem up_eq : ∀ {a b : List Int}, a.Pairwise (· < ·) → b.Pairwise (· < ·) → (∀ n, n ∈ a ↔ n ∈ b) → a = b
  | [], [], _, _, _ => rfl
  | [], y :: b, _, _, h => by have := (h y).2 (by simp); simp at this
  | x :: a, [], _, _, h => by have := (h x).1 (by simp); simp at this
  | x :: a, y :: b, ha, hb, h => by
    rw [List.pairwise_cons] at ha hb
    have e : x = y := by
      have h1 := (h x).1 (by simp)
      have h2 := (h y).2 (by simp)
      rcases List.mem_cons.1 h1 with h1 | h1
      · exact h1
      · rcases List.mem_cons.1 h2 with h2 | h2
        · exact h2.symm
        · have := ha.1 y h2; have := hb.1 x h1; omega
    subst e
    rw [up_eq ha.2 hb.2 (fun n => ?_)]
    have := h n
    simp only [List.mem_cons] at this
    constructor
    · intro hn
      rcases this.1 (.inr hn) with e | h3
      · have := ha.1 n hn; omega
      · exact h3
    · intro hn
      rcases this.2 (.inr hn) with e | h3
      · have := hb.1 n hn; omega
      · exact h3

theorem up_nodup {a : List Int} (h : a.Pairwise (· < ·)) : a.Nodup := h.imp fun h => by omega

theorem reachL_congr {l : List Ty} {ptr : Bool} {fr fr' : List Int} (h : ∀ n, n ∈ fr ↔ n ∈ fr') : reachL l ptr fr = reachL l ptr fr' := by
  refine up_eq (reachL_up _ _ _) (reachL_up _ _ _) fun n => ?_
  rw [mem_reachL, mem_reachL]
  constructor
  · rintro ⟨h1, h2⟩; exact ⟨h1, h2.mono fun n hn => .base ((h n).1 hn)⟩
  · rintro ⟨h1, h2⟩; exact ⟨h1, h2.mono fun n hn => .base ((h n).2 hn)⟩

/-- What rises, holds the first ones, is closed, and holds only what is reached: that is it. -/
theorem reachL_of {l : List Ty} {ptr : Bool} {fr out : List Int} (hk : kidsIn l) (hf : ∀ k ∈ fr, 0 ≤ k ∧ k < (l.length : Int)) (hu : out.Pairwise (· < ·)) (hfr : ∀ n ∈ fr, n ∈ out) (hcl : ∀ n ∈ out, ∀ k ∈ kids l ptr n, k ∈ out) (hr : ∀ n ∈ out, Rch l ptr fr n) : out = reachL l ptr fr := by
  refine up_eq hu (reachL_up _ _ _) fun n => ?_
  rw [mem_reachL]
  constructor
  · intro h; exact ⟨(hr n h).inr hk hf, hr n h⟩
  · rintro ⟨hx, h⟩
    clear hr hu hf hk hx
    induction h with
    | base hm => exact hfr _ hm
    | step _ hm ih => exact hcl _ ih _ hm

theorem sub_len : ∀ {a b : List Int}, a.Nodup → (∀ x ∈ a, x ∈ b) → a.length ≤ b.length
  | [], b, _, _ => Nat.zero_le _
  | x :: a, b, hn, h => by
    rw [List.nodup_cons] at hn
    have hx := h x (by simp)
    have ih := sub_len (b := b.erase x) hn.2 fun y hy => by
      have hne : y ≠ x := by intro e; subst e; exact hn.1 hy
      exact (List.mem_erase_of_ne hne).2 (h y (by simp [hy]))
    have he := List.length_erase_of_mem hx
    have hp : 0 < b.length := List.length_pos_of_mem hx
    simp only [List.length_cons]
    omega

theorem nodup_le {out : List Int} {n : Nat} (hn : out.Nodup) (h : ∀ k ∈ out, 0 ≤ k ∧ k < (n : Int)) : out.length ≤ n := by
  have := sub_len (b := (List.range n).map Int.ofNat) hn fun k hk => by
    obtain ⟨h0, h1⟩ := h k hk
    rw [List.mem_map]
    exact ⟨k.toNat, by rw [List.mem_range]; omega, Int.toNat_of_nonneg h0⟩
  simpa using this

noncomputable def roundAt (l : List Ty) (n : Int) : Bool := (reachL l false (kids l false n)).contains n

noncomputable def tabOk (l : List Ty) : Bool := tysOk l && (List.range l.length).all fun n => !roundAt l (n : Int)

theorem tabOk_tys {l : List Ty} (h : tabOk l = true) : tysOk l = true := by simp only [tabOk, Bool.and_eq_true] at h; exact h.1

theorem tabOk_round {l : List Ty} (h : tabOk l = true) {n : Int} (h0 : 0 ≤ n) (h1 : n < (l.length : Int)) : roundAt l n = false := by
  simp only [tabOk, Bool.and_eq_true, List.all_eq_true, List.mem_range] at h
  have := h.2 n.toNat (by omega)
  rw [Int.toNat_of_nonneg h0] at this
  simpa using this

theorem getElem_drop3 {l : List Ty} {n : Nat} (h3 : 3 ≤ n) (h : n < l.length) : ∃ h' : n - 3 < (l.drop 3).length, (l.drop 3)[n - 3] = l[n] := by
  refine ⟨by simp; omega, ?_⟩
  rw [List.getElem_drop]
  congr 1
  omega

theorem sameTy_base {a b : Ty} (h : sameTy a b = true) : a.kind = b.kind ∧ a.long = b.long ∧ a.base = b.base ∧ a.fields.length = b.fields.length ∧ (a.name.toList == b.name.toList) = true := by
  simp only [sameTy, Bool.and_eq_true, beq_iff_eq] at h
  obtain ⟨h1, h2, h3, h4, h5, h6⟩ := h
  refine ⟨h1, h2, h3, ?_, by rw [h6]; exact beq_self_eq_true _⟩
  simp only [eqL, decide_eq_true_eq] at h4
  exact h4.1

theorem tysOk_ty {l : List Ty} (h : tysOk l = true) {n : Nat} (h3 : 3 ≤ n) (hn : n < l.length) : tyOk l l[n] = true := by
  simp only [tysOk, Bool.and_eq_true, decide_eq_true_eq] at h
  obtain ⟨h', e⟩ := getElem_drop3 h3 hn
  have := h.2.2 (n - 3) h' h'
  simp only [tyAt, Bool.and_eq_true, e] at this
  exact this.2

theorem tysOk_len {l : List Ty} (h : tysOk l = true) : 3 ≤ l.length ∧ l.length ≤ 24 := by
  simp only [tysOk, Bool.and_eq_true, decide_eq_true_eq] at h
  omega

theorem tysOk_base {l : List Ty} (h : tysOk l = true) {n : Nat} (h3 : n < 3) (hn : n < l.length) : l[n].kind = (n : Int) + 1 ∧ l[n].long = 0 ∧ l[n].base = -1 ∧ l[n].fields = [] := by
  simp only [tysOk, Bool.and_eq_true, decide_eq_true_eq, eqL] at h
  obtain ⟨_, ⟨he, ht⟩, _⟩ := h
  have h1 : n < (l.take 3).length := by simp; omega
  have h2 : n < baseTs.length := by rw [base_len]; exact h3
  have hs := ht n h1 h2 (by omega)
  rw [List.getElem_take] at hs
  obtain ⟨q1, q2, q3, q4, _⟩ := sameTy_base hs
  have : n = 0 ∨ n = 1 ∨ n = 2 := by omega
  rcases this with rfl | rfl | rfl <;> exact ⟨q1, q2, q3, List.eq_nil_of_length_eq_zero q4⟩

theorem fdsOk_at {l : List Ty} {fs : List Fd} (h : fdsOk l fs = true) : fs.length ≤ 6 ∧ ∀ f ∈ fs, isNum l f.typ = true := by
  simp only [fdsOk, decide_eq_true_eq] at h
  refine ⟨h.2, fun f hf => ?_⟩
  obtain ⟨i, hi, rfl⟩ := List.mem_iff_getElem.1 hf
  have := h.1 i hi hi
  simp only [fdAt, Bool.and_eq_true] at this
  exact this.2.1

/-- What a good type says. -/
structure TyGood (l : List Ty) (t : Ty) : Prop where
  base : t.base = -1 ∨ isNum l t.base = true
  flds : ∀ f ∈ t.fields, isNum l f.typ = true
  few : t.fields.length ≤ 6
  none : t.kind ≠ 5 → t.fields = []
  rec5 : t.kind = 5 → t.base = -1 ∨ isRec l t.base = true
  arr : t.kind = 4 → isNum l t.base = true ∧ 1 ≤ t.long ∧ t.long ≤ 1000
  ptr : t.kind = 6 → isNum l t.base = true ∧ (kd l t.base = 5 ∨ kd l t.base = 4)
  one : 1 ≤ t.kind ∧ t.kind ≤ 6
  low : t.kind ≤ 3 → t.base = -1

theorem tyOk_good {l : List Ty} {t : Ty} (h : tyOk l t = true) : TyGood l t := by
  simp only [tyOk, Bool.and_eq_true, Bool.not_eq_true', Bool.and_eq_false_iff] at h
  obtain ⟨_, h2, h3⟩ := h
  have hrec : ∀ {n : Int}, isRec l n = true → isNum l n = true := fun h => by simp only [isRec, Bool.and_eq_true] at h; exact h.1
  have hnone : t.kind ≠ 5 → t.fields = [] := by
    intro hk
    rcases h2 with h2 | h2
    · simp at h2; exact absurd h2 hk
    · have : ¬ (0 : Int) < t.fields.length := by simpa using h2
      exact List.eq_nil_of_length_eq_zero (by omega)
  by_cases k4 : t.kind = 4
  · have : (t.kind == 4) = true := by simp [k4]
    rw [if_pos this] at h3
    simp only [Bool.and_eq_true, decide_eq_true_eq] at h3
    have hf := hnone (by omega)
    exact ⟨.inr h3.2, by rw [hf]; simp, by rw [hf]; simp, hnone, by omega, fun _ => ⟨h3.2, h3.1⟩, by omega, by omega, by omega⟩
  have e4 : ¬ (t.kind == 4) = true := by simpa using k4
  rw [if_neg e4] at h3
  by_cases k5 : t.kind = 5
  · have : (t.kind == 5) = true := by simp [k5]
    rw [if_pos this] at h3
    simp only [Bool.and_eq_true, beq_iff_eq, Bool.or_eq_true] at h3
    obtain ⟨⟨_, hb⟩, hf⟩ := h3
    obtain ⟨f1, f2⟩ := fdsOk_at hf
    exact ⟨hb.imp id hrec, f2, f1, hnone, fun _ => hb, by omega, by omega, by omega, by omega⟩
  have e5 : ¬ (t.kind == 5) = true := by simpa using k5
  rw [if_neg e5] at h3
  by_cases k6 : t.kind = 6
  · have : (t.kind == 6) = true := by simp [k6]
    rw [if_pos this] at h3
    simp only [Bool.and_eq_true, beq_iff_eq, Bool.or_eq_true] at h3
    obtain ⟨_, hb⟩ := h3
    have hf := hnone (by omega)
    have hnum : isNum l t.base = true := hb.elim hrec fun h => h.1
    exact ⟨.inr hnum, by rw [hf]; simp, by rw [hf]; simp, hnone, by omega, by omega, fun _ => ⟨hnum, hb.imp (fun h => by simp only [isRec, Bool.and_eq_true, beq_iff_eq] at h; exact h.2) fun h => h.2⟩, by omega, by omega⟩
  have e6 : ¬ (t.kind == 6) = true := by simpa using k6
  rw [if_neg e6] at h3
  cases h3

theorem tysOk_good {l : List Ty} (h : tysOk l = true) {n : Nat} (hn : n < l.length) : TyGood l l[n] := by
  by_cases h3 : 3 ≤ n
  · exact tyOk_good (tysOk_ty h h3 hn)
  · obtain ⟨q1, q2, q3, q4⟩ := tysOk_base h (by omega) hn
    exact ⟨.inl q3, by rw [q4]; simp, by rw [q4]; simp, fun _ => q4, by omega, by omega, by omega, by omega, fun _ => q3⟩

theorem isNum_in {l : List Ty} {n : Int} : isNum l n = true ↔ 0 ≤ n ∧ n < (l.length : Int) := by
  simp only [isNum, Bool.and_eq_true, decide_eq_true_eq]; omega

theorem tysOk_kids {l : List Ty} (h : tysOk l = true) : kidsIn l := by
  intro n h0 h1 k hk
  have hn : n.toNat < l.length := by omega
  have G := tysOk_good h hn
  rw [kids_at hn] at hk
  simp only [prt, List.mem_append, List.mem_map] at hk
  rcases hk with hk | ⟨f, hf, rfl⟩
  · split at hk
    · rename_i hc
      simp only [Bool.and_eq_true, decide_eq_true_eq] at hc
      simp only [List.mem_singleton] at hk
      subst hk
      rcases G.base with hb | hb
      · omega
      · exact isNum_in.1 hb
    · simp at hk
  · exact isNum_in.1 (G.flds f hf)

theorem prt_len {l : List Ty} (h : tysOk l = true) (ptr : Bool) {n : Nat} (hn : n < l.length) : (prt ptr l[n]).length ≤ 7 := by
  have G := tysOk_good h hn
  have := G.few
  simp only [prt, List.length_append, List.length_map]
  split <;> simp <;> omega

theorem kids_ok {l : List Ty} (h : tysOk l = true) {n : Int} {ptr : Bool} {k : Int} (h0 : 0 ≤ n) (h1 : n < l.length) (hk : k ∈ kids l ptr n) : 0 ≤ k ∧ k < (l.length : Int) := tysOk_kids h n h0 h1 k (kids_sub hk)

end Go.AM
namespace Go.AM
set_option linter.unusedVariables false
set_option linter.unusedSimpArgs false
def prtB (ptr : Bool) (t : Ty) : List Int := if (decide (0 ≤ t.base) && (ptr || !(t.kind == 6))) = true then [t.base] else []

theorem prtB_len (ptr : Bool) (t : Ty) : (prtB ptr t).length ≤ 1 := by unfold prtB; split <;> simp

/-- (loop.example/g00837/impl.Type).parts -/
def m50 : MC :=
  (.seq
   (.reg [⟨(some 2), none, .a (.box 43 (.t 0))⟩,
     ⟨(some 4), none, .a (.asg (.nils 3 1))⟩])
   (.seq
    (.reg [⟨(some 8), none, .a (.bsl 3 1 [])⟩,
      ⟨(some 5), none, .a (.asg (.t 8))⟩])
    (.join [2, 5, 8, 24, 36]
     (.seq
      (.reg [⟨(some 9), none, .q (.fad 2 (.t 2))⟩,
        ⟨(some 10), none, .q (.load false 1 (.t 9))⟩,
        ⟨(some 11), none, .q (.bin false .geq (.t 10) (.c (.int .i64 0)))⟩,
        ⟨(some 12), none, .q (.mov (.t 11))⟩,
        ⟨(some 13), (some (12, true)), .q (.mov (.t 1))⟩,
        ⟨(some 14), (some (12, true)), .q (.mov (.t 13))⟩,
        ⟨(some 15), (some (14, false)), .q (.fad 0 (.t 2))⟩,
        ⟨(some 16), (some (14, false)), .q (.load false 1 (.t 15))⟩,
        ⟨(some 17), (some (14, false)), .q (.bin false .neq (.t 16) (.c (.int .i64 6)))⟩,
        ⟨(some 18), (some (12, true)), .q (.pick (.t 14) (.c (.bool true)) (.t 17))⟩,
        ⟨(some 19), none, .q (.pick (.t 12) (.t 18) (.c (.bool false)))⟩])
      (.cond (.t 19)
       (.reg [⟨(some 20), none, .q (.mov (.t 5))⟩,
         ⟨(some 21), none, .q (.fad 2 (.t 2))⟩,
         ⟨(some 22), none, .q (.load false 1 (.t 21))⟩,
         ⟨(some 23), none, .a (.bsl 3 1 [.t 22])⟩,
         ⟨(some 24), none, .a (.app true 3 1 8 (.t 20) (.t 23))⟩,
         ⟨(some 5), none, .a (.asg (.t 24))⟩])
       .skip))
     (.seq
      (.seq
       (.reg [⟨(some 25), none, .q (.fad 3 (.t 2))⟩,
         ⟨(some 26), none, .q (.load false 1 (.t 25))⟩,
         ⟨(some 27), none, .q (.len false (.t 26))⟩,
         ⟨(some 28), none, .q (.mov (.c (.int .i64 0)))⟩])
       (.block 0
        (.loop [2, 5, 8, 24, 25, 26, 27, 28, 36]
         (.seq
          (.reg [⟨(some 29), none, .q (.bin false .lss (.t 28) (.t 27))⟩])
          (.seq
           (.cond (.t 29)
            .skip
            (.exit 0))
           (.seq
            (.block 1
             (.seq
              (.reg [⟨(some 30), none, .q (.iad 3 (.t 26) (.t 28))⟩,
                ⟨(some 31), none, .q (.load true 3 (.t 30))⟩,
                ⟨(some 7), none, .a (.alloc 54 [.v (.string ({ data := #[] })), .v (.int .i64 0), .v (.int .i64 0)])⟩,
                ⟨none, none, .a (.store 3 (.t 7) (.t 31))⟩])
              (.reg [⟨(some 32), none, .q (.mov (.t 5))⟩,
                ⟨(some 33), none, .q (.fad 2 (.t 7))⟩,
                ⟨(some 34), none, .q (.load false 1 (.t 33))⟩,
                ⟨(some 35), none, .a (.bsl 3 1 [.t 34])⟩,
                ⟨(some 36), none, .a (.app true 3 1 8 (.t 32) (.t 35))⟩,
                ⟨(some 5), none, .a (.asg (.t 36))⟩])))
            (.reg [⟨(some 37), none, .q (.bin false .add (.t 28) (.c (.int .i64 1)))⟩,
              ⟨(some 28), none, .q (.mov (.t 37))⟩])))))))
      (.seq
       (.reg [⟨(some 38), none, .q (.mov (.t 5))⟩,
         ⟨(some 4), none, .a (.asg (.t 38))⟩])
       .ret)))))

set_option maxRecDepth 100000 in
theorem d50 (t : Ty) (ptr : Bool) (ht : t.sm) : Does Go.Proofs.Try.prog 50 [.agg t.z, .v (.bool ptr)] false (.usl 3 1 ((prt ptr t).map iv)) [.dead, .dead] := by
  unfold Ty.sm at ht
  have hf := ht.2.2.2.1.1
  refine does_intro (mc := m50) (N := 39) (rs := [4]) (fx := []) 2 rfl (by decide +kernel) ?_
  simp only [m50, Ty.z, EV, Nat.reduceEqDiff, Nat.reduceBEq, Nat.reduceLT, Nat.reduceLeDiff, Nat.reduceAdd, Nat.reduceSub, reduceIte]
  refine awp_join (fun _ : Unit => True) (fun _ => stl [(2, .box 43 t.z), (5, .usl 3 1 ((prtB ptr t).map iv)), (8, .dead), (24, .dead), (36, .dead)]) ?_ ?_
  · have no : (decide (0 ≤ t.base) && (ptr || !(t.kind == 6))) = false → prtB ptr t = [] := fun h => by unfold prtB; rw [h]; rfl
    have yes : (decide (0 ≤ t.base) && (ptr || !(t.kind == 6))) = true → prtB ptr t = [t.base] := fun h => by unfold prtB; rw [h]; rfl
    simp only [EV, Nat.reduceEqDiff, Nat.reduceBEq, Nat.reduceLT, Nat.reduceLeDiff, Nat.reduceAdd, Nat.reduceSub, reduceIte]
    rcases e1 : decide (0 ≤ t.base) with _ | _ <;> rcases ptr with _ | _ <;> rcases e2 : (t.kind == 6) with _ | _
    all_goals simp only [e1, e2, Bool.true_and, Bool.false_and, Bool.true_or, Bool.false_or, Bool.not_true, Bool.not_false, Bool.true_eq_false, Bool.false_eq_true, false_implies, forall_const] at no yes
    all_goals simp only [bne, e1, e2, yes, no, EV, Nat.reduceEqDiff, Nat.reduceBEq, Nat.reduceLT, Nat.reduceLeDiff, Nat.reduceAdd, Nat.reduceSub, reduceIte]
    all_goals first
      | exact ⟨(), trivial⟩
      | exact ⟨(), rfl⟩
      | (refine ⟨by simp only [List.length_nil]; omega, by simp only [List.length_nil]; omega, (), ?_⟩; rfl)
      | (refine ⟨by omega, (), ?_⟩; rfl)
      | trace_state
  rintro _ _
  simp only [Ty.z, EV, Nat.reduceEqDiff, Nat.reduceBEq, Nat.reduceLT, Nat.reduceLeDiff, Nat.reduceAdd, Nat.reduceSub, reduceIte]
  have hbl := prtB_len ptr t
  refine awp_loop (fun i : Nat => i ≤ t.fields.length) (fun i => stl [(2, .box 43 t.z), (5, .usl 3 1 ((prtB ptr t ++ (t.fields.take i).map Fd.typ).map iv)), (8, .dead), (24, .dead), (25, .ref 2 [] 0 3), (26, .fsl 3 (t.fields.map Fd.z)), (27, .v (.int .i64 (t.fields.length : Int))), (28, .v (.int .i64 (i : Int))), (36, .dead)]) (fun i => t.fields.length - i) 0 (Nat.zero_le _) ?_ ?_
  · simp only [List.append_nil, EV, Nat.reduceEqDiff, Nat.reduceBEq, Nat.reduceLT, Nat.reduceLeDiff, Nat.reduceAdd, Nat.reduceSub, reduceIte]
    rfl
  · intro i hi
    simp only [Ty.z, EV, Nat.reduceEqDiff, Nat.reduceBEq, Nat.reduceLT, Nat.reduceLeDiff, Nat.reduceAdd, Nat.reduceSub, reduceIte]
    refine cK_cut (fun h => ?_) (fun h => ?_)
    · have h1 : i < t.fields.length := by simpa using h
      have h2 : (i : Int) < (t.fields.length : Int) := by omega
      clear h
      simp only [FdE, nth_map h1, h1, h2, Fd.z, EV, Nat.reduceEqDiff, Nat.reduceBEq, Nat.reduceLT, Nat.reduceLeDiff, Nat.reduceAdd, Nat.reduceSub, reduceIte]
      rw [w64 _ (by omega)]
      have e : prtB ptr t ++ List.map Fd.typ (List.take (i + 1) t.fields) = (prtB ptr t ++ List.map Fd.typ (List.take i t.fields)) ++ [t.fields[i].typ] := by
        rw [List.take_succ_eq_append_getElem h1, List.map_append, List.append_assoc]; rfl
      refine ⟨by simp; omega, by simp; omega, i + 1, h1, by omega, ?_⟩
      rw [e, List.map_append (l₂ := [t.fields[i].typ])]
      rfl
    · have h1 : i = t.fields.length := by have : ¬ (i : Int) < t.fields.length := by simpa using h
                                          omega
      subst h1
      have e : prtB ptr t ++ List.map Fd.typ (List.take t.fields.length t.fields) = prt ptr t := by rw [List.take_length]; rfl
      rw [e]
      simp only [EV, Nat.reduceEqDiff, Nat.reduceBEq, Nat.reduceLT, Nat.reduceLeDiff, Nat.reduceAdd, Nat.reduceSub, reduceIte]
      simp only [iv_nfz, EV, Nat.reduceEqDiff, Nat.reduceBEq, Nat.reduceLT, Nat.reduceLeDiff, Nat.reduceAdd, Nat.reduceSub, reduceIte, evRE, retVC, cellV', evR, nfz, nfzs, nfzss, List.contains_nil, List.contains_cons, Bool.or_false, or_true]

/-- loop.example/g00837/spec.l3Parts -/
def m41 : MC :=
  (.seq
   (.reg [⟨(some 1), none, .a (.box 43 (.t 0))⟩,
     ⟨(some 2), none, .a (.asg (.nils 3 1))⟩])
   (.seq
    (.reg [⟨(some 3), none, .a (.asg (.nils 3 1))⟩])
    (.join [1, 3, 18, 30]
     (.seq
      (.reg [⟨(some 6), none, .q (.fad 2 (.t 1))⟩,
        ⟨(some 7), none, .q (.load false 1 (.t 6))⟩,
        ⟨(some 8), none, .q (.bin false .geq (.t 7) (.c (.int .i64 0)))⟩,
        ⟨(some 9), none, .q (.mov (.t 8))⟩,
        ⟨(some 10), (some (9, true)), .q (.fad 0 (.t 1))⟩,
        ⟨(some 11), (some (9, true)), .q (.load false 1 (.t 10))⟩,
        ⟨(some 12), (some (9, true)), .q (.bin false .neq (.t 11) (.c (.int .i64 6)))⟩,
        ⟨(some 13), none, .q (.pick (.t 9) (.t 12) (.c (.bool false)))⟩])
      (.cond (.t 13)
       (.reg [⟨(some 14), none, .q (.mov (.t 3))⟩,
         ⟨(some 15), none, .q (.fad 2 (.t 1))⟩,
         ⟨(some 16), none, .q (.load false 1 (.t 15))⟩,
         ⟨(some 17), none, .a (.bsl 3 1 [.t 16])⟩,
         ⟨(some 18), none, .a (.app true 3 1 8 (.t 14) (.t 17))⟩,
         ⟨(some 3), none, .a (.asg (.t 18))⟩])
       .skip))
     (.seq
      (.seq
       (.reg [⟨(some 19), none, .q (.fad 3 (.t 1))⟩,
         ⟨(some 20), none, .q (.load false 1 (.t 19))⟩,
         ⟨(some 21), none, .q (.len false (.t 20))⟩,
         ⟨(some 22), none, .q (.mov (.c (.int .i64 0)))⟩])
       (.block 0
        (.loop [1, 3, 18, 19, 20, 21, 22, 30]
         (.seq
          (.reg [⟨(some 23), none, .q (.bin false .lss (.t 22) (.t 21))⟩])
          (.seq
           (.cond (.t 23)
            .skip
            (.exit 0))
           (.seq
            (.block 1
             (.seq
              (.reg [⟨(some 24), none, .q (.iad 3 (.t 20) (.t 22))⟩,
                ⟨(some 25), none, .q (.load true 3 (.t 24))⟩,
                ⟨(some 5), none, .a (.alloc 54 [.v (.string ({ data := #[] })), .v (.int .i64 0), .v (.int .i64 0)])⟩,
                ⟨none, none, .a (.store 3 (.t 5) (.t 25))⟩])
              (.reg [⟨(some 26), none, .q (.mov (.t 3))⟩,
                ⟨(some 27), none, .q (.fad 2 (.t 5))⟩,
                ⟨(some 28), none, .q (.load false 1 (.t 27))⟩,
                ⟨(some 29), none, .a (.bsl 3 1 [.t 28])⟩,
                ⟨(some 30), none, .a (.app true 3 1 8 (.t 26) (.t 29))⟩,
                ⟨(some 3), none, .a (.asg (.t 30))⟩])))
            (.reg [⟨(some 31), none, .q (.bin false .add (.t 22) (.c (.int .i64 1)))⟩,
              ⟨(some 22), none, .q (.mov (.t 31))⟩])))))))
      (.seq
       (.reg [⟨(some 32), none, .q (.mov (.t 3))⟩,
         ⟨(some 2), none, .a (.asg (.t 32))⟩])
       .ret)))))

set_option maxRecDepth 100000 in
theorem d41 (t : Ty) (ht : t.sm) : Does Go.Proofs.Try.prog 41 [.agg t.z] false (.usl 3 1 ((prt false t).map iv)) [.dead] := by
  unfold Ty.sm at ht
  have hf := ht.2.2.2.1.1
  refine does_intro (mc := m41) (N := 33) (rs := [2]) (fx := []) 1 rfl (by decide +kernel) ?_
  simp only [m41, Ty.z, EV, Nat.reduceEqDiff, Nat.reduceBEq, Nat.reduceLT, Nat.reduceLeDiff, Nat.reduceAdd, Nat.reduceSub, reduceIte]
  refine awp_join (fun _ : Unit => True) (fun _ => stl [(1, .box 43 t.z), (3, .usl 3 1 ((prtB false t).map iv)), (18, .dead), (30, .dead)]) ?_ ?_
  · have no : (decide (0 ≤ t.base) && !(t.kind == 6)) = false → prtB false t = [] := fun h => by unfold prtB; rw [Bool.false_or, h]; rfl
    have yes : (decide (0 ≤ t.base) && !(t.kind == 6)) = true → prtB false t = [t.base] := fun h => by unfold prtB; rw [Bool.false_or, h]; rfl
    simp only [EV, Nat.reduceEqDiff, Nat.reduceBEq, Nat.reduceLT, Nat.reduceLeDiff, Nat.reduceAdd, Nat.reduceSub, reduceIte]
    rcases e1 : decide (0 ≤ t.base) with _ | _ <;> rcases e2 : (t.kind == 6) with _ | _
    all_goals simp only [e1, e2, Bool.true_and, Bool.false_and, Bool.true_or, Bool.false_or, Bool.not_true, Bool.not_false, Bool.true_eq_false, Bool.false_eq_true, false_implies, forall_const] at no yes
    all_goals simp only [bne, e1, e2, yes, no, EV, Nat.reduceEqDiff, Nat.reduceBEq, Nat.reduceLT, Nat.reduceLeDiff, Nat.reduceAdd, Nat.reduceSub, reduceIte]
    all_goals first
      | exact ⟨(), trivial⟩
      | exact ⟨(), rfl⟩
      | (refine ⟨by simp only [List.length_nil]; omega, by simp only [List.length_nil]; omega, (), ?_⟩; rfl)
      | (refine ⟨by omega, (), ?_⟩; rfl)
      | trace_state
  rintro _ _
  simp only [Ty.z, EV, Nat.reduceEqDiff, Nat.reduceBEq, Nat.reduceLT, Nat.reduceLeDiff, Nat.reduceAdd, Nat.reduceSub, reduceIte]
  have hbl := prtB_len false t
  refine awp_loop (fun i : Nat => i ≤ t.fields.length) (fun i => stl [(1, .box 43 t.z), (3, .usl 3 1 ((prtB false t ++ (t.fields.take i).map Fd.typ).map iv)), (18, .dead), (19, .ref 1 [] 0 3), (20, .fsl 3 (t.fields.map Fd.z)), (21, .v (.int .i64 (t.fields.length : Int))), (22, .v (.int .i64 (i : Int))), (30, .dead)]) (fun i => t.fields.length - i) 0 (Nat.zero_le _) ?_ ?_
  · simp only [List.append_nil, EV, Nat.reduceEqDiff, Nat.reduceBEq, Nat.reduceLT, Nat.reduceLeDiff, Nat.reduceAdd, Nat.reduceSub, reduceIte]
    rfl
  · intro i hi
    simp only [Ty.z, EV, Nat.reduceEqDiff, Nat.reduceBEq, Nat.reduceLT, Nat.reduceLeDiff, Nat.reduceAdd, Nat.reduceSub, reduceIte]
    refine cK_cut (fun h => ?_) (fun h => ?_)
    · have h1 : i < t.fields.length := by simpa using h
      have h2 : (i : Int) < (t.fields.length : Int) := by omega
      clear h
      simp only [FdE, nth_map h1, h1, h2, Fd.z, EV, Nat.reduceEqDiff, Nat.reduceBEq, Nat.reduceLT, Nat.reduceLeDiff, Nat.reduceAdd, Nat.reduceSub, reduceIte]
      rw [w64 _ (by omega)]
      have e : prtB false t ++ List.map Fd.typ (List.take (i + 1) t.fields) = (prtB false t ++ List.map Fd.typ (List.take i t.fields)) ++ [t.fields[i].typ] := by
        rw [List.take_succ_eq_append_getElem h1, List.map_append, List.append_assoc]; rfl
      refine ⟨by simp; omega, by simp; omega, i + 1, h1, by omega, ?_⟩
      rw [e, List.map_append (l₂ := [t.fields[i].typ])]
      rfl
    · have h1 : i = t.fields.length := by have : ¬ (i : Int) < t.fields.length := by simpa using h
                                          omega
      subst h1
      have e : prtB false t ++ List.map Fd.typ (List.take t.fields.length t.fields) = prt false t := by rw [List.take_length]; rfl
      rw [e]
      simp only [EV, Nat.reduceEqDiff, Nat.reduceBEq, Nat.reduceLT, Nat.reduceLeDiff, Nat.reduceAdd, Nat.reduceSub, reduceIte]
      simp only [iv_nfz, EV, Nat.reduceEqDiff, Nat.reduceBEq, Nat.reduceLT, Nat.reduceLeDiff, Nat.reduceAdd, Nat.reduceSub, reduceIte, evRE, retVC, cellV', evR, nfz, nfzs, nfzss, List.contains_nil, List.contains_cons, Bool.or_false, or_true]

end Go.AM
set_option linter.unusedVariables false
set_option linter.unusedSimpArgs false
namespace Go.Proofs
open Go.Shelf
shelf_lay Lays.n189 Nm 189 at Try as Try.laysSort
shelf_lay Lays2.n20 Nm2 20 at Try as Try.laysCompact
end Go.Proofs

namespace Go.AM
open Go.Sort Go.RowKit
theorem int_cells {w : World} {Fz : Nat → Prop} : ∀ {l : List Int} {xs : List Value} {o : List Nat}, RepRows w Fz 1 (l.map iv) xs o → xs = l.map (Value.int .i64) ∧ o = []
  | [], xs, o, h => by simp only [List.map_nil, RepRows] at h; exact h
  | s :: l, xs, o, h => by
    simp only [List.map_cons, RepRows] at h
    obtain ⟨x1, x2, o1, o2, rfl, rfl, hl, h1, h2⟩ := h
    simp only [iv, RepRow, RepC] at h1
    obtain ⟨x, xs', p1, p2, rfl, rfl, ⟨rfl, _, rfl⟩, rfl, rfl⟩ := h1
    obtain ⟨rfl, rfl⟩ := int_cells h2
    exact ⟨rfl, rfl⟩

theorem cells_int {w : World} {Fz : Nat → Prop} : ∀ (l : List Int), RepRows w Fz 1 (l.map iv) (l.map (Value.int .i64)) []
  | [] => by simp [RepRows]
  | s :: l => by
    simp only [List.map_cons, RepRows]
    exact ⟨[.int .i64 s], _, [], [], rfl, rfl, rfl, by simp only [iv, RepRow, RepC]; exact ⟨_, [], [], [], rfl, rfl, ⟨rfl, rfl, rfl⟩, rfl, rfl⟩, cells_int l⟩

theorem holds_of {w : World} {g h : Nat} {cur : Array Value} {e : Nat} {l : List Int} (hg : w.heap[g]? = some (.cells cur e (0, 0))) (hat : At w g h (l.map (Value.int .i64))) : Holds (Value.int .i64) w g h l.toArray := by
  intro j hj
  have hj' : j < l.length := by simpa using hj
  refine ⟨?_, ?_⟩
  · rw [hat j (Value.int .i64 l[j]) (by simp [hj'])]
    simp [hj']
  · simp [World.frozen?, hg]

/-- What the world is after a row was put, as the framework sees it. -/
theorem put_ext {w : World} {g h n : Nat} {cur : Array Value} {e : Nat} {l m : List Int} {os : Array Obj} (hg : w.heap[g]? = some (.cells cur e (0, 0))) (hat : At w g h (l.map (Value.int .i64))) (hm : m.length = l.length) :
    let w' := grow (putRow (Value.int .i64) (Sort.ahead w n) g h m.toArray) os
    Ext w w' [g] ∧ w'.heap[g]? = some (.cells (putCells (Value.int .i64) h m.toArray cur) e (0, 0)) ∧ (putCells (Value.int .i64) h m.toArray cur).size = cur.size ∧ At w' g h (m.map (Value.int .i64)) ∧ w.heap.size ≤ w'.heap.size := by
  intro w'
  have hlt : g < w.heap.size := by
    rcases Nat.lt_or_ge g w.heap.size with h | h
    · exact h
    · rw [Array.getElem?_eq_none h] at hg; cases hg
  have hb : ∀ b, b < w.heap.size → w'.heap[b]? = (w.heap.modify g (onCells (putCells (Value.int .i64) h m.toArray)))[b]? := by
    intro b hb
    simp only [w', grow, putRow, mapBlock, Sort.ahead]
    rw [Array.getElem?_append_left (by simpa using hb)]
  have hsz : w.heap.size ≤ w'.heap.size := by simp [w', grow, putRow, mapBlock, Sort.ahead]
  have hg' : w'.heap[g]? = some (.cells (putCells (Value.int .i64) h m.toArray cur) e (0, 0)) := by
    rw [hb g hlt, Array.getElem?_modify, if_pos rfl, hg]
    rfl
  refine ⟨⟨rfl, rfl, rfl, hsz, ?_⟩, hg', by simp [putCells], ?_, hsz⟩
  · intro b hb' hn
    rw [hb b hb', Array.getElem?_modify, if_neg (by intro e; exact hn (by simp [e]))]
  · intro j u hj
    have hj' : j < m.length := by
      rcases Nat.lt_or_ge j m.length with h | h
      · exact h
      · simp [h] at hj
    have hc := hat j (Value.int .i64 (l[j]'(by omega))) (by simp [show j < l.length by omega])
    simp only [World.cell?, hg] at hc
    simp only [World.cell?, hg', putCells, Array.getElem?_mapIdx]
    have hc' : cur[h + j]? = some (Value.int .i64 (l[j]'(by omega))) := by simpa using hc
    have hu : u = Value.int .i64 m[j] := by simpa [hj'] using hj.symm
    subst hu
    simp [hc', hj']

def srt (l : List Int) : List Int := l.mergeSort fun x y => decide (x ≤ y)

theorem srt_len (l : List Int) : (srt l).length = l.length := List.length_mergeSort _

theorem srt_mem {l : List Int} {n : Int} : n ∈ srt l ↔ n ∈ l := List.mem_mergeSort

theorem srt_le (l : List Int) : (srt l).Pairwise (· ≤ ·) := by
  have := List.pairwise_mergeSort (le := fun x y : Int => decide (x ≤ y)) (fun a b c h1 h2 => by simp at *; omega) (fun a b => by simp; omega) l
  exact this.imp fun h => by simpa using h

theorem d51 (l : List Int) (hl : (l.length : Int) ≤ 1152921504606846976) : Does Go.Proofs.Try.prog 51 [.usl 3 1 (l.map iv)] false (.tup []) [.usl 3 1 ((srt l).map iv)] := by
  refine ⟨by decide +kernel, ?_⟩
  intro w Fz xs os hrep hos hfz hlt
  simp only [RepVs, RepV, RepC] at hrep
  obtain ⟨x, xs', o1, o2, rfl, rfl, hx, rfl, rfl⟩ := hrep
  simp only [List.append_nil] at *
  rcases hx with ⟨rfl, h0, rfl⟩ | ⟨g, h, c, cur, ys, o', rfl, rfl, hg, hc, hsz, hrows, hat⟩
  · have hl0 : l = [] := by simpa using h0
    subst hl0
    refine (Go.Proofs.Any.slices_Sort_int_none Go.Proofs.Try.laysSort none 0 w).mono ?_
    rintro e w' ⟨rfl, rfl⟩
    refine ⟨_, [], [], rfl, Ext.refl _ _, by simp [RepV, RepVs], ?_, by simp, by simp⟩
    simp only [RepVs, RepV, RepC]
    exact ⟨_, _, [], [], rfl, rfl, .inl ⟨rfl, by simp [srt], rfl⟩, rfl, rfl⟩
  · obtain ⟨rfl, rfl⟩ := int_cells hrows
    simp only [Nat.mul_one, List.length_map] at *
    have hH := holds_of hg hat
    have hgs : g < w.heap.size := (hfz g (by simp)).2
    refine (Go.Proofs.Any.slices_Sort_int Go.Proofs.Try.laysSort g h c l w hH hgs (by omega)).mono ?_
    rintro e' w' ⟨rfl, n, ob, hw⟩
    obtain ⟨hE, hg', hs', hat', hle⟩ := put_ext (n := n) (os := ob) (m := srt l) hg hat (srt_len l)
    rw [show grow (putRow (Value.int .i64) (Sort.ahead w n) g h (srt l).toArray) ob = w' from hw.symm] at hE hg' hat' hle
    refine ⟨_, [], [g], rfl, hE, by simp [RepV, RepVs], ?_, by simp, ?_⟩
    · simp only [RepVs, RepV, RepC]
      refine ⟨_, _, [g], [], rfl, rfl, .inr ⟨g, h, c, _, _, [], ?_, rfl, hg', ?_, ?_, cells_int _, ?_⟩, rfl, rfl⟩
      · simp [srt_len]
      · simpa [srt_len] using hc
      · simpa [hs'] using hsz
      · simpa using hat'
    · intro b hb
      simp only [List.nil_append, List.mem_singleton] at hb
      subst hb
      exact ⟨.inl (by simp), by omega⟩

def cmpct (l : List Int) : List Int := Lib.compact l

theorem cmpct_def (l : List Int) : Lib.compact l = cmpct l := rfl

theorem cmpct_le (l : List Int) : (cmpct l).length ≤ l.length := by
  unfold cmpct Lib.compact Lib.compactUpTo
  rw [List.length_map]
  refine Nat.le_trans (List.length_filter_le _ _) ?_
  simp

theorem d54 (l : List Int) (hl : (l.length : Int) ≤ 1152921504606846976) : Does Go.Proofs.Try.prog 54 [.usl 3 1 (l.map iv)] false (.usl 3 1 ((cmpct l).map iv)) [.dead] := by
  refine ⟨by decide +kernel, ?_⟩
  intro w Fz xs os hrep hos hfz hlt
  simp only [RepVs, RepV, RepC] at hrep
  obtain ⟨x, xs', o1, o2, rfl, rfl, hx, rfl, rfl⟩ := hrep
  simp only [List.append_nil] at *
  rcases hx with ⟨rfl, h0, rfl⟩ | ⟨g, h, c, cur, ys, o', rfl, rfl, hg, hc, hsz, hrows, hat⟩
  · have hl0 : l = [] := by simpa using h0
    subst hl0
    refine (Go.Proofs.Any.slices_Compact_int_empty Go.Proofs.Try.laysCompact none 0 w).mono ?_
    rintro e w' ⟨rfl, rfl⟩
    refine ⟨_, [], [], rfl, Ext.refl _ _, ?_, ?_, by simp, by simp⟩
    · simp [RepV, RepC, cmpct, Lib.compact, Lib.compactUpTo]
    · simp only [RepVs, RepV]
      exact ⟨_, _, [], [], rfl, rfl, rfl, rfl, rfl⟩
  · obtain ⟨rfl, rfl⟩ := int_cells hrows
    simp only [Nat.mul_one, List.length_map] at *
    have hH := holds_of hg hat
    have hcl := cmpct_le l
    have key := Go.Proofs.Any.slices_Compact_int Go.Proofs.Try.laysCompact g h c l w hH (by omega) hc
    simp only [cmpct_def] at key
    refine key.mono ?_
    rintro e' w' ⟨rfl, n, hw⟩
    have hmm : (cmpct l ++ List.replicate (l.length - (cmpct l).length) 0).length = l.length := by simp; omega
    obtain ⟨hE, hg', hs', hat', hle⟩ := put_ext (n := n) (os := #[]) (m := cmpct l ++ List.replicate (l.length - (cmpct l).length) 0) hg hat hmm
    rw [grow_empty, ← hw] at hE hg' hat' hle
    refine ⟨_, [g], [], rfl, hE, ?_, ?_, by simp, ?_⟩
    · simp only [RepV, RepC]
      refine .inr ⟨g, h, c, _, _, [], ?_, rfl, hg', ?_, ?_, cells_int _, ?_⟩
      · simp
      · simp; omega
      · simpa [hs'] using hsz
      · intro j u hj
        simp only [Nat.mul_one]
        refine hat' j u ?_
        rw [List.map_append, List.getElem?_append_left]
        · exact hj
        · rcases Nat.lt_or_ge j ((cmpct l).map (Value.int .i64)).length with h | h
          · exact h
          · rw [List.getElem?_eq_none h] at hj; cases hj
    · simp only [RepVs, RepV]
      exact ⟨_, _, [], [], rfl, rfl, rfl, rfl, rfl⟩
    · intro b hb
      simp only [List.append_nil, List.mem_singleton] at hb
      subst hb
      have := (hfz b (by simp)).2
      exact ⟨.inl (by simp), by omega⟩

end Go.AM
namespace Go.AM
set_option linter.unusedVariables false
set_option linter.unusedSimpArgs false
/-- What holds while the types are gone through, one queue's head after another. -/
structure FromInv (l : List Ty) (ptr : Bool) (fr out q : List Int) : Prop where
  up : out.Pairwise (· < ·)
  frm : ∀ n ∈ fr, n ∈ out ∨ n ∈ q
  cl : ∀ n ∈ out, ∀ k ∈ kids l ptr n, k ∈ out ∨ k ∈ q
  ro : ∀ n ∈ out, Rch l ptr fr n
  rq : ∀ n ∈ q, Rch l ptr fr n
  len : q.length ≤ 1048576 + 8 * out.length

def addQ (ptr : Bool) (t : Ty) : List Int := if (ptr && (t.kind == 6)) = true then prt false t ++ [t.base] else prt false t

theorem addQ_mem {l : List Ty} (ht : tysOk l = true) (ptr : Bool) {n : Nat} (hn : n < l.length) (k : Int) : k ∈ addQ ptr l[n] ↔ k ∈ prt ptr l[n] := by
  have G := tysOk_good ht hn
  unfold addQ
  cases ptr with
  | false => simp
  | true =>
    by_cases h6 : l[n].kind = 6
    · have hb := (isNum_in.1 (G.ptr h6).1).1
      simp only [h6, beq_self_eq_true, Bool.and_self, if_true, prt, Bool.not_true, Bool.or_false, Bool.and_false, Bool.false_eq_true, if_false, List.nil_append, Bool.true_or, Bool.and_true, decide_eq_true_eq, hb]
      simp only [List.mem_append]
      exact Or.comm
    · have e6 : (l[n].kind == 6) = false := by simpa using h6
      simp only [e6, Bool.and_false, Bool.false_eq_true, if_false, prt, Bool.not_false, Bool.or_true, Bool.true_or]

theorem addQ_len {l : List Ty} (ht : tysOk l = true) (ptr : Bool) {n : Nat} (hn : n < l.length) : (addQ ptr l[n]).length ≤ 8 := by
  have := prt_len ht false hn
  unfold addQ
  split
  · rw [List.length_append]; simp only [List.length_singleton]; omega
  · omega

theorem FromInv.start {l : List Ty} {ptr : Bool} {fr : List Int} (h : (fr.length : Int) ≤ 1048576) : FromInv l ptr fr [] fr :=
  ⟨List.Pairwise.nil, fun n hn => .inr hn, by simp, by simp, fun n hn => .base hn, by simp; omega⟩

theorem FromInv.small {l : List Ty} {ptr : Bool} {fr out q : List Int} (I : FromInv l ptr fr out q) (ht : tysOk l = true) (hf : ∀ k ∈ fr, 0 ≤ k ∧ k < (l.length : Int)) : out.length ≤ l.length ∧ l.length ≤ 24 :=
  ⟨nodup_le (up_nodup I.up) fun k hk => (I.ro k hk).inr (tysOk_kids ht) hf, (tysOk_len ht).2⟩

theorem FromInv.skip {l : List Ty} {ptr : Bool} {fr out q : List Int} {n : Int} (I : FromInv l ptr fr out (n :: q)) (h : n ∈ out) : FromInv l ptr fr out q := by
  have w : ∀ k, k ∈ out ∨ k ∈ n :: q → k ∈ out ∨ k ∈ q := by
    rintro k (hk | hk)
    · exact .inl hk
    · rcases List.mem_cons.1 hk with rfl | hk
      · exact .inl h
      · exact .inr hk
  have hl := I.len
  simp only [List.length_cons] at hl
  exact ⟨I.up, fun k hk => w k (I.frm k hk), fun m hm k hk => w k (I.cl m hm k hk), I.ro, fun k hk => I.rq k (by simp [hk]), by omega⟩

theorem FromInv.put {l : List Ty} {ptr : Bool} {fr out q : List Int} {n : Int} (I : FromInv l ptr fr out (n :: q)) (ht : tysOk l = true) (h : n ∉ out) (hn : n.toNat < l.length) : FromInv l ptr fr (putUp out n) (q ++ addQ ptr l[n.toNat]) := by
  obtain ⟨p1, p2, p3⟩ := putUp_spec (n := n) I.up
  have hk : ∀ k, k ∈ addQ ptr l[n.toNat] ↔ k ∈ kids l ptr n := by
    intro k; rw [kids_at hn]; exact addQ_mem ht ptr hn k
  have w : ∀ k, k ∈ out ∨ k ∈ n :: q → k ∈ putUp out n ∨ k ∈ q ++ addQ ptr l[n.toNat] := by
    rintro k (hk | hk)
    · exact .inl ((p2 k).2 (.inr hk))
    · rcases List.mem_cons.1 hk with rfl | hk
      · exact .inl ((p2 _).2 (.inl rfl))
      · exact .inr (by simp [hk])
  have hl := I.len
  have ha := addQ_len ht ptr hn
  have h3 := p3 h
  simp only [List.length_cons] at hl
  refine ⟨p1, fun k hk => w k (I.frm k hk), ?_, ?_, ?_, ?_⟩
  · intro m hm k hkm
    rcases (p2 m).1 hm with rfl | hm
    · exact .inr (List.mem_append.2 (.inr ((hk k).2 hkm)))
    · exact w k (I.cl m hm k hkm)
  · intro m hm
    rcases (p2 m).1 hm with rfl | hm
    · exact I.rq _ (by simp)
    · exact I.ro m hm
  · intro m hm
    rcases List.mem_append.1 hm with hm | hm
    · exact I.rq m (by simp [hm])
    · exact .step (I.rq n (by simp)) ((hk m).1 hm)
  · rw [List.length_append, h3]; omega

theorem FromInv.fin {l : List Ty} {ptr : Bool} {fr out : List Int} (I : FromInv l ptr fr out []) (ht : tysOk l = true) (hf : ∀ k ∈ fr, 0 ≤ k ∧ k < (l.length : Int)) : out = reachL l ptr fr :=
  reachL_of (tysOk_kids ht) hf I.up (fun n hn => (I.frm n hn).elim id (by simp)) (fun n hn k hk => (I.cl n hn k hk).elim id (by simp)) I.ro

/-- loop.example/g00837/spec.l3From -/
def m40 : MC :=
  (.seq
   (.reg [⟨(some 6), none, .a (.asg (.nils 3 1))⟩])
   (.seq
    (.reg [⟨(some 7), none, .a (.asg (.nils 3 1))⟩])
    (.seq
     (.reg [⟨(some 10), none, .q (.mov (.t 1))⟩,
       ⟨(some 11), none, .a (.call (.fn 29) false [.lend (.t 10)])⟩,
       ⟨(some 8), none, .a (.asg (.t 11))⟩])
     (.seq
      (.block 0
       (.loop [0, 2, 7, 8, 11, 18, 19, 25, 32, 49]
        (.seq
         (.seq
          (.reg [⟨(some 12), none, .q (.mov (.t 8))⟩,
            ⟨(some 13), none, .q (.len false (.t 12))⟩,
            ⟨(some 14), none, .q (.bin false .gtr (.t 13) (.c (.int .i64 0)))⟩])
          (.cond (.t 14)
           .skip
           (.exit 0)))
         (.block 1
          (.seq
           (.reg [⟨(some 15), none, .q (.mov (.t 8))⟩,
             ⟨(some 16), none, .q (.iad 1 (.t 15) (.c (.int .i64 0)))⟩,
             ⟨(some 17), none, .q (.load false 1 (.t 16))⟩,
             ⟨(some 9), none, .a (.asg (.t 17))⟩])
           (.seq
            (.reg [⟨(some 18), none, .q (.mov (.t 8))⟩,
              ⟨(some 19), none, .q (.slc false 1 (.t 18) (some (.c (.int .i64 1))) none)⟩,
              ⟨(some 8), none, .a (.asg (.t 19))⟩])
            (.seq
             (.seq
              (.reg [⟨(some 20), none, .q (.mov (.t 7))⟩,
                ⟨(some 21), none, .q (.mov (.t 9))⟩,
                ⟨(some 22), none, .a (.call (.fn 39) false [.lend (.t 20), .lend (.t 21)])⟩])
              (.cond (.t 22)
               (.exit 1)
               .skip))
             (.seq
              (.reg [⟨(some 23), none, .q (.mov (.t 7))⟩,
                ⟨(some 24), none, .q (.mov (.t 9))⟩,
                ⟨(some 25), none, .a (.callm (.fn 62) (.t 23) [.lend (.t 24)])⟩,
                ⟨(some 7), none, .a (.asg (.t 25))⟩])
              (.seq
               (.reg [⟨(some 26), none, .q (.mov (.t 8))⟩,
                 ⟨(some 27), none, .q (.mov (.t 0))⟩,
                 ⟨(some 28), none, .q (.mov (.t 9))⟩,
                 ⟨(some 29), none, .q (.iad 6 (.t 27) (.t 28))⟩,
                 ⟨(some 30), none, .q (.load true 6 (.t 29))⟩,
                 ⟨(some 31), none, .a (.call (.fn 41) false [.lend (.t 30)])⟩,
                 ⟨(some 32), none, .a (.app true 3 1 8 (.t 26) (.t 31))⟩,
                 ⟨(some 8), none, .a (.asg (.t 32))⟩])
               (.seq
                (.reg [⟨(some 33), none, .q (.mov (.t 2))⟩,
                  ⟨(some 34), none, .q (.mov (.t 33))⟩,
                  ⟨(some 35), (some (34, true)), .q (.mov (.t 0))⟩,
                  ⟨(some 36), (some (34, true)), .q (.mov (.t 9))⟩,
                  ⟨(some 37), (some (34, true)), .q (.iad 6 (.t 35) (.t 36))⟩,
                  ⟨(some 38), (some (34, true)), .q (.fad 0 (.t 37))⟩,
                  ⟨(some 39), (some (34, true)), .q (.load false 1 (.t 38))⟩,
                  ⟨(some 40), (some (34, true)), .q (.bin false .eql (.t 39) (.c (.int .i64 6)))⟩,
                  ⟨(some 41), none, .q (.pick (.t 34) (.t 40) (.c (.bool false)))⟩])
                (.cond (.t 41)
                 (.reg [⟨(some 42), none, .q (.mov (.t 8))⟩,
                   ⟨(some 43), none, .q (.mov (.t 0))⟩,
                   ⟨(some 44), none, .q (.mov (.t 9))⟩,
                   ⟨(some 45), none, .q (.iad 6 (.t 43) (.t 44))⟩,
                   ⟨(some 46), none, .q (.fad 2 (.t 45))⟩,
                   ⟨(some 47), none, .q (.load false 1 (.t 46))⟩,
                   ⟨(some 48), none, .a (.bsl 3 1 [.t 47])⟩,
                   ⟨(some 49), none, .a (.app true 3 1 8 (.t 42) (.t 48))⟩,
                   ⟨(some 8), none, .a (.asg (.t 49))⟩])
                 .skip)))))))))))
      (.seq
       (.reg [⟨(some 50), none, .q (.mov (.t 7))⟩,
         ⟨(some 6), none, .a (.asg (.t 50))⟩])
       .ret)))))

set_option maxRecDepth 100000 in
theorem d40 (l : List Ty) (fr : List Int) (ptr : Bool) (hl : (l.length : Int) ≤ 1048576) (hs : ∀ s ∈ l, s.sm) (ht : tysOk l = true) (hf : ∀ k ∈ fr, 0 ≤ k ∧ k < (l.length : Int)) (hfl : (fr.length : Int) ≤ 1048576) :
    Does Go.Proofs.Try.prog 40 [.fsl 6 (l.map Ty.z), .fsl 1 (fr.map iv), .v (.bool ptr)] false (.usl 3 1 ((reachL l ptr fr).map iv)) [.dead, .dead, .dead] := by
  refine does_intro (mc := m40) (N := 51) (rs := [6]) (fx := []) 3 rfl (by decide +kernel) ?_
  simp only [m40, EV, Nat.reduceEqDiff, Nat.reduceBEq, Nat.reduceLT, Nat.reduceLeDiff, Nat.reduceAdd, Nat.reduceSub, reduceIte]
  refine callK_i (d29 fr hfl) ?_
  simp only [EV, Nat.reduceEqDiff, Nat.reduceBEq, Nat.reduceLT, Nat.reduceLeDiff, Nat.reduceAdd, Nat.reduceSub, reduceIte]
  refine awp_loop (fun p : List Int × List Int => FromInv l ptr fr p.1 p.2) (fun p => stl [(0, .fsl 6 (l.map Ty.z)), (2, .v (.bool ptr)), (7, .usl 3 1 (p.1.map iv)), (8, .usl 3 1 (p.2.map iv)), (11, .dead), (18, .dead), (19, .dead), (25, .dead), (32, .dead), (49, .dead)]) (fun p => 9 * (24 - p.1.length) + p.2.length) ([], fr) (FromInv.start hfl) ?_ ?_
  · simp only [EV, Nat.reduceEqDiff, Nat.reduceBEq, Nat.reduceLT, Nat.reduceLeDiff, Nat.reduceAdd, Nat.reduceSub, reduceIte]
  · rintro ⟨out, q⟩ I
    obtain ⟨ho, h24⟩ := I.small ht hf
    have hql := I.len
    simp only at I ho h24 hql
    simp only [EV, Nat.reduceEqDiff, Nat.reduceBEq, Nat.reduceLT, Nat.reduceLeDiff, Nat.reduceAdd, Nat.reduceSub, reduceIte]
    refine cK_cut (fun h => ?_) (fun h => ?_)
    · have hq0 : 0 < q.length := by have : 0 < (q.length : Int) := by simpa using h
                                    omega
      obtain ⟨n, q', rfl⟩ := List.exists_cons_of_length_pos hq0
      have hni := (I.rq n (by simp)).inr (tysOk_kids ht) hf
      have hn : n.toNat < l.length := by omega
      have nth0 : ∀ (a : List AV) (r : List (List AV)), nth (a :: r) 0 = a := fun _ _ => rfl
      have z0 : (0 : Int) = ((0 : Nat) : Int) := rfl
      clear h
      simp only [List.length_cons] at hql
      have e1 : (1 : Int).toNat = 1 := rfl
      have dl : ∀ r : List Int, List.take (r.length + 1 - 1) (List.map iv r) = List.map iv r := fun r => by rw [Nat.add_sub_cancel]; exact List.take_of_length_le (by simp)
      have hcl : Ty.z l[n.toNat] = [.v (.int .i64 l[n.toNat].kind), .v (.int .i64 l[n.toNat].long), .v (.int .i64 l[n.toNat].base), .fsl 3 (l[n.toNat].fields.map Fd.z), .v (.string l[n.toNat].owner), .v (.string l[n.toNat].name)] := rfl
      have dp := d41 l[n.toNat] (hs _ (List.getElem_mem hn))
      rw [hcl] at dp
      simp only [nth0, iv, hq0, EV, Nat.reduceEqDiff, Nat.reduceBEq, Nat.reduceLT, Nat.reduceLeDiff, Nat.reduceAdd, Nat.reduceSub, reduceIte]
      refine ⟨by omega, by omega, by omega, by omega, by omega, ?_⟩
      rw [iv_frz]
      refine callK_i (d39 out n (by omega)) ?_
      simp only [e1, dl, EV, Nat.reduceEqDiff, Nat.reduceBEq, Nat.reduceLT, Nat.reduceLeDiff, Nat.reduceAdd, Nat.reduceSub, reduceIte]
      rcases hc : out.contains n with _ | _
      · have hno : n ∉ out := fun hm => by rw [← List.contains_iff_mem] at hm; rw [hm] at hc; cases hc
        simp only [e1, dl, EV, Nat.reduceEqDiff, Nat.reduceBEq, Nat.reduceLT, Nat.reduceLeDiff, Nat.reduceAdd, Nat.reduceSub, reduceIte]
        refine callK_i (d62 out n (by omega)) ?_
        simp only [e1, dl, hni.1, hni.2, nth_map hn, Ty.z, EV, Nat.reduceEqDiff, Nat.reduceBEq, Nat.reduceLT, Nat.reduceLeDiff, Nat.reduceAdd, Nat.reduceSub, reduceIte]
        refine callK_i dp ?_
        have hpl := prt_len ht false hn
        have hal := addQ_len ht ptr hn
        have I2 := I.put ht hno hn
        have hm2 : 9 * (24 - (putUp out n).length) + (q' ++ addQ ptr l[n.toNat]).length < 9 * (24 - out.length) + (n :: q').length := by
          have h3 := (putUp_spec (n := n) I.up).2.2 hno
          have h4 := (I2.small ht hf).1
          rw [h3, List.length_append, List.length_cons]
          omega
        rcases ptr with _ | _
        · have e : addQ false l[n.toNat] = prt false l[n.toNat] := rfl
          simp only [e1, dl, hni.1, hni.2, nth_map hn, Ty.z, EV, Nat.reduceEqDiff, Nat.reduceBEq, Nat.reduceLT, Nat.reduceLeDiff, Nat.reduceAdd, Nat.reduceSub, reduceIte]
          refine ⟨by omega, by omega, (putUp out n, q' ++ addQ false l[n.toNat]), I2, hm2, ?_⟩
          rw [e, List.map_append]
        · simp only [e1, dl, hni.1, hni.2, nth_map hn, Ty.z, EV, Nat.reduceEqDiff, Nat.reduceBEq, Nat.reduceLT, Nat.reduceLeDiff, Nat.reduceAdd, Nat.reduceSub, reduceIte]
          refine ⟨by omega, by omega, ?_⟩
          rcases e6 : (l[n.toNat].kind == 6) with _ | _
          · have e : addQ true l[n.toNat] = prt false l[n.toNat] := by unfold addQ; rw [e6]; rfl
            simp only [EV, Nat.reduceEqDiff, Nat.reduceBEq, Nat.reduceLT, Nat.reduceLeDiff, Nat.reduceAdd, Nat.reduceSub, reduceIte]
            refine ⟨(putUp out n, q' ++ addQ true l[n.toNat]), I2, hm2, ?_⟩
            rw [e, List.map_append]
          · have e : addQ true l[n.toNat] = prt false l[n.toNat] ++ [l[n.toNat].base] := by unfold addQ; rw [e6]; rfl
            simp only [e1, dl, hni.1, hni.2, nth_map hn, Ty.z, EV, Nat.reduceEqDiff, Nat.reduceBEq, Nat.reduceLT, Nat.reduceLeDiff, Nat.reduceAdd, Nat.reduceSub, reduceIte]
            refine ⟨by simp; omega, by simp; omega, (putUp out n, q' ++ addQ true l[n.toNat]), I2, hm2, ?_⟩
            have e' : List.map iv (q' ++ addQ true l[n.toNat]) = List.map iv q' ++ List.map iv (prt false l[n.toNat]) ++ [[AV.v (.int .i64 l[n.toNat].base)]] := by
              rw [e, ← List.append_assoc, List.map_append, List.map_append]; rfl
            simp only [e']
      · have hm : n ∈ out := List.contains_iff_mem.1 hc
        simp only [e1, dl, EV, Nat.reduceEqDiff, Nat.reduceBEq, Nat.reduceLT, Nat.reduceLeDiff, Nat.reduceAdd, Nat.reduceSub, reduceIte]
        refine ⟨(out, q'), I.skip hm, by simp only [List.length_cons]; omega, ?_⟩
        rfl
    · have hq : q = [] := by have : ¬ 0 < (q.length : Int) := by simpa using h
                             exact List.eq_nil_of_length_eq_zero (by omega)
      subst hq
      have e := I.fin ht hf
      subst e
      simp only [EV, Nat.reduceEqDiff, Nat.reduceBEq, Nat.reduceLT, Nat.reduceLeDiff, Nat.reduceAdd, Nat.reduceSub, reduceIte]
      simp only [iv_nfz, EV, Nat.reduceEqDiff, Nat.reduceBEq, Nat.reduceLT, Nat.reduceLeDiff, Nat.reduceAdd, Nat.reduceSub, reduceIte, evRE, retVC, cellV', evR, nfz, nfzs, nfzss, List.contains_nil, List.contains_cons, Bool.or_false, or_true]

end Go.AM
namespace Go.AM
set_option linter.unusedVariables false
set_option linter.unusedSimpArgs false
def addAll (out ks : List Int) : List Int := ks.foldl (fun o k => if o.contains k = true then o else o ++ [k]) out

theorem addAll_take {out ks : List Int} {j : Nat} (h : j < ks.length) : addAll out (ks.take (j + 1)) = if (addAll out (ks.take j)).contains ks[j] = true then addAll out (ks.take j) else addAll out (ks.take j) ++ [ks[j]] := by
  unfold addAll
  rw [List.take_succ_eq_append_getElem h, List.foldl_append]; rfl

theorem addAll_spec : ∀ (ks out : List Int), out.Nodup → (addAll out ks).Nodup ∧ (∀ x, x ∈ addAll out ks ↔ x ∈ out ∨ x ∈ ks) ∧ out <+: addAll out ks ∧ (addAll out ks).length ≤ out.length + ks.length
  | [], out, h => ⟨h, by simp [addAll], by simp [addAll], by simp [addAll]⟩
  | k :: ks, out, h => by
    have e : addAll out (k :: ks) = addAll (if out.contains k = true then out else out ++ [k]) ks := rfl
    rw [e]
    rcases hc : out.contains k with _ | _
    · have hno : k ∉ out := fun hm => by rw [← List.contains_iff_mem] at hm; rw [hm] at hc; cases hc
      simp only [Bool.false_eq_true, if_false]
      obtain ⟨a1, a2, a3, a4⟩ := addAll_spec ks (out ++ [k]) (List.nodup_append.2 ⟨h, by simp, fun a ha b hb e => hno (by rw [List.mem_singleton] at hb; rw [← hb, ← e]; exact ha)⟩)
      refine ⟨a1, fun x => ?_, (List.prefix_append _ _).trans a3, by simp at a4 ⊢; omega⟩
      rw [a2]
      simp only [List.mem_append, List.mem_singleton, List.mem_cons, List.not_mem_nil, or_false]
      exact or_assoc
    · have hm : k ∈ out := List.contains_iff_mem.1 hc
      simp only [if_true]
      obtain ⟨a1, a2, a3, a4⟩ := addAll_spec ks out h
      refine ⟨a1, fun x => ?_, a3, by simp; omega⟩
      rw [a2]
      simp only [List.mem_cons]
      constructor
      · rintro (h | h)
        · exact .inl h
        · exact .inr (.inr h)
      · rintro (h | h | h)
        · exact .inl h
        · exact .inl (h ▸ hm)
        · exact .inr h

/-- What holds while the types are gone through in the order in which they were found. -/
structure GoInv (l : List Ty) (ptr : Bool) (fr out : List Int) (i : Nat) : Prop where
  nd : out.Nodup
  frm : ∀ n ∈ fr, n ∈ out
  le : i ≤ out.length
  cl : ∀ j (h : j < out.length), j < i → ∀ k ∈ kids l ptr out[j], k ∈ out
  ro : ∀ n ∈ out, Rch l ptr fr n

theorem GoInv.small {l : List Ty} {ptr : Bool} {fr out : List Int} {i : Nat} (I : GoInv l ptr fr out i) (ht : tysOk l = true) (hf : ∀ k ∈ fr, 0 ≤ k ∧ k < (l.length : Int)) : out.length ≤ l.length ∧ l.length ≤ 24 :=
  ⟨nodup_le I.nd fun k hk => (I.ro k hk).inr (tysOk_kids ht) hf, (tysOk_len ht).2⟩

theorem GoInv.step {l : List Ty} {ptr : Bool} {fr out : List Int} {i : Nat} (I : GoInv l ptr fr out i) (h : i < out.length) : GoInv l ptr fr (addAll out (kids l ptr out[i])) (i + 1) := by
  obtain ⟨a1, a2, a3, a4⟩ := addAll_spec (kids l ptr out[i]) out I.nd
  have hle := a3.length_le
  refine ⟨a1, fun n hn => (a2 n).2 (.inl (I.frm n hn)), by omega, ?_, ?_⟩
  · intro j hj hji k hk
    have hjo : j < out.length := by omega
    have e : (addAll out (kids l ptr out[i]))[j] = out[j] := (a3.getElem hjo).symm
    rw [e] at hk
    rw [a2]
    by_cases hjj : j = i
    · subst hjj; exact .inr hk
    · exact .inl (I.cl j hjo (by omega) k hk)
  · intro n hn
    rcases (a2 n).1 hn with h1 | h1
    · exact I.ro n h1
    · exact .step (I.ro _ (List.getElem_mem h)) h1

theorem GoInv.fin {l : List Ty} {ptr : Bool} {fr out : List Int} (I : GoInv l ptr fr out out.length) (ht : tysOk l = true) (hf : ∀ k ∈ fr, 0 ≤ k ∧ k < (l.length : Int)) : srt out = reachL l ptr fr := by
  refine reachL_of (tysOk_kids ht) hf ?_ (fun n hn => srt_mem.2 (I.frm n hn)) ?_ (fun n hn => I.ro n (srt_mem.1 hn))
  · have h1 := srt_le out
    have h2 : (srt out).Nodup := ((List.mergeSort_perm out _).nodup_iff).2 I.nd
    exact (h1.and h2).imp fun h => by omega
  · intro n hn k hk
    obtain ⟨j, hj, rfl⟩ := List.mem_iff_getElem.1 (srt_mem.1 hn)
    exact srt_mem.2 (I.cl j hj hj k hk)

/-- loop.example/g00837/impl.reached -/
def m53 : MC :=
  (.seq
   (.reg [⟨(some 6), none, .a (.asg (.nils 3 1))⟩])
   (.seq
    (.reg [⟨(some 11), none, .q (.mov (.t 1))⟩,
      ⟨(some 12), none, .a (.call (.fn 72) false [.lend (.t 11)])⟩,
      ⟨(some 7), none, .a (.asg (.t 12))⟩])
    (.seq
     (.seq
      (.reg [⟨(some 8), none, .a (.asg (.c (.int .i64 0)))⟩])
      (.block 0
       (.loop [0, 2, 7, 8, 12, 40]
        (.seq
         (.seq
          (.reg [⟨(some 13), none, .q (.mov (.t 8))⟩,
            ⟨(some 14), none, .q (.mov (.t 7))⟩,
            ⟨(some 15), none, .q (.len false (.t 14))⟩,
            ⟨(some 16), none, .q (.bin false .lss (.t 13) (.t 15))⟩])
          (.cond (.t 16)
           .skip
           (.exit 0)))
         (.seq
          (.block 1
           (.seq
            (.reg [⟨(some 19), none, .q (.mov (.t 0))⟩,
              ⟨(some 20), none, .q (.mov (.t 7))⟩,
              ⟨(some 21), none, .q (.mov (.t 8))⟩,
              ⟨(some 22), none, .q (.iad 1 (.t 20) (.t 21))⟩,
              ⟨(some 23), none, .q (.load false 1 (.t 22))⟩,
              ⟨(some 24), none, .q (.iad 6 (.t 19) (.t 23))⟩,
              ⟨(some 25), none, .q (.load true 6 (.t 24))⟩,
              ⟨(some 26), none, .q (.mov (.t 2))⟩,
              ⟨(some 27), none, .a (.call (.fn 50) false [.lend (.t 25), .lend (.t 26)])⟩,
              ⟨(some 28), none, .q (.len false (.t 27))⟩,
              ⟨(some 29), none, .q (.mov (.c (.int .i64 0)))⟩])
            (.block 2
             (.loop [0, 2, 7, 8, 12, 27, 28, 29, 40]
              (.seq
               (.reg [⟨(some 30), none, .q (.bin false .lss (.t 29) (.t 28))⟩])
               (.seq
                (.cond (.t 30)
                 .skip
                 (.exit 2))
                (.join [0, 2, 7, 8, 12, 27, 28, 29, 40]
                 (.block 3
                  (.seq
                   (.reg [⟨(some 31), none, .q (.iad 1 (.t 27) (.t 29))⟩,
                     ⟨(some 32), none, .q (.load false 1 (.t 31))⟩,
                     ⟨(some 10), none, .a (.asg (.t 32))⟩])
                   (.seq
                    (.reg [⟨(some 33), none, .q (.mov (.t 7))⟩,
                      ⟨(some 34), none, .q (.mov (.t 10))⟩,
                      ⟨(some 35), none, .a (.call (.fn 52) false [.lend (.t 33), .lend (.t 34)])⟩,
                      ⟨(some 36), none, .q (.un .not (.t 35))⟩])
                    (.cond (.t 36)
                     (.reg [⟨(some 37), none, .q (.mov (.t 7))⟩,
                       ⟨(some 38), none, .q (.mov (.t 10))⟩,
                       ⟨(some 39), none, .a (.bsl 3 1 [.t 38])⟩,
                       ⟨(some 40), none, .a (.app true 3 1 8 (.t 37) (.t 39))⟩,
                       ⟨(some 7), none, .a (.asg (.t 40))⟩])
                     .skip))))
                 (.reg [⟨(some 41), none, .q (.bin false .add (.t 29) (.c (.int .i64 1)))⟩,
                   ⟨(some 29), none, .q (.mov (.t 41))⟩]))))))))
          (.reg [⟨(some 17), none, .q (.mov (.t 8))⟩,
            ⟨(some 18), none, .q (.bin false .add (.t 17) (.c (.int .i64 1)))⟩,
            ⟨(some 8), none, .a (.asg (.t 18))⟩]))))))
     (.seq
      (.reg [⟨(some 42), none, .q (.mov (.t 7))⟩,
        ⟨(some 43), none, .a (.call (.fn 51) false [.io (.t 42)])⟩])
      (.seq
       (.reg [⟨(some 44), none, .q (.mov (.t 7))⟩,
         ⟨(some 6), none, .a (.asg (.t 44))⟩])
       .ret)))))

set_option maxRecDepth 100000 in
theorem d53 (l : List Ty) (fr : List Int) (ptr : Bool) (hl : (l.length : Int) ≤ 1048576) (hs : ∀ s ∈ l, s.sm) (ht : tysOk l = true) (hf : ∀ k ∈ fr, 0 ≤ k ∧ k < (l.length : Int)) (hfn : fr.Nodup) :
    Does Go.Proofs.Try.prog 53 [.fsl 6 (l.map Ty.z), .fsl 1 (fr.map iv), .v (.bool ptr)] false (.usl 3 1 ((reachL l ptr fr).map iv)) [.dead, .dead, .dead] := by
  have hfl : (fr.length : Int) ≤ 1048576 := by have := nodup_le hfn hf; omega
  refine does_intro (mc := m53) (N := 45) (rs := [6]) (fx := []) 3 rfl (by decide +kernel) ?_
  simp only [m53, EV, Nat.reduceEqDiff, Nat.reduceBEq, Nat.reduceLT, Nat.reduceLeDiff, Nat.reduceAdd, Nat.reduceSub, reduceIte]
  refine callK_i (d72 fr hfl) ?_
  simp only [EV, Nat.reduceEqDiff, Nat.reduceBEq, Nat.reduceLT, Nat.reduceLeDiff, Nat.reduceAdd, Nat.reduceSub, reduceIte]
  refine awp_loop (fun p : List Int × Nat => GoInv l ptr fr p.1 p.2) (fun p => stl [(0, .fsl 6 (l.map Ty.z)), (2, .v (.bool ptr)), (7, .usl 3 1 (p.1.map iv)), (8, .v (.int .i64 (p.2 : Int))), (12, .dead), (40, .dead)]) (fun p => 24 - p.2) (fr, 0) ⟨hfn, fun n hn => hn, Nat.zero_le _, fun j _ h => absurd h (by omega), fun n hn => .base hn⟩ ?_ ?_
  · simp only [EV, Nat.reduceEqDiff, Nat.reduceBEq, Nat.reduceLT, Nat.reduceLeDiff, Nat.reduceAdd, Nat.reduceSub, reduceIte]
    rfl
  · rintro ⟨out, i⟩ I
    obtain ⟨ho, h24⟩ := I.small ht hf
    have hi := I.le
    simp only at I ho h24 hi
    simp only [EV, Nat.reduceEqDiff, Nat.reduceBEq, Nat.reduceLT, Nat.reduceLeDiff, Nat.reduceAdd, Nat.reduceSub, reduceIte]
    refine cK_cut (fun h => ?_) (fun h => ?_)
    · have h1 : i < out.length := by simpa using h
      have h2 : (i : Int) < (out.length : Int) := by omega
      have hni := (I.ro _ (List.getElem_mem h1)).inr (tysOk_kids ht) hf
      have hn : out[i].toNat < l.length := by omega
      clear h
      have hcl : Ty.z l[out[i].toNat] = [.v (.int .i64 l[out[i].toNat].kind), .v (.int .i64 l[out[i].toNat].long), .v (.int .i64 l[out[i].toNat].base), .fsl 3 (l[out[i].toNat].fields.map Fd.z), .v (.string l[out[i].toNat].owner), .v (.string l[out[i].toNat].name)] := rfl
      have dp := d50 l[out[i].toNat] ptr (hs _ (List.getElem_mem hn))
      rw [hcl] at dp
      simp only [nth_map h1, h1, h2, iv, hni.1, hni.2, nth_map hn, Ty.z, EV, Nat.reduceEqDiff, Nat.reduceBEq, Nat.reduceLT, Nat.reduceLeDiff, Nat.reduceAdd, Nat.reduceSub, reduceIte]
      refine callK_i dp ?_
      have ek : prt ptr l[out[i].toNat] = kids l ptr out[i] := (kids_at hn).symm
      have hpl : (kids l ptr out[i]).length ≤ 7 := by rw [← ek]; exact prt_len ht ptr hn
      have hst := I.step h1
      have hst2 := (hst.small ht hf).1
      rw [ek]
      generalize kids l ptr out[i] = ks at hpl hst hst2 ⊢
      simp only [EV, Nat.reduceEqDiff, Nat.reduceBEq, Nat.reduceLT, Nat.reduceLeDiff, Nat.reduceAdd, Nat.reduceSub, reduceIte]
      refine awp_loop (fun j : Nat => j ≤ ks.length) (fun j => stl [(0, .fsl 6 (l.map Ty.z)), (2, .v (.bool ptr)), (7, .usl 3 1 ((addAll out (ks.take j)).map iv)), (8, .v (.int .i64 (i : Int))), (12, .dead), (27, .usl 3 1 (ks.map iv)), (28, .v (.int .i64 (ks.length : Int))), (29, .v (.int .i64 (j : Int))), (40, .dead)]) (fun j => ks.length - j) 0 (Nat.zero_le _) ?_ ?_
      · simp only [EV, Nat.reduceEqDiff, Nat.reduceBEq, Nat.reduceLT, Nat.reduceLeDiff, Nat.reduceAdd, Nat.reduceSub, reduceIte]
        rfl
      · intro j hj
        simp only [EV, Nat.reduceEqDiff, Nat.reduceBEq, Nat.reduceLT, Nat.reduceLeDiff, Nat.reduceAdd, Nat.reduceSub, reduceIte]
        refine cK_cut (fun h => ?_) (fun h => ?_)
        · have j1 : j < ks.length := by simpa using h
          have j2 : (j : Int) < (ks.length : Int) := by omega
          clear h
          have ha := (addAll_spec (ks.take j) out I.nd).2.2.2
          have hat := addAll_take (out := out) j1
          simp only [List.length_take] at ha
          generalize addAll out (ks.take j) = o1 at ha hat ⊢
          refine awp_join (fun _ : Unit => True) (fun _ => stl [(0, .fsl 6 (l.map Ty.z)), (2, .v (.bool ptr)), (7, .usl 3 1 ((addAll out (ks.take (j + 1))).map iv)), (8, .v (.int .i64 (i : Int))), (12, .dead), (27, .usl 3 1 (ks.map iv)), (28, .v (.int .i64 (ks.length : Int))), (29, .v (.int .i64 (j : Int))), (40, .dead)]) ?_ ?_
          · simp only [nth_map j1, j1, j2, iv, EV, Nat.reduceEqDiff, Nat.reduceBEq, Nat.reduceLT, Nat.reduceLeDiff, Nat.reduceAdd, Nat.reduceSub, reduceIte]
            rw [iv_frz]
            refine callK_i (d52 o1 ks[j] (by omega)) ?_
            simp only [EV, Nat.reduceEqDiff, Nat.reduceBEq, Nat.reduceLT, Nat.reduceLeDiff, Nat.reduceAdd, Nat.reduceSub, reduceIte]
            rcases hc : o1.contains ks[j] with _ | _
            · have e : addAll out (ks.take (j + 1)) = o1 ++ [ks[j]] := by rw [hat, hc]; rfl
              simp only [Bool.not_false, EV, Nat.reduceEqDiff, Nat.reduceBEq, Nat.reduceLT, Nat.reduceLeDiff, Nat.reduceAdd, Nat.reduceSub, reduceIte]
              refine ⟨by omega, by omega, (), ?_⟩
              rw [e, List.map_append]
              rfl
            · have e : addAll out (ks.take (j + 1)) = o1 := by rw [hat, hc]; rfl
              simp only [Bool.not_true, EV, Nat.reduceEqDiff, Nat.reduceBEq, Nat.reduceLT, Nat.reduceLeDiff, Nat.reduceAdd, Nat.reduceSub, reduceIte]
              rw [e]
              exact ⟨(), rfl⟩
          · rintro _ _
            simp only [EV, Nat.reduceEqDiff, Nat.reduceBEq, Nat.reduceLT, Nat.reduceLeDiff, Nat.reduceAdd, Nat.reduceSub, reduceIte]
            rw [w64 _ (by omega)]
            exact ⟨j + 1, j1, by omega, rfl⟩
        · have j1 : j = ks.length := by have : ¬ (j : Int) < ks.length := by simpa using h
                                        omega
          subst j1
          rw [List.take_length]
          simp only [EV, Nat.reduceEqDiff, Nat.reduceBEq, Nat.reduceLT, Nat.reduceLeDiff, Nat.reduceAdd, Nat.reduceSub, reduceIte]
          rw [w64 _ (by omega)]
          exact ⟨(addAll out ks, i + 1), hst, by simp only; omega, rfl⟩
    · have h1 : i = out.length := by have : ¬ (i : Int) < out.length := by simpa using h
                                     omega
      subst h1
      have e := I.fin ht hf
      simp only [EV, Nat.reduceEqDiff, Nat.reduceBEq, Nat.reduceLT, Nat.reduceLeDiff, Nat.reduceAdd, Nat.reduceSub, reduceIte]
      refine callK2_i (d51 out (by omega)) rfl ?_ ?_
      · simp only [srt_len, EV, Nat.reduceEqDiff, Nat.reduceBEq, Nat.reduceLT, Nat.reduceLeDiff, Nat.reduceAdd, Nat.reduceSub, reduceIte]
      · rw [e]
        simp only [EV, Nat.reduceEqDiff, Nat.reduceBEq, Nat.reduceLT, Nat.reduceLeDiff, Nat.reduceAdd, Nat.reduceSub, reduceIte]
        simp only [iv_nfz, EV, Nat.reduceEqDiff, Nat.reduceBEq, Nat.reduceLT, Nat.reduceLeDiff, Nat.reduceAdd, Nat.reduceSub, reduceIte, evRE, retVC, cellV', evR, nfz, nfzs, nfzss, List.contains_nil, List.contains_cons, Bool.or_false, or_true]

theorem cmpct_up {l : List Int} (h : l.Pairwise (· ≤ ·)) : (cmpct l).Pairwise (· < ·) ∧ ∀ n, n ∈ cmpct l ↔ n ∈ l := by
  have hget : ∀ j (hj : j < l.length), l.toArray[j]! = l[j] := fun j hj => by simp [hj]
  have hle : ∀ i j (hi : i < l.length) (hj : j < l.length), i ≤ j → l[i] ≤ l[j] := by
    intro i j hi hj hij
    rcases Nat.lt_or_ge i j with hlt | hge
    · exact List.pairwise_iff_getElem.1 h i j hi hj hlt
    · have : i = j := by omega
      subst this; exact Int.le_refl _
  have key : ∀ m, m ≤ l.length → (Lib.compactUpTo l.toArray m).Pairwise (· < ·) ∧ ∀ n, n ∈ Lib.compactUpTo l.toArray m ↔ ∃ j, ∃ hj : j < l.length, j < m ∧ l[j] = n := by
    intro m
    induction m with
    | zero => intro _; simp [Lib.compactUpTo]
    | succ m ih =>
      intro hm
      obtain ⟨i1, i2⟩ := ih (by omega)
      rw [Lib.compactUpTo_succ]
      by_cases hk : Lib.keeps l.toArray m = true
      · rw [if_pos hk]
        have hkk : m = 0 ∨ l[m] ≠ l[m - 1] := by
          simp only [Lib.keeps, decide_eq_true_eq] at hk
          rcases hk with hk | hk
          · exact .inl hk
          · rw [hget m (by omega), hget (m - 1) (by omega)] at hk; exact .inr hk
        refine ⟨?_, fun n => ?_⟩
        · rw [List.pairwise_append]
          refine ⟨i1, by simp, ?_⟩
          intro a ha b hb
          simp only [List.mem_singleton] at hb
          subst hb
          rw [hget m (by omega)]
          obtain ⟨j, hj, hjm, rfl⟩ := (i2 a).1 ha
          have h1 := hle j (m - 1) hj (by omega) (by omega)
          have h2 := hle (m - 1) m (by omega) (by omega) (by omega)
          rcases hkk with h0 | h0
          · omega
          · omega
        · rw [List.mem_append, i2, List.mem_singleton, hget m (by omega)]
          constructor
          · rintro (⟨j, hj, hjm, e⟩ | e)
            · exact ⟨j, hj, by omega, e⟩
            · exact ⟨m, by omega, by omega, e.symm⟩
          · rintro ⟨j, hj, hjm, e⟩
            by_cases hjj : j = m
            · subst hjj; exact .inr e.symm
            · exact .inl ⟨j, hj, by omega, e⟩
      · rw [if_neg hk, List.append_nil]
        have hkk : 0 < m ∧ l[m] = l[m - 1] := by
          simp only [Lib.keeps, decide_eq_true_eq, not_or, ne_eq, Decidable.not_not] at hk
          rw [hget m (by omega), hget (m - 1) (by omega)] at hk
          exact ⟨by omega, hk.2⟩
        refine ⟨i1, fun n => ?_⟩
        rw [i2]
        constructor
        · rintro ⟨j, hj, hjm, e⟩
          exact ⟨j, hj, by omega, e⟩
        · rintro ⟨j, hj, hjm, e⟩
          by_cases hjj : j = m
          · subst hjj; exact ⟨j - 1, by omega, by omega, by rw [← hkk.2]; exact e⟩
          · exact ⟨j, hj, by omega, e⟩
  have := key l.length (Nat.le_refl _)
  have e : cmpct l = Lib.compactUpTo l.toArray l.length := by unfold cmpct Lib.compact; rfl
  rw [e]
  refine ⟨this.1, fun n => ?_⟩
  rw [this.2]
  constructor
  · rintro ⟨j, hj, _, rfl⟩; exact List.getElem_mem hj
  · intro hn
    obtain ⟨j, hj, rfl⟩ := List.mem_iff_getElem.1 hn
    exact ⟨j, hj, hj, rfl⟩

/-- loop.example/g00837/impl.isRound -/
def m32 : MC :=
  (.seq
   (.reg [⟨(some 4), none, .a (.asg (.c (.bool false)))⟩])
   (.seq
    (.reg [⟨(some 6), none, .q (.mov (.t 0))⟩,
      ⟨(some 7), none, .q (.mov (.t 1))⟩,
      ⟨(some 8), none, .q (.iad 6 (.t 6) (.t 7))⟩,
      ⟨(some 9), none, .q (.load true 6 (.t 8))⟩,
      ⟨(some 10), none, .a (.call (.fn 50) false [.lend (.t 9), .lend (.c (.bool false))])⟩,
      ⟨(some 5), none, .a (.asg (.t 10))⟩])
    (.seq
     (.reg [⟨(some 11), none, .q (.mov (.t 5))⟩,
       ⟨(some 12), none, .a (.call (.fn 51) false [.io (.t 11)])⟩])
     (.seq
      (.reg [⟨(some 13), none, .q (.mov (.t 0))⟩,
        ⟨(some 14), none, .q (.mov (.t 5))⟩,
        ⟨(some 15), none, .a (.callm (.fn 54) (.t 14) [])⟩,
        ⟨(some 16), none, .a (.call (.fn 53) false [.lend (.t 13), .lend (.t 15), .lend (.c (.bool false))])⟩,
        ⟨(some 17), none, .q (.mov (.t 1))⟩,
        ⟨(some 18), none, .a (.call (.fn 52) false [.lend (.t 16), .lend (.t 17)])⟩,
        ⟨(some 4), none, .a (.asg (.t 18))⟩])
      .ret))))

set_option maxRecDepth 100000 in
theorem d32 (l : List Ty) (n : Int) (hl : (l.length : Int) ≤ 1048576) (hs : ∀ s ∈ l, s.sm) (ht : tysOk l = true) (h0 : 0 ≤ n) (h1 : n < l.length) :
    Does Go.Proofs.Try.prog 32 [.fsl 6 (l.map Ty.z), .v (.int .i64 n)] false (.v (.bool (roundAt l n))) [.dead, .dead] := by
  have hn : n.toNat < l.length := by omega
  have hcl : Ty.z l[n.toNat] = [.v (.int .i64 l[n.toNat].kind), .v (.int .i64 l[n.toNat].long), .v (.int .i64 l[n.toNat].base), .fsl 3 (l[n.toNat].fields.map Fd.z), .v (.string l[n.toNat].owner), .v (.string l[n.toNat].name)] := rfl
  have dp := d50 l[n.toNat] false (hs _ (List.getElem_mem hn))
  rw [hcl] at dp
  have ek : prt false l[n.toNat] = kids l false n := (kids_at hn).symm
  have hpl : (kids l false n).length ≤ 7 := by rw [← ek]; exact prt_len ht false hn
  have hki : ∀ k ∈ kids l false n, 0 ≤ k ∧ k < (l.length : Int) := fun k hk => kids_ok ht h0 h1 hk
  have hsl := srt_len (kids l false n)
  obtain ⟨c1, c2⟩ := cmpct_up (srt_le (kids l false n))
  have hcm : ∀ k, k ∈ cmpct (srt (kids l false n)) ↔ k ∈ kids l false n := fun k => (c2 k).trans srt_mem
  have hrl := reachL_congr (l := l) (ptr := false) hcm
  refine does_intro (mc := m32) (N := 19) (rs := [4]) (fx := []) 2 rfl (by decide +kernel) ?_
  simp only [m32, h0, h1, nth_map hn, Ty.z, EV, Nat.reduceEqDiff, Nat.reduceBEq, Nat.reduceLT, Nat.reduceLeDiff, Nat.reduceAdd, Nat.reduceSub, reduceIte]
  refine callK_i dp ?_
  rw [ek]
  simp only [EV, Nat.reduceEqDiff, Nat.reduceBEq, Nat.reduceLT, Nat.reduceLeDiff, Nat.reduceAdd, Nat.reduceSub, reduceIte]
  refine callK2_i (d51 (kids l false n) (by omega)) rfl ?_ ?_
  · simp only [srt_len, EV, Nat.reduceEqDiff, Nat.reduceBEq, Nat.reduceLT, Nat.reduceLeDiff, Nat.reduceAdd, Nat.reduceSub, reduceIte]
  simp only [EV, Nat.reduceEqDiff, Nat.reduceBEq, Nat.reduceLT, Nat.reduceLeDiff, Nat.reduceAdd, Nat.reduceSub, reduceIte]
  refine callK_i (d54 (srt (kids l false n)) (by omega)) ?_
  simp only [EV, Nat.reduceEqDiff, Nat.reduceBEq, Nat.reduceLT, Nat.reduceLeDiff, Nat.reduceAdd, Nat.reduceSub, reduceIte]
  rw [iv_frz]
  refine callK_i (d53 l (cmpct (srt (kids l false n))) false hl hs ht (fun k hk => hki k ((hcm k).1 hk)) (up_nodup c1)) ?_
  rw [hrl]
  have hrn := nodup_le (up_nodup (reachL_up l false (kids l false n))) (fun k hk => (mem_reachL.1 hk).1)
  simp only [EV, Nat.reduceEqDiff, Nat.reduceBEq, Nat.reduceLT, Nat.reduceLeDiff, Nat.reduceAdd, Nat.reduceSub, reduceIte]
  rw [iv_frz]
  refine callK_i (d52 (reachL l false (kids l false n)) n (by omega)) ?_
  simp only [EV, Nat.reduceEqDiff, Nat.reduceBEq, Nat.reduceLT, Nat.reduceLeDiff, Nat.reduceAdd, Nat.reduceSub, reduceIte]
  simp only [roundAt, EV, Nat.reduceEqDiff, Nat.reduceBEq, Nat.reduceLT, Nat.reduceLeDiff, Nat.reduceAdd, Nat.reduceSub, reduceIte, evRE, retVC, cellV', evR, nfz, nfzs, nfzss, List.contains_nil, List.contains_cons, Bool.or_false, or_true]

/-- loop.example/g00837/spec.l3Round -/
def m26 : MC :=
  (.seq
   (.reg [⟨(some 4), none, .a (.asg (.c (.bool false)))⟩])
   (.seq
    (.reg [⟨(some 5), none, .q (.mov (.t 0))⟩,
      ⟨(some 6), none, .q (.mov (.t 0))⟩,
      ⟨(some 7), none, .q (.mov (.t 1))⟩,
      ⟨(some 8), none, .q (.iad 6 (.t 6) (.t 7))⟩,
      ⟨(some 9), none, .q (.load true 6 (.t 8))⟩,
      ⟨(some 10), none, .a (.call (.fn 41) false [.lend (.t 9)])⟩,
      ⟨(some 11), none, .a (.call (.fn 40) false [.lend (.t 5), .lend (.t 10), .lend (.c (.bool false))])⟩,
      ⟨(some 12), none, .q (.mov (.t 1))⟩,
      ⟨(some 13), none, .a (.call (.fn 39) false [.lend (.t 11), .lend (.t 12)])⟩,
      ⟨(some 4), none, .a (.asg (.t 13))⟩])
    .ret))

set_option maxRecDepth 100000 in
theorem d26 (l : List Ty) (n : Int) (hl : (l.length : Int) ≤ 1048576) (hs : ∀ s ∈ l, s.sm) (ht : tysOk l = true) (h0 : 0 ≤ n) (h1 : n < l.length) :
    Does Go.Proofs.Try.prog 26 [.fsl 6 (l.map Ty.z), .v (.int .i64 n)] false (.v (.bool (roundAt l n))) [.dead, .dead] := by
  have hn : n.toNat < l.length := by omega
  have hcl : Ty.z l[n.toNat] = [.v (.int .i64 l[n.toNat].kind), .v (.int .i64 l[n.toNat].long), .v (.int .i64 l[n.toNat].base), .fsl 3 (l[n.toNat].fields.map Fd.z), .v (.string l[n.toNat].owner), .v (.string l[n.toNat].name)] := rfl
  have dp := d41 l[n.toNat] (hs _ (List.getElem_mem hn))
  rw [hcl] at dp
  have ek : prt false l[n.toNat] = kids l false n := (kids_at hn).symm
  have hpl : (kids l false n).length ≤ 7 := by rw [← ek]; exact prt_len ht false hn
  have hki : ∀ k ∈ kids l false n, 0 ≤ k ∧ k < (l.length : Int) := fun k hk => kids_ok ht h0 h1 hk
  refine does_intro (mc := m26) (N := 14) (rs := [4]) (fx := []) 2 rfl (by decide +kernel) ?_
  simp only [m26, h0, h1, nth_map hn, Ty.z, EV, Nat.reduceEqDiff, Nat.reduceBEq, Nat.reduceLT, Nat.reduceLeDiff, Nat.reduceAdd, Nat.reduceSub, reduceIte]
  refine callK_i dp ?_
  rw [ek]
  simp only [EV, Nat.reduceEqDiff, Nat.reduceBEq, Nat.reduceLT, Nat.reduceLeDiff, Nat.reduceAdd, Nat.reduceSub, reduceIte]
  rw [iv_frz]
  refine callK_i (d40 l (kids l false n) false hl hs ht hki (by omega)) ?_
  have hrn := nodup_le (up_nodup (reachL_up l false (kids l false n))) (fun k hk => (mem_reachL.1 hk).1)
  simp only [EV, Nat.reduceEqDiff, Nat.reduceBEq, Nat.reduceLT, Nat.reduceLeDiff, Nat.reduceAdd, Nat.reduceSub, reduceIte]
  rw [iv_frz]
  refine callK_i (d39 (reachL l false (kids l false n)) n (by omega)) ?_
  simp only [EV, Nat.reduceEqDiff, Nat.reduceBEq, Nat.reduceLT, Nat.reduceLeDiff, Nat.reduceAdd, Nat.reduceSub, reduceIte]
  simp only [roundAt, EV, Nat.reduceEqDiff, Nat.reduceBEq, Nat.reduceLT, Nat.reduceLeDiff, Nat.reduceAdd, Nat.reduceSub, reduceIte, evRE, retVC, cellV', evR, nfz, nfzs, nfzss, List.contains_nil, List.contains_cons, Bool.or_false, or_true]

end Go.AM
