/- Contracts of functions of the given program, for the law FnExactMayCall: what they return and what they write, under the bounds that each theorem states. -/
import Derived.Test.YtmacgaechjiecaaGreatG4
namespace Go.AM
set_option linter.unusedVariables false
set_option linter.unusedSimpArgs false
theorem line_contains_rec {l : List Ty} (ht : tabOk l = true) {n b : Int} (h : isRec l n = true) : (lineL l n).contains b = ((n == b) || (lineL l (baseAt l n)).contains b) := by
  rw [lineL_rec ht h, List.contains_cons, Bool.beq_comm]

/-- loop.example/g00837/impl.extends -/
def m57 : MC :=
  (.seq
   (.reg [⟨(some 6), none, .a (.asg (.c (.bool false)))⟩])
   (.seq
    (.block 0
     (.loop [0, 1, 2]
      (.seq
       (.seq
        (.reg [⟨(some 7), none, .q (.mov (.t 1))⟩,
          ⟨(some 8), none, .q (.bin false .geq (.t 7) (.c (.int .i64 0)))⟩,
          ⟨(some 9), none, .q (.mov (.t 8))⟩,
          ⟨(some 10), (some (9, true)), .q (.mov (.t 1))⟩,
          ⟨(some 11), (some (9, true)), .q (.mov (.t 2))⟩,
          ⟨(some 12), (some (9, true)), .q (.bin false .neq (.t 10) (.t 11))⟩,
          ⟨(some 13), none, .q (.pick (.t 9) (.t 12) (.c (.bool false)))⟩])
        (.cond (.t 13)
         .skip
         (.exit 0)))
       (.block 1
        (.reg [⟨(some 14), none, .q (.mov (.t 0))⟩,
          ⟨(some 15), none, .q (.mov (.t 1))⟩,
          ⟨(some 16), none, .q (.iad 6 (.t 14) (.t 15))⟩,
          ⟨(some 17), none, .q (.fad 2 (.t 16))⟩,
          ⟨(some 18), none, .q (.load false 1 (.t 17))⟩,
          ⟨(some 1), none, .a (.asg (.t 18))⟩])))))
    (.seq
     (.reg [⟨(some 19), none, .q (.mov (.t 1))⟩,
       ⟨(some 20), none, .q (.mov (.t 2))⟩,
       ⟨(some 21), none, .q (.bin false .eql (.t 19) (.t 20))⟩,
       ⟨(some 6), none, .a (.asg (.t 21))⟩])
     .ret)))

set_option maxRecDepth 100000 in
theorem d57 (l : List Ty) (a0 b : Int) (hl : (l.length : Int) ≤ 1048576) (ht : tabOk l = true) (h0 : isL l a0) (hb : 0 ≤ b) : Does Go.Proofs.Tryz.prog 57 [.fsl 6 (l.map Ty.z), .v (.int .i64 a0), .v (.int .i64 b)] false (.v (.bool ((lineL l a0).contains b))) [.dead, .dead, .dead] := by
  refine does_intro (mc := m57) (N := 22) (rs := [6]) (fx := []) 3 rfl (by decide +kernel) ?_
  simp only [m57, EV, Nat.reduceEqDiff, Nat.reduceBEq, Nat.reduceLT, Nat.reduceLeDiff, Nat.reduceAdd, Nat.reduceSub, reduceIte]
  refine awp_loop (fun a : Int => isL l a ∧ (lineL l a0).contains b = (lineL l a).contains b) (fun a => stl [(0, .fsl 6 (l.map Ty.z)), (1, .v (.int .i64 a)), (2, .v (.int .i64 b))]) (fun a => (lineL l a).length) a0 ⟨h0, rfl⟩ ?_ ?_
  · simp only [EV, Nat.reduceEqDiff, Nat.reduceBEq, Nat.reduceLT, Nat.reduceLeDiff, Nat.reduceAdd, Nat.reduceSub, reduceIte]
  · rintro a ⟨ha, he⟩
    simp only [EV, Nat.reduceEqDiff, Nat.reduceBEq, Nat.reduceLT, Nat.reduceLeDiff, Nat.reduceAdd, Nat.reduceSub, reduceIte]
    refine gK_cut (fun h => ?_) (fun h => ?_)
    · have hr : isRec l a = true := ha.resolve_left (by have : 0 ≤ a := by simpa using h
                                                        omega)
      obtain ⟨g0, g1, gn, _⟩ := isRec_in hr
      have hlr := lineL_rec ht hr
      have hbs := (isRec_base (tabOk_tys ht) hr).1
      have hc := line_contains_rec (b := b) ht hr
      simp only [h, bne, EV, Nat.reduceEqDiff, Nat.reduceBEq, Nat.reduceLT, Nat.reduceLeDiff, Nat.reduceAdd, Nat.reduceSub, reduceIte]
      rcases e : (a == b) with _ | _
      · simp only [Bool.not_false, g0, g1, nth_map gn, Ty.z, EV, Nat.reduceEqDiff, Nat.reduceBEq, Nat.reduceLT, Nat.reduceLeDiff, Nat.reduceAdd, Nat.reduceSub, reduceIte]
        refine ⟨baseAt l a, ⟨hbs, ?_⟩, by rw [hlr]; simp, ?_⟩
        · rw [he, hc, e, Bool.false_or]
        · rw [baseAt_eq gn]
      · have e2 : (lineL l a0).contains b = true := by rw [he, hc, e, Bool.true_or]
        simp only [Bool.not_true, e, EV, Nat.reduceEqDiff, Nat.reduceBEq, Nat.reduceLT, Nat.reduceLeDiff, Nat.reduceAdd, Nat.reduceSub, reduceIte]
        simp only [e2, EV, Nat.reduceEqDiff, Nat.reduceBEq, Nat.reduceLT, Nat.reduceLeDiff, Nat.reduceAdd, Nat.reduceSub, reduceIte, evRE, retVC, cellV', evR, nfz, nfzs, nfzss, List.contains_nil, List.contains_cons, Bool.or_false, or_true]
    · have hn : a < 0 := by have : ¬ 0 ≤ a := by simpa using h
                            omega
      have e1 : (a == b) = false := by simp; omega
      have e2 : (lineL l a0).contains b = false := by rw [he, lineL_neg hn]; rfl
      simp only [h, EV, Nat.reduceEqDiff, Nat.reduceBEq, Nat.reduceLT, Nat.reduceLeDiff, Nat.reduceAdd, Nat.reduceSub, reduceIte]
      simp only [e1, e2, EV, Nat.reduceEqDiff, Nat.reduceBEq, Nat.reduceLT, Nat.reduceLeDiff, Nat.reduceAdd, Nat.reduceSub, reduceIte, evRE, retVC, cellV', evR, nfz, nfzs, nfzss, List.contains_nil, List.contains_cons, Bool.or_false, or_true]

/-- loop.example/g00837/spec.l3Extends -/
def m60 : MC :=
  (.seq
   (.reg [⟨(some 6), none, .a (.asg (.c (.bool false)))⟩])
   (.seq
    (.block 0
     (.loop [0, 1, 2]
      (.seq
       (.seq
        (.reg [⟨(some 7), none, .q (.mov (.t 1))⟩,
          ⟨(some 8), none, .q (.bin false .geq (.t 7) (.c (.int .i64 0)))⟩])
        (.cond (.t 8)
         .skip
         (.exit 0)))
       (.seq
        (.block 1
         (.seq
          (.reg [⟨(some 14), none, .q (.mov (.t 1))⟩,
            ⟨(some 15), none, .q (.mov (.t 2))⟩,
            ⟨(some 16), none, .q (.bin false .eql (.t 14) (.t 15))⟩])
          (.cond (.t 16)
           (.seq
            (.reg [⟨(some 6), none, .a (.asg (.c (.bool true)))⟩])
            .ret)
           .skip)))
        (.reg [⟨(some 9), none, .q (.mov (.t 0))⟩,
          ⟨(some 10), none, .q (.mov (.t 1))⟩,
          ⟨(some 11), none, .q (.iad 6 (.t 9) (.t 10))⟩,
          ⟨(some 12), none, .q (.fad 2 (.t 11))⟩,
          ⟨(some 13), none, .q (.load false 1 (.t 12))⟩,
          ⟨(some 1), none, .a (.asg (.t 13))⟩])))))
    (.seq
     (.reg [⟨(some 6), none, .a (.asg (.c (.bool false)))⟩])
     .ret)))

set_option maxRecDepth 100000 in
theorem d60 (l : List Ty) (a0 b : Int) (hl : (l.length : Int) ≤ 1048576) (ht : tabOk l = true) (h0 : isL l a0) : Does Go.Proofs.Tryz.prog 60 [.fsl 6 (l.map Ty.z), .v (.int .i64 a0), .v (.int .i64 b)] false (.v (.bool ((lineL l a0).contains b))) [.dead, .dead, .dead] := by
  refine does_intro (mc := m60) (N := 17) (rs := [6]) (fx := []) 3 rfl (by decide +kernel) ?_
  simp only [m60, EV, Nat.reduceEqDiff, Nat.reduceBEq, Nat.reduceLT, Nat.reduceLeDiff, Nat.reduceAdd, Nat.reduceSub, reduceIte]
  refine awp_loop (fun a : Int => isL l a ∧ (lineL l a0).contains b = (lineL l a).contains b) (fun a => stl [(0, .fsl 6 (l.map Ty.z)), (1, .v (.int .i64 a)), (2, .v (.int .i64 b))]) (fun a => (lineL l a).length) a0 ⟨h0, rfl⟩ ?_ ?_
  · simp only [EV, Nat.reduceEqDiff, Nat.reduceBEq, Nat.reduceLT, Nat.reduceLeDiff, Nat.reduceAdd, Nat.reduceSub, reduceIte]
  · rintro a ⟨ha, he⟩
    simp only [EV, Nat.reduceEqDiff, Nat.reduceBEq, Nat.reduceLT, Nat.reduceLeDiff, Nat.reduceAdd, Nat.reduceSub, reduceIte]
    refine cK_cut (fun h => ?_) (fun h => ?_)
    · have hr : isRec l a = true := ha.resolve_left (by have : 0 ≤ a := by simpa using h
                                                        omega)
      obtain ⟨g0, g1, gn, _⟩ := isRec_in hr
      have hlr := lineL_rec ht hr
      have hbs := (isRec_base (tabOk_tys ht) hr).1
      have hc := line_contains_rec (b := b) ht hr
      simp only [h, EV, Nat.reduceEqDiff, Nat.reduceBEq, Nat.reduceLT, Nat.reduceLeDiff, Nat.reduceAdd, Nat.reduceSub, reduceIte]
      rcases e : (a == b) with _ | _
      · simp only [g0, g1, nth_map gn, Ty.z, EV, Nat.reduceEqDiff, Nat.reduceBEq, Nat.reduceLT, Nat.reduceLeDiff, Nat.reduceAdd, Nat.reduceSub, reduceIte]
        refine ⟨baseAt l a, ⟨hbs, ?_⟩, by rw [hlr]; simp, ?_⟩
        · rw [he, hc, e, Bool.false_or]
        · rw [baseAt_eq gn]
      · have e2 : (lineL l a0).contains b = true := by rw [he, hc, e, Bool.true_or]
        simp only [EV, Nat.reduceEqDiff, Nat.reduceBEq, Nat.reduceLT, Nat.reduceLeDiff, Nat.reduceAdd, Nat.reduceSub, reduceIte]
        simp only [e2, EV, Nat.reduceEqDiff, Nat.reduceBEq, Nat.reduceLT, Nat.reduceLeDiff, Nat.reduceAdd, Nat.reduceSub, reduceIte, evRE, retVC, cellV', evR, nfz, nfzs, nfzss, List.contains_nil, List.contains_cons, Bool.or_false, or_true]
    · have hn : a < 0 := by have : ¬ 0 ≤ a := by simpa using h
                            omega
      have e2 : (lineL l a0).contains b = false := by rw [he, lineL_neg hn]; rfl
      simp only [h, EV, Nat.reduceEqDiff, Nat.reduceBEq, Nat.reduceLT, Nat.reduceLeDiff, Nat.reduceAdd, Nat.reduceSub, reduceIte]
      simp only [e2, EV, Nat.reduceEqDiff, Nat.reduceBEq, Nat.reduceLT, Nat.reduceLeDiff, Nat.reduceAdd, Nat.reduceSub, reduceIte, evRE, retVC, cellV', evR, nfz, nfzs, nfzss, List.contains_nil, List.contains_cons, Bool.or_false, or_true]

noncomputable def mayT (l : List Ty) (x y : Int) (a b : Ty) : Bool :=
  if (x == y) = true then true else if (a.kind == b.kind) = false then false
  else if (a.kind == 5) = true then (lineL l y).contains x
  else if (a.kind == 6) = true then (a.base == b.base) || (isRec l a.base && (isRec l b.base && (lineL l b.base).contains a.base))
  else if (a.kind == 4) = true then (a.long == b.long) && (a.base == b.base) else false

noncomputable def mayL (l : List Ty) (x y : Int) : Bool := match l[x.toNat]?, l[y.toNat]? with
  | some a, some b => mayT l x y a b
  | _, _ => false

/-- loop.example/g00837/impl.mayPut -/
def m66 : MC :=
  (.seq
   (.reg [⟨(some 6), none, .a (.asg (.c (.bool false)))⟩])
   (.join [0, 1, 2, 7, 8]
    (.mixt [0, 1, 2] [0, 1, 2, 7, 8] [] [0, 1, 2] [0, 1, 2, 3, 4, 5, 6, 7]
      [⟨(some 9), none, .q (.mov (.t 0))⟩,
       ⟨(some 10), none, .q (.mov (.t 1))⟩,
       ⟨(some 11), none, .q (.iad 6 (.t 9) (.t 10))⟩,
       ⟨(some 12), none, .q (.load true 6 (.t 11))⟩,
       ⟨(some 13), none, .q (.mov (.t 0))⟩,
       ⟨(some 14), none, .q (.mov (.t 2))⟩,
       ⟨(some 15), none, .q (.iad 6 (.t 13) (.t 14))⟩,
       ⟨(some 16), none, .q (.load true 6 (.t 15))⟩]
      (.alt (.step 8 ⟨(some 7), none, .a (.alloc 40 [.v (.int .i64 0), .v (.int .i64 0), .v (.int .i64 0), .s 97 3, .v (.string ({ data := #[] })), .v (.string ({ data := #[] }))])⟩
      (.step 9 ⟨(some 8), none, .a (.alloc 40 [.v (.int .i64 0), .v (.int .i64 0), .v (.int .i64 0), .s 97 3, .v (.string ({ data := #[] })), .v (.string ({ data := #[] }))])⟩
       (.step 10 ⟨none, none, .a (.store 6 (.t 7) (.t 12))⟩
        (.step 11 ⟨none, none, .a (.store 6 (.t 8) (.t 16))⟩
         .nil))))
      (.step 9 ⟨(some 8), none, .a (.alloc 40 [.v (.int .i64 0), .v (.int .i64 0), .v (.int .i64 0), .s 97 3, .v (.string ({ data := #[] })), .v (.string ({ data := #[] }))])⟩
      (.step 8 ⟨(some 7), none, .a (.alloc 40 [.v (.int .i64 0), .v (.int .i64 0), .v (.int .i64 0), .s 97 3, .v (.string ({ data := #[] })), .v (.string ({ data := #[] }))])⟩
       (.step 10 ⟨none, none, .a (.store 6 (.t 7) (.t 12))⟩
        (.step 11 ⟨none, none, .a (.store 6 (.t 8) (.t 16))⟩
         .nil))))))
    (.seq
     (.block 0
      (.seq
       (.reg [⟨(some 18), none, .q (.mov (.t 1))⟩,
         ⟨(some 19), none, .q (.mov (.t 2))⟩,
         ⟨(some 20), none, .q (.bin false .eql (.t 18) (.t 19))⟩,
         ⟨(some 17), none, .a (.asg (.t 20))⟩])
       (.cond (.t 17)
        (.seq
         (.reg [⟨(some 6), none, .a (.asg (.c (.bool true)))⟩])
         .ret)
        (.seq
         (.reg [⟨(some 22), none, .q (.fad 0 (.t 7))⟩,
           ⟨(some 23), none, .q (.load false 1 (.t 22))⟩,
           ⟨(some 24), none, .q (.fad 0 (.t 8))⟩,
           ⟨(some 25), none, .q (.load false 1 (.t 24))⟩,
           ⟨(some 26), none, .q (.bin false .neq (.t 23) (.t 25))⟩,
           ⟨(some 21), none, .a (.asg (.t 26))⟩])
         (.cond (.t 21)
          (.seq
           (.reg [⟨(some 6), none, .a (.asg (.c (.bool false)))⟩])
           .ret)
          .skip)))))
     (.seq
      (.seq
       (.reg [⟨(some 27), none, .q (.fad 0 (.t 7))⟩,
         ⟨(some 28), none, .q (.load false 1 (.t 27))⟩])
       (.block 1
        (.seq
         (.reg [⟨(some 30), none, .q (.bin false .eql (.t 28) (.c (.int .i64 5)))⟩,
           ⟨(some 29), none, .a (.asg (.t 30))⟩])
         (.cond (.t 29)
          (.seq
           (.reg [⟨(some 31), none, .q (.mov (.t 0))⟩,
             ⟨(some 32), none, .q (.mov (.t 2))⟩,
             ⟨(some 33), none, .q (.mov (.t 1))⟩,
             ⟨(some 34), none, .a (.call (.fn 57) false [.lend (.t 31), .lend (.t 32), .lend (.t 33)])⟩,
             ⟨(some 6), none, .a (.asg (.t 34))⟩])
           .ret)
          (.seq
           (.reg [⟨(some 36), none, .q (.bin false .eql (.t 28) (.c (.int .i64 6)))⟩,
             ⟨(some 35), none, .a (.asg (.t 36))⟩])
           (.cond (.t 35)
            (.seq
             (.reg [⟨(some 37), none, .q (.fad 2 (.t 7))⟩,
               ⟨(some 38), none, .q (.load false 1 (.t 37))⟩,
               ⟨(some 39), none, .q (.fad 2 (.t 8))⟩,
               ⟨(some 40), none, .q (.load false 1 (.t 39))⟩,
               ⟨(some 41), none, .q (.bin false .eql (.t 38) (.t 40))⟩,
               ⟨(some 42), none, .q (.mov (.t 41))⟩,
               ⟨(some 43), (some (42, false)), .q (.mov (.t 0))⟩,
               ⟨(some 44), (some (42, false)), .q (.fad 2 (.t 7))⟩,
               ⟨(some 45), (some (42, false)), .q (.load false 1 (.t 44))⟩,
               ⟨(some 46), (some (42, false)), .a (.call (.fn 56) false [.lend (.t 43), .lend (.t 45)])⟩,
               ⟨(some 47), (some (42, false)), .q (.mov (.t 46))⟩,
               ⟨(some 48), (some (47, true)), .q (.mov (.t 0))⟩,
               ⟨(some 49), (some (47, true)), .q (.fad 2 (.t 8))⟩,
               ⟨(some 50), (some (47, true)), .q (.load false 1 (.t 49))⟩,
               ⟨(some 51), (some (47, true)), .a (.call (.fn 56) false [.lend (.t 48), .lend (.t 50)])⟩,
               ⟨(some 52), (some (42, false)), .q (.pick (.t 47) (.t 51) (.c (.bool false)))⟩,
               ⟨(some 53), (some (42, false)), .q (.mov (.t 52))⟩,
               ⟨(some 54), (some (53, true)), .q (.mov (.t 0))⟩,
               ⟨(some 55), (some (53, true)), .q (.fad 2 (.t 8))⟩,
               ⟨(some 56), (some (53, true)), .q (.load false 1 (.t 55))⟩,
               ⟨(some 57), (some (53, true)), .q (.fad 2 (.t 7))⟩,
               ⟨(some 58), (some (53, true)), .q (.load false 1 (.t 57))⟩,
               ⟨(some 59), (some (53, true)), .a (.call (.fn 57) false [.lend (.t 54), .lend (.t 56), .lend (.t 58)])⟩,
               ⟨(some 60), (some (42, false)), .q (.pick (.t 53) (.t 59) (.c (.bool false)))⟩,
               ⟨(some 61), none, .q (.pick (.t 42) (.c (.bool true)) (.t 60))⟩,
               ⟨(some 6), none, .a (.asg (.t 61))⟩])
             .ret)
            (.seq
             (.reg [⟨(some 63), none, .q (.bin false .eql (.t 28) (.c (.int .i64 4)))⟩,
               ⟨(some 62), none, .a (.asg (.t 63))⟩])
             (.cond (.t 62)
              (.seq
               (.reg [⟨(some 64), none, .q (.fad 1 (.t 7))⟩,
                 ⟨(some 65), none, .q (.load false 1 (.t 64))⟩,
                 ⟨(some 66), none, .q (.fad 1 (.t 8))⟩,
                 ⟨(some 67), none, .q (.load false 1 (.t 66))⟩,
                 ⟨(some 68), none, .q (.bin false .eql (.t 65) (.t 67))⟩,
                 ⟨(some 69), none, .q (.mov (.t 68))⟩,
                 ⟨(some 70), (some (69, true)), .q (.fad 2 (.t 7))⟩,
                 ⟨(some 71), (some (69, true)), .q (.load false 1 (.t 70))⟩,
                 ⟨(some 72), (some (69, true)), .q (.fad 2 (.t 8))⟩,
                 ⟨(some 73), (some (69, true)), .q (.load false 1 (.t 72))⟩,
                 ⟨(some 74), (some (69, true)), .q (.bin false .eql (.t 71) (.t 73))⟩,
                 ⟨(some 75), none, .q (.pick (.t 69) (.t 74) (.c (.bool false)))⟩,
                 ⟨(some 6), none, .a (.asg (.t 75))⟩])
               .ret)
              .skip))))))))
      (.seq
       (.reg [⟨(some 6), none, .a (.asg (.c (.bool false)))⟩])
       .ret)))))

set_option maxHeartbeats 1000000 in
set_option maxRecDepth 100000 in
theorem d66 (l : List Ty) (x y : Int) (hl : (l.length : Int) ≤ 1048576) (ht : tabOk l = true) (hx : 0 ≤ x ∧ x < (l.length : Int)) (hy : 0 ≤ y ∧ y < (l.length : Int)) :
    Does Go.Proofs.Tryz.prog 66 [.fsl 6 (l.map Ty.z), .v (.int .i64 x), .v (.int .i64 y)] false (.v (.bool (mayL l x y))) [.dead, .dead, .dead] := by
  have hxn : x.toNat < l.length := by omega
  have hyn : y.toNat < l.length := by omega
  have em : mayL l x y = mayT l x y l[x.toNat] l[y.toNat] := by simp [mayL, hxn, hyn]
  rw [em]
  refine does_intro (mc := m66) (N := 76) (rs := [6]) (fx := []) 3 rfl (by decide +kernel) ?_
  simp only [m66, EV, Nat.reduceEqDiff, Nat.reduceBEq, Nat.reduceLT, Nat.reduceLeDiff, Nat.reduceAdd, Nat.reduceSub, reduceIte]
  refine awp_join (fun _ : Unit => True) (fun _ => stl [(0, .fsl 6 (l.map Ty.z)), (1, .v (.int .i64 x)), (2, .v (.int .i64 y)), (7, .box 40 l[x.toNat].z), (8, .box 40 l[y.toNat].z)]) ?_ ?_
  · simp only [hx.1, hx.2, hy.1, hy.2, nth_map hxn, nth_map hyn, Ty.z, EV, Nat.reduceEqDiff, Nat.reduceBEq, Nat.reduceLT, Nat.reduceLeDiff, Nat.reduceAdd, Nat.reduceSub, reduceIte]
    exact ⟨(), trivial⟩
  rintro _ _
  have Gx := tysOk_good (tabOk_tys ht) hxn
  have Gy := tysOk_good (tabOk_tys ht) hyn
  have hkx : l[x.toNat].kind = kd l x := by simp [kd, hxn]
  have hky : l[y.toNat].kind = kd l y := by simp [kd, hyn]
  have hnx : isNum l x = true := isNum_in.2 hx
  have hny : isNum l y = true := isNum_in.2 hy
  rcases e1 : (x == y) with _ | _
  rotate_left
  · have e : mayT l x y l[x.toNat] l[y.toNat] = true := by unfold mayT; rw [if_pos e1]
    simp only [e1, Ty.z, EV, Nat.reduceEqDiff, Nat.reduceBEq, Nat.reduceLT, Nat.reduceLeDiff, Nat.reduceAdd, Nat.reduceSub, reduceIte]
    simp only [e, EV, Nat.reduceEqDiff, Nat.reduceBEq, Nat.reduceLT, Nat.reduceLeDiff, Nat.reduceAdd, Nat.reduceSub, reduceIte, evRE, retVC, cellV', evR, nfz, nfzs, nfzss, List.contains_nil, List.contains_cons, Bool.or_false, or_true]
  rcases e2 : (l[x.toNat].kind == l[y.toNat].kind) with _ | _
  · have e : mayT l x y l[x.toNat] l[y.toNat] = false := by unfold mayT; rw [e1, e2]; rfl
    simp only [e1, e2, bne, Bool.not_false, Ty.z, EV, Nat.reduceEqDiff, Nat.reduceBEq, Nat.reduceLT, Nat.reduceLeDiff, Nat.reduceAdd, Nat.reduceSub, reduceIte]
    simp only [e, EV, Nat.reduceEqDiff, Nat.reduceBEq, Nat.reduceLT, Nat.reduceLeDiff, Nat.reduceAdd, Nat.reduceSub, reduceIte, evRE, retVC, cellV', evR, nfz, nfzs, nfzss, List.contains_nil, List.contains_cons, Bool.or_false, or_true]
  rcases e5 : (l[x.toNat].kind == 5) with _ | _
  rotate_left
  · have e : mayT l x y l[x.toNat] l[y.toNat] = (lineL l y).contains x := by unfold mayT; rw [e1, e2, e5]; rfl
    have k5 : l[x.toNat].kind = 5 := by simpa using e5
    have k2 : l[x.toNat].kind = l[y.toNat].kind := by simpa using e2
    have hr : isRec l y = true := by
      simp only [isRec, hny, Bool.true_and, beq_iff_eq]; omega
    simp only [e1, e2, e5, bne, Bool.not_true, Ty.z, EV, Nat.reduceEqDiff, Nat.reduceBEq, Nat.reduceLT, Nat.reduceLeDiff, Nat.reduceAdd, Nat.reduceSub, reduceIte]
    refine callK_i (d57 l y x hl ht (.inr hr) hx.1) ?_
    simp only [EV, Nat.reduceEqDiff, Nat.reduceBEq, Nat.reduceLT, Nat.reduceLeDiff, Nat.reduceAdd, Nat.reduceSub, reduceIte]
    simp only [e, EV, Nat.reduceEqDiff, Nat.reduceBEq, Nat.reduceLT, Nat.reduceLeDiff, Nat.reduceAdd, Nat.reduceSub, reduceIte, evRE, retVC, cellV', evR, nfz, nfzs, nfzss, List.contains_nil, List.contains_cons, Bool.or_false, or_true]
  rcases e6 : (l[x.toNat].kind == 6) with _ | _
  rotate_left
  · have e : mayT l x y l[x.toNat] l[y.toNat] = ((l[x.toNat].base == l[y.toNat].base) || (isRec l l[x.toNat].base && (isRec l l[y.toNat].base && (lineL l l[y.toNat].base).contains l[x.toNat].base))) := by unfold mayT; rw [e1, e2, e5, e6]; rfl
    rw [e]
    simp only [e1, e2, e5, e6, bne, Bool.not_true, Ty.z, EV, Nat.reduceEqDiff, Nat.reduceBEq, Nat.reduceLT, Nat.reduceLeDiff, Nat.reduceAdd, Nat.reduceSub, reduceIte]
    rcases b1 : (l[x.toNat].base == l[y.toNat].base) with _ | _
    rotate_left
    · simp only [b1, EV, Nat.reduceEqDiff, Nat.reduceBEq, Nat.reduceLT, Nat.reduceLeDiff, Nat.reduceAdd, Nat.reduceSub, reduceIte]
      simp only [b1, Bool.true_or, EV, Nat.reduceEqDiff, Nat.reduceBEq, Nat.reduceLT, Nat.reduceLeDiff, Nat.reduceAdd, Nat.reduceSub, reduceIte, evRE, retVC, cellV', evR, nfz, nfzs, nfzss, List.contains_nil, List.contains_cons, Bool.or_false, or_true]
    simp only [b1, Ty.z, EV, Nat.reduceEqDiff, Nat.reduceBEq, Nat.reduceLT, Nat.reduceLeDiff, Nat.reduceAdd, Nat.reduceSub, reduceIte]
    refine callK_i (d56 l _ hl) ?_
    simp only [Ty.z, EV, Nat.reduceEqDiff, Nat.reduceBEq, Nat.reduceLT, Nat.reduceLeDiff, Nat.reduceAdd, Nat.reduceSub, reduceIte]
    rcases b2 : isRec l l[x.toNat].base with _ | _
    · simp only [EV, Nat.reduceEqDiff, Nat.reduceBEq, Nat.reduceLT, Nat.reduceLeDiff, Nat.reduceAdd, Nat.reduceSub, reduceIte]
      simp only [b1, b2, Bool.false_or, Bool.false_and, EV, Nat.reduceEqDiff, Nat.reduceBEq, Nat.reduceLT, Nat.reduceLeDiff, Nat.reduceAdd, Nat.reduceSub, reduceIte, evRE, retVC, cellV', evR, nfz, nfzs, nfzss, List.contains_nil, List.contains_cons, Bool.or_false, or_true]
    simp only [Ty.z, EV, Nat.reduceEqDiff, Nat.reduceBEq, Nat.reduceLT, Nat.reduceLeDiff, Nat.reduceAdd, Nat.reduceSub, reduceIte]
    refine callK_i (d56 l _ hl) ?_
    simp only [Ty.z, EV, Nat.reduceEqDiff, Nat.reduceBEq, Nat.reduceLT, Nat.reduceLeDiff, Nat.reduceAdd, Nat.reduceSub, reduceIte]
    rcases b3 : isRec l l[y.toNat].base with _ | _
    · simp only [EV, Nat.reduceEqDiff, Nat.reduceBEq, Nat.reduceLT, Nat.reduceLeDiff, Nat.reduceAdd, Nat.reduceSub, reduceIte]
      simp only [b1, b2, b3, Bool.false_or, Bool.false_and, Bool.true_and, EV, Nat.reduceEqDiff, Nat.reduceBEq, Nat.reduceLT, Nat.reduceLeDiff, Nat.reduceAdd, Nat.reduceSub, reduceIte, evRE, retVC, cellV', evR, nfz, nfzs, nfzss, List.contains_nil, List.contains_cons, Bool.or_false, or_true]
    simp only [Ty.z, EV, Nat.reduceEqDiff, Nat.reduceBEq, Nat.reduceLT, Nat.reduceLeDiff, Nat.reduceAdd, Nat.reduceSub, reduceIte]
    refine callK_i (d57 l _ _ hl ht (.inr b3) (isRec_in b2).1) ?_
    simp only [EV, Nat.reduceEqDiff, Nat.reduceBEq, Nat.reduceLT, Nat.reduceLeDiff, Nat.reduceAdd, Nat.reduceSub, reduceIte]
    simp only [b1, b2, b3, Bool.false_or, Bool.true_and, EV, Nat.reduceEqDiff, Nat.reduceBEq, Nat.reduceLT, Nat.reduceLeDiff, Nat.reduceAdd, Nat.reduceSub, reduceIte, evRE, retVC, cellV', evR, nfz, nfzs, nfzss, List.contains_nil, List.contains_cons, Bool.or_false, or_true]
  rcases e4 : (l[x.toNat].kind == 4) with _ | _
  · have e : mayT l x y l[x.toNat] l[y.toNat] = false := by unfold mayT; rw [e1, e2, e5, e6, e4]; rfl
    simp only [e1, e2, e5, e6, e4, bne, Bool.not_true, Ty.z, EV, Nat.reduceEqDiff, Nat.reduceBEq, Nat.reduceLT, Nat.reduceLeDiff, Nat.reduceAdd, Nat.reduceSub, reduceIte]
    simp only [e, EV, Nat.reduceEqDiff, Nat.reduceBEq, Nat.reduceLT, Nat.reduceLeDiff, Nat.reduceAdd, Nat.reduceSub, reduceIte, evRE, retVC, cellV', evR, nfz, nfzs, nfzss, List.contains_nil, List.contains_cons, Bool.or_false, or_true]
  · have e : mayT l x y l[x.toNat] l[y.toNat] = ((l[x.toNat].long == l[y.toNat].long) && (l[x.toNat].base == l[y.toNat].base)) := by unfold mayT; rw [e1, e2, e5, e6, e4]; rfl
    rw [e]
    simp only [e1, e2, e5, e6, e4, bne, Bool.not_true, Ty.z, EV, Nat.reduceEqDiff, Nat.reduceBEq, Nat.reduceLT, Nat.reduceLeDiff, Nat.reduceAdd, Nat.reduceSub, reduceIte]
    rcases b1 : (l[x.toNat].long == l[y.toNat].long) with _ | _
    · simp only [EV, Nat.reduceEqDiff, Nat.reduceBEq, Nat.reduceLT, Nat.reduceLeDiff, Nat.reduceAdd, Nat.reduceSub, reduceIte]
      simp only [b1, Bool.false_and, EV, Nat.reduceEqDiff, Nat.reduceBEq, Nat.reduceLT, Nat.reduceLeDiff, Nat.reduceAdd, Nat.reduceSub, reduceIte, evRE, retVC, cellV', evR, nfz, nfzs, nfzss, List.contains_nil, List.contains_cons, Bool.or_false, or_true]
    · simp only [EV, Nat.reduceEqDiff, Nat.reduceBEq, Nat.reduceLT, Nat.reduceLeDiff, Nat.reduceAdd, Nat.reduceSub, reduceIte]
      simp only [b1, Bool.true_and, EV, Nat.reduceEqDiff, Nat.reduceBEq, Nat.reduceLT, Nat.reduceLeDiff, Nat.reduceAdd, Nat.reduceSub, reduceIte, evRE, retVC, cellV', evR, nfz, nfzs, nfzss, List.contains_nil, List.contains_cons, Bool.or_false, or_true]

/-- loop.example/g00837/spec.l10Put -/
def m73 : MC :=
  (.seq
   (.reg [⟨(some 6), none, .a (.asg (.c (.bool false)))⟩])
   (.join [0, 1, 2, 7, 8]
    (.mixt [0, 1, 2] [0, 1, 2, 7, 8] [] [0, 1, 2] [0, 1, 2, 3, 4, 5, 6, 7]
      [⟨(some 9), none, .q (.mov (.t 0))⟩,
       ⟨(some 10), none, .q (.mov (.t 1))⟩,
       ⟨(some 11), none, .q (.iad 6 (.t 9) (.t 10))⟩,
       ⟨(some 12), none, .q (.load true 6 (.t 11))⟩,
       ⟨(some 13), none, .q (.mov (.t 0))⟩,
       ⟨(some 14), none, .q (.mov (.t 2))⟩,
       ⟨(some 15), none, .q (.iad 6 (.t 13) (.t 14))⟩,
       ⟨(some 16), none, .q (.load true 6 (.t 15))⟩]
      (.alt (.step 8 ⟨(some 7), none, .a (.alloc 40 [.v (.int .i64 0), .v (.int .i64 0), .v (.int .i64 0), .s 97 3, .v (.string ({ data := #[] })), .v (.string ({ data := #[] }))])⟩
      (.step 9 ⟨(some 8), none, .a (.alloc 40 [.v (.int .i64 0), .v (.int .i64 0), .v (.int .i64 0), .s 97 3, .v (.string ({ data := #[] })), .v (.string ({ data := #[] }))])⟩
       (.step 10 ⟨none, none, .a (.store 6 (.t 7) (.t 12))⟩
        (.step 11 ⟨none, none, .a (.store 6 (.t 8) (.t 16))⟩
         .nil))))
      (.step 9 ⟨(some 8), none, .a (.alloc 40 [.v (.int .i64 0), .v (.int .i64 0), .v (.int .i64 0), .s 97 3, .v (.string ({ data := #[] })), .v (.string ({ data := #[] }))])⟩
      (.step 8 ⟨(some 7), none, .a (.alloc 40 [.v (.int .i64 0), .v (.int .i64 0), .v (.int .i64 0), .s 97 3, .v (.string ({ data := #[] })), .v (.string ({ data := #[] }))])⟩
       (.step 10 ⟨none, none, .a (.store 6 (.t 7) (.t 12))⟩
        (.step 11 ⟨none, none, .a (.store 6 (.t 8) (.t 16))⟩
         .nil))))))
    (.seq
     (.block 0
      (.seq
       (.reg [⟨(some 18), none, .q (.mov (.t 1))⟩,
         ⟨(some 19), none, .q (.mov (.t 2))⟩,
         ⟨(some 20), none, .q (.bin false .eql (.t 18) (.t 19))⟩,
         ⟨(some 17), none, .a (.asg (.t 20))⟩])
       (.cond (.t 17)
        (.seq
         (.reg [⟨(some 6), none, .a (.asg (.c (.bool true)))⟩])
         .ret)
        (.seq
         (.reg [⟨(some 22), none, .q (.fad 0 (.t 7))⟩,
           ⟨(some 23), none, .q (.load false 1 (.t 22))⟩,
           ⟨(some 24), none, .q (.fad 0 (.t 8))⟩,
           ⟨(some 25), none, .q (.load false 1 (.t 24))⟩,
           ⟨(some 26), none, .q (.bin false .neq (.t 23) (.t 25))⟩,
           ⟨(some 21), none, .a (.asg (.t 26))⟩])
         (.cond (.t 21)
          (.seq
           (.reg [⟨(some 6), none, .a (.asg (.c (.bool false)))⟩])
           .ret)
          (.seq
           (.reg [⟨(some 28), none, .q (.fad 0 (.t 7))⟩,
             ⟨(some 29), none, .q (.load false 1 (.t 28))⟩,
             ⟨(some 30), none, .q (.bin false .eql (.t 29) (.c (.int .i64 5)))⟩,
             ⟨(some 27), none, .a (.asg (.t 30))⟩])
           (.cond (.t 27)
            (.seq
             (.reg [⟨(some 31), none, .q (.mov (.t 0))⟩,
               ⟨(some 32), none, .q (.mov (.t 2))⟩,
               ⟨(some 33), none, .q (.mov (.t 1))⟩,
               ⟨(some 34), none, .a (.call (.fn 60) false [.lend (.t 31), .lend (.t 32), .lend (.t 33)])⟩,
               ⟨(some 6), none, .a (.asg (.t 34))⟩])
             .ret)
            (.seq
             (.reg [⟨(some 36), none, .q (.fad 0 (.t 7))⟩,
               ⟨(some 37), none, .q (.load false 1 (.t 36))⟩,
               ⟨(some 38), none, .q (.bin false .eql (.t 37) (.c (.int .i64 6)))⟩,
               ⟨(some 35), none, .a (.asg (.t 38))⟩])
             (.cond (.t 35)
              (.seq
               (.reg [⟨(some 39), none, .q (.fad 2 (.t 7))⟩,
                 ⟨(some 40), none, .q (.load false 1 (.t 39))⟩,
                 ⟨(some 41), none, .q (.fad 2 (.t 8))⟩,
                 ⟨(some 42), none, .q (.load false 1 (.t 41))⟩,
                 ⟨(some 43), none, .q (.bin false .eql (.t 40) (.t 42))⟩,
                 ⟨(some 44), none, .q (.mov (.t 43))⟩,
                 ⟨(some 45), (some (44, false)), .q (.mov (.t 0))⟩,
                 ⟨(some 46), (some (44, false)), .q (.fad 2 (.t 7))⟩,
                 ⟨(some 47), (some (44, false)), .q (.load false 1 (.t 46))⟩,
                 ⟨(some 48), (some (44, false)), .q (.iad 6 (.t 45) (.t 47))⟩,
                 ⟨(some 49), (some (44, false)), .q (.fad 0 (.t 48))⟩,
                 ⟨(some 50), (some (44, false)), .q (.load false 1 (.t 49))⟩,
                 ⟨(some 51), (some (44, false)), .q (.bin false .eql (.t 50) (.c (.int .i64 5)))⟩,
                 ⟨(some 52), (some (44, false)), .q (.mov (.t 51))⟩,
                 ⟨(some 53), (some (52, true)), .q (.mov (.t 0))⟩,
                 ⟨(some 54), (some (52, true)), .q (.fad 2 (.t 8))⟩,
                 ⟨(some 55), (some (52, true)), .q (.load false 1 (.t 54))⟩,
                 ⟨(some 56), (some (52, true)), .q (.iad 6 (.t 53) (.t 55))⟩,
                 ⟨(some 57), (some (52, true)), .q (.fad 0 (.t 56))⟩,
                 ⟨(some 58), (some (52, true)), .q (.load false 1 (.t 57))⟩,
                 ⟨(some 59), (some (52, true)), .q (.bin false .eql (.t 58) (.c (.int .i64 5)))⟩,
                 ⟨(some 60), (some (44, false)), .q (.pick (.t 52) (.t 59) (.c (.bool false)))⟩,
                 ⟨(some 61), (some (44, false)), .q (.mov (.t 60))⟩,
                 ⟨(some 62), (some (61, true)), .q (.mov (.t 0))⟩,
                 ⟨(some 63), (some (61, true)), .q (.fad 2 (.t 8))⟩,
                 ⟨(some 64), (some (61, true)), .q (.load false 1 (.t 63))⟩,
                 ⟨(some 65), (some (61, true)), .q (.fad 2 (.t 7))⟩,
                 ⟨(some 66), (some (61, true)), .q (.load false 1 (.t 65))⟩,
                 ⟨(some 67), (some (61, true)), .a (.call (.fn 60) false [.lend (.t 62), .lend (.t 64), .lend (.t 66)])⟩,
                 ⟨(some 68), (some (44, false)), .q (.pick (.t 61) (.t 67) (.c (.bool false)))⟩,
                 ⟨(some 69), none, .q (.pick (.t 44) (.c (.bool true)) (.t 68))⟩,
                 ⟨(some 6), none, .a (.asg (.t 69))⟩])
               .ret)
              (.seq
               (.reg [⟨(some 71), none, .q (.fad 0 (.t 7))⟩,
                 ⟨(some 72), none, .q (.load false 1 (.t 71))⟩,
                 ⟨(some 73), none, .q (.bin false .eql (.t 72) (.c (.int .i64 4)))⟩,
                 ⟨(some 70), none, .a (.asg (.t 73))⟩])
               (.cond (.t 70)
                (.seq
                 (.reg [⟨(some 74), none, .q (.fad 1 (.t 7))⟩,
                   ⟨(some 75), none, .q (.load false 1 (.t 74))⟩,
                   ⟨(some 76), none, .q (.fad 1 (.t 8))⟩,
                   ⟨(some 77), none, .q (.load false 1 (.t 76))⟩,
                   ⟨(some 78), none, .q (.bin false .eql (.t 75) (.t 77))⟩,
                   ⟨(some 79), none, .q (.mov (.t 78))⟩,
                   ⟨(some 80), (some (79, true)), .q (.fad 2 (.t 7))⟩,
                   ⟨(some 81), (some (79, true)), .q (.load false 1 (.t 80))⟩,
                   ⟨(some 82), (some (79, true)), .q (.fad 2 (.t 8))⟩,
                   ⟨(some 83), (some (79, true)), .q (.load false 1 (.t 82))⟩,
                   ⟨(some 84), (some (79, true)), .q (.bin false .eql (.t 81) (.t 83))⟩,
                   ⟨(some 85), none, .q (.pick (.t 79) (.t 84) (.c (.bool false)))⟩,
                   ⟨(some 6), none, .a (.asg (.t 85))⟩])
                 .ret)
                .skip)))))))))))
     (.seq
      (.reg [⟨(some 6), none, .a (.asg (.c (.bool false)))⟩])
      .ret))))

set_option maxHeartbeats 1000000 in
set_option maxRecDepth 100000 in
theorem d73 (l : List Ty) (x y : Int) (hl : (l.length : Int) ≤ 1048576) (ht : tabOk l = true) (hx : 0 ≤ x ∧ x < (l.length : Int)) (hy : 0 ≤ y ∧ y < (l.length : Int)) :
    Does Go.Proofs.Tryz.prog 73 [.fsl 6 (l.map Ty.z), .v (.int .i64 x), .v (.int .i64 y)] false (.v (.bool (mayL l x y))) [.dead, .dead, .dead] := by
  have hxn : x.toNat < l.length := by omega
  have hyn : y.toNat < l.length := by omega
  have em : mayL l x y = mayT l x y l[x.toNat] l[y.toNat] := by simp [mayL, hxn, hyn]
  rw [em]
  refine does_intro (mc := m73) (N := 86) (rs := [6]) (fx := []) 3 rfl (by decide +kernel) ?_
  simp only [m73, EV, Nat.reduceEqDiff, Nat.reduceBEq, Nat.reduceLT, Nat.reduceLeDiff, Nat.reduceAdd, Nat.reduceSub, reduceIte]
  refine awp_join (fun _ : Unit => True) (fun _ => stl [(0, .fsl 6 (l.map Ty.z)), (1, .v (.int .i64 x)), (2, .v (.int .i64 y)), (7, .box 40 l[x.toNat].z), (8, .box 40 l[y.toNat].z)]) ?_ ?_
  · simp only [hx.1, hx.2, hy.1, hy.2, nth_map hxn, nth_map hyn, Ty.z, EV, Nat.reduceEqDiff, Nat.reduceBEq, Nat.reduceLT, Nat.reduceLeDiff, Nat.reduceAdd, Nat.reduceSub, reduceIte]
    exact ⟨(), trivial⟩
  rintro _ _
  have Gx := tysOk_good (tabOk_tys ht) hxn
  have Gy := tysOk_good (tabOk_tys ht) hyn
  have hkx : l[x.toNat].kind = kd l x := by simp [kd, hxn]
  have hky : l[y.toNat].kind = kd l y := by simp [kd, hyn]
  have hnx : isNum l x = true := isNum_in.2 hx
  have hny : isNum l y = true := isNum_in.2 hy
  rcases e1 : (x == y) with _ | _
  rotate_left
  · have e : mayT l x y l[x.toNat] l[y.toNat] = true := by unfold mayT; rw [if_pos e1]
    simp only [e1, Ty.z, EV, Nat.reduceEqDiff, Nat.reduceBEq, Nat.reduceLT, Nat.reduceLeDiff, Nat.reduceAdd, Nat.reduceSub, reduceIte]
    simp only [e, EV, Nat.reduceEqDiff, Nat.reduceBEq, Nat.reduceLT, Nat.reduceLeDiff, Nat.reduceAdd, Nat.reduceSub, reduceIte, evRE, retVC, cellV', evR, nfz, nfzs, nfzss, List.contains_nil, List.contains_cons, Bool.or_false, or_true]
  rcases e2 : (l[x.toNat].kind == l[y.toNat].kind) with _ | _
  · have e : mayT l x y l[x.toNat] l[y.toNat] = false := by unfold mayT; rw [e1, e2]; rfl
    simp only [e1, e2, bne, Bool.not_false, Ty.z, EV, Nat.reduceEqDiff, Nat.reduceBEq, Nat.reduceLT, Nat.reduceLeDiff, Nat.reduceAdd, Nat.reduceSub, reduceIte]
    simp only [e, EV, Nat.reduceEqDiff, Nat.reduceBEq, Nat.reduceLT, Nat.reduceLeDiff, Nat.reduceAdd, Nat.reduceSub, reduceIte, evRE, retVC, cellV', evR, nfz, nfzs, nfzss, List.contains_nil, List.contains_cons, Bool.or_false, or_true]
  rcases e5 : (l[x.toNat].kind == 5) with _ | _
  rotate_left
  · have e : mayT l x y l[x.toNat] l[y.toNat] = (lineL l y).contains x := by unfold mayT; rw [e1, e2, e5]; rfl
    have k5 : l[x.toNat].kind = 5 := by simpa using e5
    have k2 : l[x.toNat].kind = l[y.toNat].kind := by simpa using e2
    have hr : isRec l y = true := by
      simp only [isRec, hny, Bool.true_and, beq_iff_eq]; omega
    simp only [e1, e2, e5, bne, Bool.not_true, Ty.z, EV, Nat.reduceEqDiff, Nat.reduceBEq, Nat.reduceLT, Nat.reduceLeDiff, Nat.reduceAdd, Nat.reduceSub, reduceIte]
    refine callK_i (d60 l y x hl ht (.inr hr)) ?_
    simp only [EV, Nat.reduceEqDiff, Nat.reduceBEq, Nat.reduceLT, Nat.reduceLeDiff, Nat.reduceAdd, Nat.reduceSub, reduceIte]
    simp only [e, EV, Nat.reduceEqDiff, Nat.reduceBEq, Nat.reduceLT, Nat.reduceLeDiff, Nat.reduceAdd, Nat.reduceSub, reduceIte, evRE, retVC, cellV', evR, nfz, nfzs, nfzss, List.contains_nil, List.contains_cons, Bool.or_false, or_true]
  rcases e6 : (l[x.toNat].kind == 6) with _ | _
  rotate_left
  · have e : mayT l x y l[x.toNat] l[y.toNat] = ((l[x.toNat].base == l[y.toNat].base) || (isRec l l[x.toNat].base && (isRec l l[y.toNat].base && (lineL l l[y.toNat].base).contains l[x.toNat].base))) := by unfold mayT; rw [e1, e2, e5, e6]; rfl
    have k6 : l[x.toNat].kind = 6 := by simpa using e6
    have k2 : l[x.toNat].kind = l[y.toNat].kind := by simpa using e2
    have px := (Gx.ptr k6).1
    have py := (Gy.ptr (by omega)).1
    obtain ⟨p0, p1, pn, pk⟩ := isNum_lt px
    obtain ⟨r0, r1, rn, rk'⟩ := isNum_lt py
    have ix : isRec l l[x.toNat].base = (l[l[x.toNat].base.toNat].kind == 5) := by simp only [isRec, px, pk, Bool.true_and]
    have iy : isRec l l[y.toNat].base = (l[l[y.toNat].base.toNat].kind == 5) := by simp only [isRec, py, rk', Bool.true_and]
    rw [e]
    simp only [e1, e2, e5, e6, bne, Bool.not_true, Ty.z, EV, Nat.reduceEqDiff, Nat.reduceBEq, Nat.reduceLT, Nat.reduceLeDiff, Nat.reduceAdd, Nat.reduceSub, reduceIte]
    rcases b1 : (l[x.toNat].base == l[y.toNat].base) with _ | _
    rotate_left
    · simp only [b1, EV, Nat.reduceEqDiff, Nat.reduceBEq, Nat.reduceLT, Nat.reduceLeDiff, Nat.reduceAdd, Nat.reduceSub, reduceIte]
      simp only [b1, Bool.true_or, EV, Nat.reduceEqDiff, Nat.reduceBEq, Nat.reduceLT, Nat.reduceLeDiff, Nat.reduceAdd, Nat.reduceSub, reduceIte, evRE, retVC, cellV', evR, nfz, nfzs, nfzss, List.contains_nil, List.contains_cons, Bool.or_false, or_true]
    simp only [b1, p0, p1, nth_map pn, Ty.z, EV, Nat.reduceEqDiff, Nat.reduceBEq, Nat.reduceLT, Nat.reduceLeDiff, Nat.reduceAdd, Nat.reduceSub, reduceIte]
    rw [← ix]
    rcases b2 : isRec l l[x.toNat].base with _ | _
    · simp only [EV, Nat.reduceEqDiff, Nat.reduceBEq, Nat.reduceLT, Nat.reduceLeDiff, Nat.reduceAdd, Nat.reduceSub, reduceIte]
      simp only [b1, b2, Bool.false_or, Bool.false_and, EV, Nat.reduceEqDiff, Nat.reduceBEq, Nat.reduceLT, Nat.reduceLeDiff, Nat.reduceAdd, Nat.reduceSub, reduceIte, evRE, retVC, cellV', evR, nfz, nfzs, nfzss, List.contains_nil, List.contains_cons, Bool.or_false, or_true]
    simp only [r0, r1, nth_map rn, Ty.z, EV, Nat.reduceEqDiff, Nat.reduceBEq, Nat.reduceLT, Nat.reduceLeDiff, Nat.reduceAdd, Nat.reduceSub, reduceIte]
    rw [← iy]
    rcases b3 : isRec l l[y.toNat].base with _ | _
    · simp only [EV, Nat.reduceEqDiff, Nat.reduceBEq, Nat.reduceLT, Nat.reduceLeDiff, Nat.reduceAdd, Nat.reduceSub, reduceIte]
      simp only [b1, b2, b3, Bool.false_or, Bool.false_and, Bool.true_and, EV, Nat.reduceEqDiff, Nat.reduceBEq, Nat.reduceLT, Nat.reduceLeDiff, Nat.reduceAdd, Nat.reduceSub, reduceIte, evRE, retVC, cellV', evR, nfz, nfzs, nfzss, List.contains_nil, List.contains_cons, Bool.or_false, or_true]
    simp only [Ty.z, EV, Nat.reduceEqDiff, Nat.reduceBEq, Nat.reduceLT, Nat.reduceLeDiff, Nat.reduceAdd, Nat.reduceSub, reduceIte]
    refine callK_i (d60 l _ _ hl ht (.inr b3)) ?_
    simp only [EV, Nat.reduceEqDiff, Nat.reduceBEq, Nat.reduceLT, Nat.reduceLeDiff, Nat.reduceAdd, Nat.reduceSub, reduceIte]
    simp only [b1, b2, b3, Bool.false_or, Bool.true_and, EV, Nat.reduceEqDiff, Nat.reduceBEq, Nat.reduceLT, Nat.reduceLeDiff, Nat.reduceAdd, Nat.reduceSub, reduceIte, evRE, retVC, cellV', evR, nfz, nfzs, nfzss, List.contains_nil, List.contains_cons, Bool.or_false, or_true]
  rcases e4 : (l[x.toNat].kind == 4) with _ | _
  · have e : mayT l x y l[x.toNat] l[y.toNat] = false := by unfold mayT; rw [e1, e2, e5, e6, e4]; rfl
    simp only [e1, e2, e5, e6, e4, bne, Bool.not_true, Ty.z, EV, Nat.reduceEqDiff, Nat.reduceBEq, Nat.reduceLT, Nat.reduceLeDiff, Nat.reduceAdd, Nat.reduceSub, reduceIte]
    simp only [e, EV, Nat.reduceEqDiff, Nat.reduceBEq, Nat.reduceLT, Nat.reduceLeDiff, Nat.reduceAdd, Nat.reduceSub, reduceIte, evRE, retVC, cellV', evR, nfz, nfzs, nfzss, List.contains_nil, List.contains_cons, Bool.or_false, or_true]
  · have e : mayT l x y l[x.toNat] l[y.toNat] = ((l[x.toNat].long == l[y.toNat].long) && (l[x.toNat].base == l[y.toNat].base)) := by unfold mayT; rw [e1, e2, e5, e6, e4]; rfl
    rw [e]
    simp only [e1, e2, e5, e6, e4, bne, Bool.not_true, Ty.z, EV, Nat.reduceEqDiff, Nat.reduceBEq, Nat.reduceLT, Nat.reduceLeDiff, Nat.reduceAdd, Nat.reduceSub, reduceIte]
    rcases b1 : (l[x.toNat].long == l[y.toNat].long) with _ | _
    · simp only [EV, Nat.reduceEqDiff, Nat.reduceBEq, Nat.reduceLT, Nat.reduceLeDiff, Nat.reduceAdd, Nat.reduceSub, reduceIte]
      simp only [b1, Bool.false_and, EV, Nat.reduceEqDiff, Nat.reduceBEq, Nat.reduceLT, Nat.reduceLeDiff, Nat.reduceAdd, Nat.reduceSub, reduceIte, evRE, retVC, cellV', evR, nfz, nfzs, nfzss, List.contains_nil, List.contains_cons, Bool.or_false, or_true]
    · simp only [EV, Nat.reduceEqDiff, Nat.reduceBEq, Nat.reduceLT, Nat.reduceLeDiff, Nat.reduceAdd, Nat.reduceSub, reduceIte]
      simp only [b1, Bool.true_and, EV, Nat.reduceEqDiff, Nat.reduceBEq, Nat.reduceLT, Nat.reduceLeDiff, Nat.reduceAdd, Nat.reduceSub, reduceIte, evRE, retVC, cellV', evR, nfz, nfzs, nfzss, List.contains_nil, List.contains_cons, Bool.or_false, or_true]

end Go.AM
namespace Go.AM
set_option linter.unusedVariables false
set_option linter.unusedSimpArgs false
noncomputable def parFit (l : List Ty) (p : Par) (k : Int) : Bool := p.typ == k || (!p.byvar && mayL l p.typ k)

noncomputable def fitTo (l : List Ty) (ps : List Par) (ks : List Int) (n : Nat) : Prop := ∀ i (h : i < ps.length) (g : i < ks.length), i < n → parFit l ps[i] ks[i] = true

open Classical in
noncomputable def fitL (l : List Ty) (ps : List Par) (ks : List Int) : Bool := decide (ps.length = ks.length ∧ fitTo l ps ks ps.length)

theorem fitTo_succ {l : List Ty} {ps : List Par} {ks : List Int} {i : Nat} (h : i < ps.length) (g : i < ks.length) (h1 : fitTo l ps ks i) (h2 : parFit l ps[i] ks[i] = true) : fitTo l ps ks (i + 1) := by
  intro j hj gj hji
  by_cases e : j = i
  · subst e; exact h2
  · exact h1 j hj gj (by omega)

theorem fitL_no {l : List Ty} {ps : List Par} {ks : List Int} {i : Nat} (h : i < ps.length) (g : i < ks.length) (h2 : parFit l ps[i] ks[i] = false) : fitL l ps ks = false := by
  simp only [fitL, decide_eq_false_iff_not]
  rintro ⟨_, h1⟩
  have := h1 i h g h
  rw [h2] at this; cases this

theorem fitL_ne {l : List Ty} {ps : List Par} {ks : List Int} (h : ¬ ps.length = ks.length) : fitL l ps ks = false := by simp [fitL, h]

theorem fitL_yes {l : List Ty} {ps : List Par} {ks : List Int} (h : ps.length = ks.length) (h1 : fitTo l ps ks ps.length) : fitL l ps ks = true := by simp [fitL, h]; rw [← h]; exact h1

/-- slices.EqualFunc[[]loop.example/g00837/impl.Param,[]int,loop.example/g00837/impl.Param,int] -/
def m81 : MC :=
  (.seq
   (.reg [⟨(some 6), none, .a (.asg (.c (.bool false)))⟩])
   (.seq
    (.seq
     (.reg [⟨(some 10), none, .q (.mov (.t 0))⟩,
       ⟨(some 11), none, .q (.len false (.t 10))⟩,
       ⟨(some 12), none, .q (.mov (.t 1))⟩,
       ⟨(some 13), none, .q (.len false (.t 12))⟩,
       ⟨(some 14), none, .q (.bin false .neq (.t 11) (.t 13))⟩])
     (.cond (.t 14)
      (.seq
       (.reg [⟨(some 6), none, .a (.asg (.c (.bool false)))⟩])
       .ret)
      .skip))
    (.seq
     (.seq
      (.reg [⟨(some 15), none, .q (.mov (.t 0))⟩,
        ⟨(some 16), none, .q (.len false (.t 15))⟩,
        ⟨(some 17), none, .q (.mov (.c (.int .i64 0)))⟩])
      (.block 0
       (.loop [0, 1, 2, 15, 16, 17]
        (.seq
         (.reg [⟨(some 18), none, .q (.bin false .lss (.t 17) (.t 16))⟩])
         (.seq
          (.cond (.t 18)
           .skip
           (.exit 0))
          (.seq
           (.block 1
            (.seq
             (.reg [⟨(some 19), none, .q (.mov (.t 17))⟩,
               ⟨(some 20), none, .q (.iad 3 (.t 15) (.t 17))⟩,
               ⟨(some 21), none, .q (.load true 3 (.t 20))⟩,
               ⟨(some 8), none, .a (.alloc 54 [.v (.string ({ data := #[] })), .v (.bool false), .v (.int .i64 0)])⟩,
               ⟨(some 7), none, .a (.asg (.t 19))⟩,
               ⟨none, none, .a (.store 3 (.t 8) (.t 21))⟩])
             (.seq
              (.reg [⟨(some 22), none, .q (.mov (.t 1))⟩,
                ⟨(some 23), none, .q (.mov (.t 7))⟩,
                ⟨(some 24), none, .q (.iad 1 (.t 22) (.t 23))⟩,
                ⟨(some 25), none, .q (.load false 1 (.t 24))⟩,
                ⟨(some 9), none, .a (.asg (.t 25))⟩])
              (.seq
               (.reg [⟨(some 26), none, .q (.mov (.t 2))⟩,
                 ⟨(some 27), none, .q (.load true 3 (.t 8))⟩,
                 ⟨(some 28), none, .q (.mov (.t 9))⟩,
                 ⟨(some 29), none, .a (.call (.t 26) false [.lend (.t 27), .lend (.t 28)])⟩,
                 ⟨(some 30), none, .q (.un .not (.t 29))⟩])
               (.cond (.t 30)
                (.seq
                 (.reg [⟨(some 6), none, .a (.asg (.c (.bool false)))⟩])
                 .ret)
                .skip)))))
           (.reg [⟨(some 31), none, .q (.bin false .add (.t 17) (.c (.int .i64 1)))⟩,
             ⟨(some 17), none, .q (.mov (.t 31))⟩])))))))
     (.seq
      (.reg [⟨(some 6), none, .a (.asg (.c (.bool true)))⟩])
      .ret))))

set_option maxRecDepth 100000 in
theorem d81 (l : List Ty) (ps : List Par) (ks : List Int) (hp : (ps.length : Int) ≤ 1048576) (hk : (ks.length : Int) ≤ 1048576) (f : Nat) (caps : List AV) (hp' : plains caps = true) (hb : bares caps = true) (hkk : ∀ K, killVs K caps = caps) (hf : ∀ (st : St), frzBs st caps = caps)
    (hq : ∀ p ∈ ps, ∀ k ∈ ks, Does Go.Proofs.Tryz.prog f (.agg p.z :: .v (.int .i64 k) :: caps) false (.v (.bool (parFit l p k))) (.dead :: .dead :: caps.map fun _ => .dead)) :
    Does Go.Proofs.Tryz.prog 81 [.fsl 3 (ps.map Par.z), .fsl 1 (ks.map iv), .clo f caps] false (.v (.bool (fitL l ps ks))) [.dead, .dead, .dead] := by
  refine does_intro (mc := m81) (N := 32) (rs := [6]) (fx := []) 3 rfl (by decide +kernel) ?_
  simp only [m81, EV, Nat.reduceEqDiff, Nat.reduceBEq, Nat.reduceLT, Nat.reduceLeDiff, Nat.reduceAdd, Nat.reduceSub, reduceIte]
  refine cK_cut (fun h => ?_) (fun h => ?_)
  · have h1 : ¬ ps.length = ks.length := by intro e; simp [e] at h
    simp only [EV, Nat.reduceEqDiff, Nat.reduceBEq, Nat.reduceLT, Nat.reduceLeDiff, Nat.reduceAdd, Nat.reduceSub, reduceIte]
    simp only [fitL_ne h1, EV, Nat.reduceEqDiff, Nat.reduceBEq, Nat.reduceLT, Nat.reduceLeDiff, Nat.reduceAdd, Nat.reduceSub, reduceIte, evRE, retVC, cellV', evR, nfz, nfzs, nfzss, List.contains_nil, List.contains_cons, Bool.or_false, or_true]
  have hl : ps.length = ks.length := by have : ((ps.length : Int) = ks.length) := by simpa using h
                                        omega
  clear h
  simp only [EV, Nat.reduceEqDiff, Nat.reduceBEq, Nat.reduceLT, Nat.reduceLeDiff, Nat.reduceAdd, Nat.reduceSub, reduceIte]
  refine awp_loop (fun i : Nat => i ≤ ps.length ∧ fitTo l ps ks i) (fun i => stl [(0, .fsl 3 (ps.map Par.z)), (1, .fsl 1 (ks.map iv)), (2, .clo f caps), (15, .fsl 3 (ps.map Par.z)), (16, .v (.int .i64 (ps.length : Int))), (17, .v (.int .i64 (i : Int)))]) (fun i => ps.length - i) 0 ⟨Nat.zero_le _, fun j hj _ h => absurd h (by omega)⟩ ?_ ?_
  · simp only [hp', hb, hkk, EV, Nat.reduceEqDiff, Nat.reduceBEq, Nat.reduceLT, Nat.reduceLeDiff, Nat.reduceAdd, Nat.reduceSub, reduceIte]
    rfl
  rintro i ⟨hi, hok⟩
  rcases h : decide ((i : Int) < (ps.length : Int)) with _ | _
  rotate_left
  · have h1 : i < ps.length := by simpa using h
    have h2 : (i : Int) < (ps.length : Int) := by omega
    have g1 : i < ks.length := by omega
    have g2 : (i : Int) < (ks.length : Int) := by omega
    have dq := hq _ (List.getElem_mem h1) _ (List.getElem_mem g1)
    simp only [Par.z] at dq
    simp only [h, EV, Nat.reduceEqDiff, Nat.reduceBEq, Nat.reduceLT, Nat.reduceLeDiff, Nat.reduceAdd, Nat.reduceSub, reduceIte]
    simp only [ParE, nth_map h1, h2, nth_map g1, g2, iv, hp', hb, hkk, Par.z, EV, Nat.reduceEqDiff, Nat.reduceBEq, Nat.reduceLT, Nat.reduceLeDiff, Nat.reduceAdd, Nat.reduceSub, reduceIte]
    refine callK_i dq ?_
    simp only [EV, Nat.reduceEqDiff, Nat.reduceBEq, Nat.reduceLT, Nat.reduceLeDiff, Nat.reduceAdd, Nat.reduceSub, reduceIte]
    rcases e1 : parFit l ps[i] ks[i] with _ | _
    · simp only [Bool.not_false, EV, Nat.reduceEqDiff, Nat.reduceBEq, Nat.reduceLT, Nat.reduceLeDiff, Nat.reduceAdd, Nat.reduceSub, reduceIte]
      simp only [fitL_no h1 g1 e1, EV, Nat.reduceEqDiff, Nat.reduceBEq, Nat.reduceLT, Nat.reduceLeDiff, Nat.reduceAdd, Nat.reduceSub, reduceIte, evRE, retVC, cellV', evR, nfz, nfzs, nfzss, List.contains_nil, List.contains_cons, Bool.or_false, or_true]
    · simp only [Bool.not_true, hp', hb, hkk, EV, Nat.reduceEqDiff, Nat.reduceBEq, Nat.reduceLT, Nat.reduceLeDiff, Nat.reduceAdd, Nat.reduceSub, reduceIte]
      rw [w64 _ (by omega)]
      exact ⟨i + 1, ⟨h1, fitTo_succ h1 g1 hok e1⟩, by omega, rfl⟩
  have h1 : i = ps.length := by have : ¬ (i : Int) < ps.length := by simpa using h
                                omega
  subst h1
  simp only [h, EV, Nat.reduceEqDiff, Nat.reduceBEq, Nat.reduceLT, Nat.reduceLeDiff, Nat.reduceAdd, Nat.reduceSub, reduceIte]
  simp only [fitL_yes hl hok, EV, Nat.reduceEqDiff, Nat.reduceBEq, Nat.reduceLT, Nat.reduceLeDiff, Nat.reduceAdd, Nat.reduceSub, reduceIte, evRE, retVC, cellV', evR, nfz, nfzs, nfzss, List.contains_nil, List.contains_cons, Bool.or_false, or_true]

/-- loop.example/g00837/spec.l1All -/
def m84 : MC :=
  (.seq
   (.reg [⟨(some 6), none, .a (.asg (.c (.bool false)))⟩])
   (.seq
    (.seq
     (.reg [⟨(some 9), none, .q (.mov (.t 0))⟩,
       ⟨(some 10), none, .q (.len false (.t 9))⟩,
       ⟨(some 11), none, .q (.mov (.c (.int .i64 0)))⟩])
     (.block 0
      (.loop [0, 1, 2, 9, 10, 11]
       (.seq
        (.reg [⟨(some 12), none, .q (.bin false .lss (.t 11) (.t 10))⟩])
        (.seq
         (.cond (.t 12)
          .skip
          (.exit 0))
         (.seq
          (.block 1
           (.seq
            (.reg [⟨(some 13), none, .q (.iad 1 (.t 9) (.t 11))⟩,
              ⟨(some 14), none, .q (.load false 1 (.t 13))⟩,
              ⟨(some 8), none, .a (.asg (.t 14))⟩])
            (.seq
             (.reg [⟨(some 15), none, .q (.mov (.t 8))⟩,
               ⟨(some 16), none, .q (.mov (.t 1))⟩,
               ⟨(some 17), none, .q (.mov (.t 2))⟩,
               ⟨(some 18), none, .a (.call (.fn 72) false [.lend (.t 15), .lend (.t 16), .lend (.t 17)])⟩,
               ⟨(some 19), none, .q (.un .not (.t 18))⟩])
             (.cond (.t 19)
              (.seq
               (.reg [⟨(some 6), none, .a (.asg (.c (.bool false)))⟩])
               .ret)
              .skip))))
          (.reg [⟨(some 20), none, .q (.bin false .add (.t 11) (.c (.int .i64 1)))⟩,
            ⟨(some 11), none, .q (.mov (.t 20))⟩])))))))
    (.seq
     (.reg [⟨(some 6), none, .a (.asg (.c (.bool true)))⟩])
     .ret)))

theorem d84 (l : List Int) (a b : Int) (hl : (l.length : Int) ≤ 1048576) : Does Go.Proofs.Tryz.prog 84 [.fsl 1 (l.map iv), .v (.int .i64 a), .v (.int .i64 b)] false (.v (.bool (!(l.any fun k => !(decide (a ≤ k) && decide (k ≤ b)))))) [.dead, .dead, .dead] := by
  refine does_intro (mc := m84) (N := 21) (rs := [6]) (fx := []) 3 rfl (by decide +kernel) ?_
  simp only [m84, EV, Nat.reduceEqDiff, Nat.reduceBEq, Nat.reduceLT, Nat.reduceLeDiff, Nat.reduceAdd, Nat.reduceSub, reduceIte]
  refine awp_loop (fun i : Nat => i ≤ l.length ∧ ((l.take i).any fun k => !(decide (a ≤ k) && decide (k ≤ b))) = false) (fun i => stl [(0, .fsl 1 (l.map iv)), (1, .v (.int .i64 a)), (2, .v (.int .i64 b)), (9, .fsl 1 (l.map iv)), (10, .v (.int .i64 (l.length : Int))), (11, .v (.int .i64 (i : Int)))]) (fun i => l.length - i) 0 ⟨Nat.zero_le _, by simp⟩ ?_ ?_
  · simp only [EV, Nat.reduceEqDiff, Nat.reduceBEq, Nat.reduceLT, Nat.reduceLeDiff, Nat.reduceAdd, Nat.reduceSub, reduceIte]
    rfl
  rintro i ⟨hi, hno⟩
  rcases h : decide ((i : Int) < (l.length : Int)) with _ | _
  rotate_left
  · have h1 : i < l.length := by simpa using h
    have h2 : (i : Int) < (l.length : Int) := by omega
    simp only [h, EV, Nat.reduceEqDiff, Nat.reduceBEq, Nat.reduceLT, Nat.reduceLeDiff, Nat.reduceAdd, Nat.reduceSub, reduceIte]
    simp only [nth_map h1, h2, iv, EV, Nat.reduceEqDiff, Nat.reduceBEq, Nat.reduceLT, Nat.reduceLeDiff, Nat.reduceAdd, Nat.reduceSub, reduceIte]
    refine callK_i (d72 l[i] a b) ?_
    simp only [EV, Nat.reduceEqDiff, Nat.reduceBEq, Nat.reduceLT, Nat.reduceLeDiff, Nat.reduceAdd, Nat.reduceSub, reduceIte]
    rcases e1 : (decide (a ≤ l[i]) && decide (l[i] ≤ b)) with _ | _
    · have e2 : (l.any fun k => !(decide (a ≤ k) && decide (k ≤ b))) = true := List.any_eq_true.2 ⟨_, List.getElem_mem h1, by rw [e1]; rfl⟩
      simp only [Bool.not_false, EV, Nat.reduceEqDiff, Nat.reduceBEq, Nat.reduceLT, Nat.reduceLeDiff, Nat.reduceAdd, Nat.reduceSub, reduceIte]
      simp only [e2, Bool.not_true, EV, Nat.reduceEqDiff, Nat.reduceBEq, Nat.reduceLT, Nat.reduceLeDiff, Nat.reduceAdd, Nat.reduceSub, reduceIte, evRE, retVC, cellV', evR, nfz, nfzs, nfzss, List.contains_nil, List.contains_cons, Bool.or_false, or_true]
    · simp only [Bool.not_true, EV, Nat.reduceEqDiff, Nat.reduceBEq, Nat.reduceLT, Nat.reduceLeDiff, Nat.reduceAdd, Nat.reduceSub, reduceIte]
      rw [w64 _ (by omega)]
      exact ⟨i + 1, ⟨h1, by rw [List.take_succ_eq_append_getElem h1, List.any_append, hno]; simp only [List.any_cons, List.any_nil, e1, Bool.not_true, Bool.or_self]⟩, by omega, rfl⟩
  have h1 : i = l.length := by have : ¬ (i : Int) < l.length := by simpa using h
                               omega
  subst h1
  rw [List.take_length] at hno
  simp only [h, EV, Nat.reduceEqDiff, Nat.reduceBEq, Nat.reduceLT, Nat.reduceLeDiff, Nat.reduceAdd, Nat.reduceSub, reduceIte]
  simp only [hno, Bool.not_false, EV, Nat.reduceEqDiff, Nat.reduceBEq, Nat.reduceLT, Nat.reduceLeDiff, Nat.reduceAdd, Nat.reduceSub, reduceIte, evRE, retVC, cellV', evR, nfz, nfzs, nfzss, List.contains_nil, List.contains_cons, Bool.or_false, or_true]

/-- loop.example/g00837/impl.MayCall$1 -/
def m80 : MC :=
  (.seq
   (.reg [⟨(some 3), none, .a (.asg (.c (.bool false)))⟩])
   (.seq
    (.reg [⟨(some 4), none, .q (.fad 2 (.t 1))⟩,
      ⟨(some 5), none, .q (.load false 1 (.t 4))⟩,
      ⟨(some 6), none, .q (.mov (.t 0))⟩,
      ⟨(some 7), none, .a (.call (.fn 61) false [.lend (.t 5), .lend (.t 6)])⟩,
      ⟨(some 8), none, .q (.un .not (.t 7))⟩,
      ⟨(some 3), none, .a (.asg (.t 8))⟩])
    .ret))

theorem d80 (s : Scope) (n : Int) (hl : (s.types.length : Int) ≤ 1048576) : Does Go.Proofs.Tryz.prog 80 [.v (.int .i64 n), .fptr s.z] false (.v (.bool (!isNum s.types n))) [.dead, .dead] := by
  refine does_intro (mc := m80) (N := 9) (rs := [3]) (fx := []) 2 rfl (by decide +kernel) ?_
  simp only [m80, Scope.z, EV, Nat.reduceEqDiff, Nat.reduceBEq, Nat.reduceLT, Nat.reduceLeDiff, Nat.reduceAdd, Nat.reduceSub, reduceIte]
  refine callK_i (d61 s.types n hl) ?_
  simp only [EV, Nat.reduceEqDiff, Nat.reduceBEq, Nat.reduceLT, Nat.reduceLeDiff, Nat.reduceAdd, Nat.reduceSub, reduceIte]
  simp only [EV, Nat.reduceEqDiff, Nat.reduceBEq, Nat.reduceLT, Nat.reduceLeDiff, Nat.reduceAdd, Nat.reduceSub, reduceIte, evRE, retVC, cellV', evR, nfz, nfzs, nfzss, List.contains_nil, List.contains_cons, Bool.or_false, or_true]

/-- loop.example/g00837/impl.MayCall$2 -/
def m82 : MC :=
  (.seq
   (.reg [⟨(some 3), none, .a (.box 54 (.t 0))⟩,
     ⟨(some 5), none, .a (.asg (.c (.bool false)))⟩])
   (.seq
    (.reg [⟨(some 6), none, .q (.fad 2 (.t 3))⟩,
      ⟨(some 7), none, .q (.load false 1 (.t 6))⟩,
      ⟨(some 8), none, .q (.mov (.t 1))⟩,
      ⟨(some 9), none, .q (.bin false .eql (.t 7) (.t 8))⟩,
      ⟨(some 10), none, .q (.mov (.t 9))⟩,
      ⟨(some 11), (some (10, false)), .q (.fad 1 (.t 3))⟩,
      ⟨(some 12), (some (10, false)), .q (.load false 1 (.t 11))⟩,
      ⟨(some 13), (some (10, false)), .q (.un .not (.t 12))⟩,
      ⟨(some 14), (some (10, false)), .q (.mov (.t 13))⟩,
      ⟨(some 15), (some (14, true)), .q (.fad 2 (.t 2))⟩,
      ⟨(some 16), (some (14, true)), .q (.load false 1 (.t 15))⟩,
      ⟨(some 17), (some (14, true)), .q (.fad 2 (.t 3))⟩,
      ⟨(some 18), (some (14, true)), .q (.load false 1 (.t 17))⟩,
      ⟨(some 19), (some (14, true)), .q (.mov (.t 1))⟩,
      ⟨(some 20), (some (14, true)), .a (.call (.fn 66) false [.lend (.t 16), .lend (.t 18), .lend (.t 19)])⟩,
      ⟨(some 21), (some (10, false)), .q (.pick (.t 14) (.t 20) (.c (.bool false)))⟩,
      ⟨(some 22), none, .q (.pick (.t 10) (.c (.bool true)) (.t 21))⟩,
      ⟨(some 5), none, .a (.asg (.t 22))⟩])
    .ret))

set_option maxRecDepth 100000 in
theorem d82 (s : Scope) (p : Par) (n : Int) (hl : (s.types.length : Int) ≤ 1048576) (ht : tabOk s.types = true) (hx : isNum s.types p.typ = true) (hy : isNum s.types n = true) : Does Go.Proofs.Tryz.prog 82 [.agg p.z, .v (.int .i64 n), .fptr s.z] false (.v (.bool (parFit s.types p n))) [.dead, .dead, .dead] := by
  refine does_intro (mc := m82) (N := 23) (rs := [5]) (fx := []) 3 rfl (by decide +kernel) ?_
  simp only [m82, Par.z, Scope.z, EV, Nat.reduceEqDiff, Nat.reduceBEq, Nat.reduceLT, Nat.reduceLeDiff, Nat.reduceAdd, Nat.reduceSub, reduceIte]
  rcases e1 : (p.typ == n) with _ | _
  · simp only [Par.z, Scope.z, EV, Nat.reduceEqDiff, Nat.reduceBEq, Nat.reduceLT, Nat.reduceLeDiff, Nat.reduceAdd, Nat.reduceSub, reduceIte]
    rcases e2 : p.byvar with _ | _
    · simp only [Bool.not_false, Par.z, Scope.z, EV, Nat.reduceEqDiff, Nat.reduceBEq, Nat.reduceLT, Nat.reduceLeDiff, Nat.reduceAdd, Nat.reduceSub, reduceIte]
      refine callK_i (d66 s.types p.typ n hl ht (isNum_in.1 hx) (isNum_in.1 hy)) ?_
      simp only [EV, Nat.reduceEqDiff, Nat.reduceBEq, Nat.reduceLT, Nat.reduceLeDiff, Nat.reduceAdd, Nat.reduceSub, reduceIte]
      simp only [parFit, e1, e2, Bool.not_false, Bool.false_or, Bool.true_and, EV, Nat.reduceEqDiff, Nat.reduceBEq, Nat.reduceLT, Nat.reduceLeDiff, Nat.reduceAdd, Nat.reduceSub, reduceIte, evRE, retVC, cellV', evR, nfz, nfzs, nfzss, List.contains_nil, List.contains_cons, Bool.or_false, or_true]
    · simp only [Bool.not_true, Par.z, Scope.z, EV, Nat.reduceEqDiff, Nat.reduceBEq, Nat.reduceLT, Nat.reduceLeDiff, Nat.reduceAdd, Nat.reduceSub, reduceIte]
      simp only [parFit, e1, e2, Bool.not_true, Bool.false_or, Bool.false_and, EV, Nat.reduceEqDiff, Nat.reduceBEq, Nat.reduceLT, Nat.reduceLeDiff, Nat.reduceAdd, Nat.reduceSub, reduceIte, evRE, retVC, cellV', evR, nfz, nfzs, nfzss, List.contains_nil, List.contains_cons, Bool.or_false, or_true]
  · simp only [Par.z, Scope.z, EV, Nat.reduceEqDiff, Nat.reduceBEq, Nat.reduceLT, Nat.reduceLeDiff, Nat.reduceAdd, Nat.reduceSub, reduceIte]
    simp only [parFit, e1, Bool.true_or, EV, Nat.reduceEqDiff, Nat.reduceBEq, Nat.reduceLT, Nat.reduceLeDiff, Nat.reduceAdd, Nat.reduceSub, reduceIte, evRE, retVC, cellV', evR, nfz, nfzs, nfzss, List.contains_nil, List.contains_cons, Bool.or_false, or_true]

end Go.AM
namespace Go.AM
set_option linter.unusedVariables false
set_option linter.unusedSimpArgs false
def kdAt (s : Scope) (n : Int) : Int := match s.objects[n.toNat]? with
  | some o => o.kind
  | none => 0

def psAt (s : Scope) (n : Int) : List Par := match s.objects[n.toNat]? with
  | some o => o.params
  | none => []

noncomputable def mcOk (s : Scope) (n : Int) (ks : List Int) : Bool :=
  scOk s && ((decide (0 ≤ n) && decide (n ≤ (s.objects.length : Int) - 1)) && (kdAt s n == 4 && (!(decide (4 < (ks.length : Int))) && !(ks.any fun k => !isNum s.types k))))

theorem pars_num {l : List Ty} {ps : List Par} (h : parsOk l ps = true) : ∀ p ∈ ps, isNum l p.typ = true := by
  intro p hp
  obtain ⟨i, hi, rfl⟩ := List.mem_iff_getElem.1 hp
  simp only [parsOk, decide_eq_true_eq] at h
  have := h i hi hi
  simp only [parAt, Bool.and_eq_true] at this
  exact this.2.1

theorem may_self {l : List Ty} {x : Int} (h : isNum l x = true) : mayL l x x = true := by
  obtain ⟨h0, h1⟩ := isNum_in.1 h
  have hn : x.toNat < l.length := by omega
  simp [mayL, mayT, hn]

/-- loop.example/g00837/impl.MayCall -/
def m25 : MC :=
  (.seq
   (.reg [⟨(some 3), none, .a (.box 45 (.t 0))⟩,
     ⟨(some 6), none, .a (.asg (.c (.bool false)))⟩,
     ⟨(some 7), none, .a (.asg (.c (.bool false)))⟩])
   (.seq
    (.seq
     (.reg [⟨(some 8), none, .a (.call (.fn 77) false [.lend (.t 3)])⟩,
       ⟨(some 9), none, .q (.un .not (.t 8))⟩,
       ⟨(some 10), none, .q (.mov (.t 9))⟩,
       ⟨(some 11), (some (10, false)), .q (.mov (.t 1))⟩,
       ⟨(some 12), (some (10, false)), .q (.fad 3 (.t 3))⟩,
       ⟨(some 13), (some (10, false)), .q (.load false 1 (.t 12))⟩,
       ⟨(some 14), (some (10, false)), .q (.len false (.t 13))⟩,
       ⟨(some 15), (some (10, false)), .q (.bin false .sub (.t 14) (.c (.int .i64 1)))⟩,
       ⟨(some 16), (some (10, false)), .a (.call (.fn 78) false [.lend (.t 11), .lend (.c (.int .i64 0)), .lend (.t 15)])⟩,
       ⟨(some 17), (some (10, false)), .q (.un .not (.t 16))⟩,
       ⟨(some 18), none, .q (.pick (.t 10) (.c (.bool true)) (.t 17))⟩,
       ⟨(some 19), none, .q (.mov (.t 18))⟩,
       ⟨(some 20), (some (19, false)), .q (.fad 3 (.t 3))⟩,
       ⟨(some 21), (some (19, false)), .q (.load false 1 (.t 20))⟩,
       ⟨(some 22), (some (19, false)), .q (.mov (.t 1))⟩,
       ⟨(some 23), (some (19, false)), .q (.iad 6 (.t 21) (.t 22))⟩,
       ⟨(some 24), (some (19, false)), .q (.fad 1 (.t 23))⟩,
       ⟨(some 25), (some (19, false)), .q (.load false 1 (.t 24))⟩,
       ⟨(some 26), (some (19, false)), .q (.bin false .neq (.t 25) (.c (.int .i64 4)))⟩,
       ⟨(some 27), none, .q (.pick (.t 19) (.c (.bool true)) (.t 26))⟩,
       ⟨(some 28), none, .q (.mov (.t 27))⟩,
       ⟨(some 29), (some (28, false)), .q (.mov (.t 2))⟩,
       ⟨(some 30), (some (28, false)), .q (.len false (.t 29))⟩,
       ⟨(some 31), (some (28, false)), .q (.bin false .gtr (.t 30) (.c (.int .i64 4)))⟩,
       ⟨(some 32), none, .q (.pick (.t 28) (.c (.bool true)) (.t 31))⟩,
       ⟨(some 33), none, .q (.mov (.t 32))⟩,
       ⟨(some 34), (some (33, false)), .q (.mov (.t 2))⟩,
       ⟨(some 35), (some (33, false)), .q (.mkf 80 [.t 3])⟩,
       ⟨(some 36), (some (33, false)), .a (.call (.fn 79) false [.lend (.t 34), .lend (.t 35)])⟩,
       ⟨(some 37), none, .q (.pick (.t 33) (.c (.bool true)) (.t 36))⟩])
     (.cond (.t 37)
      (.seq
       (.reg [⟨(some 6), none, .a (.asg (.c (.bool false)))⟩,
         ⟨(some 7), none, .a (.asg (.c (.bool false)))⟩])
       .ret)
      .skip))
    (.seq
     (.reg [⟨(some 38), none, .q (.fad 3 (.t 3))⟩,
       ⟨(some 39), none, .q (.load false 1 (.t 38))⟩,
       ⟨(some 40), none, .q (.mov (.t 1))⟩,
       ⟨(some 41), none, .q (.iad 6 (.t 39) (.t 40))⟩,
       ⟨(some 42), none, .q (.fad 5 (.t 41))⟩,
       ⟨(some 43), none, .q (.load false 1 (.t 42))⟩,
       ⟨(some 44), none, .q (.mov (.t 2))⟩,
       ⟨(some 45), none, .q (.mkf 82 [.t 3])⟩,
       ⟨(some 46), none, .a (.call (.fn 81) false [.lend (.t 43), .lend (.t 44), .lend (.t 45)])⟩,
       ⟨(some 6), none, .a (.asg (.t 46))⟩,
       ⟨(some 7), none, .a (.asg (.c (.bool true)))⟩])
     .ret)))

set_option maxHeartbeats 1000000 in
set_option maxRecDepth 100000 in
theorem d25 (s : Scope) (n : Int) (ks : List Int) (hs : s.sm) (hk : (ks.length : Int) ≤ 1048576) :
    Does Go.Proofs.Tryz.prog 25 [.agg s.z, .v (.int .i64 n), .fsl 1 (ks.map iv)] false (.tup [.v (.bool (mcOk s n ks && fitL s.types (psAt s n) ks)), .v (.bool (mcOk s n ks))]) [.dead, .dead, .dead] := by
  have hs' := hs
  unfold Scope.sm at hs'
  obtain ⟨z1, z2, z3, z4, z5⟩ := hs'
  have wl := w64 ((s.objects.length : Int) - 1) (by omega)
  have dis := d77 s hs
  simp only [Scope.z] at dis
  refine does_intro (mc := m25) (N := 47) (rs := [6, 7]) (fx := []) 3 rfl (by decide +kernel) ?_
  simp only [m25, Scope.z, EV, Nat.reduceEqDiff, Nat.reduceBEq, Nat.reduceLT, Nat.reduceLeDiff, Nat.reduceAdd, Nat.reduceSub, reduceIte]
  refine callK_i dis ?_
  simp only [EV, Nat.reduceEqDiff, Nat.reduceBEq, Nat.reduceLT, Nat.reduceLeDiff, Nat.reduceAdd, Nat.reduceSub, reduceIte]
  rcases e1 : scOk s with _ | _
  · simp only [Bool.not_false, EV, Nat.reduceEqDiff, Nat.reduceBEq, Nat.reduceLT, Nat.reduceLeDiff, Nat.reduceAdd, Nat.reduceSub, reduceIte]
    simp only [mcOk, e1, Bool.false_and, EV, Nat.reduceEqDiff, Nat.reduceBEq, Nat.reduceLT, Nat.reduceLeDiff, Nat.reduceAdd, Nat.reduceSub, reduceIte, evRE, retVC, cellV', evR, nfz, nfzs, nfzss, List.contains_nil, List.contains_cons, Bool.or_false, or_true]
  simp only [Bool.not_true, wl, Scope.z, EV, Nat.reduceEqDiff, Nat.reduceBEq, Nat.reduceLT, Nat.reduceLeDiff, Nat.reduceAdd, Nat.reduceSub, reduceIte]
  refine callK_i (d78 n 0 ((s.objects.length : Int) - 1)) ?_
  simp only [EV, Nat.reduceEqDiff, Nat.reduceBEq, Nat.reduceLT, Nat.reduceLeDiff, Nat.reduceAdd, Nat.reduceSub, reduceIte]
  rcases e2 : (decide (0 ≤ n) && decide (n ≤ (s.objects.length : Int) - 1)) with _ | _
  · simp only [Bool.not_false, EV, Nat.reduceEqDiff, Nat.reduceBEq, Nat.reduceLT, Nat.reduceLeDiff, Nat.reduceAdd, Nat.reduceSub, reduceIte]
    simp only [mcOk, e2, Bool.false_and, Bool.and_false, EV, Nat.reduceEqDiff, Nat.reduceBEq, Nat.reduceLT, Nat.reduceLeDiff, Nat.reduceAdd, Nat.reduceSub, reduceIte, evRE, retVC, cellV', evR, nfz, nfzs, nfzss, List.contains_nil, List.contains_cons, Bool.or_false, or_true]
  have e2' := e2
  simp only [Bool.and_eq_true, decide_eq_true_eq] at e2'
  have n0 : 0 ≤ n := e2'.1
  have n1 : n.toNat < s.objects.length := by omega
  have n2 : n < (s.objects.length : Int) := by omega
  have hkd : kdAt s n = s.objects[n.toNat].kind := by simp [kdAt, n1]
  have hps : psAt s n = s.objects[n.toNat].params := by simp [psAt, n1]
  simp only [Bool.not_true, n0, n2, n1, nth_map n1, Ob.z, Scope.z, EV, Nat.reduceEqDiff, Nat.reduceBEq, Nat.reduceLT, Nat.reduceLeDiff, Nat.reduceAdd, Nat.reduceSub, reduceIte]
  have hne : (s.objects[n.toNat].kind != 4) = !(s.objects[n.toNat].kind == 4) := rfl
  rw [hne]
  rcases e3 : (s.objects[n.toNat].kind == 4) with _ | _
  · simp only [Bool.not_false, EV, Nat.reduceEqDiff, Nat.reduceBEq, Nat.reduceLT, Nat.reduceLeDiff, Nat.reduceAdd, Nat.reduceSub, reduceIte]
    simp only [mcOk, hkd, e3, Bool.false_and, Bool.and_false, EV, Nat.reduceEqDiff, Nat.reduceBEq, Nat.reduceLT, Nat.reduceLeDiff, Nat.reduceAdd, Nat.reduceSub, reduceIte, evRE, retVC, cellV', evR, nfz, nfzs, nfzss, List.contains_nil, List.contains_cons, Bool.or_false, or_true]
  simp only [Bool.not_true, EV, Nat.reduceEqDiff, Nat.reduceBEq, Nat.reduceLT, Nat.reduceLeDiff, Nat.reduceAdd, Nat.reduceSub, reduceIte]
  rcases e4 : decide (4 < (ks.length : Int)) with _ | _
  rotate_left
  · simp only [EV, Nat.reduceEqDiff, Nat.reduceBEq, Nat.reduceLT, Nat.reduceLeDiff, Nat.reduceAdd, Nat.reduceSub, reduceIte]
    simp only [mcOk, e4, Bool.not_true, Bool.false_and, Bool.and_false, EV, Nat.reduceEqDiff, Nat.reduceBEq, Nat.reduceLT, Nat.reduceLeDiff, Nat.reduceAdd, Nat.reduceSub, reduceIte, evRE, retVC, cellV', evR, nfz, nfzs, nfzss, List.contains_nil, List.contains_cons, Bool.or_false, or_true]
  simp only [Scope.z, EV, Nat.reduceEqDiff, Nat.reduceBEq, Nat.reduceLT, Nat.reduceLeDiff, Nat.reduceAdd, Nat.reduceSub, reduceIte]
  have dcf := d79 ks (by omega) 80 [.fptr s.z] (fun k => !isNum s.types k) rfl rfl (fun _ => rfl) (fun _ => rfl) (fun k _ => d80 s k z3.1)
  simp only [Scope.z] at dcf
  refine callK_i dcf ?_
  simp only [EV, Nat.reduceEqDiff, Nat.reduceBEq, Nat.reduceLT, Nat.reduceLeDiff, Nat.reduceAdd, Nat.reduceSub, reduceIte]
  rcases e5 : (ks.any fun k => !isNum s.types k) with _ | _
  rotate_left
  · simp only [EV, Nat.reduceEqDiff, Nat.reduceBEq, Nat.reduceLT, Nat.reduceLeDiff, Nat.reduceAdd, Nat.reduceSub, reduceIte]
    simp only [mcOk, e5, Bool.not_true, Bool.and_false, Bool.false_and, EV, Nat.reduceEqDiff, Nat.reduceBEq, Nat.reduceLT, Nat.reduceLeDiff, Nat.reduceAdd, Nat.reduceSub, reduceIte, evRE, retVC, cellV', evR, nfz, nfzs, nfzss, List.contains_nil, List.contains_cons, Bool.or_false, or_true]
  have hok : mcOk s n ks = true := by simp only [mcOk, e1, e2, hkd, e3, e4, e5, Bool.not_false, Bool.and_self]
  have P := scOk_iff.1 e1
  have hnum : ∀ k ∈ ks, isNum s.types k = true := by
    intro k hk'
    rw [List.any_eq_false] at e5
    simpa using e5 k hk'
  have hob := P.obs n.toNat n1 n1
  simp only [obOk, Bool.and_eq_true] at hob
  have hpn := pars_num hob.2.1
  have hpl := (z4.2 _ (List.getElem_mem n1)).2.2.2.2.2.1
  have deq := d81 s.types s.objects[n.toNat].params ks hpl hk 82 [.fptr s.z] rfl rfl (fun _ => rfl) (fun _ => rfl) (fun p hp k hk => d82 s p k z3.1 P.tab (hpn p hp) (hnum k hk))
  simp only [Scope.z] at deq
  simp only [n0, n2, n1, nth_map n1, Ob.z, Scope.z, EV, Nat.reduceEqDiff, Nat.reduceBEq, Nat.reduceLT, Nat.reduceLeDiff, Nat.reduceAdd, Nat.reduceSub, reduceIte]
  refine callK_i deq ?_
  simp only [EV, Nat.reduceEqDiff, Nat.reduceBEq, Nat.reduceLT, Nat.reduceLeDiff, Nat.reduceAdd, Nat.reduceSub, reduceIte]
  simp only [hok, hps, Bool.true_and, EV, Nat.reduceEqDiff, Nat.reduceBEq, Nat.reduceLT, Nat.reduceLeDiff, Nat.reduceAdd, Nat.reduceSub, reduceIte, evRE, retVC, cellV', evR, nfz, nfzs, nfzss, List.contains_nil, List.contains_cons, Bool.or_false, or_true]

/-- loop.example/g00837/spec.MayCall -/
def m26 : MC :=
  (.seq
   (.reg [⟨(some 3), none, .a (.box 45 (.t 0))⟩,
     ⟨(some 6), none, .a (.asg (.c (.bool false)))⟩,
     ⟨(some 7), none, .a (.asg (.c (.bool false)))⟩])
   (.seq
    (.seq
     (.reg [⟨(some 11), none, .q (.load true 5 (.t 3))⟩,
       ⟨(some 12), none, .a (.call (.fn 83) false [.lend (.t 11)])⟩,
       ⟨(some 13), none, .q (.un .not (.t 12))⟩,
       ⟨(some 14), none, .q (.mov (.t 13))⟩,
       ⟨(some 15), (some (14, false)), .q (.mov (.t 1))⟩,
       ⟨(some 16), (some (14, false)), .q (.fad 3 (.t 3))⟩,
       ⟨(some 17), (some (14, false)), .q (.load false 1 (.t 16))⟩,
       ⟨(some 18), (some (14, false)), .q (.len false (.t 17))⟩,
       ⟨(some 19), (some (14, false)), .q (.bin false .sub (.t 18) (.c (.int .i64 1)))⟩,
       ⟨(some 20), (some (14, false)), .a (.call (.fn 72) false [.lend (.t 15), .lend (.c (.int .i64 0)), .lend (.t 19)])⟩,
       ⟨(some 21), (some (14, false)), .q (.un .not (.t 20))⟩,
       ⟨(some 22), none, .q (.pick (.t 14) (.c (.bool true)) (.t 21))⟩,
       ⟨(some 23), none, .q (.mov (.t 22))⟩,
       ⟨(some 24), (some (23, false)), .q (.fad 3 (.t 3))⟩,
       ⟨(some 25), (some (23, false)), .q (.load false 1 (.t 24))⟩,
       ⟨(some 26), (some (23, false)), .q (.mov (.t 1))⟩,
       ⟨(some 27), (some (23, false)), .q (.iad 6 (.t 25) (.t 26))⟩,
       ⟨(some 28), (some (23, false)), .q (.fad 1 (.t 27))⟩,
       ⟨(some 29), (some (23, false)), .q (.load false 1 (.t 28))⟩,
       ⟨(some 30), (some (23, false)), .q (.bin false .neq (.t 29) (.c (.int .i64 4)))⟩,
       ⟨(some 31), none, .q (.pick (.t 23) (.c (.bool true)) (.t 30))⟩,
       ⟨(some 32), none, .q (.mov (.t 31))⟩,
       ⟨(some 33), (some (32, false)), .q (.mov (.t 2))⟩,
       ⟨(some 34), (some (32, false)), .q (.len false (.t 33))⟩,
       ⟨(some 35), (some (32, false)), .q (.bin false .gtr (.t 34) (.c (.int .i64 4)))⟩,
       ⟨(some 36), none, .q (.pick (.t 32) (.c (.bool true)) (.t 35))⟩,
       ⟨(some 37), none, .q (.mov (.t 36))⟩,
       ⟨(some 38), (some (37, false)), .q (.mov (.t 2))⟩,
       ⟨(some 39), (some (37, false)), .q (.fad 2 (.t 3))⟩,
       ⟨(some 40), (some (37, false)), .q (.load false 1 (.t 39))⟩,
       ⟨(some 41), (some (37, false)), .q (.len false (.t 40))⟩,
       ⟨(some 42), (some (37, false)), .q (.bin false .sub (.t 41) (.c (.int .i64 1)))⟩,
       ⟨(some 43), (some (37, false)), .a (.call (.fn 84) false [.lend (.t 38), .lend (.c (.int .i64 0)), .lend (.t 42)])⟩,
       ⟨(some 44), (some (37, false)), .q (.un .not (.t 43))⟩,
       ⟨(some 45), none, .q (.pick (.t 37) (.c (.bool true)) (.t 44))⟩])
     (.cond (.t 45)
      (.seq
       (.reg [⟨(some 6), none, .a (.asg (.c (.bool false)))⟩,
         ⟨(some 7), none, .a (.asg (.c (.bool false)))⟩])
       .ret)
      .skip))
    (.seq
     (.reg [⟨(some 46), none, .q (.fad 3 (.t 3))⟩,
       ⟨(some 47), none, .q (.load false 1 (.t 46))⟩,
       ⟨(some 48), none, .q (.mov (.t 1))⟩,
       ⟨(some 49), none, .q (.iad 6 (.t 47) (.t 48))⟩,
       ⟨(some 50), none, .q (.fad 5 (.t 49))⟩,
       ⟨(some 51), none, .q (.load false 1 (.t 50))⟩,
       ⟨(some 8), none, .a (.asg (.t 51))⟩])
     (.seq
      (.seq
       (.reg [⟨(some 52), none, .q (.mov (.t 8))⟩,
         ⟨(some 53), none, .q (.len false (.t 52))⟩,
         ⟨(some 54), none, .q (.mov (.t 2))⟩,
         ⟨(some 55), none, .q (.len false (.t 54))⟩,
         ⟨(some 56), none, .q (.bin false .neq (.t 53) (.t 55))⟩])
       (.cond (.t 56)
        (.seq
         (.reg [⟨(some 6), none, .a (.asg (.c (.bool false)))⟩,
           ⟨(some 7), none, .a (.asg (.c (.bool true)))⟩])
         .ret)
        .skip))
      (.seq
       (.seq
        (.reg [⟨(some 57), none, .q (.mov (.t 8))⟩,
          ⟨(some 58), none, .q (.len false (.t 57))⟩,
          ⟨(some 59), none, .q (.mov (.c (.int .i64 0)))⟩])
        (.block 0
         (.loop [2, 3, 8, 46, 47, 48, 49, 50, 51, 57, 58, 59]
          (.seq
           (.reg [⟨(some 60), none, .q (.bin false .lss (.t 59) (.t 58))⟩])
           (.seq
            (.cond (.t 60)
             .skip
             (.exit 0))
            (.seq
             (.block 1
              (.seq
               (.reg [⟨(some 61), none, .q (.mov (.t 59))⟩,
                 ⟨(some 62), none, .q (.iad 3 (.t 57) (.t 59))⟩,
                 ⟨(some 63), none, .q (.load true 3 (.t 62))⟩,
                 ⟨(some 10), none, .a (.alloc 54 [.v (.string ({ data := #[] })), .v (.bool false), .v (.int .i64 0)])⟩,
                 ⟨(some 9), none, .a (.asg (.t 61))⟩,
                 ⟨none, none, .a (.store 3 (.t 10) (.t 63))⟩])
               (.seq
                (.dreg [⟨(some 64), none, .q (.fad 1 (.t 10))⟩,
                  ⟨(some 65), none, .q (.load false 1 (.t 64))⟩,
                  ⟨(some 66), none, .q (.mov (.t 65))⟩,
                  ⟨(some 67), (some (66, true)), .q (.fad 2 (.t 10))⟩,
                  ⟨(some 68), (some (66, true)), .q (.load false 1 (.t 67))⟩,
                  ⟨(some 69), (some (66, true)), .q (.mov (.t 2))⟩,
                  ⟨(some 70), (some (66, true)), .q (.mov (.t 9))⟩,
                  ⟨(some 71), (some (66, true)), .q (.iad 1 (.t 69) (.t 70))⟩,
                  ⟨(some 72), (some (66, true)), .q (.load false 1 (.t 71))⟩,
                  ⟨(some 73), (some (66, true)), .q (.bin false .neq (.t 68) (.t 72))⟩,
                  ⟨(some 74), none, .q (.pick (.t 66) (.t 73) (.c (.bool false)))⟩,
                  ⟨(some 75), none, .q (.mov (.t 74))⟩,
                  ⟨(some 76), (some (75, false)), .q (.fad 1 (.t 10))⟩,
                  ⟨(some 77), (some (75, false)), .q (.load false 1 (.t 76))⟩,
                  ⟨(some 78), (some (75, false)), .q (.un .not (.t 77))⟩,
                  ⟨(some 79), (some (75, false)), .q (.mov (.t 78))⟩,
                  ⟨(some 80), (some (79, true)), .q (.fad 2 (.t 3))⟩,
                  ⟨(some 81), (some (79, true)), .q (.load false 1 (.t 80))⟩,
                  ⟨(some 82), (some (79, true)), .q (.fad 2 (.t 10))⟩,
                  ⟨(some 83), (some (79, true)), .q (.load false 1 (.t 82))⟩,
                  ⟨(some 84), (some (79, true)), .q (.mov (.t 2))⟩,
                  ⟨(some 85), (some (79, true)), .q (.mov (.t 9))⟩,
                  ⟨(some 86), (some (79, true)), .q (.iad 1 (.t 84) (.t 85))⟩,
                  ⟨(some 87), (some (79, true)), .q (.load false 1 (.t 86))⟩,
                  ⟨(some 88), (some (79, true)), .a (.call (.fn 73) false [.lend (.t 81), .lend (.t 83), .lend (.t 87)])⟩,
                  ⟨(some 89), (some (79, true)), .q (.un .not (.t 88))⟩,
                  ⟨(some 90), (some (75, false)), .q (.pick (.t 79) (.t 89) (.c (.bool false)))⟩,
                  ⟨(some 91), none, .q (.pick (.t 75) (.c (.bool true)) (.t 90))⟩])
                (.cond (.t 91)
                 (.seq
                  (.reg [⟨(some 6), none, .a (.asg (.c (.bool false)))⟩,
                    ⟨(some 7), none, .a (.asg (.c (.bool true)))⟩])
                  .ret)
                 .skip))))
             (.reg [⟨(some 92), none, .q (.bin false .add (.t 59) (.c (.int .i64 1)))⟩,
               ⟨(some 59), none, .q (.mov (.t 92))⟩])))))))
       (.seq
        (.reg [⟨(some 6), none, .a (.asg (.c (.bool true)))⟩,
          ⟨(some 7), none, .a (.asg (.c (.bool true)))⟩])
        .ret))))))

set_option maxHeartbeats 2000000 in
set_option maxRecDepth 100000 in
theorem d26 (s : Scope) (n : Int) (ks : List Int) (hs : s.sm) (hk : (ks.length : Int) ≤ 1048576) :
    Does Go.Proofs.Tryz.prog 26 [.agg s.z, .v (.int .i64 n), .fsl 1 (ks.map iv)] false (.tup [.v (.bool (mcOk s n ks && fitL s.types (psAt s n) ks)), .v (.bool (mcOk s n ks))]) [.dead, .dead, .dead] := by
  have hs' := hs
  unfold Scope.sm at hs'
  obtain ⟨z1, z2, z3, z4, z5⟩ := hs'
  have wl := w64 ((s.objects.length : Int) - 1) (by omega)
  have wt := w64 ((s.types.length : Int) - 1) (by omega)
  have dis := d83 s hs
  simp only [Scope.z] at dis
  refine does_intro (mc := m26) (N := 93) (rs := [6, 7]) (fx := []) 3 rfl (by decide +kernel) ?_
  simp only [m26, Scope.z, EV, Nat.reduceEqDiff, Nat.reduceBEq, Nat.reduceLT, Nat.reduceLeDiff, Nat.reduceAdd, Nat.reduceSub, reduceIte]
  refine callK_i dis ?_
  simp only [EV, Nat.reduceEqDiff, Nat.reduceBEq, Nat.reduceLT, Nat.reduceLeDiff, Nat.reduceAdd, Nat.reduceSub, reduceIte]
  rcases e1 : scOk s with _ | _
  · simp only [Bool.not_false, EV, Nat.reduceEqDiff, Nat.reduceBEq, Nat.reduceLT, Nat.reduceLeDiff, Nat.reduceAdd, Nat.reduceSub, reduceIte]
    simp only [mcOk, e1, Bool.false_and, EV, Nat.reduceEqDiff, Nat.reduceBEq, Nat.reduceLT, Nat.reduceLeDiff, Nat.reduceAdd, Nat.reduceSub, reduceIte, evRE, retVC, cellV', evR, nfz, nfzs, nfzss, List.contains_nil, List.contains_cons, Bool.or_false, or_true]
  simp only [Bool.not_true, wl, Scope.z, EV, Nat.reduceEqDiff, Nat.reduceBEq, Nat.reduceLT, Nat.reduceLeDiff, Nat.reduceAdd, Nat.reduceSub, reduceIte]
  refine callK_i (d72 n 0 ((s.objects.length : Int) - 1)) ?_
  simp only [EV, Nat.reduceEqDiff, Nat.reduceBEq, Nat.reduceLT, Nat.reduceLeDiff, Nat.reduceAdd, Nat.reduceSub, reduceIte]
  rcases e2 : (decide (0 ≤ n) && decide (n ≤ (s.objects.length : Int) - 1)) with _ | _
  · simp only [Bool.not_false, EV, Nat.reduceEqDiff, Nat.reduceBEq, Nat.reduceLT, Nat.reduceLeDiff, Nat.reduceAdd, Nat.reduceSub, reduceIte]
    simp only [mcOk, e2, Bool.false_and, Bool.and_false, EV, Nat.reduceEqDiff, Nat.reduceBEq, Nat.reduceLT, Nat.reduceLeDiff, Nat.reduceAdd, Nat.reduceSub, reduceIte, evRE, retVC, cellV', evR, nfz, nfzs, nfzss, List.contains_nil, List.contains_cons, Bool.or_false, or_true]
  have e2' := e2
  simp only [Bool.and_eq_true, decide_eq_true_eq] at e2'
  have n0 : 0 ≤ n := e2'.1
  have n1 : n.toNat < s.objects.length := by omega
  have n2 : n < (s.objects.length : Int) := by omega
  have hkd : kdAt s n = s.objects[n.toNat].kind := by simp [kdAt, n1]
  have hps : psAt s n = s.objects[n.toNat].params := by simp [psAt, n1]
  simp only [Bool.not_true, n0, n2, n1, nth_map n1, Ob.z, Scope.z, EV, Nat.reduceEqDiff, Nat.reduceBEq, Nat.reduceLT, Nat.reduceLeDiff, Nat.reduceAdd, Nat.reduceSub, reduceIte]
  have hne : (s.objects[n.toNat].kind != 4) = !(s.objects[n.toNat].kind == 4) := rfl
  rw [hne]
  rcases e3 : (s.objects[n.toNat].kind == 4) with _ | _
  · simp only [Bool.not_false, EV, Nat.reduceEqDiff, Nat.reduceBEq, Nat.reduceLT, Nat.reduceLeDiff, Nat.reduceAdd, Nat.reduceSub, reduceIte]
    simp only [mcOk, hkd, e3, Bool.false_and, Bool.and_false, EV, Nat.reduceEqDiff, Nat.reduceBEq, Nat.reduceLT, Nat.reduceLeDiff, Nat.reduceAdd, Nat.reduceSub, reduceIte, evRE, retVC, cellV', evR, nfz, nfzs, nfzss, List.contains_nil, List.contains_cons, Bool.or_false, or_true]
  simp only [Bool.not_true, EV, Nat.reduceEqDiff, Nat.reduceBEq, Nat.reduceLT, Nat.reduceLeDiff, Nat.reduceAdd, Nat.reduceSub, reduceIte]
  rcases e4 : decide (4 < (ks.length : Int)) with _ | _
  rotate_left
  · simp only [EV, Nat.reduceEqDiff, Nat.reduceBEq, Nat.reduceLT, Nat.reduceLeDiff, Nat.reduceAdd, Nat.reduceSub, reduceIte]
    simp only [mcOk, e4, Bool.not_true, Bool.false_and, Bool.and_false, EV, Nat.reduceEqDiff, Nat.reduceBEq, Nat.reduceLT, Nat.reduceLeDiff, Nat.reduceAdd, Nat.reduceSub, reduceIte, evRE, retVC, cellV', evR, nfz, nfzs, nfzss, List.contains_nil, List.contains_cons, Bool.or_false, or_true]
  simp only [wt, Scope.z, EV, Nat.reduceEqDiff, Nat.reduceBEq, Nat.reduceLT, Nat.reduceLeDiff, Nat.reduceAdd, Nat.reduceSub, reduceIte]
  have dal := d84 ks 0 ((s.types.length : Int) - 1) hk
  have eal : (ks.any fun k => !(decide (0 ≤ k) && decide (k ≤ (s.types.length : Int) - 1))) = (ks.any fun k => !isNum s.types k) := rfl
  rw [eal] at dal
  refine callK_i dal ?_
  simp only [EV, Nat.reduceEqDiff, Nat.reduceBEq, Nat.reduceLT, Nat.reduceLeDiff, Nat.reduceAdd, Nat.reduceSub, reduceIte]
  rcases e5 : (ks.any fun k => !isNum s.types k) with _ | _
  rotate_left
  · simp only [Bool.not_true, Bool.not_false, EV, Nat.reduceEqDiff, Nat.reduceBEq, Nat.reduceLT, Nat.reduceLeDiff, Nat.reduceAdd, Nat.reduceSub, reduceIte]
    simp only [mcOk, e5, Bool.not_true, Bool.and_false, Bool.false_and, EV, Nat.reduceEqDiff, Nat.reduceBEq, Nat.reduceLT, Nat.reduceLeDiff, Nat.reduceAdd, Nat.reduceSub, reduceIte, evRE, retVC, cellV', evR, nfz, nfzs, nfzss, List.contains_nil, List.contains_cons, Bool.or_false, or_true]
  have hok : mcOk s n ks = true := by simp only [mcOk, e1, e2, hkd, e3, e4, e5, Bool.not_false, Bool.and_self]
  have P := scOk_iff.1 e1
  have hnum : ∀ k ∈ ks, isNum s.types k = true := by
    intro k hk'
    rw [List.any_eq_false] at e5
    simpa using e5 k hk'
  have hob := P.obs n.toNat n1 n1
  simp only [obOk, Bool.and_eq_true] at hob
  have hpn := pars_num hob.2.1
  have hpl := (z4.2 _ (List.getElem_mem n1)).2.2.2.2.2.1
  rw [hok, hps]
  simp only [Bool.not_false, Bool.not_true, Scope.z, EV, Nat.reduceEqDiff, Nat.reduceBEq, Nat.reduceLT, Nat.reduceLeDiff, Nat.reduceAdd, Nat.reduceSub, reduceIte]
  simp only [n0, n2, n1, nth_map n1, Ob.z, Scope.z, EV, Nat.reduceEqDiff, Nat.reduceBEq, Nat.reduceLT, Nat.reduceLeDiff, Nat.reduceAdd, Nat.reduceSub, reduceIte]
  refine cK_cut (fun h => ?_) (fun h => ?_)
  · have h1 : ¬ s.objects[n.toNat].params.length = ks.length := by intro e; simp [e] at h
    simp only [EV, Nat.reduceEqDiff, Nat.reduceBEq, Nat.reduceLT, Nat.reduceLeDiff, Nat.reduceAdd, Nat.reduceSub, reduceIte]
    simp only [fitL_ne h1, Bool.true_and, EV, Nat.reduceEqDiff, Nat.reduceBEq, Nat.reduceLT, Nat.reduceLeDiff, Nat.reduceAdd, Nat.reduceSub, reduceIte, evRE, retVC, cellV', evR, nfz, nfzs, nfzss, List.contains_nil, List.contains_cons, Bool.or_false, or_true]
  have hlen : s.objects[n.toNat].params.length = ks.length := by
    have : ((s.objects[n.toNat].params.length : Int) = ks.length) := by simpa using h
    omega
  clear h
  simp only [Scope.z, EV, Nat.reduceEqDiff, Nat.reduceBEq, Nat.reduceLT, Nat.reduceLeDiff, Nat.reduceAdd, Nat.reduceSub, reduceIte]
  refine awp_loop (fun i : Nat => i ≤ s.objects[n.toNat].params.length ∧ fitTo s.types s.objects[n.toNat].params ks i) (fun i => stl [(2, .fsl 1 (ks.map iv)), (3, .box 45 s.z), (8, .fsl 3 (s.objects[n.toNat].params.map Par.z)), (46, .ref 3 [] 0 3), (47, .fsl 6 (s.objects.map Ob.z)), (48, .v (.int .i64 n)), (49, .fptr s.objects[n.toNat].z), (50, .fptr [.fsl 3 (s.objects[n.toNat].params.map Par.z)]), (51, .fsl 3 (s.objects[n.toNat].params.map Par.z)), (57, .fsl 3 (s.objects[n.toNat].params.map Par.z)), (58, .v (.int .i64 (s.objects[n.toNat].params.length : Int))), (59, .v (.int .i64 (i : Int)))]) (fun i => s.objects[n.toNat].params.length - i) 0 ⟨Nat.zero_le _, fun j hj _ h => absurd h (by omega)⟩ ?_ ?_
  · simp only [Ob.z, Scope.z, EV, Nat.reduceEqDiff, Nat.reduceBEq, Nat.reduceLT, Nat.reduceLeDiff, Nat.reduceAdd, Nat.reduceSub, reduceIte]
    rfl
  rintro i ⟨hi, hok'⟩
  rcases h : decide ((i : Int) < (s.objects[n.toNat].params.length : Int)) with _ | _
  rotate_left
  · have h1 : i < s.objects[n.toNat].params.length := by simpa using h
    have h2 : (i : Int) < (s.objects[n.toNat].params.length : Int) := by omega
    have g1 : i < ks.length := by omega
    have g2 : (i : Int) < (ks.length : Int) := by omega
    have hno : parFit s.types s.objects[n.toNat].params[i] ks[i] = false → fitL s.types s.objects[n.toNat].params ks = false := fitL_no h1 g1
    have hpt := hpn _ (List.getElem_mem h1)
    have hkt := hnum _ (List.getElem_mem g1)
    have hself := may_self hpt
    have hst : fitTo s.types s.objects[n.toNat].params ks i → parFit s.types s.objects[n.toNat].params[i] ks[i] = true → fitTo s.types s.objects[n.toNat].params ks (i + 1) := fitTo_succ h1 g1
    simp only [h, Ob.z, Scope.z, EV, Nat.reduceEqDiff, Nat.reduceBEq, Nat.reduceLT, Nat.reduceLeDiff, Nat.reduceAdd, Nat.reduceSub, reduceIte]
    generalize hpe : s.objects[n.toNat].params[i] = p at hno hpt hself hst
    simp only [ParE, nth_map h1, h2, nth_map g1, g1, g2, hpe, iv, Par.z, Scope.z, EV, Nat.reduceEqDiff, Nat.reduceBEq, Nat.reduceLT, Nat.reduceLeDiff, Nat.reduceAdd, Nat.reduceSub, reduceIte]
    rcases eb : p.byvar with _ | _
    · simp only [nth_map g1, g1, g2, iv, eb, Bool.not_false, Par.z, Scope.z, EV, Nat.reduceEqDiff, Nat.reduceBEq, Nat.reduceLT, Nat.reduceLeDiff, Nat.reduceAdd, Nat.reduceSub, reduceIte]
      refine callD_i (d73 s.types p.typ ks[i] z3.1 P.tab (isNum_in.1 hpt) (isNum_in.1 hkt)) rfl ?_
      simp only [EV, Nat.reduceEqDiff, Nat.reduceBEq, Nat.reduceLT, Nat.reduceLeDiff, Nat.reduceAdd, Nat.reduceSub, reduceIte]
      rcases e7 : mayL s.types p.typ ks[i] with _ | _
      · have e8 : (p.typ == ks[i]) = false := by
          by_cases h8 : p.typ = ks[i]
          · rw [← h8, hself] at e7; cases e7
          · simpa using h8
        have e9 : fitL s.types s.objects[n.toNat].params ks = false := hno (by simp only [parFit, eb, e7, e8, Bool.not_false, Bool.and_false, Bool.or_false])
        simp only [Bool.not_false, EV, Nat.reduceEqDiff, Nat.reduceBEq, Nat.reduceLT, Nat.reduceLeDiff, Nat.reduceAdd, Nat.reduceSub, reduceIte]
        simp only [e9, Bool.and_false, EV, Nat.reduceEqDiff, Nat.reduceBEq, Nat.reduceLT, Nat.reduceLeDiff, Nat.reduceAdd, Nat.reduceSub, reduceIte, evRE, retVC, cellV', evR, nfz, nfzs, nfzss, List.contains_nil, List.contains_cons, Bool.or_false, or_true]
      · simp only [Bool.not_true, Ob.z, Scope.z, EV, Nat.reduceEqDiff, Nat.reduceBEq, Nat.reduceLT, Nat.reduceLeDiff, Nat.reduceAdd, Nat.reduceSub, reduceIte]
        rw [w64 _ (by omega)]
        exact ⟨i + 1, ⟨h1, hst hok' (by simp only [parFit, eb, e7, Bool.not_false, Bool.and_self, Bool.or_true])⟩, by omega, rfl⟩
    · simp only [nth_map g1, g1, g2, iv, eb, Bool.not_true, Par.z, Scope.z, EV, Nat.reduceEqDiff, Nat.reduceBEq, Nat.reduceLT, Nat.reduceLeDiff, Nat.reduceAdd, Nat.reduceSub, reduceIte]
      have ebn : (p.typ != ks[i]) = !(p.typ == ks[i]) := rfl
      rw [ebn]
      rcases e7 : (p.typ == ks[i]) with _ | _
      · have e9 : fitL s.types s.objects[n.toNat].params ks = false := hno (by simp only [parFit, eb, e7, Bool.not_true, Bool.false_and, Bool.or_false])
        simp only [Bool.not_false, EV, Nat.reduceEqDiff, Nat.reduceBEq, Nat.reduceLT, Nat.reduceLeDiff, Nat.reduceAdd, Nat.reduceSub, reduceIte]
        simp only [e9, Bool.and_false, EV, Nat.reduceEqDiff, Nat.reduceBEq, Nat.reduceLT, Nat.reduceLeDiff, Nat.reduceAdd, Nat.reduceSub, reduceIte, evRE, retVC, cellV', evR, nfz, nfzs, nfzss, List.contains_nil, List.contains_cons, Bool.or_false, or_true]
      · simp only [Bool.not_true, eb, Par.z, Ob.z, Scope.z, EV, Nat.reduceEqDiff, Nat.reduceBEq, Nat.reduceLT, Nat.reduceLeDiff, Nat.reduceAdd, Nat.reduceSub, reduceIte]
        rw [w64 _ (by omega)]
        exact ⟨i + 1, ⟨h1, hst hok' (by simp only [parFit, e7, Bool.true_or])⟩, by omega, rfl⟩
  have h1 : i = s.objects[n.toNat].params.length := by have : ¬ (i : Int) < s.objects[n.toNat].params.length := by simpa using h
                                                       omega
  subst h1
  simp only [h, EV, Nat.reduceEqDiff, Nat.reduceBEq, Nat.reduceLT, Nat.reduceLeDiff, Nat.reduceAdd, Nat.reduceSub, reduceIte]
  simp only [fitL_yes hlen hok', Bool.true_and, EV, Nat.reduceEqDiff, Nat.reduceBEq, Nat.reduceLT, Nat.reduceLeDiff, Nat.reduceAdd, Nat.reduceSub, reduceIte, evRE, retVC, cellV', evR, nfz, nfzs, nfzss, List.contains_nil, List.contains_cons, Bool.or_false, or_true]

/-- loop.example/g00837/laws.FnExactMayCall -/
def m6 : MC :=
  (.seq
   (.reg [⟨(some 3), none, .a (.box 59 (.t 0))⟩,
     ⟨(some 6), none, .a (.asg (.c (.bool false)))⟩])
   (.keep [1, 2, 3]
   (.seq
    (.seq
     (.reg [⟨(some 14), none, .q (.mov (.t 2))⟩,
       ⟨(some 15), none, .q (.len false (.t 14))⟩,
       ⟨(some 16), none, .q (.bin false .gtr (.t 15) (.c (.int .i64 1048576)))⟩])
     (.keep [1, 2, 3, 16]
     (.cond (.t 16)
      (.seq
       (.reg [⟨(some 6), none, .a (.asg (.c (.bool true)))⟩])
       .ret)
      .skip)))
    (.keep [1, 2, 3]
    (.seq
     (.reg [⟨(some 7), none, .a (.asg (.c (.int .i64 1048576)))⟩])
     (.keep [1, 2, 3, 7]
     (.seq
      (.reg [⟨(some 17), none, .q (.load true 5 (.t 3))⟩,
        ⟨(some 18), none, .q (.mov (.t 7))⟩,
        ⟨(some 19), none, .a (.call (.fn 27) false [.lend (.t 17), .lend (.t 18)])⟩,
        ⟨(some 7), none, .a (.asg (.t 19))⟩])
      (.keep [1, 2, 3, 7]
      (.seq
       (.seq
        (.reg [⟨(some 20), none, .q (.mov (.t 7))⟩,
          ⟨(some 21), none, .q (.bin false .lss (.t 20) (.c (.int .i64 0)))⟩])
        (.keep [1, 2, 3, 21]
        (.cond (.t 21)
         (.seq
          (.reg [⟨(some 6), none, .a (.asg (.c (.bool true)))⟩])
          .ret)
         .skip)))
       (.keep [1, 2, 3]
       (.seq
        (.reg [⟨(some 23), none, .q (.load true 5 (.t 3))⟩,
          ⟨(some 24), none, .a (.call (.fn 28) false [.lend (.t 23)])⟩,
          ⟨(some 25), none, .q (.mov (.t 1))⟩,
          ⟨(some 26), none, .q (.mov (.t 2))⟩,
          ⟨(some 27), none, .a (.call (.fn 29) false [.lend (.t 26)])⟩,
          ⟨(some 28), none, .a (.call (.fn 26) false [.lend (.t 24), .lend (.t 25), .lend (.t 27)])⟩,
          ⟨(some 22), none, .q (.mov (.t 28))⟩,
          ⟨(some 29), none, .q (.ext 22 0)⟩,
          ⟨(some 30), none, .q (.ext 22 1)⟩,
          ⟨(some 8), none, .a (.asg (.t 29))⟩,
          ⟨(some 9), none, .a (.asg (.t 30))⟩])
        (.keep [1, 2, 3, 8, 9]
        (.seq
         (.reg [⟨(some 31), none, .q (.load true 5 (.t 3))⟩,
           ⟨(some 32), none, .a (.call (.fn 28) false [.lend (.t 31)])⟩,
           ⟨(some 10), none, .a (.alloc 45 [.v (.string ({ data := #[] })), .s 9 1, .s 40 6, .s 52 6, .s 155 2])⟩,
           ⟨none, none, .a (.store 5 (.t 10) (.t 32))⟩])
         (.keep [1, 2, 3, 8, 9, 10]
         (.seq
          (.reg [⟨(some 33), none, .q (.mov (.t 2))⟩,
            ⟨(some 34), none, .a (.call (.fn 29) false [.lend (.t 33)])⟩,
            ⟨(some 11), none, .a (.asg (.t 34))⟩])
          (.keep [1, 2, 3, 8, 9, 10, 11, 34]
          (.seq
           (.reg [⟨(some 36), none, .q (.load true 5 (.t 10))⟩,
             ⟨(some 37), none, .q (.mov (.t 1))⟩,
             ⟨(some 38), none, .q (.mov (.t 11))⟩,
             ⟨(some 39), none, .a (.call (.fn 25) false [.lend (.t 36), .lend (.t 37), .lend (.t 38)])⟩,
             ⟨(some 35), none, .q (.mov (.t 39))⟩,
             ⟨(some 40), none, .q (.ext 35 0)⟩,
             ⟨(some 41), none, .q (.ext 35 1)⟩,
             ⟨(some 12), none, .a (.asg (.t 40))⟩,
             ⟨(some 13), none, .a (.asg (.t 41))⟩])
           (.keep [2, 3, 8, 9, 10, 11, 12, 13, 34]
           (.seq
            (.seq
             (.reg [⟨(some 42), none, .q (.mov (.t 12))⟩,
               ⟨(some 43), none, .q (.mov (.t 8))⟩,
               ⟨(some 44), none, .q (.bin true .neq (.t 42) (.t 43))⟩,
               ⟨(some 45), none, .q (.mov (.t 44))⟩,
               ⟨(some 46), (some (45, false)), .q (.mov (.t 13))⟩,
               ⟨(some 47), (some (45, false)), .q (.mov (.t 9))⟩,
               ⟨(some 48), (some (45, false)), .q (.bin true .neq (.t 46) (.t 47))⟩,
               ⟨(some 49), none, .q (.pick (.t 45) (.c (.bool true)) (.t 48))⟩])
             (.keep [2, 3, 10, 11, 34, 49]
             (.cond (.t 49)
              (.seq
               (.reg [⟨(some 6), none, .a (.asg (.c (.bool false)))⟩])
               .ret)
              .skip)))
            (.keep [2, 3, 10, 11, 34]
            (.seq
             (.seq
              (.mixt [] [2, 3, 10, 11, 34, 54] [] [] []
                []
                (.alt (.step 0 ⟨(some 50), none, .q (.load true 5 (.t 10))⟩
                (.step 1 ⟨(some 51), none, .q (.load true 5 (.t 3))⟩
                 (.step 2 ⟨(some 52), none, .a (.call (.fn 28) false [.lend (.t 51)])⟩
                  (.step 3 ⟨(some 53), none, .a (.call (.fn 30) false [.lend (.t 50), .lend (.t 52)])⟩
                   (.step 4 ⟨(some 54), none, .q (.un .not (.t 53))⟩
                    .nil)))))
                (.step 1 ⟨(some 51), none, .q (.load true 5 (.t 3))⟩
                (.alt (.step 0 ⟨(some 50), none, .q (.load true 5 (.t 10))⟩
                 (.step 2 ⟨(some 52), none, .a (.call (.fn 28) false [.lend (.t 51)])⟩
                  (.step 3 ⟨(some 53), none, .a (.call (.fn 30) false [.lend (.t 50), .lend (.t 52)])⟩
                   (.step 4 ⟨(some 54), none, .q (.un .not (.t 53))⟩
                    .nil))))
                 (.step 2 ⟨(some 52), none, .a (.call (.fn 28) false [.lend (.t 51)])⟩
                 (.step 0 ⟨(some 50), none, .q (.load true 5 (.t 10))⟩
                  (.step 3 ⟨(some 53), none, .a (.call (.fn 30) false [.lend (.t 50), .lend (.t 52)])⟩
                   (.step 4 ⟨(some 54), none, .q (.un .not (.t 53))⟩
                    .nil))))))))
              (.keep [2, 11, 34, 54]
              (.cond (.t 54)
               (.seq
                (.reg [⟨(some 6), none, .a (.asg (.c (.bool false)))⟩])
                .ret)
               .skip)))
             (.keep [2, 11, 34]
             (.seq
              (.seq
               (.reg [⟨(some 55), none, .q (.mov (.t 11))⟩,
                 ⟨(some 56), none, .q (.mov (.t 2))⟩,
                 ⟨(some 57), none, .a (.call (.fn 29) false [.lend (.t 56)])⟩,
                 ⟨(some 58), none, .a (.call (.fn 31) false [.lend (.t 55), .lend (.t 57)])⟩,
                 ⟨(some 59), none, .q (.un .not (.t 58))⟩])
               (.keep [59]
               (.cond (.t 59)
                (.seq
                 (.reg [⟨(some 6), none, .a (.asg (.c (.bool false)))⟩])
                 .ret)
                .skip)))
              (.keep []
              (.seq
               (.reg [⟨(some 6), none, .a (.asg (.c (.bool true)))⟩])
               .ret)))))))))))))))))))))))))

set_option maxHeartbeats 1000000 in
set_option maxRecDepth 100000 in
theorem d6 (a : Scope) (n : Int) (ks : List Int) (hoa : a.ok) (hk0 : (ks.length : Int) ≤ 9223372036854775807) :
    Does Go.Proofs.Tryz.prog 6 [.agg a.z, .v (.int .i64 n), .fsl 1 (ks.map iv)] false (.v (.bool true)) [.dead, .dead, .dead] := by
  have dsz := d27 a 1048576 (by omega) (by omega) hoa
  simp only [Scope.z] at dsz
  have bs : ∀ b : Bool, (b != b) = false := fun b => by cases b <;> rfl
  refine does_intro (mc := m6) (N := 60) (rs := [6]) (fx := []) 3 rfl (by decide +kernel) ?_
  simp only [m6, Scope.z, EV, Nat.reduceEqDiff, Nat.reduceBEq, Nat.reduceLT, Nat.reduceLeDiff, Nat.reduceAdd, Nat.reduceSub, reduceIte]
  refine cK_cut (fun h => ?_) (fun h => ?_)
  · simp only [EV, Nat.reduceEqDiff, Nat.reduceBEq, Nat.reduceLT, Nat.reduceLeDiff, Nat.reduceAdd, Nat.reduceSub, reduceIte]
    simp only [EV, Nat.reduceEqDiff, Nat.reduceBEq, Nat.reduceLT, Nat.reduceLeDiff, Nat.reduceAdd, Nat.reduceSub, reduceIte, evRE, retVC, cellV', evR, nfz, nfzs, nfzss, List.contains_nil, List.contains_cons, Bool.or_false, or_true]
  have hk : (ks.length : Int) ≤ 1048576 := by have : ¬ 1048576 < (ks.length : Int) := by simpa using h
                                              omega
  clear h
  simp only [Scope.z, EV, Nat.reduceEqDiff, Nat.reduceBEq, Nat.reduceLT, Nat.reduceLeDiff, Nat.reduceAdd, Nat.reduceSub, reduceIte]
  refine callK_i dsz ?_
  simp only [EV, Nat.reduceEqDiff, Nat.reduceBEq, Nat.reduceLT, Nat.reduceLeDiff, Nat.reduceAdd, Nat.reduceSub, reduceIte]
  refine cK_cut (fun h => ?_) (fun h => ?_)
  · simp only [EV, Nat.reduceEqDiff, Nat.reduceBEq, Nat.reduceLT, Nat.reduceLeDiff, Nat.reduceAdd, Nat.reduceSub, reduceIte]
    simp only [EV, Nat.reduceEqDiff, Nat.reduceBEq, Nat.reduceLT, Nat.reduceLeDiff, Nat.reduceAdd, Nat.reduceSub, reduceIte, evRE, retVC, cellV', evR, nfz, nfzs, nfzss, List.contains_nil, List.contains_cons, Bool.or_false, or_true]
  have h0 : 0 ≤ szScope a 1048576 := by simpa using h
  have h1 := szScope_tot a _ h0
  have hx : a.sm := a.sm_of (by omega)
  clear h dsz
  have dto := d28 a hx
  have dsp := d26 a n ks hx hk
  have dim := d25 a n ks hx hk
  have deq := d30 a hx
  generalize (mcOk a n ks && fitL a.types (psAt a n) ks) = R1 at dsp dim
  generalize mcOk a n ks = R2 at dsp dim
  simp only [Scope.z, Scope.o] at dto dsp dim deq
  simp only [Scope.z, EV, Nat.reduceEqDiff, Nat.reduceBEq, Nat.reduceLT, Nat.reduceLeDiff, Nat.reduceAdd, Nat.reduceSub, reduceIte]
  refine callK_i dto ?_
  simp only [Str.frz, Ty.frz, Ob.frz, Us.frz, iv_frz, bs, pbeq, Scope.z, Scope.o, EV, Nat.reduceEqDiff, Nat.reduceBEq, Nat.reduceLT, Nat.reduceLeDiff, Nat.reduceAdd, Nat.reduceSub, reduceIte]
  refine callK_i (d29 ks hk) ?_
  simp only [Str.frz, Ty.frz, Ob.frz, Us.frz, iv_frz, bs, pbeq, Scope.z, Scope.o, EV, Nat.reduceEqDiff, Nat.reduceBEq, Nat.reduceLT, Nat.reduceLeDiff, Nat.reduceAdd, Nat.reduceSub, reduceIte]
  refine callK_i dsp ?_
  simp only [Str.frz, Ty.frz, Ob.frz, Us.frz, iv_frz, bs, pbeq, Scope.z, Scope.o, EV, Nat.reduceEqDiff, Nat.reduceBEq, Nat.reduceLT, Nat.reduceLeDiff, Nat.reduceAdd, Nat.reduceSub, reduceIte]
  refine callK_i dto ?_
  simp only [Str.frz, Ty.frz, Ob.frz, Us.frz, iv_frz, bs, pbeq, Scope.z, Scope.o, EV, Nat.reduceEqDiff, Nat.reduceBEq, Nat.reduceLT, Nat.reduceLeDiff, Nat.reduceAdd, Nat.reduceSub, reduceIte]
  refine callK_i (d29 ks hk) ?_
  simp only [Str.frz, Ty.frz, Ob.frz, Us.frz, iv_frz, bs, pbeq, Scope.z, Scope.o, EV, Nat.reduceEqDiff, Nat.reduceBEq, Nat.reduceLT, Nat.reduceLeDiff, Nat.reduceAdd, Nat.reduceSub, reduceIte]
  refine callK_i dim ?_
  simp only [Str.frz, Ty.frz, Ob.frz, Us.frz, iv_frz, bs, pbeq, Scope.z, Scope.o, EV, Nat.reduceEqDiff, Nat.reduceBEq, Nat.reduceLT, Nat.reduceLeDiff, Nat.reduceAdd, Nat.reduceSub, reduceIte]
  refine ⟨?_, ?_, ?_⟩
  all_goals
    refine callK_i dto ?_
    simp only [Str.frz, Ty.frz, Ob.frz, Us.frz, iv_frz, bs, pbeq, Scope.z, Scope.o, EV, Nat.reduceEqDiff, Nat.reduceBEq, Nat.reduceLT, Nat.reduceLeDiff, Nat.reduceAdd, Nat.reduceSub, reduceIte]
    refine callK_i deq ?_
    simp only [Str.frz, Ty.frz, Ob.frz, Us.frz, iv_frz, bs, pbeq, Scope.z, Scope.o, EV, Nat.reduceEqDiff, Nat.reduceBEq, Nat.reduceLT, Nat.reduceLeDiff, Nat.reduceAdd, Nat.reduceSub, reduceIte]
    refine callK_i (d29 ks hk) ?_
    simp only [Str.frz, Ty.frz, Ob.frz, Us.frz, iv_frz, bs, pbeq, Scope.z, Scope.o, EV, Nat.reduceEqDiff, Nat.reduceBEq, Nat.reduceLT, Nat.reduceLeDiff, Nat.reduceAdd, Nat.reduceSub, reduceIte]
    refine callK_i (d31 ks hk) ?_
    simp only [Str.frz, Ty.frz, Ob.frz, Us.frz, iv_frz, bs, pbeq, Scope.z, Scope.o, EV, Nat.reduceEqDiff, Nat.reduceBEq, Nat.reduceLT, Nat.reduceLeDiff, Nat.reduceAdd, Nat.reduceSub, reduceIte]
    simp only [EV, Nat.reduceEqDiff, Nat.reduceBEq, Nat.reduceLT, Nat.reduceLeDiff, Nat.reduceAdd, Nat.reduceSub, reduceIte, evRE, retVC, cellV', evR, nfz, nfzs, nfzss, List.contains_nil, List.contains_cons, Bool.or_false, or_true]

end Go.AM
