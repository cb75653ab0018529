/- Contracts of functions of the given program, for the law FnExactTouchedBy: what they return and what they write, under the bounds that each theorem states. -/
import Derived.Test.YtleomgfaplldiaaT28
import Derived.Test.YtleomgfaplldiaaT10b
namespace Go.AM
set_option linter.unusedVariables false
set_option linter.unusedSimpArgs false


def mkChange (k : Int) : Change := ⟨mt (k), k + 1⟩
def mkChangeS : List Change → Int → List Change
  | [], _ => []
  | f :: fs, k => mkChange k :: mkChangeS fs (k + 2)
theorem mkChangeS_len : ∀ (l : List Change) (k : Int), (mkChangeS l k).length = l.length
  | [], _ => rfl
  | f :: fs, k => by simp [mkChangeS, mkChangeS_len fs]

/-- loop.example/g00837/laws.markChangeS -/
def m30 : MC :=
  (.seq
   (.reg [⟨(some 4), none, .a (.asg (.c (.int .i64 0)))⟩])
   (.seq
    (.seq
     (.reg [⟨(some 5), none, .a (.asg (.c (.int .i64 0)))⟩])
     (.block 0
      (.loop [0, 1, 5]
       (.seq
        (.seq
         (.reg [⟨(some 6), none, .q (.mov (.t 5))⟩,
           ⟨(some 7), none, .q (.mov (.t 0))⟩,
           ⟨(some 8), none, .q (.len false (.t 7))⟩,
           ⟨(some 9), none, .q (.bin false .lss (.t 6) (.t 8))⟩])
         (.cond (.t 9)
          .skip
          (.exit 0)))
        (.seq
         (.block 1
          (.seq
           (.reg [⟨(some 12), none, .q (.mov (.t 0))⟩,
             ⟨(some 13), none, .q (.mov (.t 5))⟩,
             ⟨(some 14), none, .q (.mov (.t 1))⟩,
             ⟨(some 15), none, .a (.call (.fn 72) false [.lend (.t 14)])⟩,
             ⟨(some 16), none, .q (.iad 2 (.t 12) (.t 13))⟩,
             ⟨(some 17), none, .q (.fad 0 (.t 16))⟩,
             ⟨none, none, .a (.store 1 (.t 17) (.t 15))⟩])
           (.seq
            (.reg [⟨(some 18), none, .q (.mov (.t 1))⟩,
              ⟨(some 19), none, .q (.bin false .add (.t 18) (.c (.int .i64 1)))⟩,
              ⟨(some 1), none, .a (.asg (.t 19))⟩])
            (.seq
             (.reg [⟨(some 20), none, .q (.mov (.t 0))⟩,
               ⟨(some 21), none, .q (.mov (.t 5))⟩,
               ⟨(some 22), none, .q (.mov (.t 1))⟩,
               ⟨(some 23), none, .q (.iad 2 (.t 20) (.t 21))⟩,
               ⟨(some 24), none, .q (.fad 1 (.t 23))⟩,
               ⟨none, none, .a (.store 1 (.t 24) (.t 22))⟩])
             (.reg [⟨(some 25), none, .q (.mov (.t 1))⟩,
               ⟨(some 26), none, .q (.bin false .add (.t 25) (.c (.int .i64 1)))⟩,
               ⟨(some 1), none, .a (.asg (.t 26))⟩])))))
         (.reg [⟨(some 10), none, .q (.mov (.t 5))⟩,
           ⟨(some 11), none, .q (.bin false .add (.t 10) (.c (.int .i64 1)))⟩,
           ⟨(some 5), none, .a (.asg (.t 11))⟩]))))))
    (.seq
     (.reg [⟨(some 27), none, .q (.mov (.t 1))⟩,
       ⟨(some 4), none, .a (.asg (.t 27))⟩])
     .ret)))


theorem d30 (l : List Change) (k : Int) (h0 : 0 ≤ k) (h1 : k + 2 * l.length ≤ 4611686018427387904) :
    Does Go.Proofs.Try.prog 30 [.usl 98 2 (l.map Change.c), .v (.int .i64 k)] false (.v (.int .i64 (k + 2 * l.length))) [.usl 98 2 ((mkChangeS l k).map Change.c), .dead] := by
  refine does_intro (mc := m30) (N := 28) (rs := [4]) (fx := [0]) 2 rfl (by decide +kernel) ?_
  simp only [m30, slcV, lhs, bnd, Int.toNat_zero, Nat.sub_zero, Option.map_none, allocV, mksV, ZC.av, evO, evC, evB, evS, zipA_cons, putS_t, putS_f, mqV, maV, asgV, boxV, cellsS, storL, ownO, rd, brw, brws, bare, bares, plain, plains, killV, killVs, isB, isS, fadV, loadV, iadV, inRow, getC, List.getD_cons_zero, List.getD_cons_succ, List.all_cons, List.all_nil, List.length_cons, List.length_nil, List.drop_zero, List.drop_succ_cons, List.take_succ_cons, List.take_zero, Bool.and_true, Bool.and_false, Bool.false_and, Bool.true_and, Bool.and_self, Option.bind_some, Nat.reduceEqDiff, Nat.reduceBEq, Nat.reduceLT, Nat.reduceLeDiff, Nat.reduceAdd, Nat.reduceSub, Nat.add_zero, Nat.zero_add, Nat.zero_lt_succ, Nat.le_refl, reduceIte, Bool.false_eq_true, false_implies, implies_true, true_and, and_true, and_self, Bool.not_true, Bool.not_false, beq_self_eq_true, bne_self_eq_false, List.nil_append, dV, dcallV_W, callV_W, callW, callX, sK_ap, giveS, calleeV, ioAll, argL, lendPlain, lendAll, outL, frzB, frzBs, List.map_cons, List.map_nil, List.append_nil, lenV, keepS, List.length_map, Int.toNat_natCast, Int.natCast_nonneg, take_map_len, List.take_length, convV, bslV, pullS, buildV, b2sV, bytesA, frzRows, frzRow, frzL, storeV, ovw, setC, setOf, cellOf, ioOf, ioAll, isOwner, shapeOf, keepK, takeK, List.take_nil, List.drop_nil, List.cons_append, List.set_set, List.length_set, List.getElem?_cons_zero, List.getElem?_cons_succ, List.set_cons_zero, List.set_cons_succ, Option.map_some, List.isPrefixOf]
  refine awp_loop (fun p : List Change × List Change × Int => p.1 ++ mkChangeS p.2.1 p.2.2 = mkChangeS l k ∧ p.2.2 + 2 * p.2.1.length = k + 2 * l.length ∧ 0 ≤ p.2.2 ∧ p.1.length + p.2.1.length = l.length)
    (fun p => stl [(0, .usl 98 2 ((p.1 ++ p.2.1).map Change.c)), (1, .v (.int .i64 p.2.2)), (5, .v (.int .i64 (p.1.length : Int)))]) (fun p => p.2.1.length) ([], l, k) ⟨rfl, rfl, h0, by simp⟩ ?_ ?_
  · simp only [slcV, lhs, bnd, Int.toNat_zero, Nat.sub_zero, Option.map_none, allocV, mksV, ZC.av, evO, evC, evB, evS, zipA_cons, putS_t, putS_f, mqV, maV, asgV, boxV, cellsS, storL, ownO, rd, brw, brws, bare, bares, plain, plains, killV, killVs, isB, isS, fadV, loadV, iadV, inRow, getC, List.getD_cons_zero, List.getD_cons_succ, List.all_cons, List.all_nil, List.length_cons, List.length_nil, List.drop_zero, List.drop_succ_cons, List.take_succ_cons, List.take_zero, Bool.and_true, Bool.and_false, Bool.false_and, Bool.true_and, Bool.and_self, Option.bind_some, Nat.reduceEqDiff, Nat.reduceBEq, Nat.reduceLT, Nat.reduceLeDiff, Nat.reduceAdd, Nat.reduceSub, Nat.add_zero, Nat.zero_add, Nat.zero_lt_succ, Nat.le_refl, reduceIte, Bool.false_eq_true, false_implies, implies_true, true_and, and_true, and_self, Bool.not_true, Bool.not_false, beq_self_eq_true, bne_self_eq_false, List.nil_append, dV, dcallV_W, callV_W, callW, callX, sK_ap, giveS, calleeV, ioAll, argL, lendPlain, lendAll, outL, frzB, frzBs, List.map_cons, List.map_nil, List.append_nil, lenV, keepS, List.length_map, Int.toNat_natCast, Int.natCast_nonneg, take_map_len, List.take_length, convV, bslV, pullS, buildV, b2sV, bytesA, frzRows, frzRow, frzL, storeV, ovw, setC, setOf, cellOf, ioOf, ioAll, isOwner, shapeOf, keepK, takeK, List.take_nil, List.drop_nil, List.cons_append, List.set_set, List.length_set, List.getElem?_cons_zero, List.getElem?_cons_succ, List.set_cons_zero, List.set_cons_succ, Option.map_some, List.isPrefixOf]
    rfl
  · rintro ⟨pre, post, n⟩ ⟨p0, p1, p2, p3⟩
    cases post with
    | nil =>
      simp only [slcV, lhs, bnd, Int.toNat_zero, Nat.sub_zero, Option.map_none, allocV, mksV, ZC.av, evO, evC, evB, evS, zipA_cons, putS_t, putS_f, mqV, maV, asgV, boxV, cellsS, storL, ownO, rd, brw, brws, bare, bares, plain, plains, killV, killVs, isB, isS, fadV, loadV, iadV, inRow, getC, List.getD_cons_zero, List.getD_cons_succ, List.all_cons, List.all_nil, List.length_cons, List.length_nil, List.drop_zero, List.drop_succ_cons, List.take_succ_cons, List.take_zero, Bool.and_true, Bool.and_false, Bool.false_and, Bool.true_and, Bool.and_self, Option.bind_some, Nat.reduceEqDiff, Nat.reduceBEq, Nat.reduceLT, Nat.reduceLeDiff, Nat.reduceAdd, Nat.reduceSub, Nat.add_zero, Nat.zero_add, Nat.zero_lt_succ, Nat.le_refl, reduceIte, Bool.false_eq_true, false_implies, implies_true, true_and, and_true, and_self, Bool.not_true, Bool.not_false, beq_self_eq_true, bne_self_eq_false, List.nil_append, dV, dcallV_W, callV_W, callW, callX, sK_ap, giveS, calleeV, ioAll, argL, lendPlain, lendAll, outL, frzB, frzBs, List.map_cons, List.map_nil, List.append_nil, lenV, keepS, List.length_map, Int.toNat_natCast, Int.natCast_nonneg, take_map_len, List.take_length, convV, bslV, pullS, buildV, b2sV, bytesA, frzRows, frzRow, frzL, storeV, ovw, setC, setOf, cellOf, ioOf, ioAll, isOwner, shapeOf, keepK, takeK, List.take_nil, List.drop_nil, List.cons_append, List.set_set, List.length_set, List.getElem?_cons_zero, List.getElem?_cons_succ, List.set_cons_zero, List.set_cons_succ, Option.map_some, List.isPrefixOf]
      refine cK_cut (fun h => ?_) (fun h => ?_)
      · simp at h
      · simp only [slcV, lhs, bnd, Int.toNat_zero, Nat.sub_zero, Option.map_none, allocV, mksV, ZC.av, evO, evC, evB, evS, zipA_cons, putS_t, putS_f, mqV, maV, asgV, boxV, cellsS, storL, ownO, rd, brw, brws, bare, bares, plain, plains, killV, killVs, isB, isS, fadV, loadV, iadV, inRow, getC, List.getD_cons_zero, List.getD_cons_succ, List.all_cons, List.all_nil, List.length_cons, List.length_nil, List.drop_zero, List.drop_succ_cons, List.take_succ_cons, List.take_zero, Bool.and_true, Bool.and_false, Bool.false_and, Bool.true_and, Bool.and_self, Option.bind_some, Nat.reduceEqDiff, Nat.reduceBEq, Nat.reduceLT, Nat.reduceLeDiff, Nat.reduceAdd, Nat.reduceSub, Nat.add_zero, Nat.zero_add, Nat.zero_lt_succ, Nat.le_refl, reduceIte, Bool.false_eq_true, false_implies, implies_true, true_and, and_true, and_self, Bool.not_true, Bool.not_false, beq_self_eq_true, bne_self_eq_false, List.nil_append, dV, dcallV_W, callV_W, callW, callX, sK_ap, giveS, calleeV, ioAll, argL, lendPlain, lendAll, outL, frzB, frzBs, List.map_cons, List.map_nil, List.append_nil, lenV, keepS, List.length_map, Int.toNat_natCast, Int.natCast_nonneg, take_map_len, List.take_length, convV, bslV, pullS, buildV, b2sV, bytesA, frzRows, frzRow, frzL, storeV, ovw, setC, setOf, cellOf, ioOf, ioAll, isOwner, shapeOf, keepK, takeK, List.take_nil, List.drop_nil, List.cons_append, List.set_set, List.length_set, List.getElem?_cons_zero, List.getElem?_cons_succ, List.set_cons_zero, List.set_cons_succ, Option.map_some, List.isPrefixOf]
        simp only [List.append_nil, mkChangeS, List.length_nil] at p0 p1
        have e : n = k + 2 * l.length := by simp at p1; omega
        simp only [p0, ← e, slcV, lhs, bnd, Int.toNat_zero, Nat.sub_zero, Option.map_none, allocV, mksV, ZC.av, evO, evC, evB, evS, zipA_cons, putS_t, putS_f, mqV, maV, asgV, boxV, cellsS, storL, ownO, rd, brw, brws, bare, bares, plain, plains, killV, killVs, isB, isS, fadV, loadV, iadV, inRow, getC, List.getD_cons_zero, List.getD_cons_succ, List.all_cons, List.all_nil, List.length_cons, List.length_nil, List.drop_zero, List.drop_succ_cons, List.take_succ_cons, List.take_zero, Bool.and_true, Bool.and_false, Bool.false_and, Bool.true_and, Bool.and_self, Option.bind_some, Nat.reduceEqDiff, Nat.reduceBEq, Nat.reduceLT, Nat.reduceLeDiff, Nat.reduceAdd, Nat.reduceSub, Nat.add_zero, Nat.zero_add, Nat.zero_lt_succ, Nat.le_refl, reduceIte, Bool.false_eq_true, false_implies, implies_true, true_and, and_true, and_self, Bool.not_true, Bool.not_false, beq_self_eq_true, bne_self_eq_false, List.nil_append, dV, dcallV_W, callV_W, callW, callX, sK_ap, giveS, calleeV, ioAll, argL, lendPlain, lendAll, outL, frzB, frzBs, List.map_cons, List.map_nil, List.append_nil, lenV, keepS, List.length_map, Int.toNat_natCast, Int.natCast_nonneg, take_map_len, List.take_length, convV, bslV, pullS, buildV, b2sV, bytesA, frzRows, frzRow, frzL, storeV, ovw, setC, setOf, cellOf, ioOf, ioAll, isOwner, shapeOf, keepK, takeK, List.take_nil, List.drop_nil, List.cons_append, List.set_set, List.length_set, List.getElem?_cons_zero, List.getElem?_cons_succ, List.set_cons_zero, List.set_cons_succ, Option.map_some, List.isPrefixOf, retVC, cellV', evR, nfz, nfzs, nfzss, List.contains_nil, List.contains_cons, Bool.or_false, or_true]
    | cons f post =>
      simp only [slcV, lhs, bnd, Int.toNat_zero, Nat.sub_zero, Option.map_none, allocV, mksV, ZC.av, evO, evC, evB, evS, zipA_cons, putS_t, putS_f, mqV, maV, asgV, boxV, cellsS, storL, ownO, rd, brw, brws, bare, bares, plain, plains, killV, killVs, isB, isS, fadV, loadV, iadV, inRow, getC, List.getD_cons_zero, List.getD_cons_succ, List.all_cons, List.all_nil, List.length_cons, List.length_nil, List.drop_zero, List.drop_succ_cons, List.take_succ_cons, List.take_zero, Bool.and_true, Bool.and_false, Bool.false_and, Bool.true_and, Bool.and_self, Option.bind_some, Nat.reduceEqDiff, Nat.reduceBEq, Nat.reduceLT, Nat.reduceLeDiff, Nat.reduceAdd, Nat.reduceSub, Nat.add_zero, Nat.zero_add, Nat.zero_lt_succ, Nat.le_refl, reduceIte, Bool.false_eq_true, false_implies, implies_true, true_and, and_true, and_self, Bool.not_true, Bool.not_false, beq_self_eq_true, bne_self_eq_false, List.nil_append, dV, dcallV_W, callV_W, callW, callX, sK_ap, giveS, calleeV, ioAll, argL, lendPlain, lendAll, outL, frzB, frzBs, List.map_cons, List.map_nil, List.append_nil, lenV, keepS, List.length_map, Int.toNat_natCast, Int.natCast_nonneg, take_map_len, List.take_length, convV, bslV, pullS, buildV, b2sV, bytesA, frzRows, frzRow, frzL, storeV, ovw, setC, setOf, cellOf, ioOf, ioAll, isOwner, shapeOf, keepK, takeK, List.take_nil, List.drop_nil, List.cons_append, List.set_set, List.length_set, List.getElem?_cons_zero, List.getElem?_cons_succ, List.set_cons_zero, List.set_cons_succ, Option.map_some, List.isPrefixOf]
      refine cK_cut (fun h => ?_) (fun h => ?_)
      rotate_left
      · simp at h; omega
      simp only at p0 p1 p2 p3
      simp only [List.length_cons] at p1 p3
      have h3 : (pre.length : Int) < ((pre ++ f :: post).length : Int) := by simp; omega
      have h4 : pre.length < ((pre ++ f :: post).map Change.c).length := by simp
      have e1 : nth ((pre ++ f :: post).map Change.c) pre.length = f.c := nth_mid
      generalize hR : (pre ++ f :: post).map Change.c = R at h4 e1 ⊢
      have hRl : R.length = l.length := by rw [← hR]; simp; omega
      have h5 : (pre.length : Int) < (R.length : Int) := by omega
      have w0 := w64 ((pre.length : Int) + 1) (by omega)
      have w1 := w64 (n + 1) (by omega)
      have w2 := w64 (n + 1 + 1) (by omega)
      simp only [h4, h5, e1, nth_set h4, List.getElem?_set_self h4, modify_set, Change.c, w1, w2, w0, slcV, lhs, bnd, Int.toNat_zero, Nat.sub_zero, Option.map_none, allocV, mksV, ZC.av, evO, evC, evB, evS, zipA_cons, putS_t, putS_f, mqV, maV, asgV, boxV, cellsS, storL, ownO, rd, brw, brws, bare, bares, plain, plains, killV, killVs, isB, isS, fadV, loadV, iadV, inRow, getC, List.getD_cons_zero, List.getD_cons_succ, List.all_cons, List.all_nil, List.length_cons, List.length_nil, List.drop_zero, List.drop_succ_cons, List.take_succ_cons, List.take_zero, Bool.and_true, Bool.and_false, Bool.false_and, Bool.true_and, Bool.and_self, Option.bind_some, Nat.reduceEqDiff, Nat.reduceBEq, Nat.reduceLT, Nat.reduceLeDiff, Nat.reduceAdd, Nat.reduceSub, Nat.add_zero, Nat.zero_add, Nat.zero_lt_succ, Nat.le_refl, reduceIte, Bool.false_eq_true, false_implies, implies_true, true_and, and_true, and_self, Bool.not_true, Bool.not_false, beq_self_eq_true, bne_self_eq_false, List.nil_append, dV, dcallV_W, callV_W, callW, callX, sK_ap, giveS, calleeV, ioAll, argL, lendPlain, lendAll, outL, frzB, frzBs, List.map_cons, List.map_nil, List.append_nil, lenV, keepS, List.length_map, Int.toNat_natCast, Int.natCast_nonneg, take_map_len, List.take_length, convV, bslV, pullS, buildV, b2sV, bytesA, frzRows, frzRow, frzL, storeV, ovw, setC, setOf, cellOf, ioOf, ioAll, isOwner, shapeOf, keepK, takeK, List.take_nil, List.drop_nil, List.cons_append, List.set_set, List.length_set, List.getElem?_cons_zero, List.getElem?_cons_succ, List.set_cons_zero, List.set_cons_succ, Option.map_some, List.isPrefixOf]
      refine callK_i (d72 (n) (by omega) (by omega)) ?_
      simp only [h4, h5, e1, nth_set h4, List.getElem?_set_self h4, modify_set, Change.c, w1, w2, w0, slcV, lhs, bnd, Int.toNat_zero, Nat.sub_zero, Option.map_none, allocV, mksV, ZC.av, evO, evC, evB, evS, zipA_cons, putS_t, putS_f, mqV, maV, asgV, boxV, cellsS, storL, ownO, rd, brw, brws, bare, bares, plain, plains, killV, killVs, isB, isS, fadV, loadV, iadV, inRow, getC, List.getD_cons_zero, List.getD_cons_succ, List.all_cons, List.all_nil, List.length_cons, List.length_nil, List.drop_zero, List.drop_succ_cons, List.take_succ_cons, List.take_zero, Bool.and_true, Bool.and_false, Bool.false_and, Bool.true_and, Bool.and_self, Option.bind_some, Nat.reduceEqDiff, Nat.reduceBEq, Nat.reduceLT, Nat.reduceLeDiff, Nat.reduceAdd, Nat.reduceSub, Nat.add_zero, Nat.zero_add, Nat.zero_lt_succ, Nat.le_refl, reduceIte, Bool.false_eq_true, false_implies, implies_true, true_and, and_true, and_self, Bool.not_true, Bool.not_false, beq_self_eq_true, bne_self_eq_false, List.nil_append, dV, dcallV_W, callV_W, callW, callX, sK_ap, giveS, calleeV, ioAll, argL, lendPlain, lendAll, outL, frzB, frzBs, List.map_cons, List.map_nil, List.append_nil, lenV, keepS, List.length_map, Int.toNat_natCast, Int.natCast_nonneg, take_map_len, List.take_length, convV, bslV, pullS, buildV, b2sV, bytesA, frzRows, frzRow, frzL, storeV, ovw, setC, setOf, cellOf, ioOf, ioAll, isOwner, shapeOf, keepK, takeK, List.take_nil, List.drop_nil, List.cons_append, List.set_set, List.length_set, List.getElem?_cons_zero, List.getElem?_cons_succ, List.set_cons_zero, List.set_cons_succ, Option.map_some, List.isPrefixOf]
      refine ⟨(pre ++ [mkChange n], post, n + 2), ⟨?_, ?_, ?_, ?_⟩, ?_, ?_⟩
      · rw [← p0]; simp [mkChangeS]
      · simp only; omega
      · simp only; omega
      · simp only [List.length_append, List.length_cons, List.length_nil]; omega
      · simp only; omega
      · have e2 := set_mid (g := Change.c) (pre := pre) (post := post) (t := f) (mkChange n)
        rw [hR] at e2
        simp only [Change.c, mkChange] at e2
        simp only [← e2, mkChange, List.length_append, List.length_cons, List.length_nil, Int.add_assoc]
        rfl

/-- loop.example/g00837/laws.heldChangeS -/
def m31 : MC :=
  (.seq
   (.reg [⟨(some 4), none, .a (.asg (.c (.int .i64 0)))⟩])
   (.seq
    (.seq
     (.reg [⟨(some 5), none, .a (.asg (.c (.int .i64 0)))⟩])
     (.block 0
      (.loop [0, 1, 5]
       (.seq
        (.seq
         (.reg [⟨(some 6), none, .q (.mov (.t 5))⟩,
           ⟨(some 7), none, .q (.mov (.t 0))⟩,
           ⟨(some 8), none, .q (.len false (.t 7))⟩,
           ⟨(some 9), none, .q (.bin false .lss (.t 6) (.t 8))⟩])
         (.cond (.t 9)
          .skip
          (.exit 0)))
        (.seq
         (.block 1
          (.seq
           (.seq
            (.dreg [⟨(some 12), none, .q (.mov (.t 0))⟩,
              ⟨(some 13), none, .q (.mov (.t 5))⟩,
              ⟨(some 14), none, .q (.iad 2 (.t 12) (.t 13))⟩,
              ⟨(some 15), none, .q (.fad 0 (.t 14))⟩,
              ⟨(some 16), none, .q (.load false 1 (.t 15))⟩,
              ⟨(some 17), none, .q (.mov (.t 1))⟩,
              ⟨(some 18), none, .a (.call (.fn 72) false [.lend (.t 17)])⟩,
              ⟨(some 19), none, .q (.bin false .neq (.t 16) (.t 18))⟩])
            (.cond (.t 19)
             (.seq
              (.reg [⟨(some 4), none, .a (.asg (.c (.int .i64 (-1))))⟩])
              .ret)
             .skip))
           (.seq
            (.reg [⟨(some 20), none, .q (.mov (.t 1))⟩,
              ⟨(some 21), none, .q (.bin false .add (.t 20) (.c (.int .i64 1)))⟩,
              ⟨(some 1), none, .a (.asg (.t 21))⟩])
            (.seq
             (.seq
              (.reg [⟨(some 22), none, .q (.mov (.t 0))⟩,
                ⟨(some 23), none, .q (.mov (.t 5))⟩,
                ⟨(some 24), none, .q (.iad 2 (.t 22) (.t 23))⟩,
                ⟨(some 25), none, .q (.fad 1 (.t 24))⟩,
                ⟨(some 26), none, .q (.load false 1 (.t 25))⟩,
                ⟨(some 27), none, .q (.mov (.t 1))⟩,
                ⟨(some 28), none, .q (.bin false .neq (.t 26) (.t 27))⟩])
              (.cond (.t 28)
               (.seq
                (.reg [⟨(some 4), none, .a (.asg (.c (.int .i64 (-1))))⟩])
                .ret)
               .skip))
             (.reg [⟨(some 29), none, .q (.mov (.t 1))⟩,
               ⟨(some 30), none, .q (.bin false .add (.t 29) (.c (.int .i64 1)))⟩,
               ⟨(some 1), none, .a (.asg (.t 30))⟩])))))
         (.reg [⟨(some 10), none, .q (.mov (.t 5))⟩,
           ⟨(some 11), none, .q (.bin false .add (.t 10) (.c (.int .i64 1)))⟩,
           ⟨(some 5), none, .a (.asg (.t 11))⟩]))))))
    (.seq
     (.reg [⟨(some 31), none, .q (.mov (.t 1))⟩,
       ⟨(some 4), none, .a (.asg (.t 31))⟩])
     .ret)))


theorem d31 (l : List Change) (k : Int) (h0 : 0 ≤ k) (h1 : k + 2 * l.length ≤ 4611686018427387904) :
    Does Go.Proofs.Try.prog 31 [.fsl 2 ((mkChangeS l k).map Change.c), .v (.int .i64 k)] false (.v (.int .i64 (k + 2 * l.length))) [.dead, .dead] := by
  have hl : (mkChangeS l k).length = l.length := mkChangeS_len l k
  generalize hM0 : mkChangeS l k = M at hl ⊢
  refine does_intro (mc := m31) (N := 32) (rs := [4]) (fx := []) 2 rfl (by decide +kernel) ?_
  simp only [m31, slcV, lhs, bnd, Int.toNat_zero, Nat.sub_zero, Option.map_none, allocV, mksV, ZC.av, evO, evC, evB, evS, zipA_cons, putS_t, putS_f, mqV, maV, asgV, boxV, cellsS, storL, ownO, rd, brw, brws, bare, bares, plain, plains, killV, killVs, isB, isS, fadV, loadV, iadV, inRow, getC, List.getD_cons_zero, List.getD_cons_succ, List.all_cons, List.all_nil, List.length_cons, List.length_nil, List.drop_zero, List.drop_succ_cons, List.take_succ_cons, List.take_zero, Bool.and_true, Bool.and_false, Bool.false_and, Bool.true_and, Bool.and_self, Option.bind_some, Nat.reduceEqDiff, Nat.reduceBEq, Nat.reduceLT, Nat.reduceLeDiff, Nat.reduceAdd, Nat.reduceSub, Nat.add_zero, Nat.zero_add, Nat.zero_lt_succ, Nat.le_refl, reduceIte, Bool.false_eq_true, false_implies, implies_true, true_and, and_true, and_self, Bool.not_true, Bool.not_false, beq_self_eq_true, bne_self_eq_false, List.nil_append, dV, dcallV_W, callV_W, callW, callX, sK_ap, giveS, calleeV, ioAll, argL, lendPlain, lendAll, outL, frzB, frzBs, List.map_cons, List.map_nil, List.append_nil, lenV, keepS, List.length_map, Int.toNat_natCast, Int.natCast_nonneg, take_map_len, List.take_length, convV, bslV, pullS, buildV, b2sV, bytesA, frzRows, frzRow, frzL, storeV, ovw, setC, setOf, cellOf, ioOf, ioAll, isOwner, shapeOf, keepK, takeK, List.take_nil, List.drop_nil, List.cons_append, List.set_set, List.length_set, List.getElem?_cons_zero, List.getElem?_cons_succ, List.set_cons_zero, List.set_cons_succ, Option.map_some, List.isPrefixOf]
  refine awp_loop (fun p : List Change × List Change × Int => M = p.1 ++ mkChangeS p.2.1 p.2.2 ∧ p.2.2 + 2 * p.2.1.length = k + 2 * l.length ∧ 0 ≤ p.2.2 ∧ p.1.length + p.2.1.length = l.length)
    (fun p => stl [(0, .fsl 2 (M.map Change.c)), (1, .v (.int .i64 p.2.2)), (5, .v (.int .i64 (p.1.length : Int)))]) (fun p => p.2.1.length) ([], l, k) ⟨by rw [← hM0]; rfl, rfl, h0, by simp⟩ ?_ ?_
  · simp only [slcV, lhs, bnd, Int.toNat_zero, Nat.sub_zero, Option.map_none, allocV, mksV, ZC.av, evO, evC, evB, evS, zipA_cons, putS_t, putS_f, mqV, maV, asgV, boxV, cellsS, storL, ownO, rd, brw, brws, bare, bares, plain, plains, killV, killVs, isB, isS, fadV, loadV, iadV, inRow, getC, List.getD_cons_zero, List.getD_cons_succ, List.all_cons, List.all_nil, List.length_cons, List.length_nil, List.drop_zero, List.drop_succ_cons, List.take_succ_cons, List.take_zero, Bool.and_true, Bool.and_false, Bool.false_and, Bool.true_and, Bool.and_self, Option.bind_some, Nat.reduceEqDiff, Nat.reduceBEq, Nat.reduceLT, Nat.reduceLeDiff, Nat.reduceAdd, Nat.reduceSub, Nat.add_zero, Nat.zero_add, Nat.zero_lt_succ, Nat.le_refl, reduceIte, Bool.false_eq_true, false_implies, implies_true, true_and, and_true, and_self, Bool.not_true, Bool.not_false, beq_self_eq_true, bne_self_eq_false, List.nil_append, dV, dcallV_W, callV_W, callW, callX, sK_ap, giveS, calleeV, ioAll, argL, lendPlain, lendAll, outL, frzB, frzBs, List.map_cons, List.map_nil, List.append_nil, lenV, keepS, List.length_map, Int.toNat_natCast, Int.natCast_nonneg, take_map_len, List.take_length, convV, bslV, pullS, buildV, b2sV, bytesA, frzRows, frzRow, frzL, storeV, ovw, setC, setOf, cellOf, ioOf, ioAll, isOwner, shapeOf, keepK, takeK, List.take_nil, List.drop_nil, List.cons_append, List.set_set, List.length_set, List.getElem?_cons_zero, List.getElem?_cons_succ, List.set_cons_zero, List.set_cons_succ, Option.map_some, List.isPrefixOf]
    rfl
  · rintro ⟨pre, post, n⟩ ⟨p0, p1, p2, p3⟩
    simp only at p0 p1 p2 p3
    cases post with
    | nil =>
      simp only [slcV, lhs, bnd, Int.toNat_zero, Nat.sub_zero, Option.map_none, allocV, mksV, ZC.av, evO, evC, evB, evS, zipA_cons, putS_t, putS_f, mqV, maV, asgV, boxV, cellsS, storL, ownO, rd, brw, brws, bare, bares, plain, plains, killV, killVs, isB, isS, fadV, loadV, iadV, inRow, getC, List.getD_cons_zero, List.getD_cons_succ, List.all_cons, List.all_nil, List.length_cons, List.length_nil, List.drop_zero, List.drop_succ_cons, List.take_succ_cons, List.take_zero, Bool.and_true, Bool.and_false, Bool.false_and, Bool.true_and, Bool.and_self, Option.bind_some, Nat.reduceEqDiff, Nat.reduceBEq, Nat.reduceLT, Nat.reduceLeDiff, Nat.reduceAdd, Nat.reduceSub, Nat.add_zero, Nat.zero_add, Nat.zero_lt_succ, Nat.le_refl, reduceIte, Bool.false_eq_true, false_implies, implies_true, true_and, and_true, and_self, Bool.not_true, Bool.not_false, beq_self_eq_true, bne_self_eq_false, List.nil_append, dV, dcallV_W, callV_W, callW, callX, sK_ap, giveS, calleeV, ioAll, argL, lendPlain, lendAll, outL, frzB, frzBs, List.map_cons, List.map_nil, List.append_nil, lenV, keepS, List.length_map, Int.toNat_natCast, Int.natCast_nonneg, take_map_len, List.take_length, convV, bslV, pullS, buildV, b2sV, bytesA, frzRows, frzRow, frzL, storeV, ovw, setC, setOf, cellOf, ioOf, ioAll, isOwner, shapeOf, keepK, takeK, List.take_nil, List.drop_nil, List.cons_append, List.set_set, List.length_set, List.getElem?_cons_zero, List.getElem?_cons_succ, List.set_cons_zero, List.set_cons_succ, Option.map_some, List.isPrefixOf]
      refine cK_cut (fun h => ?_) (fun h => ?_)
      · simp at h p3; omega
      · simp only [slcV, lhs, bnd, Int.toNat_zero, Nat.sub_zero, Option.map_none, allocV, mksV, ZC.av, evO, evC, evB, evS, zipA_cons, putS_t, putS_f, mqV, maV, asgV, boxV, cellsS, storL, ownO, rd, brw, brws, bare, bares, plain, plains, killV, killVs, isB, isS, fadV, loadV, iadV, inRow, getC, List.getD_cons_zero, List.getD_cons_succ, List.all_cons, List.all_nil, List.length_cons, List.length_nil, List.drop_zero, List.drop_succ_cons, List.take_succ_cons, List.take_zero, Bool.and_true, Bool.and_false, Bool.false_and, Bool.true_and, Bool.and_self, Option.bind_some, Nat.reduceEqDiff, Nat.reduceBEq, Nat.reduceLT, Nat.reduceLeDiff, Nat.reduceAdd, Nat.reduceSub, Nat.add_zero, Nat.zero_add, Nat.zero_lt_succ, Nat.le_refl, reduceIte, Bool.false_eq_true, false_implies, implies_true, true_and, and_true, and_self, Bool.not_true, Bool.not_false, beq_self_eq_true, bne_self_eq_false, List.nil_append, dV, dcallV_W, callV_W, callW, callX, sK_ap, giveS, calleeV, ioAll, argL, lendPlain, lendAll, outL, frzB, frzBs, List.map_cons, List.map_nil, List.append_nil, lenV, keepS, List.length_map, Int.toNat_natCast, Int.natCast_nonneg, take_map_len, List.take_length, convV, bslV, pullS, buildV, b2sV, bytesA, frzRows, frzRow, frzL, storeV, ovw, setC, setOf, cellOf, ioOf, ioAll, isOwner, shapeOf, keepK, takeK, List.take_nil, List.drop_nil, List.cons_append, List.set_set, List.length_set, List.getElem?_cons_zero, List.getElem?_cons_succ, List.set_cons_zero, List.set_cons_succ, Option.map_some, List.isPrefixOf]
        have e : n = k + 2 * l.length := by simp at p1; omega
        simp only [← e, slcV, lhs, bnd, Int.toNat_zero, Nat.sub_zero, Option.map_none, allocV, mksV, ZC.av, evO, evC, evB, evS, zipA_cons, putS_t, putS_f, mqV, maV, asgV, boxV, cellsS, storL, ownO, rd, brw, brws, bare, bares, plain, plains, killV, killVs, isB, isS, fadV, loadV, iadV, inRow, getC, List.getD_cons_zero, List.getD_cons_succ, List.all_cons, List.all_nil, List.length_cons, List.length_nil, List.drop_zero, List.drop_succ_cons, List.take_succ_cons, List.take_zero, Bool.and_true, Bool.and_false, Bool.false_and, Bool.true_and, Bool.and_self, Option.bind_some, Nat.reduceEqDiff, Nat.reduceBEq, Nat.reduceLT, Nat.reduceLeDiff, Nat.reduceAdd, Nat.reduceSub, Nat.add_zero, Nat.zero_add, Nat.zero_lt_succ, Nat.le_refl, reduceIte, Bool.false_eq_true, false_implies, implies_true, true_and, and_true, and_self, Bool.not_true, Bool.not_false, beq_self_eq_true, bne_self_eq_false, List.nil_append, dV, dcallV_W, callV_W, callW, callX, sK_ap, giveS, calleeV, ioAll, argL, lendPlain, lendAll, outL, frzB, frzBs, List.map_cons, List.map_nil, List.append_nil, lenV, keepS, List.length_map, Int.toNat_natCast, Int.natCast_nonneg, take_map_len, List.take_length, convV, bslV, pullS, buildV, b2sV, bytesA, frzRows, frzRow, frzL, storeV, ovw, setC, setOf, cellOf, ioOf, ioAll, isOwner, shapeOf, keepK, takeK, List.take_nil, List.drop_nil, List.cons_append, List.set_set, List.length_set, List.getElem?_cons_zero, List.getElem?_cons_succ, List.set_cons_zero, List.set_cons_succ, Option.map_some, List.isPrefixOf, retVC, cellV', evR, nfz, nfzs, nfzss, List.contains_nil, List.contains_cons, Bool.or_false, or_true]
    | cons f post =>
      simp only [slcV, lhs, bnd, Int.toNat_zero, Nat.sub_zero, Option.map_none, allocV, mksV, ZC.av, evO, evC, evB, evS, zipA_cons, putS_t, putS_f, mqV, maV, asgV, boxV, cellsS, storL, ownO, rd, brw, brws, bare, bares, plain, plains, killV, killVs, isB, isS, fadV, loadV, iadV, inRow, getC, List.getD_cons_zero, List.getD_cons_succ, List.all_cons, List.all_nil, List.length_cons, List.length_nil, List.drop_zero, List.drop_succ_cons, List.take_succ_cons, List.take_zero, Bool.and_true, Bool.and_false, Bool.false_and, Bool.true_and, Bool.and_self, Option.bind_some, Nat.reduceEqDiff, Nat.reduceBEq, Nat.reduceLT, Nat.reduceLeDiff, Nat.reduceAdd, Nat.reduceSub, Nat.add_zero, Nat.zero_add, Nat.zero_lt_succ, Nat.le_refl, reduceIte, Bool.false_eq_true, false_implies, implies_true, true_and, and_true, and_self, Bool.not_true, Bool.not_false, beq_self_eq_true, bne_self_eq_false, List.nil_append, dV, dcallV_W, callV_W, callW, callX, sK_ap, giveS, calleeV, ioAll, argL, lendPlain, lendAll, outL, frzB, frzBs, List.map_cons, List.map_nil, List.append_nil, lenV, keepS, List.length_map, Int.toNat_natCast, Int.natCast_nonneg, take_map_len, List.take_length, convV, bslV, pullS, buildV, b2sV, bytesA, frzRows, frzRow, frzL, storeV, ovw, setC, setOf, cellOf, ioOf, ioAll, isOwner, shapeOf, keepK, takeK, List.take_nil, List.drop_nil, List.cons_append, List.set_set, List.length_set, List.getElem?_cons_zero, List.getElem?_cons_succ, List.set_cons_zero, List.set_cons_succ, Option.map_some, List.isPrefixOf]
      simp only [List.length_cons] at p1 p3
      refine cK_cut (fun h => ?_) (fun h => ?_)
      rotate_left
      · simp at h; omega
      have h5 : (pre.length : Int) < (M.length : Int) := by omega
      have e1 : nth (M.map Change.c) pre.length = Change.c (mkChange n) := by rw [p0]; exact nth_mid
      have w0 := w64 ((pre.length : Int) + 1) (by omega)
      have w1 := w64 (n + 1) (by omega)
      have w2 := w64 (n + 1 + 1) (by omega)
      have q2 : n + 1 + 1 = n + 2 := by omega
      rw [q2] at w2
      simp only [h5, e1, Change.c, mkChange, w1, w2, q2, w0, slcV, lhs, bnd, Int.toNat_zero, Nat.sub_zero, Option.map_none, allocV, mksV, ZC.av, evO, evC, evB, evS, zipA_cons, putS_t, putS_f, mqV, maV, asgV, boxV, cellsS, storL, ownO, rd, brw, brws, bare, bares, plain, plains, killV, killVs, isB, isS, fadV, loadV, iadV, inRow, getC, List.getD_cons_zero, List.getD_cons_succ, List.all_cons, List.all_nil, List.length_cons, List.length_nil, List.drop_zero, List.drop_succ_cons, List.take_succ_cons, List.take_zero, Bool.and_true, Bool.and_false, Bool.false_and, Bool.true_and, Bool.and_self, Option.bind_some, Nat.reduceEqDiff, Nat.reduceBEq, Nat.reduceLT, Nat.reduceLeDiff, Nat.reduceAdd, Nat.reduceSub, Nat.add_zero, Nat.zero_add, Nat.zero_lt_succ, Nat.le_refl, reduceIte, Bool.false_eq_true, false_implies, implies_true, true_and, and_true, and_self, Bool.not_true, Bool.not_false, beq_self_eq_true, bne_self_eq_false, List.nil_append, dV, dcallV_W, callV_W, callW, callX, sK_ap, giveS, calleeV, ioAll, argL, lendPlain, lendAll, outL, frzB, frzBs, List.map_cons, List.map_nil, List.append_nil, lenV, keepS, List.length_map, Int.toNat_natCast, Int.natCast_nonneg, take_map_len, List.take_length, convV, bslV, pullS, buildV, b2sV, bytesA, frzRows, frzRow, frzL, storeV, ovw, setC, setOf, cellOf, ioOf, ioAll, isOwner, shapeOf, keepK, takeK, List.take_nil, List.drop_nil, List.cons_append, List.set_set, List.length_set, List.getElem?_cons_zero, List.getElem?_cons_succ, List.set_cons_zero, List.set_cons_succ, Option.map_some, List.isPrefixOf]
      refine callD_i (d72 (n) (by omega) (by omega)) rfl ?_
      simp only [h5, e1, Change.c, mkChange, w1, w2, q2, w0, slcV, lhs, bnd, Int.toNat_zero, Nat.sub_zero, Option.map_none, allocV, mksV, ZC.av, evO, evC, evB, evS, zipA_cons, putS_t, putS_f, mqV, maV, asgV, boxV, cellsS, storL, ownO, rd, brw, brws, bare, bares, plain, plains, killV, killVs, isB, isS, fadV, loadV, iadV, inRow, getC, List.getD_cons_zero, List.getD_cons_succ, List.all_cons, List.all_nil, List.length_cons, List.length_nil, List.drop_zero, List.drop_succ_cons, List.take_succ_cons, List.take_zero, Bool.and_true, Bool.and_false, Bool.false_and, Bool.true_and, Bool.and_self, Option.bind_some, Nat.reduceEqDiff, Nat.reduceBEq, Nat.reduceLT, Nat.reduceLeDiff, Nat.reduceAdd, Nat.reduceSub, Nat.add_zero, Nat.zero_add, Nat.zero_lt_succ, Nat.le_refl, reduceIte, Bool.false_eq_true, false_implies, implies_true, true_and, and_true, and_self, Bool.not_true, Bool.not_false, beq_self_eq_true, bne_self_eq_false, List.nil_append, dV, dcallV_W, callV_W, callW, callX, sK_ap, giveS, calleeV, ioAll, argL, lendPlain, lendAll, outL, frzB, frzBs, List.map_cons, List.map_nil, List.append_nil, lenV, keepS, List.length_map, Int.toNat_natCast, Int.natCast_nonneg, take_map_len, List.take_length, convV, bslV, pullS, buildV, b2sV, bytesA, frzRows, frzRow, frzL, storeV, ovw, setC, setOf, cellOf, ioOf, ioAll, isOwner, shapeOf, keepK, takeK, List.take_nil, List.drop_nil, List.cons_append, List.set_set, List.length_set, List.getElem?_cons_zero, List.getElem?_cons_succ, List.set_cons_zero, List.set_cons_succ, Option.map_some, List.isPrefixOf]
      refine ⟨(pre ++ [mkChange n], post, n + 2), ⟨?_, ?_, ?_, ?_⟩, ?_, ?_⟩
      · rw [p0]; simp [mkChangeS]
      · simp only; omega
      · simp only; omega
      · simp only [List.length_append, List.length_cons, List.length_nil]; omega
      · simp only; omega
      · simp only [List.length_append, List.length_cons, List.length_nil]
        rfl

end Go.AM
