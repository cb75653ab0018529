/- Contracts of functions of the given program, for the law FnExactFoldExpr: what they return and what they write, under the bounds that each theorem states. -/
import Derived.Test.YtleomgfaplldiaaT80
import Derived.Test.YtleomgfaplldiaaT10b
namespace Go.AM
set_option linter.unusedVariables false
set_option linter.unusedSimpArgs false


def mkKnown (k : Int) : Known := ⟨mt (k), mt (k + 1), k + 2⟩
def mkKnownS : List Known → Int → List Known
  | [], _ => []
  | f :: fs, k => mkKnown k :: mkKnownS fs (k + 3)
theorem mkKnownS_len : ∀ (l : List Known) (k : Int), (mkKnownS l k).length = l.length
  | [], _ => rfl
  | f :: fs, k => by simp [mkKnownS, mkKnownS_len fs]

/-- loop.example/g00837/laws.markKnownS -/
def m59 : MC :=
  (.seq
   (.reg [⟨(some 4), none, .a (.asg (.c (.int .i64 0)))⟩])
   (.seq
    (.seq
     (.reg [⟨(some 5), none, .a (.asg (.c (.int .i64 0)))⟩])
     (.block 0
      (.loop [0, 1, 5]
       (.seq
        (.seq
         (.reg [⟨(some 6), none, .q (.mov (.t 5))⟩,
           ⟨(some 7), none, .q (.mov (.t 0))⟩,
           ⟨(some 8), none, .q (.len false (.t 7))⟩,
           ⟨(some 9), none, .q (.bin false .lss (.t 6) (.t 8))⟩])
         (.cond (.t 9)
          .skip
          (.exit 0)))
        (.seq
         (.block 1
          (.seq
           (.reg [⟨(some 12), none, .q (.mov (.t 0))⟩,
             ⟨(some 13), none, .q (.mov (.t 5))⟩,
             ⟨(some 14), none, .q (.mov (.t 1))⟩,
             ⟨(some 15), none, .a (.call (.fn 72) false [.lend (.t 14)])⟩,
             ⟨(some 16), none, .q (.iad 3 (.t 12) (.t 13))⟩,
             ⟨(some 17), none, .q (.fad 0 (.t 16))⟩,
             ⟨none, none, .a (.store 1 (.t 17) (.t 15))⟩])
           (.seq
            (.reg [⟨(some 18), none, .q (.mov (.t 1))⟩,
              ⟨(some 19), none, .q (.bin false .add (.t 18) (.c (.int .i64 1)))⟩,
              ⟨(some 1), none, .a (.asg (.t 19))⟩])
            (.seq
             (.reg [⟨(some 20), none, .q (.mov (.t 0))⟩,
               ⟨(some 21), none, .q (.mov (.t 5))⟩,
               ⟨(some 22), none, .q (.mov (.t 1))⟩,
               ⟨(some 23), none, .a (.call (.fn 72) false [.lend (.t 22)])⟩,
               ⟨(some 24), none, .q (.iad 3 (.t 20) (.t 21))⟩,
               ⟨(some 25), none, .q (.fad 1 (.t 24))⟩,
               ⟨none, none, .a (.store 1 (.t 25) (.t 23))⟩])
             (.seq
              (.reg [⟨(some 26), none, .q (.mov (.t 1))⟩,
                ⟨(some 27), none, .q (.bin false .add (.t 26) (.c (.int .i64 1)))⟩,
                ⟨(some 1), none, .a (.asg (.t 27))⟩])
              (.seq
               (.reg [⟨(some 28), none, .q (.mov (.t 0))⟩,
                 ⟨(some 29), none, .q (.mov (.t 5))⟩,
                 ⟨(some 30), none, .q (.mov (.t 1))⟩,
                 ⟨(some 31), none, .q (.iad 3 (.t 28) (.t 29))⟩,
                 ⟨(some 32), none, .q (.fad 2 (.t 31))⟩,
                 ⟨none, none, .a (.store 1 (.t 32) (.t 30))⟩])
               (.reg [⟨(some 33), none, .q (.mov (.t 1))⟩,
                 ⟨(some 34), none, .q (.bin false .add (.t 33) (.c (.int .i64 1)))⟩,
                 ⟨(some 1), none, .a (.asg (.t 34))⟩])))))))
         (.reg [⟨(some 10), none, .q (.mov (.t 5))⟩,
           ⟨(some 11), none, .q (.bin false .add (.t 10) (.c (.int .i64 1)))⟩,
           ⟨(some 5), none, .a (.asg (.t 11))⟩]))))))
    (.seq
     (.reg [⟨(some 35), none, .q (.mov (.t 1))⟩,
       ⟨(some 4), none, .a (.asg (.t 35))⟩])
     .ret)))


theorem d59 (l : List Known) (k : Int) (h0 : 0 ≤ k) (h1 : k + 3 * l.length ≤ 4611686018427387904) :
    Does Go.Proofs.Try.prog 59 [.usl 132 3 (l.map Known.c), .v (.int .i64 k)] false (.v (.int .i64 (k + 3 * l.length))) [.usl 132 3 ((mkKnownS l k).map Known.c), .dead] := by
  refine does_intro (mc := m59) (N := 36) (rs := [4]) (fx := [0]) 2 rfl (by decide +kernel) ?_
  simp only [m59, Option.getD_some, evM, List.contains_nil, List.contains_cons, Bool.or_false, Bool.false_or, Bool.true_or, Bool.or_true, List.zip_cons_cons, List.zip_nil_right, List.zip_nil_left, List.foldl_cons, List.foldl_nil, eqaV, leafOk, leaf1, eqRow, eqLeaf, Bool.false_xor, isnilV, appV, extV, slcV, lhs, bnd, Int.toNat_zero, Nat.sub_zero, Option.map_none, allocV, mksV, ZC.av, evO, evC, evB, evS, zipA_cons, putS_t, putS_f, mqV, maV, asgV, boxV, cellsS, storL, ownO, rd, brw, brws, bare, bares, plain, plains, killV, killVs, isB, isS, fadV, loadV, iadV, inRow, getC, List.getD_cons_zero, List.getD_cons_succ, List.all_cons, List.all_nil, List.length_cons, List.length_nil, List.drop_zero, List.drop_succ_cons, List.take_succ_cons, List.take_zero, Bool.and_true, Bool.and_false, Bool.false_and, Bool.true_and, Bool.and_self, Option.bind_some, Nat.reduceEqDiff, Nat.reduceBEq, Nat.reduceLT, Nat.reduceLeDiff, Nat.reduceAdd, Nat.reduceSub, Nat.add_zero, Nat.zero_add, Nat.zero_lt_succ, Nat.le_refl, reduceIte, Bool.false_eq_true, false_implies, implies_true, true_and, and_true, and_self, Bool.not_true, Bool.not_false, beq_self_eq_true, bne_self_eq_false, List.nil_append, dV, dcallV_W, callV_W, callW, callX, sK_ap, giveS, calleeV, ioAll, argL, lendPlain, lendAll, outL, frzB, frzBs, List.map_cons, List.map_nil, List.append_nil, lenV, keepS, List.length_map, Int.toNat_natCast, Int.natCast_nonneg, take_map_len, List.take_length, convV, bslV, pullS, buildV, b2sV, bytesA, frzRows, frzRow, frzL, storeV, ovw, setC, setOf, cellOf, ioOf, ioAll, isOwner, shapeOf, keepK, takeK, List.take_nil, List.drop_nil, List.cons_append, List.set_set, List.length_set, List.getElem?_cons_zero, List.getElem?_cons_succ, List.set_cons_zero, List.set_cons_succ, Option.map_some, List.isPrefixOf]
  refine awp_loop (fun p : List Known × List Known × Int => p.1 ++ mkKnownS p.2.1 p.2.2 = mkKnownS l k ∧ p.2.2 + 3 * p.2.1.length = k + 3 * l.length ∧ 0 ≤ p.2.2 ∧ p.1.length + p.2.1.length = l.length)
    (fun p => stl [(0, .usl 132 3 ((p.1 ++ p.2.1).map Known.c)), (1, .v (.int .i64 p.2.2)), (5, .v (.int .i64 (p.1.length : Int)))]) (fun p => p.2.1.length) ([], l, k) ⟨rfl, rfl, h0, by simp⟩ ?_ ?_
  · simp only [Option.getD_some, evM, List.contains_nil, List.contains_cons, Bool.or_false, Bool.false_or, Bool.true_or, Bool.or_true, List.zip_cons_cons, List.zip_nil_right, List.zip_nil_left, List.foldl_cons, List.foldl_nil, eqaV, leafOk, leaf1, eqRow, eqLeaf, Bool.false_xor, isnilV, appV, extV, slcV, lhs, bnd, Int.toNat_zero, Nat.sub_zero, Option.map_none, allocV, mksV, ZC.av, evO, evC, evB, evS, zipA_cons, putS_t, putS_f, mqV, maV, asgV, boxV, cellsS, storL, ownO, rd, brw, brws, bare, bares, plain, plains, killV, killVs, isB, isS, fadV, loadV, iadV, inRow, getC, List.getD_cons_zero, List.getD_cons_succ, List.all_cons, List.all_nil, List.length_cons, List.length_nil, List.drop_zero, List.drop_succ_cons, List.take_succ_cons, List.take_zero, Bool.and_true, Bool.and_false, Bool.false_and, Bool.true_and, Bool.and_self, Option.bind_some, Nat.reduceEqDiff, Nat.reduceBEq, Nat.reduceLT, Nat.reduceLeDiff, Nat.reduceAdd, Nat.reduceSub, Nat.add_zero, Nat.zero_add, Nat.zero_lt_succ, Nat.le_refl, reduceIte, Bool.false_eq_true, false_implies, implies_true, true_and, and_true, and_self, Bool.not_true, Bool.not_false, beq_self_eq_true, bne_self_eq_false, List.nil_append, dV, dcallV_W, callV_W, callW, callX, sK_ap, giveS, calleeV, ioAll, argL, lendPlain, lendAll, outL, frzB, frzBs, List.map_cons, List.map_nil, List.append_nil, lenV, keepS, List.length_map, Int.toNat_natCast, Int.natCast_nonneg, take_map_len, List.take_length, convV, bslV, pullS, buildV, b2sV, bytesA, frzRows, frzRow, frzL, storeV, ovw, setC, setOf, cellOf, ioOf, ioAll, isOwner, shapeOf, keepK, takeK, List.take_nil, List.drop_nil, List.cons_append, List.set_set, List.length_set, List.getElem?_cons_zero, List.getElem?_cons_succ, List.set_cons_zero, List.set_cons_succ, Option.map_some, List.isPrefixOf]
    rfl
  · rintro ⟨pre, post, n⟩ ⟨p0, p1, p2, p3⟩
    cases post with
    | nil =>
      simp only [Option.getD_some, evM, List.contains_nil, List.contains_cons, Bool.or_false, Bool.false_or, Bool.true_or, Bool.or_true, List.zip_cons_cons, List.zip_nil_right, List.zip_nil_left, List.foldl_cons, List.foldl_nil, eqaV, leafOk, leaf1, eqRow, eqLeaf, Bool.false_xor, isnilV, appV, extV, slcV, lhs, bnd, Int.toNat_zero, Nat.sub_zero, Option.map_none, allocV, mksV, ZC.av, evO, evC, evB, evS, zipA_cons, putS_t, putS_f, mqV, maV, asgV, boxV, cellsS, storL, ownO, rd, brw, brws, bare, bares, plain, plains, killV, killVs, isB, isS, fadV, loadV, iadV, inRow, getC, List.getD_cons_zero, List.getD_cons_succ, List.all_cons, List.all_nil, List.length_cons, List.length_nil, List.drop_zero, List.drop_succ_cons, List.take_succ_cons, List.take_zero, Bool.and_true, Bool.and_false, Bool.false_and, Bool.true_and, Bool.and_self, Option.bind_some, Nat.reduceEqDiff, Nat.reduceBEq, Nat.reduceLT, Nat.reduceLeDiff, Nat.reduceAdd, Nat.reduceSub, Nat.add_zero, Nat.zero_add, Nat.zero_lt_succ, Nat.le_refl, reduceIte, Bool.false_eq_true, false_implies, implies_true, true_and, and_true, and_self, Bool.not_true, Bool.not_false, beq_self_eq_true, bne_self_eq_false, List.nil_append, dV, dcallV_W, callV_W, callW, callX, sK_ap, giveS, calleeV, ioAll, argL, lendPlain, lendAll, outL, frzB, frzBs, List.map_cons, List.map_nil, List.append_nil, lenV, keepS, List.length_map, Int.toNat_natCast, Int.natCast_nonneg, take_map_len, List.take_length, convV, bslV, pullS, buildV, b2sV, bytesA, frzRows, frzRow, frzL, storeV, ovw, setC, setOf, cellOf, ioOf, ioAll, isOwner, shapeOf, keepK, takeK, List.take_nil, List.drop_nil, List.cons_append, List.set_set, List.length_set, List.getElem?_cons_zero, List.getElem?_cons_succ, List.set_cons_zero, List.set_cons_succ, Option.map_some, List.isPrefixOf]
      refine cK_cut (fun h => ?_) (fun h => ?_)
      · simp at h
      · simp only [Option.getD_some, evM, List.contains_nil, List.contains_cons, Bool.or_false, Bool.false_or, Bool.true_or, Bool.or_true, List.zip_cons_cons, List.zip_nil_right, List.zip_nil_left, List.foldl_cons, List.foldl_nil, eqaV, leafOk, leaf1, eqRow, eqLeaf, Bool.false_xor, isnilV, appV, extV, slcV, lhs, bnd, Int.toNat_zero, Nat.sub_zero, Option.map_none, allocV, mksV, ZC.av, evO, evC, evB, evS, zipA_cons, putS_t, putS_f, mqV, maV, asgV, boxV, cellsS, storL, ownO, rd, brw, brws, bare, bares, plain, plains, killV, killVs, isB, isS, fadV, loadV, iadV, inRow, getC, List.getD_cons_zero, List.getD_cons_succ, List.all_cons, List.all_nil, List.length_cons, List.length_nil, List.drop_zero, List.drop_succ_cons, List.take_succ_cons, List.take_zero, Bool.and_true, Bool.and_false, Bool.false_and, Bool.true_and, Bool.and_self, Option.bind_some, Nat.reduceEqDiff, Nat.reduceBEq, Nat.reduceLT, Nat.reduceLeDiff, Nat.reduceAdd, Nat.reduceSub, Nat.add_zero, Nat.zero_add, Nat.zero_lt_succ, Nat.le_refl, reduceIte, Bool.false_eq_true, false_implies, implies_true, true_and, and_true, and_self, Bool.not_true, Bool.not_false, beq_self_eq_true, bne_self_eq_false, List.nil_append, dV, dcallV_W, callV_W, callW, callX, sK_ap, giveS, calleeV, ioAll, argL, lendPlain, lendAll, outL, frzB, frzBs, List.map_cons, List.map_nil, List.append_nil, lenV, keepS, List.length_map, Int.toNat_natCast, Int.natCast_nonneg, take_map_len, List.take_length, convV, bslV, pullS, buildV, b2sV, bytesA, frzRows, frzRow, frzL, storeV, ovw, setC, setOf, cellOf, ioOf, ioAll, isOwner, shapeOf, keepK, takeK, List.take_nil, List.drop_nil, List.cons_append, List.set_set, List.length_set, List.getElem?_cons_zero, List.getElem?_cons_succ, List.set_cons_zero, List.set_cons_succ, Option.map_some, List.isPrefixOf]
        simp only [List.append_nil, mkKnownS, List.length_nil] at p0 p1
        have e : n = k + 3 * l.length := by simp at p1; omega
        simp only [p0, ← e, Option.getD_some, evM, List.contains_nil, List.contains_cons, Bool.or_false, Bool.false_or, Bool.true_or, Bool.or_true, List.zip_cons_cons, List.zip_nil_right, List.zip_nil_left, List.foldl_cons, List.foldl_nil, eqaV, leafOk, leaf1, eqRow, eqLeaf, Bool.false_xor, isnilV, appV, extV, slcV, lhs, bnd, Int.toNat_zero, Nat.sub_zero, Option.map_none, allocV, mksV, ZC.av, evO, evC, evB, evS, zipA_cons, putS_t, putS_f, mqV, maV, asgV, boxV, cellsS, storL, ownO, rd, brw, brws, bare, bares, plain, plains, killV, killVs, isB, isS, fadV, loadV, iadV, inRow, getC, List.getD_cons_zero, List.getD_cons_succ, List.all_cons, List.all_nil, List.length_cons, List.length_nil, List.drop_zero, List.drop_succ_cons, List.take_succ_cons, List.take_zero, Bool.and_true, Bool.and_false, Bool.false_and, Bool.true_and, Bool.and_self, Option.bind_some, Nat.reduceEqDiff, Nat.reduceBEq, Nat.reduceLT, Nat.reduceLeDiff, Nat.reduceAdd, Nat.reduceSub, Nat.add_zero, Nat.zero_add, Nat.zero_lt_succ, Nat.le_refl, reduceIte, Bool.false_eq_true, false_implies, implies_true, true_and, and_true, and_self, Bool.not_true, Bool.not_false, beq_self_eq_true, bne_self_eq_false, List.nil_append, dV, dcallV_W, callV_W, callW, callX, sK_ap, giveS, calleeV, ioAll, argL, lendPlain, lendAll, outL, frzB, frzBs, List.map_cons, List.map_nil, List.append_nil, lenV, keepS, List.length_map, Int.toNat_natCast, Int.natCast_nonneg, take_map_len, List.take_length, convV, bslV, pullS, buildV, b2sV, bytesA, frzRows, frzRow, frzL, storeV, ovw, setC, setOf, cellOf, ioOf, ioAll, isOwner, shapeOf, keepK, takeK, List.take_nil, List.drop_nil, List.cons_append, List.set_set, List.length_set, List.getElem?_cons_zero, List.getElem?_cons_succ, List.set_cons_zero, List.set_cons_succ, Option.map_some, List.isPrefixOf, retVC, cellV', evR, nfz, nfzs, nfzss, List.contains_nil, List.contains_cons, Bool.or_false, or_true]
    | cons f post =>
      simp only [Option.getD_some, evM, List.contains_nil, List.contains_cons, Bool.or_false, Bool.false_or, Bool.true_or, Bool.or_true, List.zip_cons_cons, List.zip_nil_right, List.zip_nil_left, List.foldl_cons, List.foldl_nil, eqaV, leafOk, leaf1, eqRow, eqLeaf, Bool.false_xor, isnilV, appV, extV, slcV, lhs, bnd, Int.toNat_zero, Nat.sub_zero, Option.map_none, allocV, mksV, ZC.av, evO, evC, evB, evS, zipA_cons, putS_t, putS_f, mqV, maV, asgV, boxV, cellsS, storL, ownO, rd, brw, brws, bare, bares, plain, plains, killV, killVs, isB, isS, fadV, loadV, iadV, inRow, getC, List.getD_cons_zero, List.getD_cons_succ, List.all_cons, List.all_nil, List.length_cons, List.length_nil, List.drop_zero, List.drop_succ_cons, List.take_succ_cons, List.take_zero, Bool.and_true, Bool.and_false, Bool.false_and, Bool.true_and, Bool.and_self, Option.bind_some, Nat.reduceEqDiff, Nat.reduceBEq, Nat.reduceLT, Nat.reduceLeDiff, Nat.reduceAdd, Nat.reduceSub, Nat.add_zero, Nat.zero_add, Nat.zero_lt_succ, Nat.le_refl, reduceIte, Bool.false_eq_true, false_implies, implies_true, true_and, and_true, and_self, Bool.not_true, Bool.not_false, beq_self_eq_true, bne_self_eq_false, List.nil_append, dV, dcallV_W, callV_W, callW, callX, sK_ap, giveS, calleeV, ioAll, argL, lendPlain, lendAll, outL, frzB, frzBs, List.map_cons, List.map_nil, List.append_nil, lenV, keepS, List.length_map, Int.toNat_natCast, Int.natCast_nonneg, take_map_len, List.take_length, convV, bslV, pullS, buildV, b2sV, bytesA, frzRows, frzRow, frzL, storeV, ovw, setC, setOf, cellOf, ioOf, ioAll, isOwner, shapeOf, keepK, takeK, List.take_nil, List.drop_nil, List.cons_append, List.set_set, List.length_set, List.getElem?_cons_zero, List.getElem?_cons_succ, List.set_cons_zero, List.set_cons_succ, Option.map_some, List.isPrefixOf]
      refine cK_cut (fun h => ?_) (fun h => ?_)
      rotate_left
      · simp at h; omega
      simp only at p0 p1 p2 p3
      simp only [List.length_cons] at p1 p3
      have h3 : (pre.length : Int) < ((pre ++ f :: post).length : Int) := by simp; omega
      have h4 : pre.length < ((pre ++ f :: post).map Known.c).length := by simp
      have e1 : nth ((pre ++ f :: post).map Known.c) pre.length = f.c := nth_mid
      generalize hR : (pre ++ f :: post).map Known.c = R at h4 e1 ⊢
      have hRl : R.length = l.length := by rw [← hR]; simp; omega
      have h5 : (pre.length : Int) < (R.length : Int) := by omega
      have w0 := w64 ((pre.length : Int) + 1) (by omega)
      have w1 := w64 (n + 1) (by omega)
      have w2 := w64 (n + 1 + 1) (by omega)
      have w3 := w64 (n + 1 + 1 + 1) (by omega)
      simp only [h4, h5, e1, nth_set h4, List.getElem?_set_self h4, modify_set, Known.c, w1, w2, w3, w0, Option.getD_some, evM, List.contains_nil, List.contains_cons, Bool.or_false, Bool.false_or, Bool.true_or, Bool.or_true, List.zip_cons_cons, List.zip_nil_right, List.zip_nil_left, List.foldl_cons, List.foldl_nil, eqaV, leafOk, leaf1, eqRow, eqLeaf, Bool.false_xor, isnilV, appV, extV, slcV, lhs, bnd, Int.toNat_zero, Nat.sub_zero, Option.map_none, allocV, mksV, ZC.av, evO, evC, evB, evS, zipA_cons, putS_t, putS_f, mqV, maV, asgV, boxV, cellsS, storL, ownO, rd, brw, brws, bare, bares, plain, plains, killV, killVs, isB, isS, fadV, loadV, iadV, inRow, getC, List.getD_cons_zero, List.getD_cons_succ, List.all_cons, List.all_nil, List.length_cons, List.length_nil, List.drop_zero, List.drop_succ_cons, List.take_succ_cons, List.take_zero, Bool.and_true, Bool.and_false, Bool.false_and, Bool.true_and, Bool.and_self, Option.bind_some, Nat.reduceEqDiff, Nat.reduceBEq, Nat.reduceLT, Nat.reduceLeDiff, Nat.reduceAdd, Nat.reduceSub, Nat.add_zero, Nat.zero_add, Nat.zero_lt_succ, Nat.le_refl, reduceIte, Bool.false_eq_true, false_implies, implies_true, true_and, and_true, and_self, Bool.not_true, Bool.not_false, beq_self_eq_true, bne_self_eq_false, List.nil_append, dV, dcallV_W, callV_W, callW, callX, sK_ap, giveS, calleeV, ioAll, argL, lendPlain, lendAll, outL, frzB, frzBs, List.map_cons, List.map_nil, List.append_nil, lenV, keepS, List.length_map, Int.toNat_natCast, Int.natCast_nonneg, take_map_len, List.take_length, convV, bslV, pullS, buildV, b2sV, bytesA, frzRows, frzRow, frzL, storeV, ovw, setC, setOf, cellOf, ioOf, ioAll, isOwner, shapeOf, keepK, takeK, List.take_nil, List.drop_nil, List.cons_append, List.set_set, List.length_set, List.getElem?_cons_zero, List.getElem?_cons_succ, List.set_cons_zero, List.set_cons_succ, Option.map_some, List.isPrefixOf]
      refine callK_i (d72 (n) (by omega) (by omega)) ?_
      simp only [h4, h5, e1, nth_set h4, List.getElem?_set_self h4, modify_set, Known.c, w1, w2, w3, w0, Option.getD_some, evM, List.contains_nil, List.contains_cons, Bool.or_false, Bool.false_or, Bool.true_or, Bool.or_true, List.zip_cons_cons, List.zip_nil_right, List.zip_nil_left, List.foldl_cons, List.foldl_nil, eqaV, leafOk, leaf1, eqRow, eqLeaf, Bool.false_xor, isnilV, appV, extV, slcV, lhs, bnd, Int.toNat_zero, Nat.sub_zero, Option.map_none, allocV, mksV, ZC.av, evO, evC, evB, evS, zipA_cons, putS_t, putS_f, mqV, maV, asgV, boxV, cellsS, storL, ownO, rd, brw, brws, bare, bares, plain, plains, killV, killVs, isB, isS, fadV, loadV, iadV, inRow, getC, List.getD_cons_zero, List.getD_cons_succ, List.all_cons, List.all_nil, List.length_cons, List.length_nil, List.drop_zero, List.drop_succ_cons, List.take_succ_cons, List.take_zero, Bool.and_true, Bool.and_false, Bool.false_and, Bool.true_and, Bool.and_self, Option.bind_some, Nat.reduceEqDiff, Nat.reduceBEq, Nat.reduceLT, Nat.reduceLeDiff, Nat.reduceAdd, Nat.reduceSub, Nat.add_zero, Nat.zero_add, Nat.zero_lt_succ, Nat.le_refl, reduceIte, Bool.false_eq_true, false_implies, implies_true, true_and, and_true, and_self, Bool.not_true, Bool.not_false, beq_self_eq_true, bne_self_eq_false, List.nil_append, dV, dcallV_W, callV_W, callW, callX, sK_ap, giveS, calleeV, ioAll, argL, lendPlain, lendAll, outL, frzB, frzBs, List.map_cons, List.map_nil, List.append_nil, lenV, keepS, List.length_map, Int.toNat_natCast, Int.natCast_nonneg, take_map_len, List.take_length, convV, bslV, pullS, buildV, b2sV, bytesA, frzRows, frzRow, frzL, storeV, ovw, setC, setOf, cellOf, ioOf, ioAll, isOwner, shapeOf, keepK, takeK, List.take_nil, List.drop_nil, List.cons_append, List.set_set, List.length_set, List.getElem?_cons_zero, List.getElem?_cons_succ, List.set_cons_zero, List.set_cons_succ, Option.map_some, List.isPrefixOf]
      refine callK_i (d72 (n + 1) (by omega) (by omega)) ?_
      simp only [h4, h5, e1, nth_set h4, List.getElem?_set_self h4, modify_set, Known.c, w1, w2, w3, w0, Option.getD_some, evM, List.contains_nil, List.contains_cons, Bool.or_false, Bool.false_or, Bool.true_or, Bool.or_true, List.zip_cons_cons, List.zip_nil_right, List.zip_nil_left, List.foldl_cons, List.foldl_nil, eqaV, leafOk, leaf1, eqRow, eqLeaf, Bool.false_xor, isnilV, appV, extV, slcV, lhs, bnd, Int.toNat_zero, Nat.sub_zero, Option.map_none, allocV, mksV, ZC.av, evO, evC, evB, evS, zipA_cons, putS_t, putS_f, mqV, maV, asgV, boxV, cellsS, storL, ownO, rd, brw, brws, bare, bares, plain, plains, killV, killVs, isB, isS, fadV, loadV, iadV, inRow, getC, List.getD_cons_zero, List.getD_cons_succ, List.all_cons, List.all_nil, List.length_cons, List.length_nil, List.drop_zero, List.drop_succ_cons, List.take_succ_cons, List.take_zero, Bool.and_true, Bool.and_false, Bool.false_and, Bool.true_and, Bool.and_self, Option.bind_some, Nat.reduceEqDiff, Nat.reduceBEq, Nat.reduceLT, Nat.reduceLeDiff, Nat.reduceAdd, Nat.reduceSub, Nat.add_zero, Nat.zero_add, Nat.zero_lt_succ, Nat.le_refl, reduceIte, Bool.false_eq_true, false_implies, implies_true, true_and, and_true, and_self, Bool.not_true, Bool.not_false, beq_self_eq_true, bne_self_eq_false, List.nil_append, dV, dcallV_W, callV_W, callW, callX, sK_ap, giveS, calleeV, ioAll, argL, lendPlain, lendAll, outL, frzB, frzBs, List.map_cons, List.map_nil, List.append_nil, lenV, keepS, List.length_map, Int.toNat_natCast, Int.natCast_nonneg, take_map_len, List.take_length, convV, bslV, pullS, buildV, b2sV, bytesA, frzRows, frzRow, frzL, storeV, ovw, setC, setOf, cellOf, ioOf, ioAll, isOwner, shapeOf, keepK, takeK, List.take_nil, List.drop_nil, List.cons_append, List.set_set, List.length_set, List.getElem?_cons_zero, List.getElem?_cons_succ, List.set_cons_zero, List.set_cons_succ, Option.map_some, List.isPrefixOf]
      refine ⟨(pre ++ [mkKnown n], post, n + 3), ⟨?_, ?_, ?_, ?_⟩, ?_, ?_⟩
      · rw [← p0]; simp [mkKnownS]
      · simp only; omega
      · simp only; omega
      · simp only [List.length_append, List.length_cons, List.length_nil]; omega
      · simp only; omega
      · have e2 := set_mid (g := Known.c) (pre := pre) (post := post) (t := f) (mkKnown n)
        rw [hR] at e2
        simp only [Known.c, mkKnown] at e2
        simp only [← e2, mkKnown, List.length_append, List.length_cons, List.length_nil, Int.add_assoc]
        rfl

/-- loop.example/g00837/laws.heldStepS -/
def m60 : MC :=
  (.seq
   (.reg [⟨(some 4), none, .a (.asg (.c (.int .i64 0)))⟩])
   (.seq
    (.seq
     (.reg [⟨(some 5), none, .a (.asg (.c (.int .i64 0)))⟩])
     (.block 0
      (.loop [0, 1, 5]
       (.seq
        (.seq
         (.reg [⟨(some 6), none, .q (.mov (.t 5))⟩,
           ⟨(some 7), none, .q (.mov (.t 0))⟩,
           ⟨(some 8), none, .q (.len false (.t 7))⟩,
           ⟨(some 9), none, .q (.bin false .lss (.t 6) (.t 8))⟩])
         (.cond (.t 9)
          .skip
          (.exit 0)))
        (.seq
         (.block 1
          (.seq
           (.seq
            (.reg [⟨(some 12), none, .q (.mov (.t 0))⟩,
              ⟨(some 13), none, .q (.mov (.t 5))⟩,
              ⟨(some 14), none, .q (.iad 4 (.t 12) (.t 13))⟩,
              ⟨(some 15), none, .q (.fad 0 (.t 14))⟩,
              ⟨(some 16), none, .q (.load false 1 (.t 15))⟩,
              ⟨(some 17), none, .q (.mov (.t 1))⟩,
              ⟨(some 18), none, .q (.bin false .neq (.t 16) (.t 17))⟩])
            (.cond (.t 18)
             (.seq
              (.reg [⟨(some 4), none, .a (.asg (.c (.int .i64 (-1))))⟩])
              .ret)
             .skip))
           (.seq
            (.reg [⟨(some 19), none, .q (.mov (.t 1))⟩,
              ⟨(some 20), none, .q (.bin false .add (.t 19) (.c (.int .i64 1)))⟩,
              ⟨(some 1), none, .a (.asg (.t 20))⟩])
            (.seq
             (.seq
              (.reg [⟨(some 21), none, .q (.mov (.t 0))⟩,
                ⟨(some 22), none, .q (.mov (.t 5))⟩,
                ⟨(some 23), none, .q (.iad 4 (.t 21) (.t 22))⟩,
                ⟨(some 24), none, .q (.fad 1 (.t 23))⟩,
                ⟨(some 25), none, .q (.load false 1 (.t 24))⟩,
                ⟨(some 26), none, .q (.mov (.t 1))⟩,
                ⟨(some 27), none, .q (.bin false .neq (.t 25) (.t 26))⟩])
              (.cond (.t 27)
               (.seq
                (.reg [⟨(some 4), none, .a (.asg (.c (.int .i64 (-1))))⟩])
                .ret)
               .skip))
             (.seq
              (.reg [⟨(some 28), none, .q (.mov (.t 1))⟩,
                ⟨(some 29), none, .q (.bin false .add (.t 28) (.c (.int .i64 1)))⟩,
                ⟨(some 1), none, .a (.asg (.t 29))⟩])
              (.seq
               (.seq
                (.dreg [⟨(some 30), none, .q (.mov (.t 0))⟩,
                  ⟨(some 31), none, .q (.mov (.t 5))⟩,
                  ⟨(some 32), none, .q (.iad 4 (.t 30) (.t 31))⟩,
                  ⟨(some 33), none, .q (.fad 2 (.t 32))⟩,
                  ⟨(some 34), none, .q (.load false 1 (.t 33))⟩,
                  ⟨(some 35), none, .q (.mov (.t 1))⟩,
                  ⟨(some 36), none, .a (.call (.fn 72) false [.lend (.t 35)])⟩,
                  ⟨(some 37), none, .q (.bin false .neq (.t 34) (.t 36))⟩])
                (.cond (.t 37)
                 (.seq
                  (.reg [⟨(some 4), none, .a (.asg (.c (.int .i64 (-1))))⟩])
                  .ret)
                 .skip))
               (.seq
                (.reg [⟨(some 38), none, .q (.mov (.t 1))⟩,
                  ⟨(some 39), none, .q (.bin false .add (.t 38) (.c (.int .i64 1)))⟩,
                  ⟨(some 1), none, .a (.asg (.t 39))⟩])
                (.seq
                 (.seq
                  (.dreg [⟨(some 40), none, .q (.mov (.t 0))⟩,
                    ⟨(some 41), none, .q (.mov (.t 5))⟩,
                    ⟨(some 42), none, .q (.iad 4 (.t 40) (.t 41))⟩,
                    ⟨(some 43), none, .q (.fad 3 (.t 42))⟩,
                    ⟨(some 44), none, .q (.load false 1 (.t 43))⟩,
                    ⟨(some 45), none, .q (.mov (.t 1))⟩,
                    ⟨(some 46), none, .a (.call (.fn 72) false [.lend (.t 45)])⟩,
                    ⟨(some 47), none, .q (.bin false .neq (.t 44) (.t 46))⟩])
                  (.cond (.t 47)
                   (.seq
                    (.reg [⟨(some 4), none, .a (.asg (.c (.int .i64 (-1))))⟩])
                    .ret)
                   .skip))
                 (.reg [⟨(some 48), none, .q (.mov (.t 1))⟩,
                   ⟨(some 49), none, .q (.bin false .add (.t 48) (.c (.int .i64 1)))⟩,
                   ⟨(some 1), none, .a (.asg (.t 49))⟩])))))))))
         (.reg [⟨(some 10), none, .q (.mov (.t 5))⟩,
           ⟨(some 11), none, .q (.bin false .add (.t 10) (.c (.int .i64 1)))⟩,
           ⟨(some 5), none, .a (.asg (.t 11))⟩]))))))
    (.seq
     (.reg [⟨(some 50), none, .q (.mov (.t 1))⟩,
       ⟨(some 4), none, .a (.asg (.t 50))⟩])
     .ret)))


theorem d60 (l : List Step) (k : Int) (h0 : 0 ≤ k) (h1 : k + 4 * l.length ≤ 4611686018427387904) :
    Does Go.Proofs.Try.prog 60 [.fsl 4 ((mkStepS l k).map Step.c), .v (.int .i64 k)] false (.v (.int .i64 (k + 4 * l.length))) [.dead, .dead] := by
  have hl : (mkStepS l k).length = l.length := mkStepS_len l k
  generalize hM0 : mkStepS l k = M at hl ⊢
  refine does_intro (mc := m60) (N := 51) (rs := [4]) (fx := []) 2 rfl (by decide +kernel) ?_
  simp only [m60, Option.getD_some, evM, List.contains_nil, List.contains_cons, Bool.or_false, Bool.false_or, Bool.true_or, Bool.or_true, List.zip_cons_cons, List.zip_nil_right, List.zip_nil_left, List.foldl_cons, List.foldl_nil, eqaV, leafOk, leaf1, eqRow, eqLeaf, Bool.false_xor, isnilV, appV, extV, slcV, lhs, bnd, Int.toNat_zero, Nat.sub_zero, Option.map_none, allocV, mksV, ZC.av, evO, evC, evB, evS, zipA_cons, putS_t, putS_f, mqV, maV, asgV, boxV, cellsS, storL, ownO, rd, brw, brws, bare, bares, plain, plains, killV, killVs, isB, isS, fadV, loadV, iadV, inRow, getC, List.getD_cons_zero, List.getD_cons_succ, List.all_cons, List.all_nil, List.length_cons, List.length_nil, List.drop_zero, List.drop_succ_cons, List.take_succ_cons, List.take_zero, Bool.and_true, Bool.and_false, Bool.false_and, Bool.true_and, Bool.and_self, Option.bind_some, Nat.reduceEqDiff, Nat.reduceBEq, Nat.reduceLT, Nat.reduceLeDiff, Nat.reduceAdd, Nat.reduceSub, Nat.add_zero, Nat.zero_add, Nat.zero_lt_succ, Nat.le_refl, reduceIte, Bool.false_eq_true, false_implies, implies_true, true_and, and_true, and_self, Bool.not_true, Bool.not_false, beq_self_eq_true, bne_self_eq_false, List.nil_append, dV, dcallV_W, callV_W, callW, callX, sK_ap, giveS, calleeV, ioAll, argL, lendPlain, lendAll, outL, frzB, frzBs, List.map_cons, List.map_nil, List.append_nil, lenV, keepS, List.length_map, Int.toNat_natCast, Int.natCast_nonneg, take_map_len, List.take_length, convV, bslV, pullS, buildV, b2sV, bytesA, frzRows, frzRow, frzL, storeV, ovw, setC, setOf, cellOf, ioOf, ioAll, isOwner, shapeOf, keepK, takeK, List.take_nil, List.drop_nil, List.cons_append, List.set_set, List.length_set, List.getElem?_cons_zero, List.getElem?_cons_succ, List.set_cons_zero, List.set_cons_succ, Option.map_some, List.isPrefixOf]
  refine awp_loop (fun p : List Step × List Step × Int => M = p.1 ++ mkStepS p.2.1 p.2.2 ∧ p.2.2 + 4 * p.2.1.length = k + 4 * l.length ∧ 0 ≤ p.2.2 ∧ p.1.length + p.2.1.length = l.length)
    (fun p => stl [(0, .fsl 4 (M.map Step.c)), (1, .v (.int .i64 p.2.2)), (5, .v (.int .i64 (p.1.length : Int)))]) (fun p => p.2.1.length) ([], l, k) ⟨by rw [← hM0]; rfl, rfl, h0, by simp⟩ ?_ ?_
  · simp only [Option.getD_some, evM, List.contains_nil, List.contains_cons, Bool.or_false, Bool.false_or, Bool.true_or, Bool.or_true, List.zip_cons_cons, List.zip_nil_right, List.zip_nil_left, List.foldl_cons, List.foldl_nil, eqaV, leafOk, leaf1, eqRow, eqLeaf, Bool.false_xor, isnilV, appV, extV, slcV, lhs, bnd, Int.toNat_zero, Nat.sub_zero, Option.map_none, allocV, mksV, ZC.av, evO, evC, evB, evS, zipA_cons, putS_t, putS_f, mqV, maV, asgV, boxV, cellsS, storL, ownO, rd, brw, brws, bare, bares, plain, plains, killV, killVs, isB, isS, fadV, loadV, iadV, inRow, getC, List.getD_cons_zero, List.getD_cons_succ, List.all_cons, List.all_nil, List.length_cons, List.length_nil, List.drop_zero, List.drop_succ_cons, List.take_succ_cons, List.take_zero, Bool.and_true, Bool.and_false, Bool.false_and, Bool.true_and, Bool.and_self, Option.bind_some, Nat.reduceEqDiff, Nat.reduceBEq, Nat.reduceLT, Nat.reduceLeDiff, Nat.reduceAdd, Nat.reduceSub, Nat.add_zero, Nat.zero_add, Nat.zero_lt_succ, Nat.le_refl, reduceIte, Bool.false_eq_true, false_implies, implies_true, true_and, and_true, and_self, Bool.not_true, Bool.not_false, beq_self_eq_true, bne_self_eq_false, List.nil_append, dV, dcallV_W, callV_W, callW, callX, sK_ap, giveS, calleeV, ioAll, argL, lendPlain, lendAll, outL, frzB, frzBs, List.map_cons, List.map_nil, List.append_nil, lenV, keepS, List.length_map, Int.toNat_natCast, Int.natCast_nonneg, take_map_len, List.take_length, convV, bslV, pullS, buildV, b2sV, bytesA, frzRows, frzRow, frzL, storeV, ovw, setC, setOf, cellOf, ioOf, ioAll, isOwner, shapeOf, keepK, takeK, List.take_nil, List.drop_nil, List.cons_append, List.set_set, List.length_set, List.getElem?_cons_zero, List.getElem?_cons_succ, List.set_cons_zero, List.set_cons_succ, Option.map_some, List.isPrefixOf]
    rfl
  · rintro ⟨pre, post, n⟩ ⟨p0, p1, p2, p3⟩
    simp only at p0 p1 p2 p3
    cases post with
    | nil =>
      simp only [Option.getD_some, evM, List.contains_nil, List.contains_cons, Bool.or_false, Bool.false_or, Bool.true_or, Bool.or_true, List.zip_cons_cons, List.zip_nil_right, List.zip_nil_left, List.foldl_cons, List.foldl_nil, eqaV, leafOk, leaf1, eqRow, eqLeaf, Bool.false_xor, isnilV, appV, extV, slcV, lhs, bnd, Int.toNat_zero, Nat.sub_zero, Option.map_none, allocV, mksV, ZC.av, evO, evC, evB, evS, zipA_cons, putS_t, putS_f, mqV, maV, asgV, boxV, cellsS, storL, ownO, rd, brw, brws, bare, bares, plain, plains, killV, killVs, isB, isS, fadV, loadV, iadV, inRow, getC, List.getD_cons_zero, List.getD_cons_succ, List.all_cons, List.all_nil, List.length_cons, List.length_nil, List.drop_zero, List.drop_succ_cons, List.take_succ_cons, List.take_zero, Bool.and_true, Bool.and_false, Bool.false_and, Bool.true_and, Bool.and_self, Option.bind_some, Nat.reduceEqDiff, Nat.reduceBEq, Nat.reduceLT, Nat.reduceLeDiff, Nat.reduceAdd, Nat.reduceSub, Nat.add_zero, Nat.zero_add, Nat.zero_lt_succ, Nat.le_refl, reduceIte, Bool.false_eq_true, false_implies, implies_true, true_and, and_true, and_self, Bool.not_true, Bool.not_false, beq_self_eq_true, bne_self_eq_false, List.nil_append, dV, dcallV_W, callV_W, callW, callX, sK_ap, giveS, calleeV, ioAll, argL, lendPlain, lendAll, outL, frzB, frzBs, List.map_cons, List.map_nil, List.append_nil, lenV, keepS, List.length_map, Int.toNat_natCast, Int.natCast_nonneg, take_map_len, List.take_length, convV, bslV, pullS, buildV, b2sV, bytesA, frzRows, frzRow, frzL, storeV, ovw, setC, setOf, cellOf, ioOf, ioAll, isOwner, shapeOf, keepK, takeK, List.take_nil, List.drop_nil, List.cons_append, List.set_set, List.length_set, List.getElem?_cons_zero, List.getElem?_cons_succ, List.set_cons_zero, List.set_cons_succ, Option.map_some, List.isPrefixOf]
      refine cK_cut (fun h => ?_) (fun h => ?_)
      · simp at h p3; omega
      · simp only [Option.getD_some, evM, List.contains_nil, List.contains_cons, Bool.or_false, Bool.false_or, Bool.true_or, Bool.or_true, List.zip_cons_cons, List.zip_nil_right, List.zip_nil_left, List.foldl_cons, List.foldl_nil, eqaV, leafOk, leaf1, eqRow, eqLeaf, Bool.false_xor, isnilV, appV, extV, slcV, lhs, bnd, Int.toNat_zero, Nat.sub_zero, Option.map_none, allocV, mksV, ZC.av, evO, evC, evB, evS, zipA_cons, putS_t, putS_f, mqV, maV, asgV, boxV, cellsS, storL, ownO, rd, brw, brws, bare, bares, plain, plains, killV, killVs, isB, isS, fadV, loadV, iadV, inRow, getC, List.getD_cons_zero, List.getD_cons_succ, List.all_cons, List.all_nil, List.length_cons, List.length_nil, List.drop_zero, List.drop_succ_cons, List.take_succ_cons, List.take_zero, Bool.and_true, Bool.and_false, Bool.false_and, Bool.true_and, Bool.and_self, Option.bind_some, Nat.reduceEqDiff, Nat.reduceBEq, Nat.reduceLT, Nat.reduceLeDiff, Nat.reduceAdd, Nat.reduceSub, Nat.add_zero, Nat.zero_add, Nat.zero_lt_succ, Nat.le_refl, reduceIte, Bool.false_eq_true, false_implies, implies_true, true_and, and_true, and_self, Bool.not_true, Bool.not_false, beq_self_eq_true, bne_self_eq_false, List.nil_append, dV, dcallV_W, callV_W, callW, callX, sK_ap, giveS, calleeV, ioAll, argL, lendPlain, lendAll, outL, frzB, frzBs, List.map_cons, List.map_nil, List.append_nil, lenV, keepS, List.length_map, Int.toNat_natCast, Int.natCast_nonneg, take_map_len, List.take_length, convV, bslV, pullS, buildV, b2sV, bytesA, frzRows, frzRow, frzL, storeV, ovw, setC, setOf, cellOf, ioOf, ioAll, isOwner, shapeOf, keepK, takeK, List.take_nil, List.drop_nil, List.cons_append, List.set_set, List.length_set, List.getElem?_cons_zero, List.getElem?_cons_succ, List.set_cons_zero, List.set_cons_succ, Option.map_some, List.isPrefixOf]
        have e : n = k + 4 * l.length := by simp at p1; omega
        simp only [← e, Option.getD_some, evM, List.contains_nil, List.contains_cons, Bool.or_false, Bool.false_or, Bool.true_or, Bool.or_true, List.zip_cons_cons, List.zip_nil_right, List.zip_nil_left, List.foldl_cons, List.foldl_nil, eqaV, leafOk, leaf1, eqRow, eqLeaf, Bool.false_xor, isnilV, appV, extV, slcV, lhs, bnd, Int.toNat_zero, Nat.sub_zero, Option.map_none, allocV, mksV, ZC.av, evO, evC, evB, evS, zipA_cons, putS_t, putS_f, mqV, maV, asgV, boxV, cellsS, storL, ownO, rd, brw, brws, bare, bares, plain, plains, killV, killVs, isB, isS, fadV, loadV, iadV, inRow, getC, List.getD_cons_zero, List.getD_cons_succ, List.all_cons, List.all_nil, List.length_cons, List.length_nil, List.drop_zero, List.drop_succ_cons, List.take_succ_cons, List.take_zero, Bool.and_true, Bool.and_false, Bool.false_and, Bool.true_and, Bool.and_self, Option.bind_some, Nat.reduceEqDiff, Nat.reduceBEq, Nat.reduceLT, Nat.reduceLeDiff, Nat.reduceAdd, Nat.reduceSub, Nat.add_zero, Nat.zero_add, Nat.zero_lt_succ, Nat.le_refl, reduceIte, Bool.false_eq_true, false_implies, implies_true, true_and, and_true, and_self, Bool.not_true, Bool.not_false, beq_self_eq_true, bne_self_eq_false, List.nil_append, dV, dcallV_W, callV_W, callW, callX, sK_ap, giveS, calleeV, ioAll, argL, lendPlain, lendAll, outL, frzB, frzBs, List.map_cons, List.map_nil, List.append_nil, lenV, keepS, List.length_map, Int.toNat_natCast, Int.natCast_nonneg, take_map_len, List.take_length, convV, bslV, pullS, buildV, b2sV, bytesA, frzRows, frzRow, frzL, storeV, ovw, setC, setOf, cellOf, ioOf, ioAll, isOwner, shapeOf, keepK, takeK, List.take_nil, List.drop_nil, List.cons_append, List.set_set, List.length_set, List.getElem?_cons_zero, List.getElem?_cons_succ, List.set_cons_zero, List.set_cons_succ, Option.map_some, List.isPrefixOf, retVC, cellV', evR, nfz, nfzs, nfzss, List.contains_nil, List.contains_cons, Bool.or_false, or_true]
    | cons f post =>
      simp only [Option.getD_some, evM, List.contains_nil, List.contains_cons, Bool.or_false, Bool.false_or, Bool.true_or, Bool.or_true, List.zip_cons_cons, List.zip_nil_right, List.zip_nil_left, List.foldl_cons, List.foldl_nil, eqaV, leafOk, leaf1, eqRow, eqLeaf, Bool.false_xor, isnilV, appV, extV, slcV, lhs, bnd, Int.toNat_zero, Nat.sub_zero, Option.map_none, allocV, mksV, ZC.av, evO, evC, evB, evS, zipA_cons, putS_t, putS_f, mqV, maV, asgV, boxV, cellsS, storL, ownO, rd, brw, brws, bare, bares, plain, plains, killV, killVs, isB, isS, fadV, loadV, iadV, inRow, getC, List.getD_cons_zero, List.getD_cons_succ, List.all_cons, List.all_nil, List.length_cons, List.length_nil, List.drop_zero, List.drop_succ_cons, List.take_succ_cons, List.take_zero, Bool.and_true, Bool.and_false, Bool.false_and, Bool.true_and, Bool.and_self, Option.bind_some, Nat.reduceEqDiff, Nat.reduceBEq, Nat.reduceLT, Nat.reduceLeDiff, Nat.reduceAdd, Nat.reduceSub, Nat.add_zero, Nat.zero_add, Nat.zero_lt_succ, Nat.le_refl, reduceIte, Bool.false_eq_true, false_implies, implies_true, true_and, and_true, and_self, Bool.not_true, Bool.not_false, beq_self_eq_true, bne_self_eq_false, List.nil_append, dV, dcallV_W, callV_W, callW, callX, sK_ap, giveS, calleeV, ioAll, argL, lendPlain, lendAll, outL, frzB, frzBs, List.map_cons, List.map_nil, List.append_nil, lenV, keepS, List.length_map, Int.toNat_natCast, Int.natCast_nonneg, take_map_len, List.take_length, convV, bslV, pullS, buildV, b2sV, bytesA, frzRows, frzRow, frzL, storeV, ovw, setC, setOf, cellOf, ioOf, ioAll, isOwner, shapeOf, keepK, takeK, List.take_nil, List.drop_nil, List.cons_append, List.set_set, List.length_set, List.getElem?_cons_zero, List.getElem?_cons_succ, List.set_cons_zero, List.set_cons_succ, Option.map_some, List.isPrefixOf]
      simp only [List.length_cons] at p1 p3
      refine cK_cut (fun h => ?_) (fun h => ?_)
      rotate_left
      · simp at h; omega
      have h5 : (pre.length : Int) < (M.length : Int) := by omega
      have e1 : nth (M.map Step.c) pre.length = Step.c (mkStep n) := by rw [p0]; exact nth_mid
      have w0 := w64 ((pre.length : Int) + 1) (by omega)
      have w1 := w64 (n + 1) (by omega)
      have w2 := w64 (n + 1 + 1) (by omega)
      have w3 := w64 (n + 2 + 1) (by omega)
      have w4 := w64 (n + 3 + 1) (by omega)
      have q2 : n + 1 + 1 = n + 2 := by omega
      have q3 : n + 2 + 1 = n + 3 := by omega
      have q4 : n + 3 + 1 = n + 4 := by omega
      rw [q2] at w2
      rw [q3] at w3
      rw [q4] at w4
      simp only [h5, e1, Step.c, mkStep, w1, w2, w3, w4, q2, q3, q4, w0, Option.getD_some, evM, List.contains_nil, List.contains_cons, Bool.or_false, Bool.false_or, Bool.true_or, Bool.or_true, List.zip_cons_cons, List.zip_nil_right, List.zip_nil_left, List.foldl_cons, List.foldl_nil, eqaV, leafOk, leaf1, eqRow, eqLeaf, Bool.false_xor, isnilV, appV, extV, slcV, lhs, bnd, Int.toNat_zero, Nat.sub_zero, Option.map_none, allocV, mksV, ZC.av, evO, evC, evB, evS, zipA_cons, putS_t, putS_f, mqV, maV, asgV, boxV, cellsS, storL, ownO, rd, brw, brws, bare, bares, plain, plains, killV, killVs, isB, isS, fadV, loadV, iadV, inRow, getC, List.getD_cons_zero, List.getD_cons_succ, List.all_cons, List.all_nil, List.length_cons, List.length_nil, List.drop_zero, List.drop_succ_cons, List.take_succ_cons, List.take_zero, Bool.and_true, Bool.and_false, Bool.false_and, Bool.true_and, Bool.and_self, Option.bind_some, Nat.reduceEqDiff, Nat.reduceBEq, Nat.reduceLT, Nat.reduceLeDiff, Nat.reduceAdd, Nat.reduceSub, Nat.add_zero, Nat.zero_add, Nat.zero_lt_succ, Nat.le_refl, reduceIte, Bool.false_eq_true, false_implies, implies_true, true_and, and_true, and_self, Bool.not_true, Bool.not_false, beq_self_eq_true, bne_self_eq_false, List.nil_append, dV, dcallV_W, callV_W, callW, callX, sK_ap, giveS, calleeV, ioAll, argL, lendPlain, lendAll, outL, frzB, frzBs, List.map_cons, List.map_nil, List.append_nil, lenV, keepS, List.length_map, Int.toNat_natCast, Int.natCast_nonneg, take_map_len, List.take_length, convV, bslV, pullS, buildV, b2sV, bytesA, frzRows, frzRow, frzL, storeV, ovw, setC, setOf, cellOf, ioOf, ioAll, isOwner, shapeOf, keepK, takeK, List.take_nil, List.drop_nil, List.cons_append, List.set_set, List.length_set, List.getElem?_cons_zero, List.getElem?_cons_succ, List.set_cons_zero, List.set_cons_succ, Option.map_some, List.isPrefixOf]
      refine callD_i (d72 (n + 2) (by omega) (by omega)) rfl ?_
      simp only [h5, e1, Step.c, mkStep, w1, w2, w3, w4, q2, q3, q4, w0, Option.getD_some, evM, List.contains_nil, List.contains_cons, Bool.or_false, Bool.false_or, Bool.true_or, Bool.or_true, List.zip_cons_cons, List.zip_nil_right, List.zip_nil_left, List.foldl_cons, List.foldl_nil, eqaV, leafOk, leaf1, eqRow, eqLeaf, Bool.false_xor, isnilV, appV, extV, slcV, lhs, bnd, Int.toNat_zero, Nat.sub_zero, Option.map_none, allocV, mksV, ZC.av, evO, evC, evB, evS, zipA_cons, putS_t, putS_f, mqV, maV, asgV, boxV, cellsS, storL, ownO, rd, brw, brws, bare, bares, plain, plains, killV, killVs, isB, isS, fadV, loadV, iadV, inRow, getC, List.getD_cons_zero, List.getD_cons_succ, List.all_cons, List.all_nil, List.length_cons, List.length_nil, List.drop_zero, List.drop_succ_cons, List.take_succ_cons, List.take_zero, Bool.and_true, Bool.and_false, Bool.false_and, Bool.true_and, Bool.and_self, Option.bind_some, Nat.reduceEqDiff, Nat.reduceBEq, Nat.reduceLT, Nat.reduceLeDiff, Nat.reduceAdd, Nat.reduceSub, Nat.add_zero, Nat.zero_add, Nat.zero_lt_succ, Nat.le_refl, reduceIte, Bool.false_eq_true, false_implies, implies_true, true_and, and_true, and_self, Bool.not_true, Bool.not_false, beq_self_eq_true, bne_self_eq_false, List.nil_append, dV, dcallV_W, callV_W, callW, callX, sK_ap, giveS, calleeV, ioAll, argL, lendPlain, lendAll, outL, frzB, frzBs, List.map_cons, List.map_nil, List.append_nil, lenV, keepS, List.length_map, Int.toNat_natCast, Int.natCast_nonneg, take_map_len, List.take_length, convV, bslV, pullS, buildV, b2sV, bytesA, frzRows, frzRow, frzL, storeV, ovw, setC, setOf, cellOf, ioOf, ioAll, isOwner, shapeOf, keepK, takeK, List.take_nil, List.drop_nil, List.cons_append, List.set_set, List.length_set, List.getElem?_cons_zero, List.getElem?_cons_succ, List.set_cons_zero, List.set_cons_succ, Option.map_some, List.isPrefixOf]
      refine callD_i (d72 (n + 3) (by omega) (by omega)) rfl ?_
      simp only [h5, e1, Step.c, mkStep, w1, w2, w3, w4, q2, q3, q4, w0, Option.getD_some, evM, List.contains_nil, List.contains_cons, Bool.or_false, Bool.false_or, Bool.true_or, Bool.or_true, List.zip_cons_cons, List.zip_nil_right, List.zip_nil_left, List.foldl_cons, List.foldl_nil, eqaV, leafOk, leaf1, eqRow, eqLeaf, Bool.false_xor, isnilV, appV, extV, slcV, lhs, bnd, Int.toNat_zero, Nat.sub_zero, Option.map_none, allocV, mksV, ZC.av, evO, evC, evB, evS, zipA_cons, putS_t, putS_f, mqV, maV, asgV, boxV, cellsS, storL, ownO, rd, brw, brws, bare, bares, plain, plains, killV, killVs, isB, isS, fadV, loadV, iadV, inRow, getC, List.getD_cons_zero, List.getD_cons_succ, List.all_cons, List.all_nil, List.length_cons, List.length_nil, List.drop_zero, List.drop_succ_cons, List.take_succ_cons, List.take_zero, Bool.and_true, Bool.and_false, Bool.false_and, Bool.true_and, Bool.and_self, Option.bind_some, Nat.reduceEqDiff, Nat.reduceBEq, Nat.reduceLT, Nat.reduceLeDiff, Nat.reduceAdd, Nat.reduceSub, Nat.add_zero, Nat.zero_add, Nat.zero_lt_succ, Nat.le_refl, reduceIte, Bool.false_eq_true, false_implies, implies_true, true_and, and_true, and_self, Bool.not_true, Bool.not_false, beq_self_eq_true, bne_self_eq_false, List.nil_append, dV, dcallV_W, callV_W, callW, callX, sK_ap, giveS, calleeV, ioAll, argL, lendPlain, lendAll, outL, frzB, frzBs, List.map_cons, List.map_nil, List.append_nil, lenV, keepS, List.length_map, Int.toNat_natCast, Int.natCast_nonneg, take_map_len, List.take_length, convV, bslV, pullS, buildV, b2sV, bytesA, frzRows, frzRow, frzL, storeV, ovw, setC, setOf, cellOf, ioOf, ioAll, isOwner, shapeOf, keepK, takeK, List.take_nil, List.drop_nil, List.cons_append, List.set_set, List.length_set, List.getElem?_cons_zero, List.getElem?_cons_succ, List.set_cons_zero, List.set_cons_succ, Option.map_some, List.isPrefixOf]
      refine ⟨(pre ++ [mkStep n], post, n + 4), ⟨?_, ?_, ?_, ?_⟩, ?_, ?_⟩
      · rw [p0]; simp [mkStepS]
      · simp only; omega
      · simp only; omega
      · simp only [List.length_append, List.length_cons, List.length_nil]; omega
      · simp only; omega
      · simp only [List.length_append, List.length_cons, List.length_nil]
        rfl

end Go.AM
