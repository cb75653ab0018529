/- Contracts of functions of the given program, for the law FnExactDiffText: what they return and what they write, under the bounds that each theorem states. -/
import Derived.Test.YtleomgfaplldiaaT24
import Derived.Test.YtleomgfaplldiaaT10b
namespace Go.AM
set_option linter.unusedVariables false
set_option linter.unusedSimpArgs false

structure Change where
  name : ByteArray
  kind : Int

def Change.c (s : Change) : List AV := [.v (.string s.name), .v (.int .i64 s.kind)]

theorem ChangeE : (∀ f : Change, f.c.length = 2) ∧ (∀ f : Change, f.c.take 2 = f.c) ∧ (∀ (st : St) (f : Change), frzBs st f.c = f.c) ∧ (∀ f : Change, bares f.c = true) ∧ (∀ f : Change, plains f.c = true) ∧ (∀ f : Change, frzRow f.c = f.c) ∧ (∀ (f : Change) (K : Nat → List (Nat × Nat) → Bool), killVs K f.c = f.c) ∧ (∀ (f : Change) (n : Nat) (p : List (Nat × Nat)) (i : Nat), brws n p i 0 f.c = f.c) ∧ (∀ f : Change, f.c.all storL = true) ∧ (∀ (f : Change) (l : List AV), l.length = 2 → ovw l 0 f.c = f.c) :=
  ⟨fun _ => rfl, fun _ => rfl, fun _ _ => rfl, fun _ => rfl, fun _ => rfl, fun _ => rfl, fun _ _ => rfl, fun _ _ _ _ => rfl, fun _ => rfl, fun f l h => ovw_all (by rw [h]; rfl)⟩

theorem Change.nfz : ∀ l : List Change, nfzss (l.map Change.c) = true
  | [] => rfl
  | s :: l => by simp only [List.map_cons, nfzss, Change.nfz l]; rfl

theorem Change.frz : ∀ l : List Change, frzRows (l.map Change.c) = l.map Change.c
  | [] => rfl
  | s :: l => by simp [frzRows, ChangeE, Change.frz l]

def Change.ok (s : Change) : Prop := (s.name.size : Int) ≤ 9223372036854775807 ∧ -9223372036854775808 ≤ s.kind ∧ s.kind ≤ 9223372036854775807

def Change.z : List AV := [.v (.string ⟨#[]⟩), .v (.int .i64 0)]

/-- loop.example/g00837/laws.szChange -/
def m74 : MC :=
  (.seq
   (.reg [⟨(some 2), none, .a (.box 96 (.t 0))⟩,
     ⟨(some 4), none, .a (.asg (.c (.int .i64 0)))⟩])
   (.seq
    (.reg [⟨(some 5), none, .q (.mov (.t 1))⟩,
      ⟨(some 6), none, .q (.fad 0 (.t 2))⟩,
      ⟨(some 7), none, .q (.load false 1 (.t 6))⟩,
      ⟨(some 8), none, .q (.len true (.t 7))⟩,
      ⟨(some 9), none, .q (.bin false .sub (.t 5) (.t 8))⟩,
      ⟨(some 1), none, .a (.asg (.t 9))⟩])
    (.seq
     (.seq
      (.reg [⟨(some 10), none, .q (.mov (.t 1))⟩,
        ⟨(some 11), none, .q (.bin false .lss (.t 10) (.c (.int .i64 0)))⟩])
      (.cond (.t 11)
       (.seq
        (.reg [⟨(some 4), none, .a (.asg (.c (.int .i64 (-1))))⟩])
        .ret)
       .skip))
     (.seq
      (.reg [⟨(some 12), none, .q (.mov (.t 1))⟩,
        ⟨(some 4), none, .a (.asg (.t 12))⟩])
      .ret))))


def szChange (s : Change) (k : Int) : Int := less (k) s.name.size

theorem d74 (s : Change) (k : Int) (h0 : 0 ≤ k) (h1 : k ≤ 1048576) (hname : (s.name.size : Int) ≤ 9223372036854775807) :
    Does Go.Proofs.Try.prog 74 [.agg s.c, .v (.int .i64 k)] false (.v (.int .i64 (szChange s k))) [.dead, .dead] := by
  refine does_intro (mc := m74) (N := 13) (rs := [4]) (fx := []) 2 rfl (by decide +kernel) ?_
  simp only [m74, Change.c, slcV, lhs, bnd, Int.toNat_zero, Nat.sub_zero, Option.map_none, allocV, mksV, ZC.av, evO, evC, evB, evS, zipA_cons, putS_t, putS_f, mqV, maV, asgV, boxV, cellsS, storL, ownO, rd, brw, brws, bare, bares, plain, plains, killV, killVs, isB, isS, fadV, loadV, iadV, inRow, getC, List.getD_cons_zero, List.getD_cons_succ, List.all_cons, List.all_nil, List.length_cons, List.length_nil, List.drop_zero, List.drop_succ_cons, List.take_succ_cons, List.take_zero, Bool.and_true, Bool.and_false, Bool.false_and, Bool.true_and, Bool.and_self, Option.bind_some, Nat.reduceEqDiff, Nat.reduceBEq, Nat.reduceLT, Nat.reduceLeDiff, Nat.reduceAdd, Nat.reduceSub, Nat.add_zero, Nat.zero_add, Nat.zero_lt_succ, Nat.le_refl, reduceIte, Bool.false_eq_true, false_implies, implies_true, true_and, and_true, and_self, Bool.not_true, Bool.not_false, beq_self_eq_true, bne_self_eq_false, List.nil_append, dV, dcallV_W, callV_W, callW, callX, sK_ap, giveS, calleeV, ioAll, argL, lendPlain, lendAll, outL, frzB, frzBs, List.map_cons, List.map_nil, List.append_nil, lenV, keepS, List.length_map, Int.toNat_natCast, Int.natCast_nonneg, take_map_len, List.take_length, convV, bslV, pullS, buildV, b2sV, bytesA, frzRows, frzRow, frzL, storeV, ovw, setC, setOf, cellOf, ioOf, ioAll, isOwner, shapeOf, keepK, takeK, List.take_nil, List.drop_nil, List.cons_append, List.set_set, List.length_set, List.getElem?_cons_zero, List.getElem?_cons_succ, List.set_cons_zero, List.set_cons_succ, Option.map_some, List.isPrefixOf]
  have w0 := w64 (k - s.name.size) (by omega)
  simp only [w0, slcV, lhs, bnd, Int.toNat_zero, Nat.sub_zero, Option.map_none, allocV, mksV, ZC.av, evO, evC, evB, evS, zipA_cons, putS_t, putS_f, mqV, maV, asgV, boxV, cellsS, storL, ownO, rd, brw, brws, bare, bares, plain, plains, killV, killVs, isB, isS, fadV, loadV, iadV, inRow, getC, List.getD_cons_zero, List.getD_cons_succ, List.all_cons, List.all_nil, List.length_cons, List.length_nil, List.drop_zero, List.drop_succ_cons, List.take_succ_cons, List.take_zero, Bool.and_true, Bool.and_false, Bool.false_and, Bool.true_and, Bool.and_self, Option.bind_some, Nat.reduceEqDiff, Nat.reduceBEq, Nat.reduceLT, Nat.reduceLeDiff, Nat.reduceAdd, Nat.reduceSub, Nat.add_zero, Nat.zero_add, Nat.zero_lt_succ, Nat.le_refl, reduceIte, Bool.false_eq_true, false_implies, implies_true, true_and, and_true, and_self, Bool.not_true, Bool.not_false, beq_self_eq_true, bne_self_eq_false, List.nil_append, dV, dcallV_W, callV_W, callW, callX, sK_ap, giveS, calleeV, ioAll, argL, lendPlain, lendAll, outL, frzB, frzBs, List.map_cons, List.map_nil, List.append_nil, lenV, keepS, List.length_map, Int.toNat_natCast, Int.natCast_nonneg, take_map_len, List.take_length, convV, bslV, pullS, buildV, b2sV, bytesA, frzRows, frzRow, frzL, storeV, ovw, setC, setOf, cellOf, ioOf, ioAll, isOwner, shapeOf, keepK, takeK, List.take_nil, List.drop_nil, List.cons_append, List.set_set, List.length_set, List.getElem?_cons_zero, List.getElem?_cons_succ, List.set_cons_zero, List.set_cons_succ, Option.map_some, List.isPrefixOf]
  refine cK_cut (fun h => ?_) (fun h => ?_)
  · have g0 : k - s.name.size < 0 := by simpa using h
    have e : szChange s k = -1 := by simp [szChange, less, g0]
    simp only [slcV, lhs, bnd, Int.toNat_zero, Nat.sub_zero, Option.map_none, allocV, mksV, ZC.av, evO, evC, evB, evS, zipA_cons, putS_t, putS_f, mqV, maV, asgV, boxV, cellsS, storL, ownO, rd, brw, brws, bare, bares, plain, plains, killV, killVs, isB, isS, fadV, loadV, iadV, inRow, getC, List.getD_cons_zero, List.getD_cons_succ, List.all_cons, List.all_nil, List.length_cons, List.length_nil, List.drop_zero, List.drop_succ_cons, List.take_succ_cons, List.take_zero, Bool.and_true, Bool.and_false, Bool.false_and, Bool.true_and, Bool.and_self, Option.bind_some, Nat.reduceEqDiff, Nat.reduceBEq, Nat.reduceLT, Nat.reduceLeDiff, Nat.reduceAdd, Nat.reduceSub, Nat.add_zero, Nat.zero_add, Nat.zero_lt_succ, Nat.le_refl, reduceIte, Bool.false_eq_true, false_implies, implies_true, true_and, and_true, and_self, Bool.not_true, Bool.not_false, beq_self_eq_true, bne_self_eq_false, List.nil_append, dV, dcallV_W, callV_W, callW, callX, sK_ap, giveS, calleeV, ioAll, argL, lendPlain, lendAll, outL, frzB, frzBs, List.map_cons, List.map_nil, List.append_nil, lenV, keepS, List.length_map, Int.toNat_natCast, Int.natCast_nonneg, take_map_len, List.take_length, convV, bslV, pullS, buildV, b2sV, bytesA, frzRows, frzRow, frzL, storeV, ovw, setC, setOf, cellOf, ioOf, ioAll, isOwner, shapeOf, keepK, takeK, List.take_nil, List.drop_nil, List.cons_append, List.set_set, List.length_set, List.getElem?_cons_zero, List.getElem?_cons_succ, List.set_cons_zero, List.set_cons_succ, Option.map_some, List.isPrefixOf]
    simp only [e, slcV, lhs, bnd, Int.toNat_zero, Nat.sub_zero, Option.map_none, allocV, mksV, ZC.av, evO, evC, evB, evS, zipA_cons, putS_t, putS_f, mqV, maV, asgV, boxV, cellsS, storL, ownO, rd, brw, brws, bare, bares, plain, plains, killV, killVs, isB, isS, fadV, loadV, iadV, inRow, getC, List.getD_cons_zero, List.getD_cons_succ, List.all_cons, List.all_nil, List.length_cons, List.length_nil, List.drop_zero, List.drop_succ_cons, List.take_succ_cons, List.take_zero, Bool.and_true, Bool.and_false, Bool.false_and, Bool.true_and, Bool.and_self, Option.bind_some, Nat.reduceEqDiff, Nat.reduceBEq, Nat.reduceLT, Nat.reduceLeDiff, Nat.reduceAdd, Nat.reduceSub, Nat.add_zero, Nat.zero_add, Nat.zero_lt_succ, Nat.le_refl, reduceIte, Bool.false_eq_true, false_implies, implies_true, true_and, and_true, and_self, Bool.not_true, Bool.not_false, beq_self_eq_true, bne_self_eq_false, List.nil_append, dV, dcallV_W, callV_W, callW, callX, sK_ap, giveS, calleeV, ioAll, argL, lendPlain, lendAll, outL, frzB, frzBs, List.map_cons, List.map_nil, List.append_nil, lenV, keepS, List.length_map, Int.toNat_natCast, Int.natCast_nonneg, take_map_len, List.take_length, convV, bslV, pullS, buildV, b2sV, bytesA, frzRows, frzRow, frzL, storeV, ovw, setC, setOf, cellOf, ioOf, ioAll, isOwner, shapeOf, keepK, takeK, List.take_nil, List.drop_nil, List.cons_append, List.set_set, List.length_set, List.getElem?_cons_zero, List.getElem?_cons_succ, List.set_cons_zero, List.set_cons_succ, Option.map_some, List.isPrefixOf, retVC, cellV', evR, nfz, nfzs, nfzss, List.contains_nil, List.contains_cons, Bool.or_false, or_true]
  · have g0 : ¬ k - s.name.size < 0 := by simpa using h
    have e : szChange s k = k - s.name.size := by simp [szChange, less, g0]
    simp only [slcV, lhs, bnd, Int.toNat_zero, Nat.sub_zero, Option.map_none, allocV, mksV, ZC.av, evO, evC, evB, evS, zipA_cons, putS_t, putS_f, mqV, maV, asgV, boxV, cellsS, storL, ownO, rd, brw, brws, bare, bares, plain, plains, killV, killVs, isB, isS, fadV, loadV, iadV, inRow, getC, List.getD_cons_zero, List.getD_cons_succ, List.all_cons, List.all_nil, List.length_cons, List.length_nil, List.drop_zero, List.drop_succ_cons, List.take_succ_cons, List.take_zero, Bool.and_true, Bool.and_false, Bool.false_and, Bool.true_and, Bool.and_self, Option.bind_some, Nat.reduceEqDiff, Nat.reduceBEq, Nat.reduceLT, Nat.reduceLeDiff, Nat.reduceAdd, Nat.reduceSub, Nat.add_zero, Nat.zero_add, Nat.zero_lt_succ, Nat.le_refl, reduceIte, Bool.false_eq_true, false_implies, implies_true, true_and, and_true, and_self, Bool.not_true, Bool.not_false, beq_self_eq_true, bne_self_eq_false, List.nil_append, dV, dcallV_W, callV_W, callW, callX, sK_ap, giveS, calleeV, ioAll, argL, lendPlain, lendAll, outL, frzB, frzBs, List.map_cons, List.map_nil, List.append_nil, lenV, keepS, List.length_map, Int.toNat_natCast, Int.natCast_nonneg, take_map_len, List.take_length, convV, bslV, pullS, buildV, b2sV, bytesA, frzRows, frzRow, frzL, storeV, ovw, setC, setOf, cellOf, ioOf, ioAll, isOwner, shapeOf, keepK, takeK, List.take_nil, List.drop_nil, List.cons_append, List.set_set, List.length_set, List.getElem?_cons_zero, List.getElem?_cons_succ, List.set_cons_zero, List.set_cons_succ, Option.map_some, List.isPrefixOf]
    simp only [e, slcV, lhs, bnd, Int.toNat_zero, Nat.sub_zero, Option.map_none, allocV, mksV, ZC.av, evO, evC, evB, evS, zipA_cons, putS_t, putS_f, mqV, maV, asgV, boxV, cellsS, storL, ownO, rd, brw, brws, bare, bares, plain, plains, killV, killVs, isB, isS, fadV, loadV, iadV, inRow, getC, List.getD_cons_zero, List.getD_cons_succ, List.all_cons, List.all_nil, List.length_cons, List.length_nil, List.drop_zero, List.drop_succ_cons, List.take_succ_cons, List.take_zero, Bool.and_true, Bool.and_false, Bool.false_and, Bool.true_and, Bool.and_self, Option.bind_some, Nat.reduceEqDiff, Nat.reduceBEq, Nat.reduceLT, Nat.reduceLeDiff, Nat.reduceAdd, Nat.reduceSub, Nat.add_zero, Nat.zero_add, Nat.zero_lt_succ, Nat.le_refl, reduceIte, Bool.false_eq_true, false_implies, implies_true, true_and, and_true, and_self, Bool.not_true, Bool.not_false, beq_self_eq_true, bne_self_eq_false, List.nil_append, dV, dcallV_W, callV_W, callW, callX, sK_ap, giveS, calleeV, ioAll, argL, lendPlain, lendAll, outL, frzB, frzBs, List.map_cons, List.map_nil, List.append_nil, lenV, keepS, List.length_map, Int.toNat_natCast, Int.natCast_nonneg, take_map_len, List.take_length, convV, bslV, pullS, buildV, b2sV, bytesA, frzRows, frzRow, frzL, storeV, ovw, setC, setOf, cellOf, ioOf, ioAll, isOwner, shapeOf, keepK, takeK, List.take_nil, List.drop_nil, List.cons_append, List.set_set, List.length_set, List.getElem?_cons_zero, List.getElem?_cons_succ, List.set_cons_zero, List.set_cons_succ, Option.map_some, List.isPrefixOf, retVC, cellV', evR, nfz, nfzs, nfzss, List.contains_nil, List.contains_cons, Bool.or_false, or_true]

theorem szChange_le (s : Change) (k : Int) (h : 0 ≤ k) : szChange s k ≤ k := by
  unfold szChange
  simp only [less]
  repeat' split
  all_goals omega

/-- loop.example/g00837/laws.szChangeS -/
def m25 : MC :=
  (.seq
   (.reg [⟨(some 4), none, .a (.asg (.c (.int .i64 0)))⟩])
   (.seq
    (.reg [⟨(some 6), none, .q (.mov (.t 1))⟩,
      ⟨(some 7), none, .q (.mov (.t 0))⟩,
      ⟨(some 8), none, .q (.len false (.t 7))⟩,
      ⟨(some 9), none, .q (.bin false .sub (.t 6) (.t 8))⟩,
      ⟨(some 1), none, .a (.asg (.t 9))⟩])
    (.seq
     (.seq
      (.reg [⟨(some 10), none, .q (.mov (.t 1))⟩,
        ⟨(some 11), none, .q (.bin false .lss (.t 10) (.c (.int .i64 0)))⟩])
      (.cond (.t 11)
       (.seq
        (.reg [⟨(some 4), none, .a (.asg (.c (.int .i64 (-1))))⟩])
        .ret)
       .skip))
     (.seq
      (.seq
       (.reg [⟨(some 5), none, .a (.asg (.c (.int .i64 0)))⟩])
       (.block 0
        (.loop [0, 1, 5]
         (.seq
          (.seq
           (.reg [⟨(some 12), none, .q (.mov (.t 5))⟩,
             ⟨(some 13), none, .q (.mov (.t 0))⟩,
             ⟨(some 14), none, .q (.len false (.t 13))⟩,
             ⟨(some 15), none, .q (.bin false .lss (.t 12) (.t 14))⟩])
           (.cond (.t 15)
            .skip
            (.exit 0)))
          (.seq
           (.block 1
            (.seq
             (.reg [⟨(some 18), none, .q (.mov (.t 0))⟩,
               ⟨(some 19), none, .q (.mov (.t 5))⟩,
               ⟨(some 20), none, .q (.iad 2 (.t 18) (.t 19))⟩,
               ⟨(some 21), none, .q (.load true 2 (.t 20))⟩,
               ⟨(some 22), none, .q (.mov (.t 1))⟩,
               ⟨(some 23), none, .a (.call (.fn 74) false [.lend (.t 21), .lend (.t 22)])⟩,
               ⟨(some 1), none, .a (.asg (.t 23))⟩])
             (.seq
              (.reg [⟨(some 24), none, .q (.mov (.t 1))⟩,
                ⟨(some 25), none, .q (.bin false .lss (.t 24) (.c (.int .i64 0)))⟩])
              (.cond (.t 25)
               (.seq
                (.reg [⟨(some 4), none, .a (.asg (.c (.int .i64 (-1))))⟩])
                .ret)
               .skip))))
           (.reg [⟨(some 16), none, .q (.mov (.t 5))⟩,
             ⟨(some 17), none, .q (.bin false .add (.t 16) (.c (.int .i64 1)))⟩,
             ⟨(some 5), none, .a (.asg (.t 17))⟩]))))))
      (.seq
       (.reg [⟨(some 26), none, .q (.mov (.t 1))⟩,
         ⟨(some 4), none, .a (.asg (.t 26))⟩])
       .ret)))))


def szChanges : List Change → Int → Int
  | [], k => k
  | s :: r, k => if szChange s k < 0 then -1 else szChanges r (szChange s k)

def szChangeS (l : List Change) (k : Int) : Int := if k - l.length < 0 then -1 else szChanges l (k - l.length)

theorem d25 (l : List Change) (k : Int) (h0 : 0 ≤ k) (h1 : k ≤ 1048576) (hl : (l.length : Int) ≤ 9223372036854775807) (hs : ∀ s ∈ l, s.ok) :
    Does Go.Proofs.Try.prog 25 [.fsl 2 (l.map Change.c), .v (.int .i64 k)] false (.v (.int .i64 (szChangeS l k))) [.dead, .dead] := by
  refine does_intro (mc := m25) (N := 27) (rs := [4]) (fx := []) 2 rfl (by decide +kernel) ?_
  simp only [m25, slcV, lhs, bnd, Int.toNat_zero, Nat.sub_zero, Option.map_none, allocV, mksV, ZC.av, evO, evC, evB, evS, zipA_cons, putS_t, putS_f, mqV, maV, asgV, boxV, cellsS, storL, ownO, rd, brw, brws, bare, bares, plain, plains, killV, killVs, isB, isS, fadV, loadV, iadV, inRow, getC, List.getD_cons_zero, List.getD_cons_succ, List.all_cons, List.all_nil, List.length_cons, List.length_nil, List.drop_zero, List.drop_succ_cons, List.take_succ_cons, List.take_zero, Bool.and_true, Bool.and_false, Bool.false_and, Bool.true_and, Bool.and_self, Option.bind_some, Nat.reduceEqDiff, Nat.reduceBEq, Nat.reduceLT, Nat.reduceLeDiff, Nat.reduceAdd, Nat.reduceSub, Nat.add_zero, Nat.zero_add, Nat.zero_lt_succ, Nat.le_refl, reduceIte, Bool.false_eq_true, false_implies, implies_true, true_and, and_true, and_self, Bool.not_true, Bool.not_false, beq_self_eq_true, bne_self_eq_false, List.nil_append, dV, dcallV_W, callV_W, callW, callX, sK_ap, giveS, calleeV, ioAll, argL, lendPlain, lendAll, outL, frzB, frzBs, List.map_cons, List.map_nil, List.append_nil, lenV, keepS, List.length_map, Int.toNat_natCast, Int.natCast_nonneg, take_map_len, List.take_length, convV, bslV, pullS, buildV, b2sV, bytesA, frzRows, frzRow, frzL, storeV, ovw, setC, setOf, cellOf, ioOf, ioAll, isOwner, shapeOf, keepK, takeK, List.take_nil, List.drop_nil, List.cons_append, List.set_set, List.length_set, List.getElem?_cons_zero, List.getElem?_cons_succ, List.set_cons_zero, List.set_cons_succ, Option.map_some, List.isPrefixOf]
  have w1 := w64 (k - l.length) (by omega)
  simp only [w1]
  refine cK_cut (fun h => ?_) (fun h => ?_)
  · have h2 : k - l.length < 0 := by simpa using h
    have e : szChangeS l k = -1 := by simp [szChangeS, h2]
    simp only [slcV, lhs, bnd, Int.toNat_zero, Nat.sub_zero, Option.map_none, allocV, mksV, ZC.av, evO, evC, evB, evS, zipA_cons, putS_t, putS_f, mqV, maV, asgV, boxV, cellsS, storL, ownO, rd, brw, brws, bare, bares, plain, plains, killV, killVs, isB, isS, fadV, loadV, iadV, inRow, getC, List.getD_cons_zero, List.getD_cons_succ, List.all_cons, List.all_nil, List.length_cons, List.length_nil, List.drop_zero, List.drop_succ_cons, List.take_succ_cons, List.take_zero, Bool.and_true, Bool.and_false, Bool.false_and, Bool.true_and, Bool.and_self, Option.bind_some, Nat.reduceEqDiff, Nat.reduceBEq, Nat.reduceLT, Nat.reduceLeDiff, Nat.reduceAdd, Nat.reduceSub, Nat.add_zero, Nat.zero_add, Nat.zero_lt_succ, Nat.le_refl, reduceIte, Bool.false_eq_true, false_implies, implies_true, true_and, and_true, and_self, Bool.not_true, Bool.not_false, beq_self_eq_true, bne_self_eq_false, List.nil_append, dV, dcallV_W, callV_W, callW, callX, sK_ap, giveS, calleeV, ioAll, argL, lendPlain, lendAll, outL, frzB, frzBs, List.map_cons, List.map_nil, List.append_nil, lenV, keepS, List.length_map, Int.toNat_natCast, Int.natCast_nonneg, take_map_len, List.take_length, convV, bslV, pullS, buildV, b2sV, bytesA, frzRows, frzRow, frzL, storeV, ovw, setC, setOf, cellOf, ioOf, ioAll, isOwner, shapeOf, keepK, takeK, List.take_nil, List.drop_nil, List.cons_append, List.set_set, List.length_set, List.getElem?_cons_zero, List.getElem?_cons_succ, List.set_cons_zero, List.set_cons_succ, Option.map_some, List.isPrefixOf]
    simp only [e, slcV, lhs, bnd, Int.toNat_zero, Nat.sub_zero, Option.map_none, allocV, mksV, ZC.av, evO, evC, evB, evS, zipA_cons, putS_t, putS_f, mqV, maV, asgV, boxV, cellsS, storL, ownO, rd, brw, brws, bare, bares, plain, plains, killV, killVs, isB, isS, fadV, loadV, iadV, inRow, getC, List.getD_cons_zero, List.getD_cons_succ, List.all_cons, List.all_nil, List.length_cons, List.length_nil, List.drop_zero, List.drop_succ_cons, List.take_succ_cons, List.take_zero, Bool.and_true, Bool.and_false, Bool.false_and, Bool.true_and, Bool.and_self, Option.bind_some, Nat.reduceEqDiff, Nat.reduceBEq, Nat.reduceLT, Nat.reduceLeDiff, Nat.reduceAdd, Nat.reduceSub, Nat.add_zero, Nat.zero_add, Nat.zero_lt_succ, Nat.le_refl, reduceIte, Bool.false_eq_true, false_implies, implies_true, true_and, and_true, and_self, Bool.not_true, Bool.not_false, beq_self_eq_true, bne_self_eq_false, List.nil_append, dV, dcallV_W, callV_W, callW, callX, sK_ap, giveS, calleeV, ioAll, argL, lendPlain, lendAll, outL, frzB, frzBs, List.map_cons, List.map_nil, List.append_nil, lenV, keepS, List.length_map, Int.toNat_natCast, Int.natCast_nonneg, take_map_len, List.take_length, convV, bslV, pullS, buildV, b2sV, bytesA, frzRows, frzRow, frzL, storeV, ovw, setC, setOf, cellOf, ioOf, ioAll, isOwner, shapeOf, keepK, takeK, List.take_nil, List.drop_nil, List.cons_append, List.set_set, List.length_set, List.getElem?_cons_zero, List.getElem?_cons_succ, List.set_cons_zero, List.set_cons_succ, Option.map_some, List.isPrefixOf, retVC, cellV', evR, nfz, nfzs, nfzss, List.contains_nil, List.contains_cons, Bool.or_false, or_true]
  · have h2 : ¬ k - l.length < 0 := by simpa using h
    have e : szChangeS l k = szChanges l (k - l.length) := by simp [szChangeS, h2]
    simp only [slcV, lhs, bnd, Int.toNat_zero, Nat.sub_zero, Option.map_none, allocV, mksV, ZC.av, evO, evC, evB, evS, zipA_cons, putS_t, putS_f, mqV, maV, asgV, boxV, cellsS, storL, ownO, rd, brw, brws, bare, bares, plain, plains, killV, killVs, isB, isS, fadV, loadV, iadV, inRow, getC, List.getD_cons_zero, List.getD_cons_succ, List.all_cons, List.all_nil, List.length_cons, List.length_nil, List.drop_zero, List.drop_succ_cons, List.take_succ_cons, List.take_zero, Bool.and_true, Bool.and_false, Bool.false_and, Bool.true_and, Bool.and_self, Option.bind_some, Nat.reduceEqDiff, Nat.reduceBEq, Nat.reduceLT, Nat.reduceLeDiff, Nat.reduceAdd, Nat.reduceSub, Nat.add_zero, Nat.zero_add, Nat.zero_lt_succ, Nat.le_refl, reduceIte, Bool.false_eq_true, false_implies, implies_true, true_and, and_true, and_self, Bool.not_true, Bool.not_false, beq_self_eq_true, bne_self_eq_false, List.nil_append, dV, dcallV_W, callV_W, callW, callX, sK_ap, giveS, calleeV, ioAll, argL, lendPlain, lendAll, outL, frzB, frzBs, List.map_cons, List.map_nil, List.append_nil, lenV, keepS, List.length_map, Int.toNat_natCast, Int.natCast_nonneg, take_map_len, List.take_length, convV, bslV, pullS, buildV, b2sV, bytesA, frzRows, frzRow, frzL, storeV, ovw, setC, setOf, cellOf, ioOf, ioAll, isOwner, shapeOf, keepK, takeK, List.take_nil, List.drop_nil, List.cons_append, List.set_set, List.length_set, List.getElem?_cons_zero, List.getElem?_cons_succ, List.set_cons_zero, List.set_cons_succ, Option.map_some, List.isPrefixOf]
    refine awp_loop (fun p : Nat × Int => p.1 ≤ l.length ∧ 0 ≤ p.2 ∧ p.2 ≤ 1048576 ∧ szChanges (l.drop p.1) p.2 = szChangeS l k)
      (fun p => stl [(0, .fsl 2 (l.map Change.c)), (1, .v (.int .i64 p.2)), (5, .v (.int .i64 (p.1 : Int)))]) (fun p => l.length - p.1) (0, k - l.length) ⟨by simp, by simp only; omega, by simp only; omega, by simp [e]⟩ ?_ ?_
    · simp only [slcV, lhs, bnd, Int.toNat_zero, Nat.sub_zero, Option.map_none, allocV, mksV, ZC.av, evO, evC, evB, evS, zipA_cons, putS_t, putS_f, mqV, maV, asgV, boxV, cellsS, storL, ownO, rd, brw, brws, bare, bares, plain, plains, killV, killVs, isB, isS, fadV, loadV, iadV, inRow, getC, List.getD_cons_zero, List.getD_cons_succ, List.all_cons, List.all_nil, List.length_cons, List.length_nil, List.drop_zero, List.drop_succ_cons, List.take_succ_cons, List.take_zero, Bool.and_true, Bool.and_false, Bool.false_and, Bool.true_and, Bool.and_self, Option.bind_some, Nat.reduceEqDiff, Nat.reduceBEq, Nat.reduceLT, Nat.reduceLeDiff, Nat.reduceAdd, Nat.reduceSub, Nat.add_zero, Nat.zero_add, Nat.zero_lt_succ, Nat.le_refl, reduceIte, Bool.false_eq_true, false_implies, implies_true, true_and, and_true, and_self, Bool.not_true, Bool.not_false, beq_self_eq_true, bne_self_eq_false, List.nil_append, dV, dcallV_W, callV_W, callW, callX, sK_ap, giveS, calleeV, ioAll, argL, lendPlain, lendAll, outL, frzB, frzBs, List.map_cons, List.map_nil, List.append_nil, lenV, keepS, List.length_map, Int.toNat_natCast, Int.natCast_nonneg, take_map_len, List.take_length, convV, bslV, pullS, buildV, b2sV, bytesA, frzRows, frzRow, frzL, storeV, ovw, setC, setOf, cellOf, ioOf, ioAll, isOwner, shapeOf, keepK, takeK, List.take_nil, List.drop_nil, List.cons_append, List.set_set, List.length_set, List.getElem?_cons_zero, List.getElem?_cons_succ, List.set_cons_zero, List.set_cons_succ, Option.map_some, List.isPrefixOf]
      rfl
    · rintro ⟨i, n⟩ ⟨p0, p1, p2, p3⟩
      simp only at p0 p1 p2 p3
      simp only [slcV, lhs, bnd, Int.toNat_zero, Nat.sub_zero, Option.map_none, allocV, mksV, ZC.av, evO, evC, evB, evS, zipA_cons, putS_t, putS_f, mqV, maV, asgV, boxV, cellsS, storL, ownO, rd, brw, brws, bare, bares, plain, plains, killV, killVs, isB, isS, fadV, loadV, iadV, inRow, getC, List.getD_cons_zero, List.getD_cons_succ, List.all_cons, List.all_nil, List.length_cons, List.length_nil, List.drop_zero, List.drop_succ_cons, List.take_succ_cons, List.take_zero, Bool.and_true, Bool.and_false, Bool.false_and, Bool.true_and, Bool.and_self, Option.bind_some, Nat.reduceEqDiff, Nat.reduceBEq, Nat.reduceLT, Nat.reduceLeDiff, Nat.reduceAdd, Nat.reduceSub, Nat.add_zero, Nat.zero_add, Nat.zero_lt_succ, Nat.le_refl, reduceIte, Bool.false_eq_true, false_implies, implies_true, true_and, and_true, and_self, Bool.not_true, Bool.not_false, beq_self_eq_true, bne_self_eq_false, List.nil_append, dV, dcallV_W, callV_W, callW, callX, sK_ap, giveS, calleeV, ioAll, argL, lendPlain, lendAll, outL, frzB, frzBs, List.map_cons, List.map_nil, List.append_nil, lenV, keepS, List.length_map, Int.toNat_natCast, Int.natCast_nonneg, take_map_len, List.take_length, convV, bslV, pullS, buildV, b2sV, bytesA, frzRows, frzRow, frzL, storeV, ovw, setC, setOf, cellOf, ioOf, ioAll, isOwner, shapeOf, keepK, takeK, List.take_nil, List.drop_nil, List.cons_append, List.set_set, List.length_set, List.getElem?_cons_zero, List.getElem?_cons_succ, List.set_cons_zero, List.set_cons_succ, Option.map_some, List.isPrefixOf]
      refine cK_cut (fun h => ?_) (fun h => ?_)
      · have h3 : i < l.length := by simpa using h
        have h4 : (i : Int) < (l.length : Int) := by omega
        have hok := hs l[i] (List.getElem_mem h3)
        simp only [Change.ok] at hok
        rw [List.drop_eq_getElem_cons h3] at p3
        simp only [szChanges] at p3
        have hle := szChange_le l[i] n p1
        simp only [ChangeE, nth_map h3, h4, slcV, lhs, bnd, Int.toNat_zero, Nat.sub_zero, Option.map_none, allocV, mksV, ZC.av, evO, evC, evB, evS, zipA_cons, putS_t, putS_f, mqV, maV, asgV, boxV, cellsS, storL, ownO, rd, brw, brws, bare, bares, plain, plains, killV, killVs, isB, isS, fadV, loadV, iadV, inRow, getC, List.getD_cons_zero, List.getD_cons_succ, List.all_cons, List.all_nil, List.length_cons, List.length_nil, List.drop_zero, List.drop_succ_cons, List.take_succ_cons, List.take_zero, Bool.and_true, Bool.and_false, Bool.false_and, Bool.true_and, Bool.and_self, Option.bind_some, Nat.reduceEqDiff, Nat.reduceBEq, Nat.reduceLT, Nat.reduceLeDiff, Nat.reduceAdd, Nat.reduceSub, Nat.add_zero, Nat.zero_add, Nat.zero_lt_succ, Nat.le_refl, reduceIte, Bool.false_eq_true, false_implies, implies_true, true_and, and_true, and_self, Bool.not_true, Bool.not_false, beq_self_eq_true, bne_self_eq_false, List.nil_append, dV, dcallV_W, callV_W, callW, callX, sK_ap, giveS, calleeV, ioAll, argL, lendPlain, lendAll, outL, frzB, frzBs, List.map_cons, List.map_nil, List.append_nil, lenV, keepS, List.length_map, Int.toNat_natCast, Int.natCast_nonneg, take_map_len, List.take_length, convV, bslV, pullS, buildV, b2sV, bytesA, frzRows, frzRow, frzL, storeV, ovw, setC, setOf, cellOf, ioOf, ioAll, isOwner, shapeOf, keepK, takeK, List.take_nil, List.drop_nil, List.cons_append, List.set_set, List.length_set, List.getElem?_cons_zero, List.getElem?_cons_succ, List.set_cons_zero, List.set_cons_succ, Option.map_some, List.isPrefixOf]
        refine callK_i (d74 l[i] n p1 p2 (by omega)) ?_
        simp only [ChangeE, nth_map h3, h4, slcV, lhs, bnd, Int.toNat_zero, Nat.sub_zero, Option.map_none, allocV, mksV, ZC.av, evO, evC, evB, evS, zipA_cons, putS_t, putS_f, mqV, maV, asgV, boxV, cellsS, storL, ownO, rd, brw, brws, bare, bares, plain, plains, killV, killVs, isB, isS, fadV, loadV, iadV, inRow, getC, List.getD_cons_zero, List.getD_cons_succ, List.all_cons, List.all_nil, List.length_cons, List.length_nil, List.drop_zero, List.drop_succ_cons, List.take_succ_cons, List.take_zero, Bool.and_true, Bool.and_false, Bool.false_and, Bool.true_and, Bool.and_self, Option.bind_some, Nat.reduceEqDiff, Nat.reduceBEq, Nat.reduceLT, Nat.reduceLeDiff, Nat.reduceAdd, Nat.reduceSub, Nat.add_zero, Nat.zero_add, Nat.zero_lt_succ, Nat.le_refl, reduceIte, Bool.false_eq_true, false_implies, implies_true, true_and, and_true, and_self, Bool.not_true, Bool.not_false, beq_self_eq_true, bne_self_eq_false, List.nil_append, dV, dcallV_W, callV_W, callW, callX, sK_ap, giveS, calleeV, ioAll, argL, lendPlain, lendAll, outL, frzB, frzBs, List.map_cons, List.map_nil, List.append_nil, lenV, keepS, List.length_map, Int.toNat_natCast, Int.natCast_nonneg, take_map_len, List.take_length, convV, bslV, pullS, buildV, b2sV, bytesA, frzRows, frzRow, frzL, storeV, ovw, setC, setOf, cellOf, ioOf, ioAll, isOwner, shapeOf, keepK, takeK, List.take_nil, List.drop_nil, List.cons_append, List.set_set, List.length_set, List.getElem?_cons_zero, List.getElem?_cons_succ, List.set_cons_zero, List.set_cons_succ, Option.map_some, List.isPrefixOf]
        refine cK_cut (fun h => ?_) (fun h => ?_)
        · have h5 : szChange l[i] n < 0 := by simpa using h
          rw [if_pos h5] at p3
          simp only [slcV, lhs, bnd, Int.toNat_zero, Nat.sub_zero, Option.map_none, allocV, mksV, ZC.av, evO, evC, evB, evS, zipA_cons, putS_t, putS_f, mqV, maV, asgV, boxV, cellsS, storL, ownO, rd, brw, brws, bare, bares, plain, plains, killV, killVs, isB, isS, fadV, loadV, iadV, inRow, getC, List.getD_cons_zero, List.getD_cons_succ, List.all_cons, List.all_nil, List.length_cons, List.length_nil, List.drop_zero, List.drop_succ_cons, List.take_succ_cons, List.take_zero, Bool.and_true, Bool.and_false, Bool.false_and, Bool.true_and, Bool.and_self, Option.bind_some, Nat.reduceEqDiff, Nat.reduceBEq, Nat.reduceLT, Nat.reduceLeDiff, Nat.reduceAdd, Nat.reduceSub, Nat.add_zero, Nat.zero_add, Nat.zero_lt_succ, Nat.le_refl, reduceIte, Bool.false_eq_true, false_implies, implies_true, true_and, and_true, and_self, Bool.not_true, Bool.not_false, beq_self_eq_true, bne_self_eq_false, List.nil_append, dV, dcallV_W, callV_W, callW, callX, sK_ap, giveS, calleeV, ioAll, argL, lendPlain, lendAll, outL, frzB, frzBs, List.map_cons, List.map_nil, List.append_nil, lenV, keepS, List.length_map, Int.toNat_natCast, Int.natCast_nonneg, take_map_len, List.take_length, convV, bslV, pullS, buildV, b2sV, bytesA, frzRows, frzRow, frzL, storeV, ovw, setC, setOf, cellOf, ioOf, ioAll, isOwner, shapeOf, keepK, takeK, List.take_nil, List.drop_nil, List.cons_append, List.set_set, List.length_set, List.getElem?_cons_zero, List.getElem?_cons_succ, List.set_cons_zero, List.set_cons_succ, Option.map_some, List.isPrefixOf]
          simp only [← p3, slcV, lhs, bnd, Int.toNat_zero, Nat.sub_zero, Option.map_none, allocV, mksV, ZC.av, evO, evC, evB, evS, zipA_cons, putS_t, putS_f, mqV, maV, asgV, boxV, cellsS, storL, ownO, rd, brw, brws, bare, bares, plain, plains, killV, killVs, isB, isS, fadV, loadV, iadV, inRow, getC, List.getD_cons_zero, List.getD_cons_succ, List.all_cons, List.all_nil, List.length_cons, List.length_nil, List.drop_zero, List.drop_succ_cons, List.take_succ_cons, List.take_zero, Bool.and_true, Bool.and_false, Bool.false_and, Bool.true_and, Bool.and_self, Option.bind_some, Nat.reduceEqDiff, Nat.reduceBEq, Nat.reduceLT, Nat.reduceLeDiff, Nat.reduceAdd, Nat.reduceSub, Nat.add_zero, Nat.zero_add, Nat.zero_lt_succ, Nat.le_refl, reduceIte, Bool.false_eq_true, false_implies, implies_true, true_and, and_true, and_self, Bool.not_true, Bool.not_false, beq_self_eq_true, bne_self_eq_false, List.nil_append, dV, dcallV_W, callV_W, callW, callX, sK_ap, giveS, calleeV, ioAll, argL, lendPlain, lendAll, outL, frzB, frzBs, List.map_cons, List.map_nil, List.append_nil, lenV, keepS, List.length_map, Int.toNat_natCast, Int.natCast_nonneg, take_map_len, List.take_length, convV, bslV, pullS, buildV, b2sV, bytesA, frzRows, frzRow, frzL, storeV, ovw, setC, setOf, cellOf, ioOf, ioAll, isOwner, shapeOf, keepK, takeK, List.take_nil, List.drop_nil, List.cons_append, List.set_set, List.length_set, List.getElem?_cons_zero, List.getElem?_cons_succ, List.set_cons_zero, List.set_cons_succ, Option.map_some, List.isPrefixOf, retVC, cellV', evR, nfz, nfzs, nfzss, List.contains_nil, List.contains_cons, Bool.or_false, or_true]
        · have h5 : ¬ szChange l[i] n < 0 := by simpa using h
          rw [if_neg h5] at p3
          have w2 := w64 ((i : Int) + 1) (by omega)
          simp only [w2, slcV, lhs, bnd, Int.toNat_zero, Nat.sub_zero, Option.map_none, allocV, mksV, ZC.av, evO, evC, evB, evS, zipA_cons, putS_t, putS_f, mqV, maV, asgV, boxV, cellsS, storL, ownO, rd, brw, brws, bare, bares, plain, plains, killV, killVs, isB, isS, fadV, loadV, iadV, inRow, getC, List.getD_cons_zero, List.getD_cons_succ, List.all_cons, List.all_nil, List.length_cons, List.length_nil, List.drop_zero, List.drop_succ_cons, List.take_succ_cons, List.take_zero, Bool.and_true, Bool.and_false, Bool.false_and, Bool.true_and, Bool.and_self, Option.bind_some, Nat.reduceEqDiff, Nat.reduceBEq, Nat.reduceLT, Nat.reduceLeDiff, Nat.reduceAdd, Nat.reduceSub, Nat.add_zero, Nat.zero_add, Nat.zero_lt_succ, Nat.le_refl, reduceIte, Bool.false_eq_true, false_implies, implies_true, true_and, and_true, and_self, Bool.not_true, Bool.not_false, beq_self_eq_true, bne_self_eq_false, List.nil_append, dV, dcallV_W, callV_W, callW, callX, sK_ap, giveS, calleeV, ioAll, argL, lendPlain, lendAll, outL, frzB, frzBs, List.map_cons, List.map_nil, List.append_nil, lenV, keepS, List.length_map, Int.toNat_natCast, Int.natCast_nonneg, take_map_len, List.take_length, convV, bslV, pullS, buildV, b2sV, bytesA, frzRows, frzRow, frzL, storeV, ovw, setC, setOf, cellOf, ioOf, ioAll, isOwner, shapeOf, keepK, takeK, List.take_nil, List.drop_nil, List.cons_append, List.set_set, List.length_set, List.getElem?_cons_zero, List.getElem?_cons_succ, List.set_cons_zero, List.set_cons_succ, Option.map_some, List.isPrefixOf]
          exact ⟨(i + 1, szChange l[i] n), ⟨by simp only; omega, by simp only; omega, by simp only; omega, p3⟩, by simp only; omega, rfl⟩
      · have h3 : i = l.length := by have : ¬ (i : Int) < l.length := by simpa using h
                                     omega
        subst h3
        rw [List.drop_length] at p3
        simp only [szChanges] at p3
        simp only [slcV, lhs, bnd, Int.toNat_zero, Nat.sub_zero, Option.map_none, allocV, mksV, ZC.av, evO, evC, evB, evS, zipA_cons, putS_t, putS_f, mqV, maV, asgV, boxV, cellsS, storL, ownO, rd, brw, brws, bare, bares, plain, plains, killV, killVs, isB, isS, fadV, loadV, iadV, inRow, getC, List.getD_cons_zero, List.getD_cons_succ, List.all_cons, List.all_nil, List.length_cons, List.length_nil, List.drop_zero, List.drop_succ_cons, List.take_succ_cons, List.take_zero, Bool.and_true, Bool.and_false, Bool.false_and, Bool.true_and, Bool.and_self, Option.bind_some, Nat.reduceEqDiff, Nat.reduceBEq, Nat.reduceLT, Nat.reduceLeDiff, Nat.reduceAdd, Nat.reduceSub, Nat.add_zero, Nat.zero_add, Nat.zero_lt_succ, Nat.le_refl, reduceIte, Bool.false_eq_true, false_implies, implies_true, true_and, and_true, and_self, Bool.not_true, Bool.not_false, beq_self_eq_true, bne_self_eq_false, List.nil_append, dV, dcallV_W, callV_W, callW, callX, sK_ap, giveS, calleeV, ioAll, argL, lendPlain, lendAll, outL, frzB, frzBs, List.map_cons, List.map_nil, List.append_nil, lenV, keepS, List.length_map, Int.toNat_natCast, Int.natCast_nonneg, take_map_len, List.take_length, convV, bslV, pullS, buildV, b2sV, bytesA, frzRows, frzRow, frzL, storeV, ovw, setC, setOf, cellOf, ioOf, ioAll, isOwner, shapeOf, keepK, takeK, List.take_nil, List.drop_nil, List.cons_append, List.set_set, List.length_set, List.getElem?_cons_zero, List.getElem?_cons_succ, List.set_cons_zero, List.set_cons_succ, Option.map_some, List.isPrefixOf]
        simp only [← p3, slcV, lhs, bnd, Int.toNat_zero, Nat.sub_zero, Option.map_none, allocV, mksV, ZC.av, evO, evC, evB, evS, zipA_cons, putS_t, putS_f, mqV, maV, asgV, boxV, cellsS, storL, ownO, rd, brw, brws, bare, bares, plain, plains, killV, killVs, isB, isS, fadV, loadV, iadV, inRow, getC, List.getD_cons_zero, List.getD_cons_succ, List.all_cons, List.all_nil, List.length_cons, List.length_nil, List.drop_zero, List.drop_succ_cons, List.take_succ_cons, List.take_zero, Bool.and_true, Bool.and_false, Bool.false_and, Bool.true_and, Bool.and_self, Option.bind_some, Nat.reduceEqDiff, Nat.reduceBEq, Nat.reduceLT, Nat.reduceLeDiff, Nat.reduceAdd, Nat.reduceSub, Nat.add_zero, Nat.zero_add, Nat.zero_lt_succ, Nat.le_refl, reduceIte, Bool.false_eq_true, false_implies, implies_true, true_and, and_true, and_self, Bool.not_true, Bool.not_false, beq_self_eq_true, bne_self_eq_false, List.nil_append, dV, dcallV_W, callV_W, callW, callX, sK_ap, giveS, calleeV, ioAll, argL, lendPlain, lendAll, outL, frzB, frzBs, List.map_cons, List.map_nil, List.append_nil, lenV, keepS, List.length_map, Int.toNat_natCast, Int.natCast_nonneg, take_map_len, List.take_length, convV, bslV, pullS, buildV, b2sV, bytesA, frzRows, frzRow, frzL, storeV, ovw, setC, setOf, cellOf, ioOf, ioAll, isOwner, shapeOf, keepK, takeK, List.take_nil, List.drop_nil, List.cons_append, List.set_set, List.length_set, List.getElem?_cons_zero, List.getElem?_cons_succ, List.set_cons_zero, List.set_cons_succ, Option.map_some, List.isPrefixOf, retVC, cellV', evR, nfz, nfzs, nfzss, List.contains_nil, List.contains_cons, Bool.or_false, or_true]

theorem szChanges_le : ∀ (l : List Change) (k : Int), 0 ≤ k → szChanges l k ≤ k
  | [], k, h => by simp [szChanges]
  | s :: r, k, h => by
    simp only [szChanges]
    have h1 := szChange_le s k h
    split
    · omega
    · have := szChanges_le r (szChange s k) (by omega)
      omega

theorem szChangeS_le (l : List Change) (k : Int) (h : 0 ≤ k) : szChangeS l k ≤ k := by
  unfold szChangeS
  split
  · omega
  · have := szChanges_le l (k - l.length) (by omega); omega

/-- What is left is what is there, less all lengths. -/
def totChange (s : Change) : Int := s.name.size
def totChanges : List Change → Int
  | [] => 0
  | s :: r => 1 + totChange s + totChanges r
theorem szChange_tot (s : Change) (k : Int) (h : 0 ≤ szChange s k) : totChange s + szChange s k = k := by
  revert h
  unfold szChange totChange
  simp only [less]
  repeat' split
  all_goals (intro h; omega)
theorem szChanges_tot : ∀ (l : List Change) (k : Int), 0 ≤ szChanges l k → totChanges l + szChanges l k = k + l.length
  | [], k, h => by simp [szChanges, totChanges]
  | s :: r, k, h => by
    simp only [szChanges] at h ⊢
    split
    · rename_i h1; rw [if_pos h1] at h; omega
    · rename_i h1
      rw [if_neg h1] at h
      have h2 := szChange_tot s k (by omega)
      have h3 := szChanges_tot r _ h
      simp only [totChanges, List.length_cons]
      omega
theorem szChangeS_tot (l : List Change) (k : Int) (h : 0 ≤ szChangeS l k) : totChanges l + szChangeS l k = k := by
  unfold szChangeS at h ⊢
  split
  · rename_i h1; rw [if_pos h1] at h; omega
  · rename_i h1
    rw [if_neg h1] at h
    have := szChanges_tot l _ h
    omega
theorem totChanges_nn : ∀ l : List Change, (l.length : Int) ≤ totChanges l
  | [] => by simp [totChanges]
  | s :: r => by
    have := totChanges_nn r
    simp only [totChanges, totChange, List.length_cons]
    omega
theorem totChanges_mem : ∀ (l : List Change) (s : Change), s ∈ l → totChange s ≤ totChanges l
  | x :: r, s, h => by
    simp only [totChanges]
    have h3 : 0 ≤ totChange x := by simp only [totChange]; omega
    have h2 := totChanges_nn r
    rcases List.mem_cons.1 h with h | h
    · subst h; omega
    · have := totChanges_mem r s h; omega

/-- loop.example/g00837/laws.eqChange -/
def m79 : MC :=
  (.seq
   (.reg [⟨(some 2), none, .a (.box 98 (.t 0))⟩,
     ⟨(some 3), none, .a (.box 98 (.t 1))⟩,
     ⟨(some 4), none, .a (.asg (.c (.bool false)))⟩])
   (.seq
    (.seq
     (.reg [⟨(some 5), none, .q (.fad 0 (.t 2))⟩,
       ⟨(some 6), none, .q (.load false 1 (.t 5))⟩,
       ⟨(some 7), none, .q (.fad 0 (.t 3))⟩,
       ⟨(some 8), none, .q (.load false 1 (.t 7))⟩,
       ⟨(some 9), none, .q (.bin false .neq (.t 6) (.t 8))⟩])
     (.cond (.t 9)
      (.seq
       (.reg [⟨(some 4), none, .a (.asg (.c (.bool false)))⟩])
       .ret)
      .skip))
    (.seq
     (.seq
      (.reg [⟨(some 10), none, .q (.fad 1 (.t 2))⟩,
        ⟨(some 11), none, .q (.load false 1 (.t 10))⟩,
        ⟨(some 12), none, .q (.fad 1 (.t 3))⟩,
        ⟨(some 13), none, .q (.load false 1 (.t 12))⟩,
        ⟨(some 14), none, .q (.bin false .neq (.t 11) (.t 13))⟩])
      (.cond (.t 14)
       (.seq
        (.reg [⟨(some 4), none, .a (.asg (.c (.bool false)))⟩])
        .ret)
       .skip))
     (.seq
      (.reg [⟨(some 4), none, .a (.asg (.c (.bool true)))⟩])
      .ret))))


theorem d79 (f : Change) : Does Go.Proofs.Try.prog 79 [.agg f.c, .agg f.c] false (.v (.bool true)) [.dead, .dead] := by
  refine does_intro (mc := m79) (N := 15) (rs := [4]) (fx := []) 2 rfl (by decide +kernel) ?_
  simp only [m79, Change.c, slcV, lhs, bnd, Int.toNat_zero, Nat.sub_zero, Option.map_none, allocV, mksV, ZC.av, evO, evC, evB, evS, zipA_cons, putS_t, putS_f, mqV, maV, asgV, boxV, cellsS, storL, ownO, rd, brw, brws, bare, bares, plain, plains, killV, killVs, isB, isS, fadV, loadV, iadV, inRow, getC, List.getD_cons_zero, List.getD_cons_succ, List.all_cons, List.all_nil, List.length_cons, List.length_nil, List.drop_zero, List.drop_succ_cons, List.take_succ_cons, List.take_zero, Bool.and_true, Bool.and_false, Bool.false_and, Bool.true_and, Bool.and_self, Option.bind_some, Nat.reduceEqDiff, Nat.reduceBEq, Nat.reduceLT, Nat.reduceLeDiff, Nat.reduceAdd, Nat.reduceSub, Nat.add_zero, Nat.zero_add, Nat.zero_lt_succ, Nat.le_refl, reduceIte, Bool.false_eq_true, false_implies, implies_true, true_and, and_true, and_self, Bool.not_true, Bool.not_false, beq_self_eq_true, bne_self_eq_false, List.nil_append, dV, dcallV_W, callV_W, callW, callX, sK_ap, giveS, calleeV, ioAll, argL, lendPlain, lendAll, outL, frzB, frzBs, List.map_cons, List.map_nil, List.append_nil, lenV, keepS, List.length_map, Int.toNat_natCast, Int.natCast_nonneg, take_map_len, List.take_length, convV, bslV, pullS, buildV, b2sV, bytesA, frzRows, frzRow, frzL, storeV, ovw, setC, setOf, cellOf, ioOf, ioAll, isOwner, shapeOf, keepK, takeK, List.take_nil, List.drop_nil, List.cons_append, List.set_set, List.length_set, List.getElem?_cons_zero, List.getElem?_cons_succ, List.set_cons_zero, List.set_cons_succ, Option.map_some, List.isPrefixOf]
  simp only [slcV, lhs, bnd, Int.toNat_zero, Nat.sub_zero, Option.map_none, allocV, mksV, ZC.av, evO, evC, evB, evS, zipA_cons, putS_t, putS_f, mqV, maV, asgV, boxV, cellsS, storL, ownO, rd, brw, brws, bare, bares, plain, plains, killV, killVs, isB, isS, fadV, loadV, iadV, inRow, getC, List.getD_cons_zero, List.getD_cons_succ, List.all_cons, List.all_nil, List.length_cons, List.length_nil, List.drop_zero, List.drop_succ_cons, List.take_succ_cons, List.take_zero, Bool.and_true, Bool.and_false, Bool.false_and, Bool.true_and, Bool.and_self, Option.bind_some, Nat.reduceEqDiff, Nat.reduceBEq, Nat.reduceLT, Nat.reduceLeDiff, Nat.reduceAdd, Nat.reduceSub, Nat.add_zero, Nat.zero_add, Nat.zero_lt_succ, Nat.le_refl, reduceIte, Bool.false_eq_true, false_implies, implies_true, true_and, and_true, and_self, Bool.not_true, Bool.not_false, beq_self_eq_true, bne_self_eq_false, List.nil_append, dV, dcallV_W, callV_W, callW, callX, sK_ap, giveS, calleeV, ioAll, argL, lendPlain, lendAll, outL, frzB, frzBs, List.map_cons, List.map_nil, List.append_nil, lenV, keepS, List.length_map, Int.toNat_natCast, Int.natCast_nonneg, take_map_len, List.take_length, convV, bslV, pullS, buildV, b2sV, bytesA, frzRows, frzRow, frzL, storeV, ovw, setC, setOf, cellOf, ioOf, ioAll, isOwner, shapeOf, keepK, takeK, List.take_nil, List.drop_nil, List.cons_append, List.set_set, List.length_set, List.getElem?_cons_zero, List.getElem?_cons_succ, List.set_cons_zero, List.set_cons_succ, Option.map_some, List.isPrefixOf, retVC, cellV', evR, nfz, nfzs, nfzss, List.contains_nil, List.contains_cons, Bool.or_false, or_true]

/-- loop.example/g00837/laws.eqChangeS -/
def m29 : MC :=
  (.seq
   (.reg [⟨(some 4), none, .a (.asg (.c (.bool false)))⟩])
   (.seq
    (.seq
     (.reg [⟨(some 6), none, .q (.mov (.t 0))⟩,
       ⟨(some 7), none, .q (.len false (.t 6))⟩,
       ⟨(some 8), none, .q (.mov (.t 1))⟩,
       ⟨(some 9), none, .q (.len false (.t 8))⟩,
       ⟨(some 10), none, .q (.bin false .neq (.t 7) (.t 9))⟩])
     (.cond (.t 10)
      (.seq
       (.reg [⟨(some 4), none, .a (.asg (.c (.bool false)))⟩])
       .ret)
      .skip))
    (.seq
     (.seq
      (.reg [⟨(some 5), none, .a (.asg (.c (.int .i64 0)))⟩])
      (.block 0
       (.loop [0, 1, 5]
        (.seq
         (.seq
          (.reg [⟨(some 11), none, .q (.mov (.t 5))⟩,
            ⟨(some 12), none, .q (.mov (.t 0))⟩,
            ⟨(some 13), none, .q (.len false (.t 12))⟩,
            ⟨(some 14), none, .q (.bin false .lss (.t 11) (.t 13))⟩])
          (.cond (.t 14)
           .skip
           (.exit 0)))
         (.seq
          (.block 1
           (.seq
            (.dreg [⟨(some 17), none, .q (.mov (.t 0))⟩,
              ⟨(some 18), none, .q (.mov (.t 5))⟩,
              ⟨(some 19), none, .q (.iad 2 (.t 17) (.t 18))⟩,
              ⟨(some 20), none, .q (.load true 2 (.t 19))⟩,
              ⟨(some 21), none, .q (.mov (.t 1))⟩,
              ⟨(some 22), none, .q (.mov (.t 5))⟩,
              ⟨(some 23), none, .q (.iad 2 (.t 21) (.t 22))⟩,
              ⟨(some 24), none, .q (.load true 2 (.t 23))⟩,
              ⟨(some 25), none, .a (.call (.fn 79) false [.lend (.t 20), .lend (.t 24)])⟩,
              ⟨(some 26), none, .q (.un .not (.t 25))⟩])
            (.cond (.t 26)
             (.seq
              (.reg [⟨(some 4), none, .a (.asg (.c (.bool false)))⟩])
              .ret)
             .skip)))
          (.reg [⟨(some 15), none, .q (.mov (.t 5))⟩,
            ⟨(some 16), none, .q (.bin false .add (.t 15) (.c (.int .i64 1)))⟩,
            ⟨(some 5), none, .a (.asg (.t 16))⟩]))))))
     (.seq
      (.reg [⟨(some 4), none, .a (.asg (.c (.bool true)))⟩])
      .ret))))


theorem d29 (l : List Change) (hl : l.length < 9223372036854775807) : Does Go.Proofs.Try.prog 29 [.fsl 2 (l.map Change.c), .fsl 2 (l.map Change.c)] false (.v (.bool true)) [.dead, .dead] := by
  refine does_intro (mc := m29) (N := 27) (rs := [4]) (fx := []) 2 rfl (by decide +kernel) ?_
  simp only [m29, slcV, lhs, bnd, Int.toNat_zero, Nat.sub_zero, Option.map_none, allocV, mksV, ZC.av, evO, evC, evB, evS, zipA_cons, putS_t, putS_f, mqV, maV, asgV, boxV, cellsS, storL, ownO, rd, brw, brws, bare, bares, plain, plains, killV, killVs, isB, isS, fadV, loadV, iadV, inRow, getC, List.getD_cons_zero, List.getD_cons_succ, List.all_cons, List.all_nil, List.length_cons, List.length_nil, List.drop_zero, List.drop_succ_cons, List.take_succ_cons, List.take_zero, Bool.and_true, Bool.and_false, Bool.false_and, Bool.true_and, Bool.and_self, Option.bind_some, Nat.reduceEqDiff, Nat.reduceBEq, Nat.reduceLT, Nat.reduceLeDiff, Nat.reduceAdd, Nat.reduceSub, Nat.add_zero, Nat.zero_add, Nat.zero_lt_succ, Nat.le_refl, reduceIte, Bool.false_eq_true, false_implies, implies_true, true_and, and_true, and_self, Bool.not_true, Bool.not_false, beq_self_eq_true, bne_self_eq_false, List.nil_append, dV, dcallV_W, callV_W, callW, callX, sK_ap, giveS, calleeV, ioAll, argL, lendPlain, lendAll, outL, frzB, frzBs, List.map_cons, List.map_nil, List.append_nil, lenV, keepS, List.length_map, Int.toNat_natCast, Int.natCast_nonneg, take_map_len, List.take_length, convV, bslV, pullS, buildV, b2sV, bytesA, frzRows, frzRow, frzL, storeV, ovw, setC, setOf, cellOf, ioOf, ioAll, isOwner, shapeOf, keepK, takeK, List.take_nil, List.drop_nil, List.cons_append, List.set_set, List.length_set, List.getElem?_cons_zero, List.getElem?_cons_succ, List.set_cons_zero, List.set_cons_succ, Option.map_some, List.isPrefixOf]
  refine awp_loop (fun i : Nat => i ≤ l.length) (fun i => stl [(0, .fsl 2 (l.map Change.c)), (1, .fsl 2 (l.map Change.c)), (5, .v (.int .i64 (i : Int)))]) (fun i => l.length - i) 0 (Nat.zero_le _) ?_ ?_
  · simp only [slcV, lhs, bnd, Int.toNat_zero, Nat.sub_zero, Option.map_none, allocV, mksV, ZC.av, evO, evC, evB, evS, zipA_cons, putS_t, putS_f, mqV, maV, asgV, boxV, cellsS, storL, ownO, rd, brw, brws, bare, bares, plain, plains, killV, killVs, isB, isS, fadV, loadV, iadV, inRow, getC, List.getD_cons_zero, List.getD_cons_succ, List.all_cons, List.all_nil, List.length_cons, List.length_nil, List.drop_zero, List.drop_succ_cons, List.take_succ_cons, List.take_zero, Bool.and_true, Bool.and_false, Bool.false_and, Bool.true_and, Bool.and_self, Option.bind_some, Nat.reduceEqDiff, Nat.reduceBEq, Nat.reduceLT, Nat.reduceLeDiff, Nat.reduceAdd, Nat.reduceSub, Nat.add_zero, Nat.zero_add, Nat.zero_lt_succ, Nat.le_refl, reduceIte, Bool.false_eq_true, false_implies, implies_true, true_and, and_true, and_self, Bool.not_true, Bool.not_false, beq_self_eq_true, bne_self_eq_false, List.nil_append, dV, dcallV_W, callV_W, callW, callX, sK_ap, giveS, calleeV, ioAll, argL, lendPlain, lendAll, outL, frzB, frzBs, List.map_cons, List.map_nil, List.append_nil, lenV, keepS, List.length_map, Int.toNat_natCast, Int.natCast_nonneg, take_map_len, List.take_length, convV, bslV, pullS, buildV, b2sV, bytesA, frzRows, frzRow, frzL, storeV, ovw, setC, setOf, cellOf, ioOf, ioAll, isOwner, shapeOf, keepK, takeK, List.take_nil, List.drop_nil, List.cons_append, List.set_set, List.length_set, List.getElem?_cons_zero, List.getElem?_cons_succ, List.set_cons_zero, List.set_cons_succ, Option.map_some, List.isPrefixOf]
    rfl
  · intro i hi
    simp only [slcV, lhs, bnd, Int.toNat_zero, Nat.sub_zero, Option.map_none, allocV, mksV, ZC.av, evO, evC, evB, evS, zipA_cons, putS_t, putS_f, mqV, maV, asgV, boxV, cellsS, storL, ownO, rd, brw, brws, bare, bares, plain, plains, killV, killVs, isB, isS, fadV, loadV, iadV, inRow, getC, List.getD_cons_zero, List.getD_cons_succ, List.all_cons, List.all_nil, List.length_cons, List.length_nil, List.drop_zero, List.drop_succ_cons, List.take_succ_cons, List.take_zero, Bool.and_true, Bool.and_false, Bool.false_and, Bool.true_and, Bool.and_self, Option.bind_some, Nat.reduceEqDiff, Nat.reduceBEq, Nat.reduceLT, Nat.reduceLeDiff, Nat.reduceAdd, Nat.reduceSub, Nat.add_zero, Nat.zero_add, Nat.zero_lt_succ, Nat.le_refl, reduceIte, Bool.false_eq_true, false_implies, implies_true, true_and, and_true, and_self, Bool.not_true, Bool.not_false, beq_self_eq_true, bne_self_eq_false, List.nil_append, dV, dcallV_W, callV_W, callW, callX, sK_ap, giveS, calleeV, ioAll, argL, lendPlain, lendAll, outL, frzB, frzBs, List.map_cons, List.map_nil, List.append_nil, lenV, keepS, List.length_map, Int.toNat_natCast, Int.natCast_nonneg, take_map_len, List.take_length, convV, bslV, pullS, buildV, b2sV, bytesA, frzRows, frzRow, frzL, storeV, ovw, setC, setOf, cellOf, ioOf, ioAll, isOwner, shapeOf, keepK, takeK, List.take_nil, List.drop_nil, List.cons_append, List.set_set, List.length_set, List.getElem?_cons_zero, List.getElem?_cons_succ, List.set_cons_zero, List.set_cons_succ, Option.map_some, List.isPrefixOf]
    refine cK_cut (fun h => ?_) (fun h => ?_)
    · have h1 : i < l.length := by simpa using h
      have h2 : (i : Int) < (l.length : Int) := by omega
      simp only [ChangeE, nth_map h1, h2, slcV, lhs, bnd, Int.toNat_zero, Nat.sub_zero, Option.map_none, allocV, mksV, ZC.av, evO, evC, evB, evS, zipA_cons, putS_t, putS_f, mqV, maV, asgV, boxV, cellsS, storL, ownO, rd, brw, brws, bare, bares, plain, plains, killV, killVs, isB, isS, fadV, loadV, iadV, inRow, getC, List.getD_cons_zero, List.getD_cons_succ, List.all_cons, List.all_nil, List.length_cons, List.length_nil, List.drop_zero, List.drop_succ_cons, List.take_succ_cons, List.take_zero, Bool.and_true, Bool.and_false, Bool.false_and, Bool.true_and, Bool.and_self, Option.bind_some, Nat.reduceEqDiff, Nat.reduceBEq, Nat.reduceLT, Nat.reduceLeDiff, Nat.reduceAdd, Nat.reduceSub, Nat.add_zero, Nat.zero_add, Nat.zero_lt_succ, Nat.le_refl, reduceIte, Bool.false_eq_true, false_implies, implies_true, true_and, and_true, and_self, Bool.not_true, Bool.not_false, beq_self_eq_true, bne_self_eq_false, List.nil_append, dV, dcallV_W, callV_W, callW, callX, sK_ap, giveS, calleeV, ioAll, argL, lendPlain, lendAll, outL, frzB, frzBs, List.map_cons, List.map_nil, List.append_nil, lenV, keepS, List.length_map, Int.toNat_natCast, Int.natCast_nonneg, take_map_len, List.take_length, convV, bslV, pullS, buildV, b2sV, bytesA, frzRows, frzRow, frzL, storeV, ovw, setC, setOf, cellOf, ioOf, ioAll, isOwner, shapeOf, keepK, takeK, List.take_nil, List.drop_nil, List.cons_append, List.set_set, List.length_set, List.getElem?_cons_zero, List.getElem?_cons_succ, List.set_cons_zero, List.set_cons_succ, Option.map_some, List.isPrefixOf]
      refine callD_i (d79 l[i]) rfl ?_
      simp only [slcV, lhs, bnd, Int.toNat_zero, Nat.sub_zero, Option.map_none, allocV, mksV, ZC.av, evO, evC, evB, evS, zipA_cons, putS_t, putS_f, mqV, maV, asgV, boxV, cellsS, storL, ownO, rd, brw, brws, bare, bares, plain, plains, killV, killVs, isB, isS, fadV, loadV, iadV, inRow, getC, List.getD_cons_zero, List.getD_cons_succ, List.all_cons, List.all_nil, List.length_cons, List.length_nil, List.drop_zero, List.drop_succ_cons, List.take_succ_cons, List.take_zero, Bool.and_true, Bool.and_false, Bool.false_and, Bool.true_and, Bool.and_self, Option.bind_some, Nat.reduceEqDiff, Nat.reduceBEq, Nat.reduceLT, Nat.reduceLeDiff, Nat.reduceAdd, Nat.reduceSub, Nat.add_zero, Nat.zero_add, Nat.zero_lt_succ, Nat.le_refl, reduceIte, Bool.false_eq_true, false_implies, implies_true, true_and, and_true, and_self, Bool.not_true, Bool.not_false, beq_self_eq_true, bne_self_eq_false, List.nil_append, dV, dcallV_W, callV_W, callW, callX, sK_ap, giveS, calleeV, ioAll, argL, lendPlain, lendAll, outL, frzB, frzBs, List.map_cons, List.map_nil, List.append_nil, lenV, keepS, List.length_map, Int.toNat_natCast, Int.natCast_nonneg, take_map_len, List.take_length, convV, bslV, pullS, buildV, b2sV, bytesA, frzRows, frzRow, frzL, storeV, ovw, setC, setOf, cellOf, ioOf, ioAll, isOwner, shapeOf, keepK, takeK, List.take_nil, List.drop_nil, List.cons_append, List.set_set, List.length_set, List.getElem?_cons_zero, List.getElem?_cons_succ, List.set_cons_zero, List.set_cons_succ, Option.map_some, List.isPrefixOf]
      refine ⟨i + 1, by omega, by omega, ?_⟩
      rw [w64 _ (by omega)]
      rfl
    · have h1 : i = l.length := by have : ¬ (i : Int) < l.length := by simpa using h
                                   omega
      simp only [slcV, lhs, bnd, Int.toNat_zero, Nat.sub_zero, Option.map_none, allocV, mksV, ZC.av, evO, evC, evB, evS, zipA_cons, putS_t, putS_f, mqV, maV, asgV, boxV, cellsS, storL, ownO, rd, brw, brws, bare, bares, plain, plains, killV, killVs, isB, isS, fadV, loadV, iadV, inRow, getC, List.getD_cons_zero, List.getD_cons_succ, List.all_cons, List.all_nil, List.length_cons, List.length_nil, List.drop_zero, List.drop_succ_cons, List.take_succ_cons, List.take_zero, Bool.and_true, Bool.and_false, Bool.false_and, Bool.true_and, Bool.and_self, Option.bind_some, Nat.reduceEqDiff, Nat.reduceBEq, Nat.reduceLT, Nat.reduceLeDiff, Nat.reduceAdd, Nat.reduceSub, Nat.add_zero, Nat.zero_add, Nat.zero_lt_succ, Nat.le_refl, reduceIte, Bool.false_eq_true, false_implies, implies_true, true_and, and_true, and_self, Bool.not_true, Bool.not_false, beq_self_eq_true, bne_self_eq_false, List.nil_append, dV, dcallV_W, callV_W, callW, callX, sK_ap, giveS, calleeV, ioAll, argL, lendPlain, lendAll, outL, frzB, frzBs, List.map_cons, List.map_nil, List.append_nil, lenV, keepS, List.length_map, Int.toNat_natCast, Int.natCast_nonneg, take_map_len, List.take_length, convV, bslV, pullS, buildV, b2sV, bytesA, frzRows, frzRow, frzL, storeV, ovw, setC, setOf, cellOf, ioOf, ioAll, isOwner, shapeOf, keepK, takeK, List.take_nil, List.drop_nil, List.cons_append, List.set_set, List.length_set, List.getElem?_cons_zero, List.getElem?_cons_succ, List.set_cons_zero, List.set_cons_succ, Option.map_some, List.isPrefixOf]
      simp only [slcV, lhs, bnd, Int.toNat_zero, Nat.sub_zero, Option.map_none, allocV, mksV, ZC.av, evO, evC, evB, evS, zipA_cons, putS_t, putS_f, mqV, maV, asgV, boxV, cellsS, storL, ownO, rd, brw, brws, bare, bares, plain, plains, killV, killVs, isB, isS, fadV, loadV, iadV, inRow, getC, List.getD_cons_zero, List.getD_cons_succ, List.all_cons, List.all_nil, List.length_cons, List.length_nil, List.drop_zero, List.drop_succ_cons, List.take_succ_cons, List.take_zero, Bool.and_true, Bool.and_false, Bool.false_and, Bool.true_and, Bool.and_self, Option.bind_some, Nat.reduceEqDiff, Nat.reduceBEq, Nat.reduceLT, Nat.reduceLeDiff, Nat.reduceAdd, Nat.reduceSub, Nat.add_zero, Nat.zero_add, Nat.zero_lt_succ, Nat.le_refl, reduceIte, Bool.false_eq_true, false_implies, implies_true, true_and, and_true, and_self, Bool.not_true, Bool.not_false, beq_self_eq_true, bne_self_eq_false, List.nil_append, dV, dcallV_W, callV_W, callW, callX, sK_ap, giveS, calleeV, ioAll, argL, lendPlain, lendAll, outL, frzB, frzBs, List.map_cons, List.map_nil, List.append_nil, lenV, keepS, List.length_map, Int.toNat_natCast, Int.natCast_nonneg, take_map_len, List.take_length, convV, bslV, pullS, buildV, b2sV, bytesA, frzRows, frzRow, frzL, storeV, ovw, setC, setOf, cellOf, ioOf, ioAll, isOwner, shapeOf, keepK, takeK, List.take_nil, List.drop_nil, List.cons_append, List.set_set, List.length_set, List.getElem?_cons_zero, List.getElem?_cons_succ, List.set_cons_zero, List.set_cons_succ, Option.map_some, List.isPrefixOf, retVC, cellV', evR, nfz, nfzs, nfzss, List.contains_nil, List.contains_cons, Bool.or_false, or_true]

/-- loop.example/g00837/laws.toChange -/
def m76 : MC :=
  (.seq
   (.reg [⟨(some 1), none, .a (.box 96 (.t 0))⟩,
     ⟨(some 2), none, .a (.alloc 98 [.v (.string ({ data := #[] })), .v (.int .i64 0)])⟩])
   (.seq
    (.reg [⟨(some 3), none, .a (.alloc 98 [.v (.string ({ data := #[] })), .v (.int .i64 0)])⟩])
    (.seq
     (.reg [⟨(some 4), none, .q (.fad 0 (.t 1))⟩,
       ⟨(some 5), none, .q (.load false 1 (.t 4))⟩,
       ⟨(some 6), none, .q (.fad 0 (.t 3))⟩,
       ⟨none, none, .a (.store 1 (.t 6) (.t 5))⟩])
     (.seq
      (.reg [⟨(some 7), none, .q (.fad 1 (.t 1))⟩,
        ⟨(some 8), none, .q (.load false 1 (.t 7))⟩,
        ⟨(some 9), none, .q (.fad 1 (.t 3))⟩,
        ⟨none, none, .a (.store 1 (.t 9) (.t 8))⟩])
      (.seq
       (.reg [⟨(some 10), none, .q (.load true 2 (.t 3))⟩,
         ⟨none, none, .a (.store 2 (.t 2) (.t 10))⟩])
       .ret)))))


theorem d76 (f : Change) : Does Go.Proofs.Try.prog 76 [.agg f.c] false (.agg f.c) [.dead] := by
  refine does_introC (mc := m76) (N := 11) (r := 2) (ty := 98) (agg := true) (sz := 2) (fx := []) 1 rfl (by decide +kernel) ?_
  simp only [m76, Change.c, ZC.av, slcV, lhs, bnd, Int.toNat_zero, Nat.sub_zero, Option.map_none, allocV, mksV, ZC.av, evO, evC, evB, evS, zipA_cons, putS_t, putS_f, mqV, maV, asgV, boxV, cellsS, storL, ownO, rd, brw, brws, bare, bares, plain, plains, killV, killVs, isB, isS, fadV, loadV, iadV, inRow, getC, List.getD_cons_zero, List.getD_cons_succ, List.all_cons, List.all_nil, List.length_cons, List.length_nil, List.drop_zero, List.drop_succ_cons, List.take_succ_cons, List.take_zero, Bool.and_true, Bool.and_false, Bool.false_and, Bool.true_and, Bool.and_self, Option.bind_some, Nat.reduceEqDiff, Nat.reduceBEq, Nat.reduceLT, Nat.reduceLeDiff, Nat.reduceAdd, Nat.reduceSub, Nat.add_zero, Nat.zero_add, Nat.zero_lt_succ, Nat.le_refl, reduceIte, Bool.false_eq_true, false_implies, implies_true, true_and, and_true, and_self, Bool.not_true, Bool.not_false, beq_self_eq_true, bne_self_eq_false, List.nil_append, dV, dcallV_W, callV_W, callW, callX, sK_ap, giveS, calleeV, ioAll, argL, lendPlain, lendAll, outL, frzB, frzBs, List.map_cons, List.map_nil, List.append_nil, lenV, keepS, List.length_map, Int.toNat_natCast, Int.natCast_nonneg, take_map_len, List.take_length, convV, bslV, pullS, buildV, b2sV, bytesA, frzRows, frzRow, frzL, storeV, ovw, setC, setOf, cellOf, ioOf, ioAll, isOwner, shapeOf, keepK, takeK, List.take_nil, List.drop_nil, List.cons_append, List.set_set, List.length_set, List.getElem?_cons_zero, List.getElem?_cons_succ, List.set_cons_zero, List.set_cons_succ, Option.map_some, List.isPrefixOf]
  simp only [slcV, lhs, bnd, Int.toNat_zero, Nat.sub_zero, Option.map_none, allocV, mksV, ZC.av, evO, evC, evB, evS, zipA_cons, putS_t, putS_f, mqV, maV, asgV, boxV, cellsS, storL, ownO, rd, brw, brws, bare, bares, plain, plains, killV, killVs, isB, isS, fadV, loadV, iadV, inRow, getC, List.getD_cons_zero, List.getD_cons_succ, List.all_cons, List.all_nil, List.length_cons, List.length_nil, List.drop_zero, List.drop_succ_cons, List.take_succ_cons, List.take_zero, Bool.and_true, Bool.and_false, Bool.false_and, Bool.true_and, Bool.and_self, Option.bind_some, Nat.reduceEqDiff, Nat.reduceBEq, Nat.reduceLT, Nat.reduceLeDiff, Nat.reduceAdd, Nat.reduceSub, Nat.add_zero, Nat.zero_add, Nat.zero_lt_succ, Nat.le_refl, reduceIte, Bool.false_eq_true, false_implies, implies_true, true_and, and_true, and_self, Bool.not_true, Bool.not_false, beq_self_eq_true, bne_self_eq_false, List.nil_append, dV, dcallV_W, callV_W, callW, callX, sK_ap, giveS, calleeV, ioAll, argL, lendPlain, lendAll, outL, frzB, frzBs, List.map_cons, List.map_nil, List.append_nil, lenV, keepS, List.length_map, Int.toNat_natCast, Int.natCast_nonneg, take_map_len, List.take_length, convV, bslV, pullS, buildV, b2sV, bytesA, frzRows, frzRow, frzL, storeV, ovw, setC, setOf, cellOf, ioOf, ioAll, isOwner, shapeOf, keepK, takeK, List.take_nil, List.drop_nil, List.cons_append, List.set_set, List.length_set, List.getElem?_cons_zero, List.getElem?_cons_succ, List.set_cons_zero, List.set_cons_succ, Option.map_some, List.isPrefixOf, retVC, cellV', evR, nfz, nfzs, nfzss, List.contains_nil, List.contains_cons, Bool.or_false, or_true]

/-- loop.example/g00837/laws.toChangeS -/
def m27 : MC :=
  (.seq
   (.reg [⟨(some 2), none, .a (.asg (.nils 98 2))⟩])
   (.seq
    (.reg [⟨(some 5), none, .q (.mov (.t 0))⟩,
      ⟨(some 6), none, .q (.len false (.t 5))⟩,
      ⟨(some 7), none, .a (.mks 98 2 24 [.v (.string ({ data := #[] })), .v (.int .i64 0)] (.t 6) (.t 6))⟩,
      ⟨(some 3), none, .a (.asg (.t 7))⟩])
    (.seq
     (.seq
      (.reg [⟨(some 4), none, .a (.asg (.c (.int .i64 0)))⟩])
      (.block 0
       (.loop [0, 3, 4, 6, 7]
        (.seq
         (.seq
          (.reg [⟨(some 8), none, .q (.mov (.t 4))⟩,
            ⟨(some 9), none, .q (.mov (.t 0))⟩,
            ⟨(some 10), none, .q (.len false (.t 9))⟩,
            ⟨(some 11), none, .q (.bin false .lss (.t 8) (.t 10))⟩])
          (.cond (.t 11)
           .skip
           (.exit 0)))
         (.seq
          (.block 1
           (.reg [⟨(some 14), none, .q (.mov (.t 3))⟩,
             ⟨(some 15), none, .q (.mov (.t 4))⟩,
             ⟨(some 16), none, .q (.mov (.t 0))⟩,
             ⟨(some 17), none, .q (.mov (.t 4))⟩,
             ⟨(some 18), none, .q (.iad 2 (.t 16) (.t 17))⟩,
             ⟨(some 19), none, .q (.load true 2 (.t 18))⟩,
             ⟨(some 20), none, .a (.call (.fn 76) false [.lend (.t 19)])⟩,
             ⟨(some 21), none, .q (.iad 2 (.t 14) (.t 15))⟩,
             ⟨none, none, .a (.store 2 (.t 21) (.t 20))⟩]))
          (.reg [⟨(some 12), none, .q (.mov (.t 4))⟩,
            ⟨(some 13), none, .q (.bin false .add (.t 12) (.c (.int .i64 1)))⟩,
            ⟨(some 4), none, .a (.asg (.t 13))⟩]))))))
     (.seq
      (.reg [⟨(some 22), none, .q (.mov (.t 3))⟩,
        ⟨(some 2), none, .a (.asg (.t 22))⟩])
      .ret))))


theorem d27 (l : List Change) (hl : (l.length : Int) ≤ 1048576) : Does Go.Proofs.Try.prog 27 [.fsl 2 (l.map Change.c)] false (.usl 98 2 (l.map Change.c)) [.dead] := by
  refine does_intro (mc := m27) (N := 23) (rs := [2]) (fx := []) 1 rfl (by decide +kernel) ?_
  simp only [m27, mksV, ZC.av, slcV, lhs, bnd, Int.toNat_zero, Nat.sub_zero, Option.map_none, allocV, mksV, ZC.av, evO, evC, evB, evS, zipA_cons, putS_t, putS_f, mqV, maV, asgV, boxV, cellsS, storL, ownO, rd, brw, brws, bare, bares, plain, plains, killV, killVs, isB, isS, fadV, loadV, iadV, inRow, getC, List.getD_cons_zero, List.getD_cons_succ, List.all_cons, List.all_nil, List.length_cons, List.length_nil, List.drop_zero, List.drop_succ_cons, List.take_succ_cons, List.take_zero, Bool.and_true, Bool.and_false, Bool.false_and, Bool.true_and, Bool.and_self, Option.bind_some, Nat.reduceEqDiff, Nat.reduceBEq, Nat.reduceLT, Nat.reduceLeDiff, Nat.reduceAdd, Nat.reduceSub, Nat.add_zero, Nat.zero_add, Nat.zero_lt_succ, Nat.le_refl, reduceIte, Bool.false_eq_true, false_implies, implies_true, true_and, and_true, and_self, Bool.not_true, Bool.not_false, beq_self_eq_true, bne_self_eq_false, List.nil_append, dV, dcallV_W, callV_W, callW, callX, sK_ap, giveS, calleeV, ioAll, argL, lendPlain, lendAll, outL, frzB, frzBs, List.map_cons, List.map_nil, List.append_nil, lenV, keepS, List.length_map, Int.toNat_natCast, Int.natCast_nonneg, take_map_len, List.take_length, convV, bslV, pullS, buildV, b2sV, bytesA, frzRows, frzRow, frzL, storeV, ovw, setC, setOf, cellOf, ioOf, ioAll, isOwner, shapeOf, keepK, takeK, List.take_nil, List.drop_nil, List.cons_append, List.set_set, List.length_set, List.getElem?_cons_zero, List.getElem?_cons_succ, List.set_cons_zero, List.set_cons_succ, Option.map_some, List.isPrefixOf]
  refine ⟨by omega, by omega, ?_⟩
  refine awp_loop (fun i : Nat => i ≤ l.length) (fun i => stl [(0, .fsl 2 (l.map Change.c)), (3, .usl 98 2 ((l.take i).map Change.c ++ List.replicate (l.length - i) Change.z)), (4, .v (.int .i64 (i : Int))), (6, .v (.int .i64 (l.length : Int))), (7, .dead)]) (fun i => l.length - i) 0 (Nat.zero_le _) ?_ ?_
  · simp only [slcV, lhs, bnd, Int.toNat_zero, Nat.sub_zero, Option.map_none, allocV, mksV, ZC.av, evO, evC, evB, evS, zipA_cons, putS_t, putS_f, mqV, maV, asgV, boxV, cellsS, storL, ownO, rd, brw, brws, bare, bares, plain, plains, killV, killVs, isB, isS, fadV, loadV, iadV, inRow, getC, List.getD_cons_zero, List.getD_cons_succ, List.all_cons, List.all_nil, List.length_cons, List.length_nil, List.drop_zero, List.drop_succ_cons, List.take_succ_cons, List.take_zero, Bool.and_true, Bool.and_false, Bool.false_and, Bool.true_and, Bool.and_self, Option.bind_some, Nat.reduceEqDiff, Nat.reduceBEq, Nat.reduceLT, Nat.reduceLeDiff, Nat.reduceAdd, Nat.reduceSub, Nat.add_zero, Nat.zero_add, Nat.zero_lt_succ, Nat.le_refl, reduceIte, Bool.false_eq_true, false_implies, implies_true, true_and, and_true, and_self, Bool.not_true, Bool.not_false, beq_self_eq_true, bne_self_eq_false, List.nil_append, dV, dcallV_W, callV_W, callW, callX, sK_ap, giveS, calleeV, ioAll, argL, lendPlain, lendAll, outL, frzB, frzBs, List.map_cons, List.map_nil, List.append_nil, lenV, keepS, List.length_map, Int.toNat_natCast, Int.natCast_nonneg, take_map_len, List.take_length, convV, bslV, pullS, buildV, b2sV, bytesA, frzRows, frzRow, frzL, storeV, ovw, setC, setOf, cellOf, ioOf, ioAll, isOwner, shapeOf, keepK, takeK, List.take_nil, List.drop_nil, List.cons_append, List.set_set, List.length_set, List.getElem?_cons_zero, List.getElem?_cons_succ, List.set_cons_zero, List.set_cons_succ, Option.map_some, List.isPrefixOf]
    rfl
  · intro i hi
    simp only [slcV, lhs, bnd, Int.toNat_zero, Nat.sub_zero, Option.map_none, allocV, mksV, ZC.av, evO, evC, evB, evS, zipA_cons, putS_t, putS_f, mqV, maV, asgV, boxV, cellsS, storL, ownO, rd, brw, brws, bare, bares, plain, plains, killV, killVs, isB, isS, fadV, loadV, iadV, inRow, getC, List.getD_cons_zero, List.getD_cons_succ, List.all_cons, List.all_nil, List.length_cons, List.length_nil, List.drop_zero, List.drop_succ_cons, List.take_succ_cons, List.take_zero, Bool.and_true, Bool.and_false, Bool.false_and, Bool.true_and, Bool.and_self, Option.bind_some, Nat.reduceEqDiff, Nat.reduceBEq, Nat.reduceLT, Nat.reduceLeDiff, Nat.reduceAdd, Nat.reduceSub, Nat.add_zero, Nat.zero_add, Nat.zero_lt_succ, Nat.le_refl, reduceIte, Bool.false_eq_true, false_implies, implies_true, true_and, and_true, and_self, Bool.not_true, Bool.not_false, beq_self_eq_true, bne_self_eq_false, List.nil_append, dV, dcallV_W, callV_W, callW, callX, sK_ap, giveS, calleeV, ioAll, argL, lendPlain, lendAll, outL, frzB, frzBs, List.map_cons, List.map_nil, List.append_nil, lenV, keepS, List.length_map, Int.toNat_natCast, Int.natCast_nonneg, take_map_len, List.take_length, convV, bslV, pullS, buildV, b2sV, bytesA, frzRows, frzRow, frzL, storeV, ovw, setC, setOf, cellOf, ioOf, ioAll, isOwner, shapeOf, keepK, takeK, List.take_nil, List.drop_nil, List.cons_append, List.set_set, List.length_set, List.getElem?_cons_zero, List.getElem?_cons_succ, List.set_cons_zero, List.set_cons_succ, Option.map_some, List.isPrefixOf]
    refine cK_cut (fun h => ?_) (fun h => ?_)
    · have h1 : i < l.length := by simpa using h
      have h2 : (i : Int) < (l.length : Int) := by omega
      have h3 : ((l.take i).map Change.c ++ List.replicate (l.length - i) Change.z).length = l.length := by simp; omega
      simp only [ChangeE, nth_map h1, h2, slcV, lhs, bnd, Int.toNat_zero, Nat.sub_zero, Option.map_none, allocV, mksV, ZC.av, evO, evC, evB, evS, zipA_cons, putS_t, putS_f, mqV, maV, asgV, boxV, cellsS, storL, ownO, rd, brw, brws, bare, bares, plain, plains, killV, killVs, isB, isS, fadV, loadV, iadV, inRow, getC, List.getD_cons_zero, List.getD_cons_succ, List.all_cons, List.all_nil, List.length_cons, List.length_nil, List.drop_zero, List.drop_succ_cons, List.take_succ_cons, List.take_zero, Bool.and_true, Bool.and_false, Bool.false_and, Bool.true_and, Bool.and_self, Option.bind_some, Nat.reduceEqDiff, Nat.reduceBEq, Nat.reduceLT, Nat.reduceLeDiff, Nat.reduceAdd, Nat.reduceSub, Nat.add_zero, Nat.zero_add, Nat.zero_lt_succ, Nat.le_refl, reduceIte, Bool.false_eq_true, false_implies, implies_true, true_and, and_true, and_self, Bool.not_true, Bool.not_false, beq_self_eq_true, bne_self_eq_false, List.nil_append, dV, dcallV_W, callV_W, callW, callX, sK_ap, giveS, calleeV, ioAll, argL, lendPlain, lendAll, outL, frzB, frzBs, List.map_cons, List.map_nil, List.append_nil, lenV, keepS, List.length_map, Int.toNat_natCast, Int.natCast_nonneg, take_map_len, List.take_length, convV, bslV, pullS, buildV, b2sV, bytesA, frzRows, frzRow, frzL, storeV, ovw, setC, setOf, cellOf, ioOf, ioAll, isOwner, shapeOf, keepK, takeK, List.take_nil, List.drop_nil, List.cons_append, List.set_set, List.length_set, List.getElem?_cons_zero, List.getElem?_cons_succ, List.set_cons_zero, List.set_cons_succ, Option.map_some, List.isPrefixOf]
      refine callK_i (d76 l[i]) ?_
      simp only [ChangeE, h2, h3, slcV, lhs, bnd, Int.toNat_zero, Nat.sub_zero, Option.map_none, allocV, mksV, ZC.av, evO, evC, evB, evS, zipA_cons, putS_t, putS_f, mqV, maV, asgV, boxV, cellsS, storL, ownO, rd, brw, brws, bare, bares, plain, plains, killV, killVs, isB, isS, fadV, loadV, iadV, inRow, getC, List.getD_cons_zero, List.getD_cons_succ, List.all_cons, List.all_nil, List.length_cons, List.length_nil, List.drop_zero, List.drop_succ_cons, List.take_succ_cons, List.take_zero, Bool.and_true, Bool.and_false, Bool.false_and, Bool.true_and, Bool.and_self, Option.bind_some, Nat.reduceEqDiff, Nat.reduceBEq, Nat.reduceLT, Nat.reduceLeDiff, Nat.reduceAdd, Nat.reduceSub, Nat.add_zero, Nat.zero_add, Nat.zero_lt_succ, Nat.le_refl, reduceIte, Bool.false_eq_true, false_implies, implies_true, true_and, and_true, and_self, Bool.not_true, Bool.not_false, beq_self_eq_true, bne_self_eq_false, List.nil_append, dV, dcallV_W, callV_W, callW, callX, sK_ap, giveS, calleeV, ioAll, argL, lendPlain, lendAll, outL, frzB, frzBs, List.map_cons, List.map_nil, List.append_nil, lenV, keepS, List.length_map, Int.toNat_natCast, Int.natCast_nonneg, take_map_len, List.take_length, convV, bslV, pullS, buildV, b2sV, bytesA, frzRows, frzRow, frzL, storeV, ovw, setC, setOf, cellOf, ioOf, ioAll, isOwner, shapeOf, keepK, takeK, List.take_nil, List.drop_nil, List.cons_append, List.set_set, List.length_set, List.getElem?_cons_zero, List.getElem?_cons_succ, List.set_cons_zero, List.set_cons_succ, Option.map_some, List.isPrefixOf]
      refine ⟨h1, i + 1, by omega, by omega, ?_⟩
      have ez : l[i].c ++ List.drop 2 Change.z = l[i].c := List.append_nil _
      rw [fill_nth h1, w64 _ (by omega), ez, fill_set h1]
      rfl
    · have h1 : i = l.length := by have : ¬ (i : Int) < l.length := by simpa using h
                                   omega
      subst h1
      simp only [slcV, lhs, bnd, Int.toNat_zero, Nat.sub_zero, Option.map_none, allocV, mksV, ZC.av, evO, evC, evB, evS, zipA_cons, putS_t, putS_f, mqV, maV, asgV, boxV, cellsS, storL, ownO, rd, brw, brws, bare, bares, plain, plains, killV, killVs, isB, isS, fadV, loadV, iadV, inRow, getC, List.getD_cons_zero, List.getD_cons_succ, List.all_cons, List.all_nil, List.length_cons, List.length_nil, List.drop_zero, List.drop_succ_cons, List.take_succ_cons, List.take_zero, Bool.and_true, Bool.and_false, Bool.false_and, Bool.true_and, Bool.and_self, Option.bind_some, Nat.reduceEqDiff, Nat.reduceBEq, Nat.reduceLT, Nat.reduceLeDiff, Nat.reduceAdd, Nat.reduceSub, Nat.add_zero, Nat.zero_add, Nat.zero_lt_succ, Nat.le_refl, reduceIte, Bool.false_eq_true, false_implies, implies_true, true_and, and_true, and_self, Bool.not_true, Bool.not_false, beq_self_eq_true, bne_self_eq_false, List.nil_append, dV, dcallV_W, callV_W, callW, callX, sK_ap, giveS, calleeV, ioAll, argL, lendPlain, lendAll, outL, frzB, frzBs, List.map_cons, List.map_nil, List.append_nil, lenV, keepS, List.length_map, Int.toNat_natCast, Int.natCast_nonneg, take_map_len, List.take_length, convV, bslV, pullS, buildV, b2sV, bytesA, frzRows, frzRow, frzL, storeV, ovw, setC, setOf, cellOf, ioOf, ioAll, isOwner, shapeOf, keepK, takeK, List.take_nil, List.drop_nil, List.cons_append, List.set_set, List.length_set, List.getElem?_cons_zero, List.getElem?_cons_succ, List.set_cons_zero, List.set_cons_succ, Option.map_some, List.isPrefixOf]
      simp only [Nat.sub_self, List.replicate_zero, Change.nfz, slcV, lhs, bnd, Int.toNat_zero, Nat.sub_zero, Option.map_none, allocV, mksV, ZC.av, evO, evC, evB, evS, zipA_cons, putS_t, putS_f, mqV, maV, asgV, boxV, cellsS, storL, ownO, rd, brw, brws, bare, bares, plain, plains, killV, killVs, isB, isS, fadV, loadV, iadV, inRow, getC, List.getD_cons_zero, List.getD_cons_succ, List.all_cons, List.all_nil, List.length_cons, List.length_nil, List.drop_zero, List.drop_succ_cons, List.take_succ_cons, List.take_zero, Bool.and_true, Bool.and_false, Bool.false_and, Bool.true_and, Bool.and_self, Option.bind_some, Nat.reduceEqDiff, Nat.reduceBEq, Nat.reduceLT, Nat.reduceLeDiff, Nat.reduceAdd, Nat.reduceSub, Nat.add_zero, Nat.zero_add, Nat.zero_lt_succ, Nat.le_refl, reduceIte, Bool.false_eq_true, false_implies, implies_true, true_and, and_true, and_self, Bool.not_true, Bool.not_false, beq_self_eq_true, bne_self_eq_false, List.nil_append, dV, dcallV_W, callV_W, callW, callX, sK_ap, giveS, calleeV, ioAll, argL, lendPlain, lendAll, outL, frzB, frzBs, List.map_cons, List.map_nil, List.append_nil, lenV, keepS, List.length_map, Int.toNat_natCast, Int.natCast_nonneg, take_map_len, List.take_length, convV, bslV, pullS, buildV, b2sV, bytesA, frzRows, frzRow, frzL, storeV, ovw, setC, setOf, cellOf, ioOf, ioAll, isOwner, shapeOf, keepK, takeK, List.take_nil, List.drop_nil, List.cons_append, List.set_set, List.length_set, List.getElem?_cons_zero, List.getElem?_cons_succ, List.set_cons_zero, List.set_cons_succ, Option.map_some, List.isPrefixOf, retVC, cellV', evR, nfz, nfzs, nfzss, List.contains_nil, List.contains_cons, Bool.or_false, or_true]

end Go.AM
