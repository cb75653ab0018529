/- Contracts of functions of the given program, for the law FnExactDiffText: what they return and what they write, under the bounds that each theorem states. -/
import Derived.Test.YtleomgfaplldiaaT29
import Derived.Test.YtleomgfaplldiaaT60
import Derived.Lib.Join
import Derived.Test.YtleomgfaplldiaaT71
namespace Go.AM
set_option linter.unusedVariables false
set_option linter.unusedSimpArgs false

/-- The sign of a kind of change. -/
def sign (k : Int) : ByteArray := if k = 1 then ⟨#[43]⟩ else if k = 2 then ⟨#[45]⟩ else ⟨#[33]⟩
def chW (x : Change) : ByteArray := sign x.kind ++ x.name
def chS (x : Change) : Str := ⟨chW x⟩
def txStep (p : ByteArray × Bool) (x : Change) : ByteArray × Bool := ((if p.2 then p.1 ++ ⟨#[32]⟩ else p.1) ++ chW x, true)
def chText (l : List Change) : ByteArray := (l.foldl txStep (⟨#[]⟩, false)).1

theorem sign_size (k : Int) : (sign k).size = 1 := by
  unfold sign
  split
  · rfl
  · split <;> rfl
theorem chW_size (x : Change) : (chW x).size = 1 + x.name.size := by rw [chW, ByteArray.size_append, sign_size]

theorem tx_take {l : List Change} {i : Nat} (h : i < l.length) (p : ByteArray × Bool) : (l.take (i + 1)).foldl txStep p = txStep ((l.take i).foldl txStep p) l[i] := by
  rw [List.take_succ_eq_append_getElem h, List.foldl_append]; rfl
theorem tx_snd : ∀ (l : List Change) (p : ByteArray × Bool), (l.foldl txStep p).2 = (p.2 || !l.isEmpty)
  | [], p => by simp
  | x :: l, p => by rw [List.foldl_cons, tx_snd l]; simp [txStep]

def Change.small (s : Change) : Prop := s.ok ∧ (s.name.size : Int) ≤ 1048576 ∧ 1 ≤ s.kind ∧ s.kind ≤ 3

theorem cut4 {k : Int} (h1 : 1 ≤ k) (h2 : k ≤ 3) : (⟨#[63, 43, 45, 33]⟩ : ByteArray).extract k.toNat (k + 1).toNat = sign k := by
  have : k = 1 ∨ k = 2 ∨ k = 3 := by omega
  rcases this with rfl | rfl | rfl <;> rfl
theorem cut3 {k : Int} (h1 : 1 ≤ k) (h2 : k ≤ 3) : (⟨#[43, 45, 33]⟩ : ByteArray).extract (k - 1).toNat k.toNat = sign k := by
  have : k = 1 ∨ k = 2 ∨ k = 3 := by omega
  rcases this with rfl | rfl | rfl <;> rfl

/-- loop.example/g00837/spec.l12Text -/
def m82 : MC :=
  (.seq
   (.reg [⟨(some 2), none, .a (.asg (.c (.string ({ data := #[] }))))⟩])
   (.seq
    (.reg [⟨(some 3), none, .a (.asg (.c (.string ({ data := #[] }))))⟩])
    (.seq
     (.seq
      (.reg [⟨(some 6), none, .q (.mov (.t 0))⟩,
        ⟨(some 7), none, .q (.len false (.t 6))⟩,
        ⟨(some 8), none, .q (.mov (.c (.int .i64 0)))⟩])
      (.block 0
       (.loop [0, 3, 6, 7, 8]
        (.seq
         (.reg [⟨(some 9), none, .q (.bin false .lss (.t 8) (.t 7))⟩])
         (.seq
          (.cond (.t 9)
           .skip
           (.exit 0))
          (.join [0, 3, 6, 7, 8]
           (.block 1
            (.seq
             (.reg [⟨(some 10), none, .q (.mov (.t 8))⟩,
               ⟨(some 11), none, .q (.iad 2 (.t 6) (.t 8))⟩,
               ⟨(some 12), none, .q (.load true 2 (.t 11))⟩,
               ⟨(some 5), none, .a (.alloc 98 [.v (.string ({ data := #[] })), .v (.int .i64 0)])⟩,
               ⟨(some 4), none, .a (.asg (.t 10))⟩,
               ⟨none, none, .a (.store 2 (.t 5) (.t 12))⟩])
             (.join [0, 3, 5, 6, 7, 8]
              (.seq
               (.reg [⟨(some 13), none, .q (.mov (.t 4))⟩,
                 ⟨(some 14), none, .q (.bin false .gtr (.t 13) (.c (.int .i64 0)))⟩])
               (.cond (.t 14)
                (.reg [⟨(some 15), none, .q (.mov (.t 3))⟩,
                  ⟨(some 16), none, .q (.bin false .add (.t 15) (.c (.string ({ data := #[32] }))))⟩,
                  ⟨(some 3), none, .a (.asg (.t 16))⟩])
                .skip))
              (.dreg [⟨(some 17), none, .q (.mov (.t 3))⟩,
                ⟨(some 18), none, .q (.fad 1 (.t 5))⟩,
                ⟨(some 19), none, .q (.load false 1 (.t 18))⟩,
                ⟨(some 20), none, .q (.fad 1 (.t 5))⟩,
                ⟨(some 21), none, .q (.load false 1 (.t 20))⟩,
                ⟨(some 22), none, .q (.bin false .add (.t 21) (.c (.int .i64 1)))⟩,
                ⟨(some 23), none, .q (.slc true 1 (.c (.string ({ data := #[63, 43, 45, 33] }))) (some (.t 19)) (some (.t 22)))⟩,
                ⟨(some 24), none, .q (.fad 0 (.t 5))⟩,
                ⟨(some 25), none, .q (.load false 1 (.t 24))⟩,
                ⟨(some 26), none, .q (.bin false .add (.t 23) (.t 25))⟩,
                ⟨(some 27), none, .q (.bin false .add (.t 17) (.t 26))⟩,
                ⟨(some 3), none, .q (.mov (.t 27))⟩]))))
           (.reg [⟨(some 28), none, .q (.bin false .add (.t 8) (.c (.int .i64 1)))⟩,
             ⟨(some 8), none, .q (.mov (.t 28))⟩])))))))
     (.seq
      (.reg [⟨(some 29), none, .q (.mov (.t 3))⟩,
        ⟨(some 2), none, .a (.asg (.t 29))⟩])
      .ret))))


set_option maxRecDepth 100000 in
theorem d82 (l : List Change) (hl : (l.length : Int) ≤ 1048576) (hs : ∀ s ∈ l, s.small) : Does Go.Proofs.Try.prog 82 [.fsl 2 (l.map Change.c)] false (.v (.string (chText l))) [.dead] := by
  refine does_intro (mc := m82) (N := 30) (rs := [2]) (fx := []) 1 rfl (by decide +kernel) ?_
  simp only [m82, evM, List.contains_nil, List.contains_cons, Bool.or_false, Bool.false_or, Bool.true_or, Bool.or_true, List.zip_cons_cons, List.zip_nil_right, List.zip_nil_left, List.foldl_cons, List.foldl_nil, eqaV, leafOk, leaf1, eqRow, eqLeaf, Bool.false_xor, isnilV, appV, extV, slcV, lhs, bnd, Int.toNat_zero, Nat.sub_zero, Option.map_none, allocV, mksV, ZC.av, evO, evC, evB, evS, zipA_cons, putS_t, putS_f, mqV, maV, asgV, boxV, cellsS, storL, ownO, rd, brw, brws, bare, bares, plain, plains, killV, killVs, isB, isS, fadV, loadV, iadV, inRow, getC, List.getD_cons_zero, List.getD_cons_succ, List.all_cons, List.all_nil, List.length_cons, List.length_nil, List.drop_zero, List.drop_succ_cons, List.take_succ_cons, List.take_zero, Bool.and_true, Bool.and_false, Bool.false_and, Bool.true_and, Bool.and_self, Option.bind_some, Nat.reduceEqDiff, Nat.reduceBEq, Nat.reduceLT, Nat.reduceLeDiff, Nat.reduceAdd, Nat.reduceSub, Nat.add_zero, Nat.zero_add, Nat.zero_lt_succ, Nat.le_refl, reduceIte, Bool.false_eq_true, false_implies, implies_true, true_and, and_true, and_self, Bool.not_true, Bool.not_false, beq_self_eq_true, bne_self_eq_false, List.nil_append, dV, dcallV_W, callV_W, callW, callX, sK_ap, giveS, calleeV, ioAll, argL, lendPlain, lendAll, outL, frzB, frzBs, List.map_cons, List.map_nil, List.append_nil, lenV, keepS, List.length_map, Int.toNat_natCast, Int.natCast_nonneg, take_map_len, List.take_length, convV, bslV, pullS, buildV, b2sV, bytesA, frzRows, frzRow, frzL, storeV, ovw, setC, setOf, cellOf, ioOf, ioAll, isOwner, shapeOf, keepK, takeK, List.take_nil, List.drop_nil, List.cons_append, List.set_set, List.length_set, List.getElem?_cons_zero, List.getElem?_cons_succ, List.set_cons_zero, List.set_cons_succ, Option.map_some, List.isPrefixOf]
  refine awp_loop (fun p : Nat × ByteArray => p.1 ≤ l.length ∧ p.2 = ((l.take p.1).foldl txStep (⟨#[]⟩, false)).1 ∧ (p.2.size : Int) ≤ p.1 * 1048578) (fun p => stl [(0, .fsl 2 (l.map Change.c)), (3, .v (.string p.2)), (6, .fsl 2 (l.map Change.c)), (7, .v (.int .i64 (l.length : Int))), (8, .v (.int .i64 (p.1 : Int)))]) (fun p => l.length - p.1) (0, ⟨#[]⟩) ⟨by simp, rfl, by simp only; decide⟩ ?_ ?_
  · simp only [evM, List.contains_nil, List.contains_cons, Bool.or_false, Bool.false_or, Bool.true_or, Bool.or_true, List.zip_cons_cons, List.zip_nil_right, List.zip_nil_left, List.foldl_cons, List.foldl_nil, eqaV, leafOk, leaf1, eqRow, eqLeaf, Bool.false_xor, isnilV, appV, extV, slcV, lhs, bnd, Int.toNat_zero, Nat.sub_zero, Option.map_none, allocV, mksV, ZC.av, evO, evC, evB, evS, zipA_cons, putS_t, putS_f, mqV, maV, asgV, boxV, cellsS, storL, ownO, rd, brw, brws, bare, bares, plain, plains, killV, killVs, isB, isS, fadV, loadV, iadV, inRow, getC, List.getD_cons_zero, List.getD_cons_succ, List.all_cons, List.all_nil, List.length_cons, List.length_nil, List.drop_zero, List.drop_succ_cons, List.take_succ_cons, List.take_zero, Bool.and_true, Bool.and_false, Bool.false_and, Bool.true_and, Bool.and_self, Option.bind_some, Nat.reduceEqDiff, Nat.reduceBEq, Nat.reduceLT, Nat.reduceLeDiff, Nat.reduceAdd, Nat.reduceSub, Nat.add_zero, Nat.zero_add, Nat.zero_lt_succ, Nat.le_refl, reduceIte, Bool.false_eq_true, false_implies, implies_true, true_and, and_true, and_self, Bool.not_true, Bool.not_false, beq_self_eq_true, bne_self_eq_false, List.nil_append, dV, dcallV_W, callV_W, callW, callX, sK_ap, giveS, calleeV, ioAll, argL, lendPlain, lendAll, outL, frzB, frzBs, List.map_cons, List.map_nil, List.append_nil, lenV, keepS, List.length_map, Int.toNat_natCast, Int.natCast_nonneg, take_map_len, List.take_length, convV, bslV, pullS, buildV, b2sV, bytesA, frzRows, frzRow, frzL, storeV, ovw, setC, setOf, cellOf, ioOf, ioAll, isOwner, shapeOf, keepK, takeK, List.take_nil, List.drop_nil, List.cons_append, List.set_set, List.length_set, List.getElem?_cons_zero, List.getElem?_cons_succ, List.set_cons_zero, List.set_cons_succ, Option.map_some, List.isPrefixOf]
    rfl
  · rintro ⟨i, acc⟩ ⟨p0, p1, p2⟩
    simp only at p0 p1 p2
    simp only [evM, List.contains_nil, List.contains_cons, Bool.or_false, Bool.false_or, Bool.true_or, Bool.or_true, List.zip_cons_cons, List.zip_nil_right, List.zip_nil_left, List.foldl_cons, List.foldl_nil, eqaV, leafOk, leaf1, eqRow, eqLeaf, Bool.false_xor, isnilV, appV, extV, slcV, lhs, bnd, Int.toNat_zero, Nat.sub_zero, Option.map_none, allocV, mksV, ZC.av, evO, evC, evB, evS, zipA_cons, putS_t, putS_f, mqV, maV, asgV, boxV, cellsS, storL, ownO, rd, brw, brws, bare, bares, plain, plains, killV, killVs, isB, isS, fadV, loadV, iadV, inRow, getC, List.getD_cons_zero, List.getD_cons_succ, List.all_cons, List.all_nil, List.length_cons, List.length_nil, List.drop_zero, List.drop_succ_cons, List.take_succ_cons, List.take_zero, Bool.and_true, Bool.and_false, Bool.false_and, Bool.true_and, Bool.and_self, Option.bind_some, Nat.reduceEqDiff, Nat.reduceBEq, Nat.reduceLT, Nat.reduceLeDiff, Nat.reduceAdd, Nat.reduceSub, Nat.add_zero, Nat.zero_add, Nat.zero_lt_succ, Nat.le_refl, reduceIte, Bool.false_eq_true, false_implies, implies_true, true_and, and_true, and_self, Bool.not_true, Bool.not_false, beq_self_eq_true, bne_self_eq_false, List.nil_append, dV, dcallV_W, callV_W, callW, callX, sK_ap, giveS, calleeV, ioAll, argL, lendPlain, lendAll, outL, frzB, frzBs, List.map_cons, List.map_nil, List.append_nil, lenV, keepS, List.length_map, Int.toNat_natCast, Int.natCast_nonneg, take_map_len, List.take_length, convV, bslV, pullS, buildV, b2sV, bytesA, frzRows, frzRow, frzL, storeV, ovw, setC, setOf, cellOf, ioOf, ioAll, isOwner, shapeOf, keepK, takeK, List.take_nil, List.drop_nil, List.cons_append, List.set_set, List.length_set, List.getElem?_cons_zero, List.getElem?_cons_succ, List.set_cons_zero, List.set_cons_succ, Option.map_some, List.isPrefixOf]
    refine cK_cut (fun h => ?_) (fun h => ?_)
    · have h1 : i < l.length := by simpa using h
      have h2 : (i : Int) < (l.length : Int) := by omega
      obtain ⟨hok, g1, g2, g3⟩ := hs l[i] (List.getElem_mem h1)
      have hst := tx_take h1 (⟨#[]⟩, false)
      have hsnd := tx_snd (l.take i) (⟨#[]⟩, false)
      have hcw := chW_size l[i]
      generalize (l.take i).foldl txStep (⟨#[]⟩, false) = pr at p1 hst hsnd
      subst p1
      have hb : pr.2 = decide (0 < i) := by
        rw [hsnd]
        cases i with
        | zero => rfl
        | succ i =>
          have h3 : (l.take (i + 1)).isEmpty = false := by
            cases l with
            | nil => simp at h1
            | cons x r => rfl
          simp [h3]
      refine awp_join (fun _ : Unit => True) (fun _ => stl [(0, .fsl 2 (l.map Change.c)), (3, .v (.string (txStep pr l[i]).1)), (6, .fsl 2 (l.map Change.c)), (7, .v (.int .i64 (l.length : Int))), (8, .v (.int .i64 (i : Int)))]) ?_ ?_
      · simp only [ChangeE, nth_map h1, h2, evM, List.contains_nil, List.contains_cons, Bool.or_false, Bool.false_or, Bool.true_or, Bool.or_true, List.zip_cons_cons, List.zip_nil_right, List.zip_nil_left, List.foldl_cons, List.foldl_nil, eqaV, leafOk, leaf1, eqRow, eqLeaf, Bool.false_xor, isnilV, appV, extV, slcV, lhs, bnd, Int.toNat_zero, Nat.sub_zero, Option.map_none, allocV, mksV, ZC.av, evO, evC, evB, evS, zipA_cons, putS_t, putS_f, mqV, maV, asgV, boxV, cellsS, storL, ownO, rd, brw, brws, bare, bares, plain, plains, killV, killVs, isB, isS, fadV, loadV, iadV, inRow, getC, List.getD_cons_zero, List.getD_cons_succ, List.all_cons, List.all_nil, List.length_cons, List.length_nil, List.drop_zero, List.drop_succ_cons, List.take_succ_cons, List.take_zero, Bool.and_true, Bool.and_false, Bool.false_and, Bool.true_and, Bool.and_self, Option.bind_some, Nat.reduceEqDiff, Nat.reduceBEq, Nat.reduceLT, Nat.reduceLeDiff, Nat.reduceAdd, Nat.reduceSub, Nat.add_zero, Nat.zero_add, Nat.zero_lt_succ, Nat.le_refl, reduceIte, Bool.false_eq_true, false_implies, implies_true, true_and, and_true, and_self, Bool.not_true, Bool.not_false, beq_self_eq_true, bne_self_eq_false, List.nil_append, dV, dcallV_W, callV_W, callW, callX, sK_ap, giveS, calleeV, ioAll, argL, lendPlain, lendAll, outL, frzB, frzBs, List.map_cons, List.map_nil, List.append_nil, lenV, keepS, List.length_map, Int.toNat_natCast, Int.natCast_nonneg, take_map_len, List.take_length, convV, bslV, pullS, buildV, b2sV, bytesA, frzRows, frzRow, frzL, storeV, ovw, setC, setOf, cellOf, ioOf, ioAll, isOwner, shapeOf, keepK, takeK, List.take_nil, List.drop_nil, List.cons_append, List.set_set, List.length_set, List.getElem?_cons_zero, List.getElem?_cons_succ, List.set_cons_zero, List.set_cons_succ, Option.map_some, List.isPrefixOf]
        refine awp_join (fun _ : Unit => True) (fun _ => stl [(0, .fsl 2 (l.map Change.c)), (3, .v (.string (if pr.2 then pr.1 ++ ⟨#[32]⟩ else pr.1))), (5, .box 98 l[i].c), (6, .fsl 2 (l.map Change.c)), (7, .v (.int .i64 (l.length : Int))), (8, .v (.int .i64 (i : Int)))]) ?_ ?_
        · simp only [Change.c, evM, List.contains_nil, List.contains_cons, Bool.or_false, Bool.false_or, Bool.true_or, Bool.or_true, List.zip_cons_cons, List.zip_nil_right, List.zip_nil_left, List.foldl_cons, List.foldl_nil, eqaV, leafOk, leaf1, eqRow, eqLeaf, Bool.false_xor, isnilV, appV, extV, slcV, lhs, bnd, Int.toNat_zero, Nat.sub_zero, Option.map_none, allocV, mksV, ZC.av, evO, evC, evB, evS, zipA_cons, putS_t, putS_f, mqV, maV, asgV, boxV, cellsS, storL, ownO, rd, brw, brws, bare, bares, plain, plains, killV, killVs, isB, isS, fadV, loadV, iadV, inRow, getC, List.getD_cons_zero, List.getD_cons_succ, List.all_cons, List.all_nil, List.length_cons, List.length_nil, List.drop_zero, List.drop_succ_cons, List.take_succ_cons, List.take_zero, Bool.and_true, Bool.and_false, Bool.false_and, Bool.true_and, Bool.and_self, Option.bind_some, Nat.reduceEqDiff, Nat.reduceBEq, Nat.reduceLT, Nat.reduceLeDiff, Nat.reduceAdd, Nat.reduceSub, Nat.add_zero, Nat.zero_add, Nat.zero_lt_succ, Nat.le_refl, reduceIte, Bool.false_eq_true, false_implies, implies_true, true_and, and_true, and_self, Bool.not_true, Bool.not_false, beq_self_eq_true, bne_self_eq_false, List.nil_append, dV, dcallV_W, callV_W, callW, callX, sK_ap, giveS, calleeV, ioAll, argL, lendPlain, lendAll, outL, frzB, frzBs, List.map_cons, List.map_nil, List.append_nil, lenV, keepS, List.length_map, Int.toNat_natCast, Int.natCast_nonneg, take_map_len, List.take_length, convV, bslV, pullS, buildV, b2sV, bytesA, frzRows, frzRow, frzL, storeV, ovw, setC, setOf, cellOf, ioOf, ioAll, isOwner, shapeOf, keepK, takeK, List.take_nil, List.drop_nil, List.cons_append, List.set_set, List.length_set, List.getElem?_cons_zero, List.getElem?_cons_succ, List.set_cons_zero, List.set_cons_succ, Option.map_some, List.isPrefixOf]
          refine cK_cut (fun h3 => ?_) (fun h3 => ?_)
          · have hb2 : pr.2 = true := by rw [hb]; simpa using h3
            simp only [evM, List.contains_nil, List.contains_cons, Bool.or_false, Bool.false_or, Bool.true_or, Bool.or_true, List.zip_cons_cons, List.zip_nil_right, List.zip_nil_left, List.foldl_cons, List.foldl_nil, eqaV, leafOk, leaf1, eqRow, eqLeaf, Bool.false_xor, isnilV, appV, extV, slcV, lhs, bnd, Int.toNat_zero, Nat.sub_zero, Option.map_none, allocV, mksV, ZC.av, evO, evC, evB, evS, zipA_cons, putS_t, putS_f, mqV, maV, asgV, boxV, cellsS, storL, ownO, rd, brw, brws, bare, bares, plain, plains, killV, killVs, isB, isS, fadV, loadV, iadV, inRow, getC, List.getD_cons_zero, List.getD_cons_succ, List.all_cons, List.all_nil, List.length_cons, List.length_nil, List.drop_zero, List.drop_succ_cons, List.take_succ_cons, List.take_zero, Bool.and_true, Bool.and_false, Bool.false_and, Bool.true_and, Bool.and_self, Option.bind_some, Nat.reduceEqDiff, Nat.reduceBEq, Nat.reduceLT, Nat.reduceLeDiff, Nat.reduceAdd, Nat.reduceSub, Nat.add_zero, Nat.zero_add, Nat.zero_lt_succ, Nat.le_refl, reduceIte, Bool.false_eq_true, false_implies, implies_true, true_and, and_true, and_self, Bool.not_true, Bool.not_false, beq_self_eq_true, bne_self_eq_false, List.nil_append, dV, dcallV_W, callV_W, callW, callX, sK_ap, giveS, calleeV, ioAll, argL, lendPlain, lendAll, outL, frzB, frzBs, List.map_cons, List.map_nil, List.append_nil, lenV, keepS, List.length_map, Int.toNat_natCast, Int.natCast_nonneg, take_map_len, List.take_length, convV, bslV, pullS, buildV, b2sV, bytesA, frzRows, frzRow, frzL, storeV, ovw, setC, setOf, cellOf, ioOf, ioAll, isOwner, shapeOf, keepK, takeK, List.take_nil, List.drop_nil, List.cons_append, List.set_set, List.length_set, List.getElem?_cons_zero, List.getElem?_cons_succ, List.set_cons_zero, List.set_cons_succ, Option.map_some, List.isPrefixOf]
            have e32 : ((⟨#[32]⟩ : ByteArray).size : Nat) = 1 := rfl
            refine ⟨by rw [e32]; omega, (), ?_⟩
            rw [if_pos hb2]
            try rfl
          · have hb2 : pr.2 = false := by rw [hb]; simpa using h3
            simp only [evM, List.contains_nil, List.contains_cons, Bool.or_false, Bool.false_or, Bool.true_or, Bool.or_true, List.zip_cons_cons, List.zip_nil_right, List.zip_nil_left, List.foldl_cons, List.foldl_nil, eqaV, leafOk, leaf1, eqRow, eqLeaf, Bool.false_xor, isnilV, appV, extV, slcV, lhs, bnd, Int.toNat_zero, Nat.sub_zero, Option.map_none, allocV, mksV, ZC.av, evO, evC, evB, evS, zipA_cons, putS_t, putS_f, mqV, maV, asgV, boxV, cellsS, storL, ownO, rd, brw, brws, bare, bares, plain, plains, killV, killVs, isB, isS, fadV, loadV, iadV, inRow, getC, List.getD_cons_zero, List.getD_cons_succ, List.all_cons, List.all_nil, List.length_cons, List.length_nil, List.drop_zero, List.drop_succ_cons, List.take_succ_cons, List.take_zero, Bool.and_true, Bool.and_false, Bool.false_and, Bool.true_and, Bool.and_self, Option.bind_some, Nat.reduceEqDiff, Nat.reduceBEq, Nat.reduceLT, Nat.reduceLeDiff, Nat.reduceAdd, Nat.reduceSub, Nat.add_zero, Nat.zero_add, Nat.zero_lt_succ, Nat.le_refl, reduceIte, Bool.false_eq_true, false_implies, implies_true, true_and, and_true, and_self, Bool.not_true, Bool.not_false, beq_self_eq_true, bne_self_eq_false, List.nil_append, dV, dcallV_W, callV_W, callW, callX, sK_ap, giveS, calleeV, ioAll, argL, lendPlain, lendAll, outL, frzB, frzBs, List.map_cons, List.map_nil, List.append_nil, lenV, keepS, List.length_map, Int.toNat_natCast, Int.natCast_nonneg, take_map_len, List.take_length, convV, bslV, pullS, buildV, b2sV, bytesA, frzRows, frzRow, frzL, storeV, ovw, setC, setOf, cellOf, ioOf, ioAll, isOwner, shapeOf, keepK, takeK, List.take_nil, List.drop_nil, List.cons_append, List.set_set, List.length_set, List.getElem?_cons_zero, List.getElem?_cons_succ, List.set_cons_zero, List.set_cons_succ, Option.map_some, List.isPrefixOf]
            refine ⟨(), ?_⟩
            rw [hb2]
            try rfl
        · rintro _ _
          have w := w64 (l[i].kind + 1) (by omega)
          have hz1 : (if pr.2 = true then pr.1 ++ (⟨#[32]⟩ : ByteArray) else pr.1).size ≤ pr.1.size + 1 := by
            have e32 : ((⟨#[32]⟩ : ByteArray).size : Nat) = 1 := rfl
            split
            · rw [ByteArray.size_append, e32]; omega
            · omega
          have hz2 : (sign l[i].kind).size = 1 := sign_size _
          simp only [Change.c, w, cut4 g2 g3, evM, List.contains_nil, List.contains_cons, Bool.or_false, Bool.false_or, Bool.true_or, Bool.or_true, List.zip_cons_cons, List.zip_nil_right, List.zip_nil_left, List.foldl_cons, List.foldl_nil, eqaV, leafOk, leaf1, eqRow, eqLeaf, Bool.false_xor, isnilV, appV, extV, slcV, lhs, bnd, Int.toNat_zero, Nat.sub_zero, Option.map_none, allocV, mksV, ZC.av, evO, evC, evB, evS, zipA_cons, putS_t, putS_f, mqV, maV, asgV, boxV, cellsS, storL, ownO, rd, brw, brws, bare, bares, plain, plains, killV, killVs, isB, isS, fadV, loadV, iadV, inRow, getC, List.getD_cons_zero, List.getD_cons_succ, List.all_cons, List.all_nil, List.length_cons, List.length_nil, List.drop_zero, List.drop_succ_cons, List.take_succ_cons, List.take_zero, Bool.and_true, Bool.and_false, Bool.false_and, Bool.true_and, Bool.and_self, Option.bind_some, Nat.reduceEqDiff, Nat.reduceBEq, Nat.reduceLT, Nat.reduceLeDiff, Nat.reduceAdd, Nat.reduceSub, Nat.add_zero, Nat.zero_add, Nat.zero_lt_succ, Nat.le_refl, reduceIte, Bool.false_eq_true, false_implies, implies_true, true_and, and_true, and_self, Bool.not_true, Bool.not_false, beq_self_eq_true, bne_self_eq_false, List.nil_append, dV, dcallV_W, callV_W, callW, callX, sK_ap, giveS, calleeV, ioAll, argL, lendPlain, lendAll, outL, frzB, frzBs, List.map_cons, List.map_nil, List.append_nil, lenV, keepS, List.length_map, Int.toNat_natCast, Int.natCast_nonneg, take_map_len, List.take_length, convV, bslV, pullS, buildV, b2sV, bytesA, frzRows, frzRow, frzL, storeV, ovw, setC, setOf, cellOf, ioOf, ioAll, isOwner, shapeOf, keepK, takeK, List.take_nil, List.drop_nil, List.cons_append, List.set_set, List.length_set, List.getElem?_cons_zero, List.getElem?_cons_succ, List.set_cons_zero, List.set_cons_succ, Option.map_some, List.isPrefixOf]
          have e4 : ((⟨#[63, 43, 45, 33]⟩ : ByteArray).size : Nat) = 4 := rfl
          refine ⟨by omega, by omega, by rw [e4]; omega, by omega, by rw [ByteArray.size_append]; omega, (), rfl⟩
      · rintro _ _
        simp only [evM, List.contains_nil, List.contains_cons, Bool.or_false, Bool.false_or, Bool.true_or, Bool.or_true, List.zip_cons_cons, List.zip_nil_right, List.zip_nil_left, List.foldl_cons, List.foldl_nil, eqaV, leafOk, leaf1, eqRow, eqLeaf, Bool.false_xor, isnilV, appV, extV, slcV, lhs, bnd, Int.toNat_zero, Nat.sub_zero, Option.map_none, allocV, mksV, ZC.av, evO, evC, evB, evS, zipA_cons, putS_t, putS_f, mqV, maV, asgV, boxV, cellsS, storL, ownO, rd, brw, brws, bare, bares, plain, plains, killV, killVs, isB, isS, fadV, loadV, iadV, inRow, getC, List.getD_cons_zero, List.getD_cons_succ, List.all_cons, List.all_nil, List.length_cons, List.length_nil, List.drop_zero, List.drop_succ_cons, List.take_succ_cons, List.take_zero, Bool.and_true, Bool.and_false, Bool.false_and, Bool.true_and, Bool.and_self, Option.bind_some, Nat.reduceEqDiff, Nat.reduceBEq, Nat.reduceLT, Nat.reduceLeDiff, Nat.reduceAdd, Nat.reduceSub, Nat.add_zero, Nat.zero_add, Nat.zero_lt_succ, Nat.le_refl, reduceIte, Bool.false_eq_true, false_implies, implies_true, true_and, and_true, and_self, Bool.not_true, Bool.not_false, beq_self_eq_true, bne_self_eq_false, List.nil_append, dV, dcallV_W, callV_W, callW, callX, sK_ap, giveS, calleeV, ioAll, argL, lendPlain, lendAll, outL, frzB, frzBs, List.map_cons, List.map_nil, List.append_nil, lenV, keepS, List.length_map, Int.toNat_natCast, Int.natCast_nonneg, take_map_len, List.take_length, convV, bslV, pullS, buildV, b2sV, bytesA, frzRows, frzRow, frzL, storeV, ovw, setC, setOf, cellOf, ioOf, ioAll, isOwner, shapeOf, keepK, takeK, List.take_nil, List.drop_nil, List.cons_append, List.set_set, List.length_set, List.getElem?_cons_zero, List.getElem?_cons_succ, List.set_cons_zero, List.set_cons_succ, Option.map_some, List.isPrefixOf]
        rw [w64 _ (by omega)]
        refine ⟨(i + 1, (txStep pr l[i]).1), ⟨by simp only; omega, ?_, ?_⟩, by simp only; omega, rfl⟩
        · simp only; rw [hst]
        · have e32 : ((⟨#[32]⟩ : ByteArray).size : Nat) = 1 := rfl
          simp only [txStep, ByteArray.size_append, hcw]
          have : ((if pr.2 = true then pr.1 ++ (⟨#[32]⟩ : ByteArray) else pr.1).size : Int) ≤ pr.1.size + 1 := by
            split
            · rw [ByteArray.size_append, e32]; omega
            · omega
          omega
    · have h1 : i = l.length := by have : ¬ (i : Int) < l.length := by simpa using h
                                   omega
      subst h1
      rw [List.take_length] at p1
      have e : chText l = acc := p1.symm
      simp only [evM, List.contains_nil, List.contains_cons, Bool.or_false, Bool.false_or, Bool.true_or, Bool.or_true, List.zip_cons_cons, List.zip_nil_right, List.zip_nil_left, List.foldl_cons, List.foldl_nil, eqaV, leafOk, leaf1, eqRow, eqLeaf, Bool.false_xor, isnilV, appV, extV, slcV, lhs, bnd, Int.toNat_zero, Nat.sub_zero, Option.map_none, allocV, mksV, ZC.av, evO, evC, evB, evS, zipA_cons, putS_t, putS_f, mqV, maV, asgV, boxV, cellsS, storL, ownO, rd, brw, brws, bare, bares, plain, plains, killV, killVs, isB, isS, fadV, loadV, iadV, inRow, getC, List.getD_cons_zero, List.getD_cons_succ, List.all_cons, List.all_nil, List.length_cons, List.length_nil, List.drop_zero, List.drop_succ_cons, List.take_succ_cons, List.take_zero, Bool.and_true, Bool.and_false, Bool.false_and, Bool.true_and, Bool.and_self, Option.bind_some, Nat.reduceEqDiff, Nat.reduceBEq, Nat.reduceLT, Nat.reduceLeDiff, Nat.reduceAdd, Nat.reduceSub, Nat.add_zero, Nat.zero_add, Nat.zero_lt_succ, Nat.le_refl, reduceIte, Bool.false_eq_true, false_implies, implies_true, true_and, and_true, and_self, Bool.not_true, Bool.not_false, beq_self_eq_true, bne_self_eq_false, List.nil_append, dV, dcallV_W, callV_W, callW, callX, sK_ap, giveS, calleeV, ioAll, argL, lendPlain, lendAll, outL, frzB, frzBs, List.map_cons, List.map_nil, List.append_nil, lenV, keepS, List.length_map, Int.toNat_natCast, Int.natCast_nonneg, take_map_len, List.take_length, convV, bslV, pullS, buildV, b2sV, bytesA, frzRows, frzRow, frzL, storeV, ovw, setC, setOf, cellOf, ioOf, ioAll, isOwner, shapeOf, keepK, takeK, List.take_nil, List.drop_nil, List.cons_append, List.set_set, List.length_set, List.getElem?_cons_zero, List.getElem?_cons_succ, List.set_cons_zero, List.set_cons_succ, Option.map_some, List.isPrefixOf]
      simp only [e, evM, List.contains_nil, List.contains_cons, Bool.or_false, Bool.false_or, Bool.true_or, Bool.or_true, List.zip_cons_cons, List.zip_nil_right, List.zip_nil_left, List.foldl_cons, List.foldl_nil, eqaV, leafOk, leaf1, eqRow, eqLeaf, Bool.false_xor, isnilV, appV, extV, slcV, lhs, bnd, Int.toNat_zero, Nat.sub_zero, Option.map_none, allocV, mksV, ZC.av, evO, evC, evB, evS, zipA_cons, putS_t, putS_f, mqV, maV, asgV, boxV, cellsS, storL, ownO, rd, brw, brws, bare, bares, plain, plains, killV, killVs, isB, isS, fadV, loadV, iadV, inRow, getC, List.getD_cons_zero, List.getD_cons_succ, List.all_cons, List.all_nil, List.length_cons, List.length_nil, List.drop_zero, List.drop_succ_cons, List.take_succ_cons, List.take_zero, Bool.and_true, Bool.and_false, Bool.false_and, Bool.true_and, Bool.and_self, Option.bind_some, Nat.reduceEqDiff, Nat.reduceBEq, Nat.reduceLT, Nat.reduceLeDiff, Nat.reduceAdd, Nat.reduceSub, Nat.add_zero, Nat.zero_add, Nat.zero_lt_succ, Nat.le_refl, reduceIte, Bool.false_eq_true, false_implies, implies_true, true_and, and_true, and_self, Bool.not_true, Bool.not_false, beq_self_eq_true, bne_self_eq_false, List.nil_append, dV, dcallV_W, callV_W, callW, callX, sK_ap, giveS, calleeV, ioAll, argL, lendPlain, lendAll, outL, frzB, frzBs, List.map_cons, List.map_nil, List.append_nil, lenV, keepS, List.length_map, Int.toNat_natCast, Int.natCast_nonneg, take_map_len, List.take_length, convV, bslV, pullS, buildV, b2sV, bytesA, frzRows, frzRow, frzL, storeV, ovw, setC, setOf, cellOf, ioOf, ioAll, isOwner, shapeOf, keepK, takeK, List.take_nil, List.drop_nil, List.cons_append, List.set_set, List.length_set, List.getElem?_cons_zero, List.getElem?_cons_succ, List.set_cons_zero, List.set_cons_succ, Option.map_some, List.isPrefixOf, retVC, cellV', evR, nfz, nfzs, nfzss, List.contains_nil, List.contains_cons, Bool.or_false, or_true]

theorem tx_tail : ∀ (l : List Change) (acc : ByteArray), (l.foldl txStep (acc, true)).1.data.toList = acc.data.toList ++ Lib.joinTail [32] (l.map fun x => (chW x).data.toList)
  | [], acc => by simp [Lib.joinTail]
  | x :: r, acc => by
    have e : txStep (acc, true) x = (acc ++ ⟨#[32]⟩ ++ chW x, true) := rfl
    rw [List.foldl_cons, e, tx_tail r]
    simp [Lib.joinTail, ByteArray.data_append]

theorem chText_join (l : List Change) : (chText l).data.toList = Lib.join (l.map fun x => (chW x).data.toList) [32] := by
  cases l with
  | nil => rfl
  | cons x r =>
    have e : txStep (⟨#[]⟩, false) x = (⟨#[]⟩ ++ chW x, true) := rfl
    rw [chText, List.foldl_cons, e, tx_tail, List.map_cons, Lib.join_cons]
    simp [ByteArray.data_append]

theorem tx_bound : ∀ (l : List Change) (p : ByteArray × Bool), (∀ s ∈ l, s.small) → ((l.foldl txStep p).1.size : Int) ≤ p.1.size + l.length * 1048578
  | [], p, h => by simp
  | x :: r, p, h => by
    have h1 := tx_bound r (txStep p x) (fun s hs => h s (by simp [hs]))
    obtain ⟨_, g1, _⟩ := h x (by simp)
    have h2 := chW_size x
    have e32 : ((⟨#[32]⟩ : ByteArray).size : Nat) = 1 := rfl
    have h3 : ((if p.2 = true then p.1 ++ (⟨#[32]⟩ : ByteArray) else p.1).size : Int) ≤ p.1.size + 1 := by
      split
      · rw [ByteArray.size_append, e32]; omega
      · omega
    rw [List.foldl_cons]
    simp only [txStep, ByteArray.size_append] at h1 ⊢
    simp only [List.length_cons]
    omega

/-- loop.example/g00837/impl.diffText -/
def m83 : MC :=
  (.seq
   (.reg [⟨(some 2), none, .a (.asg (.c (.string ({ data := #[] }))))⟩])
   (.seq
    (.reg [⟨(some 6), none, .a (.bsl 9 1 [])⟩,
      ⟨(some 3), none, .a (.asg (.t 6))⟩])
    (.seq
     (.seq
      (.reg [⟨(some 7), none, .q (.mov (.t 0))⟩,
        ⟨(some 8), none, .q (.len false (.t 7))⟩,
        ⟨(some 9), none, .q (.mov (.c (.int .i64 0)))⟩])
      (.block 0
       (.loop [0, 3, 6, 7, 8, 9, 24]
        (.seq
         (.reg [⟨(some 10), none, .q (.bin false .lss (.t 9) (.t 8))⟩])
         (.seq
          (.cond (.t 10)
           .skip
           (.exit 0))
          (.seq
           (.block 1
            (.seq
             (.reg [⟨(some 11), none, .q (.iad 2 (.t 7) (.t 9))⟩,
               ⟨(some 12), none, .q (.load true 2 (.t 11))⟩,
               ⟨(some 5), none, .a (.alloc 98 [.v (.string ({ data := #[] })), .v (.int .i64 0)])⟩,
               ⟨none, none, .a (.store 2 (.t 5) (.t 12))⟩])
             (.mix [5] [0, 3, 6, 7, 8, 9, 24] [] [] [1, 2, 4, 5, 7, 8] [0, 3, 6, 9, 10, 11, 12]
               [⟨(some 14), none, .q (.fad 1 (.t 5))⟩,
                ⟨(some 15), none, .q (.load false 1 (.t 14))⟩,
                ⟨(some 17), none, .q (.fad 1 (.t 5))⟩,
                ⟨(some 18), none, .q (.load false 1 (.t 17))⟩,
                ⟨(some 20), none, .q (.fad 0 (.t 5))⟩,
                ⟨(some 21), none, .q (.load false 1 (.t 20))⟩]
               [⟨(some 13), none, .q (.mov (.t 3))⟩,
                ⟨(some 16), none, .q (.bin false .sub (.t 15) (.c (.int .i64 1)))⟩,
                ⟨(some 19), none, .q (.slc true 1 (.c (.string ({ data := #[43, 45, 33] }))) (some (.t 16)) (some (.t 18)))⟩,
                ⟨(some 22), none, .q (.bin false .add (.t 19) (.t 21))⟩,
                ⟨(some 23), none, .a (.bsl 9 1 [.t 22])⟩,
                ⟨(some 24), none, .a (.app true 9 1 16 (.t 13) (.t 23))⟩,
                ⟨(some 3), none, .a (.asg (.t 24))⟩])))
           (.reg [⟨(some 25), none, .q (.bin false .add (.t 9) (.c (.int .i64 1)))⟩,
             ⟨(some 9), none, .q (.mov (.t 25))⟩])))))))
     (.seq
      (.reg [⟨(some 26), none, .q (.mov (.t 3))⟩,
        ⟨(some 27), none, .a (.call (.fn 117) false [.lend (.t 26), .lend (.c (.string ({ data := #[32] })))])⟩,
        ⟨(some 2), none, .a (.asg (.t 27))⟩])
      .ret))))


set_option maxRecDepth 100000 in
theorem d83 (l : List Change) (hl : (l.length : Int) ≤ 1048576) (hs : ∀ s ∈ l, s.small) : Does Go.Proofs.Try.prog 83 [.fsl 2 (l.map Change.c)] false (.v (.string (chText l))) [.dead] := by
  refine does_intro (mc := m83) (N := 28) (rs := [2]) (fx := []) 1 rfl (by decide +kernel) ?_
  simp only [m83, evM, List.contains_nil, List.contains_cons, Bool.or_false, Bool.false_or, Bool.true_or, Bool.or_true, List.zip_cons_cons, List.zip_nil_right, List.zip_nil_left, List.foldl_cons, List.foldl_nil, eqaV, leafOk, leaf1, eqRow, eqLeaf, Bool.false_xor, isnilV, appV, extV, slcV, lhs, bnd, Int.toNat_zero, Nat.sub_zero, Option.map_none, allocV, mksV, ZC.av, evO, evC, evB, evS, zipA_cons, putS_t, putS_f, mqV, maV, asgV, boxV, cellsS, storL, ownO, rd, brw, brws, bare, bares, plain, plains, killV, killVs, isB, isS, fadV, loadV, iadV, inRow, getC, List.getD_cons_zero, List.getD_cons_succ, List.all_cons, List.all_nil, List.length_cons, List.length_nil, List.drop_zero, List.drop_succ_cons, List.take_succ_cons, List.take_zero, Bool.and_true, Bool.and_false, Bool.false_and, Bool.true_and, Bool.and_self, Option.bind_some, Nat.reduceEqDiff, Nat.reduceBEq, Nat.reduceLT, Nat.reduceLeDiff, Nat.reduceAdd, Nat.reduceSub, Nat.add_zero, Nat.zero_add, Nat.zero_lt_succ, Nat.le_refl, reduceIte, Bool.false_eq_true, false_implies, implies_true, true_and, and_true, and_self, Bool.not_true, Bool.not_false, beq_self_eq_true, bne_self_eq_false, List.nil_append, dV, dcallV_W, callV_W, callW, callX, sK_ap, giveS, calleeV, ioAll, argL, lendPlain, lendAll, outL, frzB, frzBs, List.map_cons, List.map_nil, List.append_nil, lenV, keepS, List.length_map, Int.toNat_natCast, Int.natCast_nonneg, take_map_len, List.take_length, convV, bslV, pullS, buildV, b2sV, bytesA, frzRows, frzRow, frzL, storeV, ovw, setC, setOf, cellOf, ioOf, ioAll, isOwner, shapeOf, keepK, takeK, List.take_nil, List.drop_nil, List.cons_append, List.set_set, List.length_set, List.getElem?_cons_zero, List.getElem?_cons_succ, List.set_cons_zero, List.set_cons_succ, Option.map_some, List.isPrefixOf]
  refine awp_loop (fun i : Nat => i ≤ l.length) (fun i => stl [(0, .fsl 2 (l.map Change.c)), (3, .usl 9 1 (((l.take i).map chS).map Str.c)), (6, .dead), (7, .fsl 2 (l.map Change.c)), (8, .v (.int .i64 (l.length : Int))), (9, .v (.int .i64 (i : Int))), (24, .dead)]) (fun i => l.length - i) 0 (Nat.zero_le _) ?_ ?_
  · simp only [evM, List.contains_nil, List.contains_cons, Bool.or_false, Bool.false_or, Bool.true_or, Bool.or_true, List.zip_cons_cons, List.zip_nil_right, List.zip_nil_left, List.foldl_cons, List.foldl_nil, eqaV, leafOk, leaf1, eqRow, eqLeaf, Bool.false_xor, isnilV, appV, extV, slcV, lhs, bnd, Int.toNat_zero, Nat.sub_zero, Option.map_none, allocV, mksV, ZC.av, evO, evC, evB, evS, zipA_cons, putS_t, putS_f, mqV, maV, asgV, boxV, cellsS, storL, ownO, rd, brw, brws, bare, bares, plain, plains, killV, killVs, isB, isS, fadV, loadV, iadV, inRow, getC, List.getD_cons_zero, List.getD_cons_succ, List.all_cons, List.all_nil, List.length_cons, List.length_nil, List.drop_zero, List.drop_succ_cons, List.take_succ_cons, List.take_zero, Bool.and_true, Bool.and_false, Bool.false_and, Bool.true_and, Bool.and_self, Option.bind_some, Nat.reduceEqDiff, Nat.reduceBEq, Nat.reduceLT, Nat.reduceLeDiff, Nat.reduceAdd, Nat.reduceSub, Nat.add_zero, Nat.zero_add, Nat.zero_lt_succ, Nat.le_refl, reduceIte, Bool.false_eq_true, false_implies, implies_true, true_and, and_true, and_self, Bool.not_true, Bool.not_false, beq_self_eq_true, bne_self_eq_false, List.nil_append, dV, dcallV_W, callV_W, callW, callX, sK_ap, giveS, calleeV, ioAll, argL, lendPlain, lendAll, outL, frzB, frzBs, List.map_cons, List.map_nil, List.append_nil, lenV, keepS, List.length_map, Int.toNat_natCast, Int.natCast_nonneg, take_map_len, List.take_length, convV, bslV, pullS, buildV, b2sV, bytesA, frzRows, frzRow, frzL, storeV, ovw, setC, setOf, cellOf, ioOf, ioAll, isOwner, shapeOf, keepK, takeK, List.take_nil, List.drop_nil, List.cons_append, List.set_set, List.length_set, List.getElem?_cons_zero, List.getElem?_cons_succ, List.set_cons_zero, List.set_cons_succ, Option.map_some, List.isPrefixOf]
    rfl
  · intro i hi
    simp only [evM, List.contains_nil, List.contains_cons, Bool.or_false, Bool.false_or, Bool.true_or, Bool.or_true, List.zip_cons_cons, List.zip_nil_right, List.zip_nil_left, List.foldl_cons, List.foldl_nil, eqaV, leafOk, leaf1, eqRow, eqLeaf, Bool.false_xor, isnilV, appV, extV, slcV, lhs, bnd, Int.toNat_zero, Nat.sub_zero, Option.map_none, allocV, mksV, ZC.av, evO, evC, evB, evS, zipA_cons, putS_t, putS_f, mqV, maV, asgV, boxV, cellsS, storL, ownO, rd, brw, brws, bare, bares, plain, plains, killV, killVs, isB, isS, fadV, loadV, iadV, inRow, getC, List.getD_cons_zero, List.getD_cons_succ, List.all_cons, List.all_nil, List.length_cons, List.length_nil, List.drop_zero, List.drop_succ_cons, List.take_succ_cons, List.take_zero, Bool.and_true, Bool.and_false, Bool.false_and, Bool.true_and, Bool.and_self, Option.bind_some, Nat.reduceEqDiff, Nat.reduceBEq, Nat.reduceLT, Nat.reduceLeDiff, Nat.reduceAdd, Nat.reduceSub, Nat.add_zero, Nat.zero_add, Nat.zero_lt_succ, Nat.le_refl, reduceIte, Bool.false_eq_true, false_implies, implies_true, true_and, and_true, and_self, Bool.not_true, Bool.not_false, beq_self_eq_true, bne_self_eq_false, List.nil_append, dV, dcallV_W, callV_W, callW, callX, sK_ap, giveS, calleeV, ioAll, argL, lendPlain, lendAll, outL, frzB, frzBs, List.map_cons, List.map_nil, List.append_nil, lenV, keepS, List.length_map, Int.toNat_natCast, Int.natCast_nonneg, take_map_len, List.take_length, convV, bslV, pullS, buildV, b2sV, bytesA, frzRows, frzRow, frzL, storeV, ovw, setC, setOf, cellOf, ioOf, ioAll, isOwner, shapeOf, keepK, takeK, List.take_nil, List.drop_nil, List.cons_append, List.set_set, List.length_set, List.getElem?_cons_zero, List.getElem?_cons_succ, List.set_cons_zero, List.set_cons_succ, Option.map_some, List.isPrefixOf]
    refine cK_cut (fun h => ?_) (fun h => ?_)
    · have h1 : i < l.length := by simpa using h
      have h2 : (i : Int) < (l.length : Int) := by omega
      obtain ⟨hok, g1, g2, g3⟩ := hs l[i] (List.getElem_mem h1)
      have w := w64 (l[i].kind - 1) (by omega)
      have e3 := cut3 g2 g3
      have hz : (sign l[i].kind).size = 1 := sign_size _
      have e33 : ((⟨#[43, 45, 33]⟩ : ByteArray).size : Nat) = 3 := rfl
      have htl : (l.take i).length = i := by simp; omega
      have htk : List.take i (((l.take i).map chS).map Str.c) = ((l.take i).map chS).map Str.c := List.take_of_length_le (by simp; omega)
      simp only [ChangeE, nth_map h1, h2, Change.c, w, e3, hz, htl, htk, evM, List.contains_nil, List.contains_cons, Bool.or_false, Bool.false_or, Bool.true_or, Bool.or_true, List.zip_cons_cons, List.zip_nil_right, List.zip_nil_left, List.foldl_cons, List.foldl_nil, eqaV, leafOk, leaf1, eqRow, eqLeaf, Bool.false_xor, isnilV, appV, extV, slcV, lhs, bnd, Int.toNat_zero, Nat.sub_zero, Option.map_none, allocV, mksV, ZC.av, evO, evC, evB, evS, zipA_cons, putS_t, putS_f, mqV, maV, asgV, boxV, cellsS, storL, ownO, rd, brw, brws, bare, bares, plain, plains, killV, killVs, isB, isS, fadV, loadV, iadV, inRow, getC, List.getD_cons_zero, List.getD_cons_succ, List.all_cons, List.all_nil, List.length_cons, List.length_nil, List.drop_zero, List.drop_succ_cons, List.take_succ_cons, List.take_zero, Bool.and_true, Bool.and_false, Bool.false_and, Bool.true_and, Bool.and_self, Option.bind_some, Nat.reduceEqDiff, Nat.reduceBEq, Nat.reduceLT, Nat.reduceLeDiff, Nat.reduceAdd, Nat.reduceSub, Nat.add_zero, Nat.zero_add, Nat.zero_lt_succ, Nat.le_refl, reduceIte, Bool.false_eq_true, false_implies, implies_true, true_and, and_true, and_self, Bool.not_true, Bool.not_false, beq_self_eq_true, bne_self_eq_false, List.nil_append, dV, dcallV_W, callV_W, callW, callX, sK_ap, giveS, calleeV, ioAll, argL, lendPlain, lendAll, outL, frzB, frzBs, List.map_cons, List.map_nil, List.append_nil, lenV, keepS, List.length_map, Int.toNat_natCast, Int.natCast_nonneg, take_map_len, List.take_length, convV, bslV, pullS, buildV, b2sV, bytesA, frzRows, frzRow, frzL, storeV, ovw, setC, setOf, cellOf, ioOf, ioAll, isOwner, shapeOf, keepK, takeK, List.take_nil, List.drop_nil, List.cons_append, List.set_set, List.length_set, List.getElem?_cons_zero, List.getElem?_cons_succ, List.set_cons_zero, List.set_cons_succ, Option.map_some, List.isPrefixOf]
      refine ⟨by omega, by omega, by rw [e33]; omega, by omega, by omega, by omega, i + 1, by omega, by omega, ?_⟩
      rw [w64 _ (by omega), List.take_succ_eq_append_getElem h1, List.map_append, List.map_append]
      rfl
    · have h1 : i = l.length := by have : ¬ (i : Int) < l.length := by simpa using h
                                   omega
      subst h1
      have htk : List.take l.length ((l.map chS).map Str.c) = (l.map chS).map Str.c := List.take_of_length_le (by simp)
      simp only [htk, Str.frz, evM, List.contains_nil, List.contains_cons, Bool.or_false, Bool.false_or, Bool.true_or, Bool.or_true, List.zip_cons_cons, List.zip_nil_right, List.zip_nil_left, List.foldl_cons, List.foldl_nil, eqaV, leafOk, leaf1, eqRow, eqLeaf, Bool.false_xor, isnilV, appV, extV, slcV, lhs, bnd, Int.toNat_zero, Nat.sub_zero, Option.map_none, allocV, mksV, ZC.av, evO, evC, evB, evS, zipA_cons, putS_t, putS_f, mqV, maV, asgV, boxV, cellsS, storL, ownO, rd, brw, brws, bare, bares, plain, plains, killV, killVs, isB, isS, fadV, loadV, iadV, inRow, getC, List.getD_cons_zero, List.getD_cons_succ, List.all_cons, List.all_nil, List.length_cons, List.length_nil, List.drop_zero, List.drop_succ_cons, List.take_succ_cons, List.take_zero, Bool.and_true, Bool.and_false, Bool.false_and, Bool.true_and, Bool.and_self, Option.bind_some, Nat.reduceEqDiff, Nat.reduceBEq, Nat.reduceLT, Nat.reduceLeDiff, Nat.reduceAdd, Nat.reduceSub, Nat.add_zero, Nat.zero_add, Nat.zero_lt_succ, Nat.le_refl, reduceIte, Bool.false_eq_true, false_implies, implies_true, true_and, and_true, and_self, Bool.not_true, Bool.not_false, beq_self_eq_true, bne_self_eq_false, List.nil_append, dV, dcallV_W, callV_W, callW, callX, sK_ap, giveS, calleeV, ioAll, argL, lendPlain, lendAll, outL, frzB, frzBs, List.map_cons, List.map_nil, List.append_nil, lenV, keepS, List.length_map, Int.toNat_natCast, Int.natCast_nonneg, take_map_len, List.take_length, convV, bslV, pullS, buildV, b2sV, bytesA, frzRows, frzRow, frzL, storeV, ovw, setC, setOf, cellOf, ioOf, ioAll, isOwner, shapeOf, keepK, takeK, List.take_nil, List.drop_nil, List.cons_append, List.set_set, List.length_set, List.getElem?_cons_zero, List.getElem?_cons_succ, List.set_cons_zero, List.set_cons_succ, Option.map_some, List.isPrefixOf]
      refine callK_i (d117 (l.map chS) ⟨#[32]⟩ (by simpa using hl) ?_) ?_
      · have h5 := tx_bound l (⟨#[]⟩, false) hs
        have h6 := chText_join l
        have e1 : ((l.map chS).map (·.s.data.toList)) = l.map fun x => (chW x).data.toList := by simp [chS]
        have e2 : (⟨#[32]⟩ : ByteArray).data.toList = [32] := rfl
        rw [e1, e2, ← h6]
        have h7 : (chText l).data.toList.length = (chText l).size := by rw [Array.length_toList]; rfl
        rw [h7]
        have h8 : ((⟨#[]⟩ : ByteArray).size : Nat) = 0 := rfl
        simp only [h8] at h5
        show (l.foldl txStep (⟨#[]⟩, false)).1.size ≤ _
        omega
      · simp only [evM, List.contains_nil, List.contains_cons, Bool.or_false, Bool.false_or, Bool.true_or, Bool.or_true, List.zip_cons_cons, List.zip_nil_right, List.zip_nil_left, List.foldl_cons, List.foldl_nil, eqaV, leafOk, leaf1, eqRow, eqLeaf, Bool.false_xor, isnilV, appV, extV, slcV, lhs, bnd, Int.toNat_zero, Nat.sub_zero, Option.map_none, allocV, mksV, ZC.av, evO, evC, evB, evS, zipA_cons, putS_t, putS_f, mqV, maV, asgV, boxV, cellsS, storL, ownO, rd, brw, brws, bare, bares, plain, plains, killV, killVs, isB, isS, fadV, loadV, iadV, inRow, getC, List.getD_cons_zero, List.getD_cons_succ, List.all_cons, List.all_nil, List.length_cons, List.length_nil, List.drop_zero, List.drop_succ_cons, List.take_succ_cons, List.take_zero, Bool.and_true, Bool.and_false, Bool.false_and, Bool.true_and, Bool.and_self, Option.bind_some, Nat.reduceEqDiff, Nat.reduceBEq, Nat.reduceLT, Nat.reduceLeDiff, Nat.reduceAdd, Nat.reduceSub, Nat.add_zero, Nat.zero_add, Nat.zero_lt_succ, Nat.le_refl, reduceIte, Bool.false_eq_true, false_implies, implies_true, true_and, and_true, and_self, Bool.not_true, Bool.not_false, beq_self_eq_true, bne_self_eq_false, List.nil_append, dV, dcallV_W, callV_W, callW, callX, sK_ap, giveS, calleeV, ioAll, argL, lendPlain, lendAll, outL, frzB, frzBs, List.map_cons, List.map_nil, List.append_nil, lenV, keepS, List.length_map, Int.toNat_natCast, Int.natCast_nonneg, take_map_len, List.take_length, convV, bslV, pullS, buildV, b2sV, bytesA, frzRows, frzRow, frzL, storeV, ovw, setC, setOf, cellOf, ioOf, ioAll, isOwner, shapeOf, keepK, takeK, List.take_nil, List.drop_nil, List.cons_append, List.set_set, List.length_set, List.getElem?_cons_zero, List.getElem?_cons_succ, List.set_cons_zero, List.set_cons_succ, Option.map_some, List.isPrefixOf]
        have e1 : ((l.map chS).map (·.s.data.toList)) = l.map fun x => (chW x).data.toList := by simp [chS]
        have e3 : (⟨(Lib.join (l.map fun x => (chW x).data.toList) [32]).toArray⟩ : ByteArray) = chText l := by
          rw [← chText_join l, Array.toArray_toList]
        simp only [evM, List.contains_nil, List.contains_cons, Bool.or_false, Bool.false_or, Bool.true_or, Bool.or_true, List.zip_cons_cons, List.zip_nil_right, List.zip_nil_left, List.foldl_cons, List.foldl_nil, eqaV, leafOk, leaf1, eqRow, eqLeaf, Bool.false_xor, isnilV, appV, extV, slcV, lhs, bnd, Int.toNat_zero, Nat.sub_zero, Option.map_none, allocV, mksV, ZC.av, evO, evC, evB, evS, zipA_cons, putS_t, putS_f, mqV, maV, asgV, boxV, cellsS, storL, ownO, rd, brw, brws, bare, bares, plain, plains, killV, killVs, isB, isS, fadV, loadV, iadV, inRow, getC, List.getD_cons_zero, List.getD_cons_succ, List.all_cons, List.all_nil, List.length_cons, List.length_nil, List.drop_zero, List.drop_succ_cons, List.take_succ_cons, List.take_zero, Bool.and_true, Bool.and_false, Bool.false_and, Bool.true_and, Bool.and_self, Option.bind_some, Nat.reduceEqDiff, Nat.reduceBEq, Nat.reduceLT, Nat.reduceLeDiff, Nat.reduceAdd, Nat.reduceSub, Nat.add_zero, Nat.zero_add, Nat.zero_lt_succ, Nat.le_refl, reduceIte, Bool.false_eq_true, false_implies, implies_true, true_and, and_true, and_self, Bool.not_true, Bool.not_false, beq_self_eq_true, bne_self_eq_false, List.nil_append, dV, dcallV_W, callV_W, callW, callX, sK_ap, giveS, calleeV, ioAll, argL, lendPlain, lendAll, outL, frzB, frzBs, List.map_cons, List.map_nil, List.append_nil, lenV, keepS, List.length_map, Int.toNat_natCast, Int.natCast_nonneg, take_map_len, List.take_length, convV, bslV, pullS, buildV, b2sV, bytesA, frzRows, frzRow, frzL, storeV, ovw, setC, setOf, cellOf, ioOf, ioAll, isOwner, shapeOf, keepK, takeK, List.take_nil, List.drop_nil, List.cons_append, List.set_set, List.length_set, List.getElem?_cons_zero, List.getElem?_cons_succ, List.set_cons_zero, List.set_cons_succ, Option.map_some, List.isPrefixOf, retVC, cellV', evR, nfz, nfzs, nfzss, List.contains_nil, List.contains_cons, Bool.or_false, or_true]
        rw [e1, e3]
end Go.AM
