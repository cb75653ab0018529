/- Contracts of functions of the given program, for the law FnExactSeenBytes: what they return and what they write, under the bounds that each theorem states. -/
import Derived.Test.YtleomgfaplldiaaT25
namespace Go.AM
set_option linter.unusedVariables false
set_option linter.unusedSimpArgs false

/-! ### Bits -/

theorem evW :
    (∀ (kd : IntKind) (a b : Int) (K : AV → Prop), binV .and (.v (.int kd a)) (.v (.int kd b)) K = K (.v (.int kd (bits .and kd a b)))) ∧
    (∀ (kd : IntKind) (a b : Int) (K : AV → Prop), binV .or (.v (.int kd a)) (.v (.int kd b)) K = K (.v (.int kd (bits .or kd a b)))) ∧
    (∀ (kd kd' : IntKind) (a b : Int) (K : AV → Prop), binV .shr (.v (.int kd a)) (.v (.int kd' b)) K = (0 ≤ b ∧ K (.v (.int kd (a.fdiv (2 ^ (min b.toNat kd.bits))))))) ∧
    (∀ (kd kd' : IntKind) (a b : Int) (K : AV → Prop), binV .shl (.v (.int kd a)) (.v (.int kd' b)) K = (0 ≤ b ∧ K (.v (.int kd (kd.wrap (a * 2 ^ (min b.toNat kd.bits))))))) := by
  refine ⟨?_, ?_, ?_, ?_⟩ <;> intros <;> simp [binV, binC, binR, bits]

theorem wraps_i64 (n : Int) (h₀ : 0 ≤ n) (h₁ : n < 2 ^ 63) : IntKind.i64.wrap n = n := by rw [IntKind.wrap_i64]; omega
theorem and127 (x : Int) (h0 : 0 ≤ x) (h1 : x < 9223372036854775808) : bits .and .i64 x 127 = x % 128 := bits_mask .i64 63 (by decide) wraps_i64 7 (by decide) x h0 (by omega)
theorem and255 (x : Int) (h0 : 0 ≤ x) (h1 : x < 9223372036854775808) : bits .and .i64 x 255 = x % 256 := bits_mask .i64 63 (by decide) wraps_i64 8 (by decide) x h0 (by omega)
theorem or128 (x : Int) (h0 : 0 ≤ x) (h1 : x < 128) : bits .or .i64 x 128 = x + 128 := by
  obtain ⟨a, rfl⟩ := Int.eq_ofNat_of_zero_le h0
  have h2 := (bits_nat .i64 63 (by decide) wraps_i64 a 128 (by omega) (by decide)).2
  have h3 := bits_join .i64 63 (by decide) wraps_i64 7 128 a (by decide) (by decide) (by decide) h0 (by omega) (by omega)
  have h4 := (bits_nat .i64 63 (by decide) wraps_i64 128 a (by decide) (by omega)).2
  have e : (128 : Int) = ((128 : Nat) : Int) := rfl
  rw [e, h2, Nat.or_comm, ← h4]
  rw [show ((128 : Nat) : Int) = 128 from rfl, h3]
  omega

/-! ### Bytes -/

def bR (n : Int) : List AV := [.v (.int .u8 n)]
theorem bytesA_map : ∀ ns : List Int, bytesA (ns.map bR) = some ns
  | [] => rfl
  | n :: r => by simp [bR, bytesA, bytesA_map r]
theorem bR_frz : ∀ ns : List Int, frzRows (ns.map bR) = ns.map bR
  | [] => rfl
  | n :: r => by simp [frzRows, bR_frz r, bR, frzRow, frzL]
theorem map_snoc (ns : List Int) (n : Int) : List.map bR ns ++ [[AV.v (.int .u8 n)]] = (ns ++ [n]).map bR := by simp [bR]
theorem strA_app (a b : List Int) : strA (a ++ b) = strA a ++ strA b := by
  have key : ∀ (l : List Int) (s t : ByteArray), l.foldl (fun r n => r.push (UInt8.ofNat n.toNat)) (s ++ t) = s ++ l.foldl (fun r n => r.push (UInt8.ofNat n.toNat)) t := by
    intro l
    induction l with
    | nil => intro s t; rfl
    | cons n r ih =>
      intro s t
      simp only [List.foldl_cons]
      rw [← ih]
      congr 1
      apply ByteArray.ext
      simp [ByteArray.push, ByteArray.data_append]
  unfold strA
  rw [List.foldl_append]
  have := key b (a.foldl (fun r n => r.push (UInt8.ofNat n.toNat)) ByteArray.empty) ByteArray.empty
  rw [← this]
  congr 1
  apply ByteArray.ext
  simp [ByteArray.data_append]
theorem strA_size (a : List Int) : (strA a).size = a.length := by
  have key : ∀ (l : List Int) (s : ByteArray), (l.foldl (fun r n => r.push (UInt8.ofNat n.toNat)) s).size = s.size + l.length := by
    intro l
    induction l with
    | nil => intro s; rfl
    | cons n r ih => intro s; simp only [List.foldl_cons, ih, ByteArray.size_push, List.length_cons]; omega
  unfold strA
  rw [key]
  simp

/-- loop.example/g00837/spec.l1Fold -/
def m139 : MC :=
  (.seq
   (.reg [⟨(some 2), none, .a (.asg (.c (.int .i64 0)))⟩])
   (.seq
    (.seq
     (.reg [⟨(some 3), none, .q (.mov (.t 0))⟩,
       ⟨(some 4), none, .q (.bin false .lss (.t 3) (.c (.int .i64 0)))⟩])
     (.cond (.t 4)
      (.seq
       (.reg [⟨(some 5), none, .q (.mov (.t 0))⟩,
         ⟨(some 6), none, .q (.bin false .mul (.c (.int .i64 (-2))) (.t 5))⟩,
         ⟨(some 7), none, .q (.bin false .sub (.t 6) (.c (.int .i64 1)))⟩,
         ⟨(some 2), none, .a (.asg (.t 7))⟩])
       .ret)
      .skip))
    (.seq
     (.reg [⟨(some 8), none, .q (.mov (.t 0))⟩,
       ⟨(some 9), none, .q (.bin false .mul (.c (.int .i64 2)) (.t 8))⟩,
       ⟨(some 2), none, .a (.asg (.t 9))⟩])
     .ret)))


theorem d139 (n : Int) (h0 : 0 ≤ n) (h1 : n ≤ 1048576) : Does Go.Proofs.Try.prog 139 [.v (.int .i64 n)] false (.v (.int .i64 (2 * n))) [.dead] := by
  refine does_intro (mc := m139) (N := 10) (rs := [2]) (fx := []) 1 rfl (by decide +kernel) ?_
  simp only [m139, isnilV, appV, extV, slcV, lhs, bnd, Int.toNat_zero, Nat.sub_zero, Option.map_none, allocV, mksV, ZC.av, evO, evC, evB, evS, zipA_cons, putS_t, putS_f, mqV, maV, asgV, boxV, cellsS, storL, ownO, rd, brw, brws, bare, bares, plain, plains, killV, killVs, isB, isS, fadV, loadV, iadV, inRow, getC, List.getD_cons_zero, List.getD_cons_succ, List.all_cons, List.all_nil, List.length_cons, List.length_nil, List.drop_zero, List.drop_succ_cons, List.take_succ_cons, List.take_zero, Bool.and_true, Bool.and_false, Bool.false_and, Bool.true_and, Bool.and_self, Option.bind_some, Nat.reduceEqDiff, Nat.reduceBEq, Nat.reduceLT, Nat.reduceLeDiff, Nat.reduceAdd, Nat.reduceSub, Nat.add_zero, Nat.zero_add, Nat.zero_lt_succ, Nat.le_refl, reduceIte, Bool.false_eq_true, false_implies, implies_true, true_and, and_true, and_self, Bool.not_true, Bool.not_false, beq_self_eq_true, bne_self_eq_false, List.nil_append, dV, dcallV_W, callV_W, callW, callX, sK_ap, giveS, calleeV, ioAll, argL, lendPlain, lendAll, outL, frzB, frzBs, List.map_cons, List.map_nil, List.append_nil, lenV, keepS, List.length_map, Int.toNat_natCast, Int.natCast_nonneg, take_map_len, List.take_length, convV, bslV, pullS, buildV, b2sV, bytesA, frzRows, frzRow, frzL, storeV, ovw, setC, setOf, cellOf, ioOf, ioAll, isOwner, shapeOf, keepK, takeK, List.take_nil, List.drop_nil, List.cons_append, List.set_set, List.length_set, List.getElem?_cons_zero, List.getElem?_cons_succ, List.set_cons_zero, List.set_cons_succ, Option.map_some, List.isPrefixOf]
  refine cK_cut (fun h => ?_) (fun h => ?_)
  · have : n < 0 := by simpa using h
    omega
  · simp only [isnilV, appV, extV, slcV, lhs, bnd, Int.toNat_zero, Nat.sub_zero, Option.map_none, allocV, mksV, ZC.av, evO, evC, evB, evS, zipA_cons, putS_t, putS_f, mqV, maV, asgV, boxV, cellsS, storL, ownO, rd, brw, brws, bare, bares, plain, plains, killV, killVs, isB, isS, fadV, loadV, iadV, inRow, getC, List.getD_cons_zero, List.getD_cons_succ, List.all_cons, List.all_nil, List.length_cons, List.length_nil, List.drop_zero, List.drop_succ_cons, List.take_succ_cons, List.take_zero, Bool.and_true, Bool.and_false, Bool.false_and, Bool.true_and, Bool.and_self, Option.bind_some, Nat.reduceEqDiff, Nat.reduceBEq, Nat.reduceLT, Nat.reduceLeDiff, Nat.reduceAdd, Nat.reduceSub, Nat.add_zero, Nat.zero_add, Nat.zero_lt_succ, Nat.le_refl, reduceIte, Bool.false_eq_true, false_implies, implies_true, true_and, and_true, and_self, Bool.not_true, Bool.not_false, beq_self_eq_true, bne_self_eq_false, List.nil_append, dV, dcallV_W, callV_W, callW, callX, sK_ap, giveS, calleeV, ioAll, argL, lendPlain, lendAll, outL, frzB, frzBs, List.map_cons, List.map_nil, List.append_nil, lenV, keepS, List.length_map, Int.toNat_natCast, Int.natCast_nonneg, take_map_len, List.take_length, convV, bslV, pullS, buildV, b2sV, bytesA, frzRows, frzRow, frzL, storeV, ovw, setC, setOf, cellOf, ioOf, ioAll, isOwner, shapeOf, keepK, takeK, List.take_nil, List.drop_nil, List.cons_append, List.set_set, List.length_set, List.getElem?_cons_zero, List.getElem?_cons_succ, List.set_cons_zero, List.set_cons_succ, Option.map_some, List.isPrefixOf]
    rw [w64 _ (by omega)]
    simp only [isnilV, appV, extV, slcV, lhs, bnd, Int.toNat_zero, Nat.sub_zero, Option.map_none, allocV, mksV, ZC.av, evO, evC, evB, evS, zipA_cons, putS_t, putS_f, mqV, maV, asgV, boxV, cellsS, storL, ownO, rd, brw, brws, bare, bares, plain, plains, killV, killVs, isB, isS, fadV, loadV, iadV, inRow, getC, List.getD_cons_zero, List.getD_cons_succ, List.all_cons, List.all_nil, List.length_cons, List.length_nil, List.drop_zero, List.drop_succ_cons, List.take_succ_cons, List.take_zero, Bool.and_true, Bool.and_false, Bool.false_and, Bool.true_and, Bool.and_self, Option.bind_some, Nat.reduceEqDiff, Nat.reduceBEq, Nat.reduceLT, Nat.reduceLeDiff, Nat.reduceAdd, Nat.reduceSub, Nat.add_zero, Nat.zero_add, Nat.zero_lt_succ, Nat.le_refl, reduceIte, Bool.false_eq_true, false_implies, implies_true, true_and, and_true, and_self, Bool.not_true, Bool.not_false, beq_self_eq_true, bne_self_eq_false, List.nil_append, dV, dcallV_W, callV_W, callW, callX, sK_ap, giveS, calleeV, ioAll, argL, lendPlain, lendAll, outL, frzB, frzBs, List.map_cons, List.map_nil, List.append_nil, lenV, keepS, List.length_map, Int.toNat_natCast, Int.natCast_nonneg, take_map_len, List.take_length, convV, bslV, pullS, buildV, b2sV, bytesA, frzRows, frzRow, frzL, storeV, ovw, setC, setOf, cellOf, ioOf, ioAll, isOwner, shapeOf, keepK, takeK, List.take_nil, List.drop_nil, List.cons_append, List.set_set, List.length_set, List.getElem?_cons_zero, List.getElem?_cons_succ, List.set_cons_zero, List.set_cons_succ, Option.map_some, List.isPrefixOf, retVC, cellV', evR, nfz, nfzs, nfzss, List.contains_nil, List.contains_cons, Bool.or_false, or_true]

/-- loop.example/g00837/impl.fold -/
def m140 : MC :=
  (.seq
   (.reg [⟨(some 2), none, .a (.asg (.c (.int .i64 0)))⟩])
   (.seq
    (.seq
     (.reg [⟨(some 3), none, .q (.mov (.t 0))⟩,
       ⟨(some 4), none, .q (.bin false .geq (.t 3) (.c (.int .i64 0)))⟩])
     (.cond (.t 4)
      (.seq
       (.reg [⟨(some 5), none, .q (.mov (.t 0))⟩,
         ⟨(some 6), none, .q (.bin false .mul (.c (.int .i64 2)) (.t 5))⟩,
         ⟨(some 2), none, .a (.asg (.t 6))⟩])
       .ret)
      .skip))
    (.seq
     (.reg [⟨(some 7), none, .q (.mov (.t 0))⟩,
       ⟨(some 8), none, .q (.bin false .mul (.c (.int .i64 (-2))) (.t 7))⟩,
       ⟨(some 9), none, .q (.bin false .sub (.t 8) (.c (.int .i64 1)))⟩,
       ⟨(some 2), none, .a (.asg (.t 9))⟩])
     .ret)))


theorem d140 (n : Int) (h0 : 0 ≤ n) (h1 : n ≤ 1048576) : Does Go.Proofs.Try.prog 140 [.v (.int .i64 n)] false (.v (.int .i64 (2 * n))) [.dead] := by
  refine does_intro (mc := m140) (N := 10) (rs := [2]) (fx := []) 1 rfl (by decide +kernel) ?_
  simp only [m140, isnilV, appV, extV, slcV, lhs, bnd, Int.toNat_zero, Nat.sub_zero, Option.map_none, allocV, mksV, ZC.av, evO, evC, evB, evS, zipA_cons, putS_t, putS_f, mqV, maV, asgV, boxV, cellsS, storL, ownO, rd, brw, brws, bare, bares, plain, plains, killV, killVs, isB, isS, fadV, loadV, iadV, inRow, getC, List.getD_cons_zero, List.getD_cons_succ, List.all_cons, List.all_nil, List.length_cons, List.length_nil, List.drop_zero, List.drop_succ_cons, List.take_succ_cons, List.take_zero, Bool.and_true, Bool.and_false, Bool.false_and, Bool.true_and, Bool.and_self, Option.bind_some, Nat.reduceEqDiff, Nat.reduceBEq, Nat.reduceLT, Nat.reduceLeDiff, Nat.reduceAdd, Nat.reduceSub, Nat.add_zero, Nat.zero_add, Nat.zero_lt_succ, Nat.le_refl, reduceIte, Bool.false_eq_true, false_implies, implies_true, true_and, and_true, and_self, Bool.not_true, Bool.not_false, beq_self_eq_true, bne_self_eq_false, List.nil_append, dV, dcallV_W, callV_W, callW, callX, sK_ap, giveS, calleeV, ioAll, argL, lendPlain, lendAll, outL, frzB, frzBs, List.map_cons, List.map_nil, List.append_nil, lenV, keepS, List.length_map, Int.toNat_natCast, Int.natCast_nonneg, take_map_len, List.take_length, convV, bslV, pullS, buildV, b2sV, bytesA, frzRows, frzRow, frzL, storeV, ovw, setC, setOf, cellOf, ioOf, ioAll, isOwner, shapeOf, keepK, takeK, List.take_nil, List.drop_nil, List.cons_append, List.set_set, List.length_set, List.getElem?_cons_zero, List.getElem?_cons_succ, List.set_cons_zero, List.set_cons_succ, Option.map_some, List.isPrefixOf]
  refine cK_cut (fun h => ?_) (fun h => ?_)
  · simp only [isnilV, appV, extV, slcV, lhs, bnd, Int.toNat_zero, Nat.sub_zero, Option.map_none, allocV, mksV, ZC.av, evO, evC, evB, evS, zipA_cons, putS_t, putS_f, mqV, maV, asgV, boxV, cellsS, storL, ownO, rd, brw, brws, bare, bares, plain, plains, killV, killVs, isB, isS, fadV, loadV, iadV, inRow, getC, List.getD_cons_zero, List.getD_cons_succ, List.all_cons, List.all_nil, List.length_cons, List.length_nil, List.drop_zero, List.drop_succ_cons, List.take_succ_cons, List.take_zero, Bool.and_true, Bool.and_false, Bool.false_and, Bool.true_and, Bool.and_self, Option.bind_some, Nat.reduceEqDiff, Nat.reduceBEq, Nat.reduceLT, Nat.reduceLeDiff, Nat.reduceAdd, Nat.reduceSub, Nat.add_zero, Nat.zero_add, Nat.zero_lt_succ, Nat.le_refl, reduceIte, Bool.false_eq_true, false_implies, implies_true, true_and, and_true, and_self, Bool.not_true, Bool.not_false, beq_self_eq_true, bne_self_eq_false, List.nil_append, dV, dcallV_W, callV_W, callW, callX, sK_ap, giveS, calleeV, ioAll, argL, lendPlain, lendAll, outL, frzB, frzBs, List.map_cons, List.map_nil, List.append_nil, lenV, keepS, List.length_map, Int.toNat_natCast, Int.natCast_nonneg, take_map_len, List.take_length, convV, bslV, pullS, buildV, b2sV, bytesA, frzRows, frzRow, frzL, storeV, ovw, setC, setOf, cellOf, ioOf, ioAll, isOwner, shapeOf, keepK, takeK, List.take_nil, List.drop_nil, List.cons_append, List.set_set, List.length_set, List.getElem?_cons_zero, List.getElem?_cons_succ, List.set_cons_zero, List.set_cons_succ, Option.map_some, List.isPrefixOf]
    rw [w64 _ (by omega)]
    simp only [isnilV, appV, extV, slcV, lhs, bnd, Int.toNat_zero, Nat.sub_zero, Option.map_none, allocV, mksV, ZC.av, evO, evC, evB, evS, zipA_cons, putS_t, putS_f, mqV, maV, asgV, boxV, cellsS, storL, ownO, rd, brw, brws, bare, bares, plain, plains, killV, killVs, isB, isS, fadV, loadV, iadV, inRow, getC, List.getD_cons_zero, List.getD_cons_succ, List.all_cons, List.all_nil, List.length_cons, List.length_nil, List.drop_zero, List.drop_succ_cons, List.take_succ_cons, List.take_zero, Bool.and_true, Bool.and_false, Bool.false_and, Bool.true_and, Bool.and_self, Option.bind_some, Nat.reduceEqDiff, Nat.reduceBEq, Nat.reduceLT, Nat.reduceLeDiff, Nat.reduceAdd, Nat.reduceSub, Nat.add_zero, Nat.zero_add, Nat.zero_lt_succ, Nat.le_refl, reduceIte, Bool.false_eq_true, false_implies, implies_true, true_and, and_true, and_self, Bool.not_true, Bool.not_false, beq_self_eq_true, bne_self_eq_false, List.nil_append, dV, dcallV_W, callV_W, callW, callX, sK_ap, giveS, calleeV, ioAll, argL, lendPlain, lendAll, outL, frzB, frzBs, List.map_cons, List.map_nil, List.append_nil, lenV, keepS, List.length_map, Int.toNat_natCast, Int.natCast_nonneg, take_map_len, List.take_length, convV, bslV, pullS, buildV, b2sV, bytesA, frzRows, frzRow, frzL, storeV, ovw, setC, setOf, cellOf, ioOf, ioAll, isOwner, shapeOf, keepK, takeK, List.take_nil, List.drop_nil, List.cons_append, List.set_set, List.length_set, List.getElem?_cons_zero, List.getElem?_cons_succ, List.set_cons_zero, List.set_cons_succ, Option.map_some, List.isPrefixOf, retVC, cellV', evR, nfz, nfzs, nfzss, List.contains_nil, List.contains_cons, Bool.or_false, or_true]
  · have : ¬ 0 ≤ n := by simpa using h
    omega

def nbL (k : Int) : List Int := if h : 128 ≤ k then (k % 128 + 128) :: nbL (k / 128) else [k]
  termination_by k.toNat
  decreasing_by omega

/-- The bytes of a number. -/
def numB (n : Int) : ByteArray := strA (nbL (2 * n))

theorem nbL_len (k : Int) (h : 0 ≤ k) : ((nbL k).length : Int) ≤ k + 1 := by
  rw [nbL]
  split
  · have := nbL_len (k / 128) (by omega)
    simp only [List.length_cons]; omega
  · simp; omega
  termination_by k.toNat
  decreasing_by omega

/-- loop.example/g00837/spec.l1NumBytes -/
def m111 : MC :=
  (.seq
   (.reg [⟨(some 2), none, .a (.asg (.c (.string ({ data := #[] }))))⟩])
   (.seq
    (.reg [⟨(some 3), none, .a (.asg (.nils 5 1))⟩])
    (.seq
     (.seq
      (.reg [⟨(some 4), none, .q (.mov (.t 0))⟩,
        ⟨(some 5), none, .a (.call (.fn 139) false [.lend (.t 4)])⟩,
        ⟨(some 0), none, .a (.asg (.t 5))⟩])
      (.block 0
       (.loop [0, 3, 16]
        (.seq
         (.seq
          (.reg [⟨(some 6), none, .q (.mov (.t 0))⟩,
            ⟨(some 7), none, .q (.bin false .geq (.t 6) (.c (.int .i64 128)))⟩])
          (.cond (.t 7)
           .skip
           (.exit 0)))
         (.seq
          (.block 1
           (.reg [⟨(some 10), none, .q (.mov (.t 3))⟩,
             ⟨(some 11), none, .q (.mov (.t 0))⟩,
             ⟨(some 12), none, .q (.bin false .rem (.t 11) (.c (.int .i64 128)))⟩,
             ⟨(some 13), none, .q (.bin false .add (.t 12) (.c (.int .i64 128)))⟩,
             ⟨(some 14), none, .q (.conv .u8 (.t 13))⟩,
             ⟨(some 15), none, .a (.bsl 5 1 [.t 14])⟩,
             ⟨(some 16), none, .a (.app true 5 1 1 (.t 10) (.t 15))⟩,
             ⟨(some 3), none, .a (.asg (.t 16))⟩]))
          (.reg [⟨(some 8), none, .q (.mov (.t 0))⟩,
            ⟨(some 9), none, .q (.bin false .quo (.t 8) (.c (.int .i64 128)))⟩,
            ⟨(some 0), none, .a (.asg (.t 9))⟩]))))))
     (.seq
      (.reg [⟨(some 17), none, .q (.mov (.t 3))⟩,
        ⟨(some 18), none, .q (.mov (.t 0))⟩,
        ⟨(some 19), none, .q (.conv .u8 (.t 18))⟩,
        ⟨(some 20), none, .a (.bsl 5 1 [.t 19])⟩,
        ⟨(some 21), none, .a (.app true 5 1 1 (.t 17) (.t 20))⟩,
        ⟨(some 22), none, .q (.b2s (.t 21))⟩,
        ⟨(some 2), none, .a (.asg (.t 22))⟩])
      .ret))))


theorem d111 (n0 : Int) (h0 : 0 ≤ n0) (h1 : n0 ≤ 1048576) : Does Go.Proofs.Try.prog 111 [.v (.int .i64 n0)] false (.v (.string (numB n0))) [.dead] := by
  refine does_intro (mc := m111) (N := 23) (rs := [2]) (fx := []) 1 rfl (by decide +kernel) ?_
  simp only [m111, isnilV, appV, extV, slcV, lhs, bnd, Int.toNat_zero, Nat.sub_zero, Option.map_none, allocV, mksV, ZC.av, evO, evC, evB, evS, zipA_cons, putS_t, putS_f, mqV, maV, asgV, boxV, cellsS, storL, ownO, rd, brw, brws, bare, bares, plain, plains, killV, killVs, isB, isS, fadV, loadV, iadV, inRow, getC, List.getD_cons_zero, List.getD_cons_succ, List.all_cons, List.all_nil, List.length_cons, List.length_nil, List.drop_zero, List.drop_succ_cons, List.take_succ_cons, List.take_zero, Bool.and_true, Bool.and_false, Bool.false_and, Bool.true_and, Bool.and_self, Option.bind_some, Nat.reduceEqDiff, Nat.reduceBEq, Nat.reduceLT, Nat.reduceLeDiff, Nat.reduceAdd, Nat.reduceSub, Nat.add_zero, Nat.zero_add, Nat.zero_lt_succ, Nat.le_refl, reduceIte, Bool.false_eq_true, false_implies, implies_true, true_and, and_true, and_self, Bool.not_true, Bool.not_false, beq_self_eq_true, bne_self_eq_false, List.nil_append, dV, dcallV_W, callV_W, callW, callX, sK_ap, giveS, calleeV, ioAll, argL, lendPlain, lendAll, outL, frzB, frzBs, List.map_cons, List.map_nil, List.append_nil, lenV, keepS, List.length_map, Int.toNat_natCast, Int.natCast_nonneg, take_map_len, List.take_length, convV, bslV, pullS, buildV, b2sV, bytesA, frzRows, frzRow, frzL, storeV, ovw, setC, setOf, cellOf, ioOf, ioAll, isOwner, shapeOf, keepK, takeK, List.take_nil, List.drop_nil, List.cons_append, List.set_set, List.length_set, List.getElem?_cons_zero, List.getElem?_cons_succ, List.set_cons_zero, List.set_cons_succ, Option.map_some, List.isPrefixOf]
  refine callK_i (d139 n0 h0 h1) ?_
  simp only [isnilV, appV, extV, slcV, lhs, bnd, Int.toNat_zero, Nat.sub_zero, Option.map_none, allocV, mksV, ZC.av, evO, evC, evB, evS, zipA_cons, putS_t, putS_f, mqV, maV, asgV, boxV, cellsS, storL, ownO, rd, brw, brws, bare, bares, plain, plains, killV, killVs, isB, isS, fadV, loadV, iadV, inRow, getC, List.getD_cons_zero, List.getD_cons_succ, List.all_cons, List.all_nil, List.length_cons, List.length_nil, List.drop_zero, List.drop_succ_cons, List.take_succ_cons, List.take_zero, Bool.and_true, Bool.and_false, Bool.false_and, Bool.true_and, Bool.and_self, Option.bind_some, Nat.reduceEqDiff, Nat.reduceBEq, Nat.reduceLT, Nat.reduceLeDiff, Nat.reduceAdd, Nat.reduceSub, Nat.add_zero, Nat.zero_add, Nat.zero_lt_succ, Nat.le_refl, reduceIte, Bool.false_eq_true, false_implies, implies_true, true_and, and_true, and_self, Bool.not_true, Bool.not_false, beq_self_eq_true, bne_self_eq_false, List.nil_append, dV, dcallV_W, callV_W, callW, callX, sK_ap, giveS, calleeV, ioAll, argL, lendPlain, lendAll, outL, frzB, frzBs, List.map_cons, List.map_nil, List.append_nil, lenV, keepS, List.length_map, Int.toNat_natCast, Int.natCast_nonneg, take_map_len, List.take_length, convV, bslV, pullS, buildV, b2sV, bytesA, frzRows, frzRow, frzL, storeV, ovw, setC, setOf, cellOf, ioOf, ioAll, isOwner, shapeOf, keepK, takeK, List.take_nil, List.drop_nil, List.cons_append, List.set_set, List.length_set, List.getElem?_cons_zero, List.getElem?_cons_succ, List.set_cons_zero, List.set_cons_succ, Option.map_some, List.isPrefixOf]
  refine awp_loop (fun p : List Int × Int => p.1 ++ nbL p.2 = nbL (2 * n0) ∧ 0 ≤ p.2 ∧ p.2 ≤ 2 * n0 ∧ (p.1.length : Int) + p.2 ≤ 2 * n0) (fun p => stl [(0, .v (.int .i64 p.2)), (3, .usl 5 1 (p.1.map bR)), (16, .dead)]) (fun p => p.2.toNat) ([], 2 * n0) ⟨rfl, by simp only; omega, by simp only; omega, by simp⟩ ?_ ?_
  · simp only [isnilV, appV, extV, slcV, lhs, bnd, Int.toNat_zero, Nat.sub_zero, Option.map_none, allocV, mksV, ZC.av, evO, evC, evB, evS, zipA_cons, putS_t, putS_f, mqV, maV, asgV, boxV, cellsS, storL, ownO, rd, brw, brws, bare, bares, plain, plains, killV, killVs, isB, isS, fadV, loadV, iadV, inRow, getC, List.getD_cons_zero, List.getD_cons_succ, List.all_cons, List.all_nil, List.length_cons, List.length_nil, List.drop_zero, List.drop_succ_cons, List.take_succ_cons, List.take_zero, Bool.and_true, Bool.and_false, Bool.false_and, Bool.true_and, Bool.and_self, Option.bind_some, Nat.reduceEqDiff, Nat.reduceBEq, Nat.reduceLT, Nat.reduceLeDiff, Nat.reduceAdd, Nat.reduceSub, Nat.add_zero, Nat.zero_add, Nat.zero_lt_succ, Nat.le_refl, reduceIte, Bool.false_eq_true, false_implies, implies_true, true_and, and_true, and_self, Bool.not_true, Bool.not_false, beq_self_eq_true, bne_self_eq_false, List.nil_append, dV, dcallV_W, callV_W, callW, callX, sK_ap, giveS, calleeV, ioAll, argL, lendPlain, lendAll, outL, frzB, frzBs, List.map_cons, List.map_nil, List.append_nil, lenV, keepS, List.length_map, Int.toNat_natCast, Int.natCast_nonneg, take_map_len, List.take_length, convV, bslV, pullS, buildV, b2sV, bytesA, frzRows, frzRow, frzL, storeV, ovw, setC, setOf, cellOf, ioOf, ioAll, isOwner, shapeOf, keepK, takeK, List.take_nil, List.drop_nil, List.cons_append, List.set_set, List.length_set, List.getElem?_cons_zero, List.getElem?_cons_succ, List.set_cons_zero, List.set_cons_succ, Option.map_some, List.isPrefixOf]
  · rintro ⟨ns, n⟩ ⟨p0, p1, p2, p3⟩
    simp only at p0 p1 p2 p3
    simp only [isnilV, appV, extV, slcV, lhs, bnd, Int.toNat_zero, Nat.sub_zero, Option.map_none, allocV, mksV, ZC.av, evO, evC, evB, evS, zipA_cons, putS_t, putS_f, mqV, maV, asgV, boxV, cellsS, storL, ownO, rd, brw, brws, bare, bares, plain, plains, killV, killVs, isB, isS, fadV, loadV, iadV, inRow, getC, List.getD_cons_zero, List.getD_cons_succ, List.all_cons, List.all_nil, List.length_cons, List.length_nil, List.drop_zero, List.drop_succ_cons, List.take_succ_cons, List.take_zero, Bool.and_true, Bool.and_false, Bool.false_and, Bool.true_and, Bool.and_self, Option.bind_some, Nat.reduceEqDiff, Nat.reduceBEq, Nat.reduceLT, Nat.reduceLeDiff, Nat.reduceAdd, Nat.reduceSub, Nat.add_zero, Nat.zero_add, Nat.zero_lt_succ, Nat.le_refl, reduceIte, Bool.false_eq_true, false_implies, implies_true, true_and, and_true, and_self, Bool.not_true, Bool.not_false, beq_self_eq_true, bne_self_eq_false, List.nil_append, dV, dcallV_W, callV_W, callW, callX, sK_ap, giveS, calleeV, ioAll, argL, lendPlain, lendAll, outL, frzB, frzBs, List.map_cons, List.map_nil, List.append_nil, lenV, keepS, List.length_map, Int.toNat_natCast, Int.natCast_nonneg, take_map_len, List.take_length, convV, bslV, pullS, buildV, b2sV, bytesA, frzRows, frzRow, frzL, storeV, ovw, setC, setOf, cellOf, ioOf, ioAll, isOwner, shapeOf, keepK, takeK, List.take_nil, List.drop_nil, List.cons_append, List.set_set, List.length_set, List.getElem?_cons_zero, List.getElem?_cons_succ, List.set_cons_zero, List.set_cons_succ, Option.map_some, List.isPrefixOf]
    refine cK_cut (fun h => ?_) (fun h => ?_)
    · have h2 : 128 ≤ n := by simpa using h
      simp only [isnilV, appV, extV, slcV, lhs, bnd, Int.toNat_zero, Nat.sub_zero, Option.map_none, allocV, mksV, ZC.av, evO, evC, evB, evS, zipA_cons, putS_t, putS_f, mqV, maV, asgV, boxV, cellsS, storL, ownO, rd, brw, brws, bare, bares, plain, plains, killV, killVs, isB, isS, fadV, loadV, iadV, inRow, getC, List.getD_cons_zero, List.getD_cons_succ, List.all_cons, List.all_nil, List.length_cons, List.length_nil, List.drop_zero, List.drop_succ_cons, List.take_succ_cons, List.take_zero, Bool.and_true, Bool.and_false, Bool.false_and, Bool.true_and, Bool.and_self, Option.bind_some, Nat.reduceEqDiff, Nat.reduceBEq, Nat.reduceLT, Nat.reduceLeDiff, Nat.reduceAdd, Nat.reduceSub, Nat.add_zero, Nat.zero_add, Nat.zero_lt_succ, Nat.le_refl, reduceIte, Bool.false_eq_true, false_implies, implies_true, true_and, and_true, and_self, Bool.not_true, Bool.not_false, beq_self_eq_true, bne_self_eq_false, List.nil_append, dV, dcallV_W, callV_W, callW, callX, sK_ap, giveS, calleeV, ioAll, argL, lendPlain, lendAll, outL, frzB, frzBs, List.map_cons, List.map_nil, List.append_nil, lenV, keepS, List.length_map, Int.toNat_natCast, Int.natCast_nonneg, take_map_len, List.take_length, convV, bslV, pullS, buildV, b2sV, bytesA, frzRows, frzRow, frzL, storeV, ovw, setC, setOf, cellOf, ioOf, ioAll, isOwner, shapeOf, keepK, takeK, List.take_nil, List.drop_nil, List.cons_append, List.set_set, List.length_set, List.getElem?_cons_zero, List.getElem?_cons_succ, List.set_cons_zero, List.set_cons_succ, Option.map_some, List.isPrefixOf]
      have et : n.tdiv 128 = n / 128 := Int.tdiv_eq_ediv_of_nonneg p1
      have em : n.tmod 128 = n % 128 := Int.tmod_eq_emod_of_nonneg p1
      have w1 := w64 (n / 128) (by omega)
      have w2 := w64 (n % 128 + 128) (by omega)
      have eu : IntKind.u8.wrap (n % 128 + 128) = n % 128 + 128 := by rw [IntKind.wrap_u8]; omega
      have e : nbL n = (n % 128 + 128) :: nbL (n / 128) := by rw [nbL, dif_pos h2]
      rw [et, em, w1, w2, eu, map_snoc]
      refine ⟨by decide, by omega, by omega, by decide, (ns ++ [n % 128 + 128], n / 128), ⟨?_, by simp only; omega, by simp only; omega, ?_⟩, by simp only; omega, rfl⟩
      · rw [← p0, e]; simp
      · simp only [List.length_append, List.length_cons, List.length_nil]; omega
    · have h2 : ¬ 128 ≤ n := by simpa using h
      simp only [isnilV, appV, extV, slcV, lhs, bnd, Int.toNat_zero, Nat.sub_zero, Option.map_none, allocV, mksV, ZC.av, evO, evC, evB, evS, zipA_cons, putS_t, putS_f, mqV, maV, asgV, boxV, cellsS, storL, ownO, rd, brw, brws, bare, bares, plain, plains, killV, killVs, isB, isS, fadV, loadV, iadV, inRow, getC, List.getD_cons_zero, List.getD_cons_succ, List.all_cons, List.all_nil, List.length_cons, List.length_nil, List.drop_zero, List.drop_succ_cons, List.take_succ_cons, List.take_zero, Bool.and_true, Bool.and_false, Bool.false_and, Bool.true_and, Bool.and_self, Option.bind_some, Nat.reduceEqDiff, Nat.reduceBEq, Nat.reduceLT, Nat.reduceLeDiff, Nat.reduceAdd, Nat.reduceSub, Nat.add_zero, Nat.zero_add, Nat.zero_lt_succ, Nat.le_refl, reduceIte, Bool.false_eq_true, false_implies, implies_true, true_and, and_true, and_self, Bool.not_true, Bool.not_false, beq_self_eq_true, bne_self_eq_false, List.nil_append, dV, dcallV_W, callV_W, callW, callX, sK_ap, giveS, calleeV, ioAll, argL, lendPlain, lendAll, outL, frzB, frzBs, List.map_cons, List.map_nil, List.append_nil, lenV, keepS, List.length_map, Int.toNat_natCast, Int.natCast_nonneg, take_map_len, List.take_length, convV, bslV, pullS, buildV, b2sV, bytesA, frzRows, frzRow, frzL, storeV, ovw, setC, setOf, cellOf, ioOf, ioAll, isOwner, shapeOf, keepK, takeK, List.take_nil, List.drop_nil, List.cons_append, List.set_set, List.length_set, List.getElem?_cons_zero, List.getElem?_cons_succ, List.set_cons_zero, List.set_cons_succ, Option.map_some, List.isPrefixOf]
      have eu : IntKind.u8.wrap n = n := by rw [IntKind.wrap_u8]; omega
      have e : nbL n = [n] := by rw [nbL, dif_neg h2]
      rw [e] at p0
      refine ⟨by omega, by omega, ?_⟩
      rw [eu, map_snoc, bR_frz, bytesA_map, p0]
      simp only [numB, isnilV, appV, extV, slcV, lhs, bnd, Int.toNat_zero, Nat.sub_zero, Option.map_none, allocV, mksV, ZC.av, evO, evC, evB, evS, zipA_cons, putS_t, putS_f, mqV, maV, asgV, boxV, cellsS, storL, ownO, rd, brw, brws, bare, bares, plain, plains, killV, killVs, isB, isS, fadV, loadV, iadV, inRow, getC, List.getD_cons_zero, List.getD_cons_succ, List.all_cons, List.all_nil, List.length_cons, List.length_nil, List.drop_zero, List.drop_succ_cons, List.take_succ_cons, List.take_zero, Bool.and_true, Bool.and_false, Bool.false_and, Bool.true_and, Bool.and_self, Option.bind_some, Nat.reduceEqDiff, Nat.reduceBEq, Nat.reduceLT, Nat.reduceLeDiff, Nat.reduceAdd, Nat.reduceSub, Nat.add_zero, Nat.zero_add, Nat.zero_lt_succ, Nat.le_refl, reduceIte, Bool.false_eq_true, false_implies, implies_true, true_and, and_true, and_self, Bool.not_true, Bool.not_false, beq_self_eq_true, bne_self_eq_false, List.nil_append, dV, dcallV_W, callV_W, callW, callX, sK_ap, giveS, calleeV, ioAll, argL, lendPlain, lendAll, outL, frzB, frzBs, List.map_cons, List.map_nil, List.append_nil, lenV, keepS, List.length_map, Int.toNat_natCast, Int.natCast_nonneg, take_map_len, List.take_length, convV, bslV, pullS, buildV, b2sV, bytesA, frzRows, frzRow, frzL, storeV, ovw, setC, setOf, cellOf, ioOf, ioAll, isOwner, shapeOf, keepK, takeK, List.take_nil, List.drop_nil, List.cons_append, List.set_set, List.length_set, List.getElem?_cons_zero, List.getElem?_cons_succ, List.set_cons_zero, List.set_cons_succ, Option.map_some, List.isPrefixOf, retVC, cellV', evR, nfz, nfzs, nfzss, List.contains_nil, List.contains_cons, Bool.or_false, or_true]

/-- loop.example/g00837/impl.numBytes -/
def m114 : MC :=
  (.seq
   (.reg [⟨(some 2), none, .a (.asg (.c (.string ({ data := #[] }))))⟩])
   (.seq
    (.reg [⟨(some 5), none, .a (.bsl 5 1 [])⟩,
      ⟨(some 6), none, .q (.mov (.t 0))⟩,
      ⟨(some 7), none, .a (.call (.fn 140) false [.lend (.t 6)])⟩,
      ⟨(some 3), none, .a (.asg (.t 5))⟩,
      ⟨(some 4), none, .a (.asg (.t 7))⟩])
    (.seq
     (.block 0
      (.loop [3, 4, 5, 16]
       (.seq
        (.seq
         (.reg [⟨(some 8), none, .q (.mov (.t 4))⟩,
           ⟨(some 9), none, .q (.bin false .gtr (.t 8) (.c (.int .i64 127)))⟩])
         (.cond (.t 9)
          .skip
          (.exit 0)))
        (.block 1
         (.seq
          (.reg [⟨(some 10), none, .q (.mov (.t 3))⟩,
            ⟨(some 11), none, .q (.mov (.t 4))⟩,
            ⟨(some 12), none, .q (.bin false .and (.t 11) (.c (.int .i64 127)))⟩,
            ⟨(some 13), none, .q (.bin false .or (.t 12) (.c (.int .i64 128)))⟩,
            ⟨(some 14), none, .q (.conv .u8 (.t 13))⟩,
            ⟨(some 15), none, .a (.bsl 5 1 [.t 14])⟩,
            ⟨(some 16), none, .a (.app true 5 1 1 (.t 10) (.t 15))⟩,
            ⟨(some 3), none, .a (.asg (.t 16))⟩])
          (.reg [⟨(some 17), none, .q (.mov (.t 4))⟩,
            ⟨(some 18), none, .q (.bin false .shr (.t 17) (.c (.int .u64 7)))⟩,
            ⟨(some 4), none, .a (.asg (.t 18))⟩]))))))
     (.seq
      (.reg [⟨(some 19), none, .q (.mov (.t 3))⟩,
        ⟨(some 20), none, .q (.mov (.t 4))⟩,
        ⟨(some 21), none, .q (.conv .u8 (.t 20))⟩,
        ⟨(some 22), none, .a (.bsl 5 1 [.t 21])⟩,
        ⟨(some 23), none, .a (.app true 5 1 1 (.t 19) (.t 22))⟩,
        ⟨(some 24), none, .q (.b2s (.t 23))⟩,
        ⟨(some 2), none, .a (.asg (.t 24))⟩])
      .ret))))


theorem d114 (n0 : Int) (h0 : 0 ≤ n0) (h1 : n0 ≤ 1048576) : Does Go.Proofs.Try.prog 114 [.v (.int .i64 n0)] false (.v (.string (numB n0))) [.dead] := by
  refine does_intro (mc := m114) (N := 25) (rs := [2]) (fx := []) 1 rfl (by decide +kernel) ?_
  simp only [m114, isnilV, appV, extV, slcV, lhs, bnd, Int.toNat_zero, Nat.sub_zero, Option.map_none, allocV, mksV, ZC.av, evO, evC, evB, evS, zipA_cons, putS_t, putS_f, mqV, maV, asgV, boxV, cellsS, storL, ownO, rd, brw, brws, bare, bares, plain, plains, killV, killVs, isB, isS, fadV, loadV, iadV, inRow, getC, List.getD_cons_zero, List.getD_cons_succ, List.all_cons, List.all_nil, List.length_cons, List.length_nil, List.drop_zero, List.drop_succ_cons, List.take_succ_cons, List.take_zero, Bool.and_true, Bool.and_false, Bool.false_and, Bool.true_and, Bool.and_self, Option.bind_some, Nat.reduceEqDiff, Nat.reduceBEq, Nat.reduceLT, Nat.reduceLeDiff, Nat.reduceAdd, Nat.reduceSub, Nat.add_zero, Nat.zero_add, Nat.zero_lt_succ, Nat.le_refl, reduceIte, Bool.false_eq_true, false_implies, implies_true, true_and, and_true, and_self, Bool.not_true, Bool.not_false, beq_self_eq_true, bne_self_eq_false, List.nil_append, dV, dcallV_W, callV_W, callW, callX, sK_ap, giveS, calleeV, ioAll, argL, lendPlain, lendAll, outL, frzB, frzBs, List.map_cons, List.map_nil, List.append_nil, lenV, keepS, List.length_map, Int.toNat_natCast, Int.natCast_nonneg, take_map_len, List.take_length, convV, bslV, pullS, buildV, b2sV, bytesA, frzRows, frzRow, frzL, storeV, ovw, setC, setOf, cellOf, ioOf, ioAll, isOwner, shapeOf, keepK, takeK, List.take_nil, List.drop_nil, List.cons_append, List.set_set, List.length_set, List.getElem?_cons_zero, List.getElem?_cons_succ, List.set_cons_zero, List.set_cons_succ, Option.map_some, List.isPrefixOf]
  refine callK_i (d140 n0 h0 h1) ?_
  simp only [isnilV, appV, extV, slcV, lhs, bnd, Int.toNat_zero, Nat.sub_zero, Option.map_none, allocV, mksV, ZC.av, evO, evC, evB, evS, zipA_cons, putS_t, putS_f, mqV, maV, asgV, boxV, cellsS, storL, ownO, rd, brw, brws, bare, bares, plain, plains, killV, killVs, isB, isS, fadV, loadV, iadV, inRow, getC, List.getD_cons_zero, List.getD_cons_succ, List.all_cons, List.all_nil, List.length_cons, List.length_nil, List.drop_zero, List.drop_succ_cons, List.take_succ_cons, List.take_zero, Bool.and_true, Bool.and_false, Bool.false_and, Bool.true_and, Bool.and_self, Option.bind_some, Nat.reduceEqDiff, Nat.reduceBEq, Nat.reduceLT, Nat.reduceLeDiff, Nat.reduceAdd, Nat.reduceSub, Nat.add_zero, Nat.zero_add, Nat.zero_lt_succ, Nat.le_refl, reduceIte, Bool.false_eq_true, false_implies, implies_true, true_and, and_true, and_self, Bool.not_true, Bool.not_false, beq_self_eq_true, bne_self_eq_false, List.nil_append, dV, dcallV_W, callV_W, callW, callX, sK_ap, giveS, calleeV, ioAll, argL, lendPlain, lendAll, outL, frzB, frzBs, List.map_cons, List.map_nil, List.append_nil, lenV, keepS, List.length_map, Int.toNat_natCast, Int.natCast_nonneg, take_map_len, List.take_length, convV, bslV, pullS, buildV, b2sV, bytesA, frzRows, frzRow, frzL, storeV, ovw, setC, setOf, cellOf, ioOf, ioAll, isOwner, shapeOf, keepK, takeK, List.take_nil, List.drop_nil, List.cons_append, List.set_set, List.length_set, List.getElem?_cons_zero, List.getElem?_cons_succ, List.set_cons_zero, List.set_cons_succ, Option.map_some, List.isPrefixOf]
  refine awp_loop (fun p : List Int × Int => p.1 ++ nbL p.2 = nbL (2 * n0) ∧ 0 ≤ p.2 ∧ p.2 ≤ 2 * n0 ∧ (p.1.length : Int) + p.2 ≤ 2 * n0) (fun p => stl [(3, .usl 5 1 (p.1.map bR)), (4, .v (.int .i64 p.2)), (5, .dead), (16, .dead)]) (fun p => p.2.toNat) ([], 2 * n0) ⟨rfl, by simp only; omega, by simp only; omega, by simp⟩ ?_ ?_
  · simp only [isnilV, appV, extV, slcV, lhs, bnd, Int.toNat_zero, Nat.sub_zero, Option.map_none, allocV, mksV, ZC.av, evO, evC, evB, evS, zipA_cons, putS_t, putS_f, mqV, maV, asgV, boxV, cellsS, storL, ownO, rd, brw, brws, bare, bares, plain, plains, killV, killVs, isB, isS, fadV, loadV, iadV, inRow, getC, List.getD_cons_zero, List.getD_cons_succ, List.all_cons, List.all_nil, List.length_cons, List.length_nil, List.drop_zero, List.drop_succ_cons, List.take_succ_cons, List.take_zero, Bool.and_true, Bool.and_false, Bool.false_and, Bool.true_and, Bool.and_self, Option.bind_some, Nat.reduceEqDiff, Nat.reduceBEq, Nat.reduceLT, Nat.reduceLeDiff, Nat.reduceAdd, Nat.reduceSub, Nat.add_zero, Nat.zero_add, Nat.zero_lt_succ, Nat.le_refl, reduceIte, Bool.false_eq_true, false_implies, implies_true, true_and, and_true, and_self, Bool.not_true, Bool.not_false, beq_self_eq_true, bne_self_eq_false, List.nil_append, dV, dcallV_W, callV_W, callW, callX, sK_ap, giveS, calleeV, ioAll, argL, lendPlain, lendAll, outL, frzB, frzBs, List.map_cons, List.map_nil, List.append_nil, lenV, keepS, List.length_map, Int.toNat_natCast, Int.natCast_nonneg, take_map_len, List.take_length, convV, bslV, pullS, buildV, b2sV, bytesA, frzRows, frzRow, frzL, storeV, ovw, setC, setOf, cellOf, ioOf, ioAll, isOwner, shapeOf, keepK, takeK, List.take_nil, List.drop_nil, List.cons_append, List.set_set, List.length_set, List.getElem?_cons_zero, List.getElem?_cons_succ, List.set_cons_zero, List.set_cons_succ, Option.map_some, List.isPrefixOf]
  · rintro ⟨ns, n⟩ ⟨p0, p1, p2, p3⟩
    simp only at p0 p1 p2 p3
    simp only [isnilV, appV, extV, slcV, lhs, bnd, Int.toNat_zero, Nat.sub_zero, Option.map_none, allocV, mksV, ZC.av, evO, evC, evB, evS, zipA_cons, putS_t, putS_f, mqV, maV, asgV, boxV, cellsS, storL, ownO, rd, brw, brws, bare, bares, plain, plains, killV, killVs, isB, isS, fadV, loadV, iadV, inRow, getC, List.getD_cons_zero, List.getD_cons_succ, List.all_cons, List.all_nil, List.length_cons, List.length_nil, List.drop_zero, List.drop_succ_cons, List.take_succ_cons, List.take_zero, Bool.and_true, Bool.and_false, Bool.false_and, Bool.true_and, Bool.and_self, Option.bind_some, Nat.reduceEqDiff, Nat.reduceBEq, Nat.reduceLT, Nat.reduceLeDiff, Nat.reduceAdd, Nat.reduceSub, Nat.add_zero, Nat.zero_add, Nat.zero_lt_succ, Nat.le_refl, reduceIte, Bool.false_eq_true, false_implies, implies_true, true_and, and_true, and_self, Bool.not_true, Bool.not_false, beq_self_eq_true, bne_self_eq_false, List.nil_append, dV, dcallV_W, callV_W, callW, callX, sK_ap, giveS, calleeV, ioAll, argL, lendPlain, lendAll, outL, frzB, frzBs, List.map_cons, List.map_nil, List.append_nil, lenV, keepS, List.length_map, Int.toNat_natCast, Int.natCast_nonneg, take_map_len, List.take_length, convV, bslV, pullS, buildV, b2sV, bytesA, frzRows, frzRow, frzL, storeV, ovw, setC, setOf, cellOf, ioOf, ioAll, isOwner, shapeOf, keepK, takeK, List.take_nil, List.drop_nil, List.cons_append, List.set_set, List.length_set, List.getElem?_cons_zero, List.getElem?_cons_succ, List.set_cons_zero, List.set_cons_succ, Option.map_some, List.isPrefixOf]
    refine cK_cut (fun h => ?_) (fun h => ?_)
    · have h2 : 127 < n := by simpa using h
      have ea := and127 n p1 (by omega)
      have eo := or128 (n % 128) (by omega) (by omega)
      have eu : IntKind.u8.wrap (n % 128 + 128) = n % 128 + 128 := by rw [IntKind.wrap_u8]; omega
      have ed : n.fdiv 128 = n / 128 := Int.fdiv_eq_ediv_of_nonneg _ (by omega)
      simp only [evW, ea, eo, eu, isnilV, appV, extV, slcV, lhs, bnd, Int.toNat_zero, Nat.sub_zero, Option.map_none, allocV, mksV, ZC.av, evO, evC, evB, evS, zipA_cons, putS_t, putS_f, mqV, maV, asgV, boxV, cellsS, storL, ownO, rd, brw, brws, bare, bares, plain, plains, killV, killVs, isB, isS, fadV, loadV, iadV, inRow, getC, List.getD_cons_zero, List.getD_cons_succ, List.all_cons, List.all_nil, List.length_cons, List.length_nil, List.drop_zero, List.drop_succ_cons, List.take_succ_cons, List.take_zero, Bool.and_true, Bool.and_false, Bool.false_and, Bool.true_and, Bool.and_self, Option.bind_some, Nat.reduceEqDiff, Nat.reduceBEq, Nat.reduceLT, Nat.reduceLeDiff, Nat.reduceAdd, Nat.reduceSub, Nat.add_zero, Nat.zero_add, Nat.zero_lt_succ, Nat.le_refl, reduceIte, Bool.false_eq_true, false_implies, implies_true, true_and, and_true, and_self, Bool.not_true, Bool.not_false, beq_self_eq_true, bne_self_eq_false, List.nil_append, dV, dcallV_W, callV_W, callW, callX, sK_ap, giveS, calleeV, ioAll, argL, lendPlain, lendAll, outL, frzB, frzBs, List.map_cons, List.map_nil, List.append_nil, lenV, keepS, List.length_map, Int.toNat_natCast, Int.natCast_nonneg, take_map_len, List.take_length, convV, bslV, pullS, buildV, b2sV, bytesA, frzRows, frzRow, frzL, storeV, ovw, setC, setOf, cellOf, ioOf, ioAll, isOwner, shapeOf, keepK, takeK, List.take_nil, List.drop_nil, List.cons_append, List.set_set, List.length_set, List.getElem?_cons_zero, List.getElem?_cons_succ, List.set_cons_zero, List.set_cons_succ, Option.map_some, List.isPrefixOf]
      have e : nbL n = (n % 128 + 128) :: nbL (n / 128) := by rw [nbL, dif_pos (by omega)]
      have em : min (Int.toNat 7) IntKind.i64.bits = 7 := rfl
      have ed2 : n.fdiv (2 ^ 7) = n / 128 := ed
      rw [em, ed2, map_snoc]
      refine ⟨by omega, by omega, by decide, (ns ++ [n % 128 + 128], n / 128), ⟨?_, by simp only; omega, by simp only; omega, ?_⟩, by simp only; omega, rfl⟩
      · rw [← p0, e]; simp
      · simp only [List.length_append, List.length_cons, List.length_nil]; omega
    · have h2 : ¬ 128 ≤ n := by have : ¬ 127 < n := by simpa using h
                                omega
      have eu : IntKind.u8.wrap n = n := by rw [IntKind.wrap_u8]; omega
      have e : nbL n = [n] := by rw [nbL, dif_neg h2]
      rw [e] at p0
      simp only [eu, isnilV, appV, extV, slcV, lhs, bnd, Int.toNat_zero, Nat.sub_zero, Option.map_none, allocV, mksV, ZC.av, evO, evC, evB, evS, zipA_cons, putS_t, putS_f, mqV, maV, asgV, boxV, cellsS, storL, ownO, rd, brw, brws, bare, bares, plain, plains, killV, killVs, isB, isS, fadV, loadV, iadV, inRow, getC, List.getD_cons_zero, List.getD_cons_succ, List.all_cons, List.all_nil, List.length_cons, List.length_nil, List.drop_zero, List.drop_succ_cons, List.take_succ_cons, List.take_zero, Bool.and_true, Bool.and_false, Bool.false_and, Bool.true_and, Bool.and_self, Option.bind_some, Nat.reduceEqDiff, Nat.reduceBEq, Nat.reduceLT, Nat.reduceLeDiff, Nat.reduceAdd, Nat.reduceSub, Nat.add_zero, Nat.zero_add, Nat.zero_lt_succ, Nat.le_refl, reduceIte, Bool.false_eq_true, false_implies, implies_true, true_and, and_true, and_self, Bool.not_true, Bool.not_false, beq_self_eq_true, bne_self_eq_false, List.nil_append, dV, dcallV_W, callV_W, callW, callX, sK_ap, giveS, calleeV, ioAll, argL, lendPlain, lendAll, outL, frzB, frzBs, List.map_cons, List.map_nil, List.append_nil, lenV, keepS, List.length_map, Int.toNat_natCast, Int.natCast_nonneg, take_map_len, List.take_length, convV, bslV, pullS, buildV, b2sV, bytesA, frzRows, frzRow, frzL, storeV, ovw, setC, setOf, cellOf, ioOf, ioAll, isOwner, shapeOf, keepK, takeK, List.take_nil, List.drop_nil, List.cons_append, List.set_set, List.length_set, List.getElem?_cons_zero, List.getElem?_cons_succ, List.set_cons_zero, List.set_cons_succ, Option.map_some, List.isPrefixOf]
      refine ⟨by omega, by omega, ?_⟩
      rw [map_snoc, bR_frz, bytesA_map, p0]
      simp only [numB, isnilV, appV, extV, slcV, lhs, bnd, Int.toNat_zero, Nat.sub_zero, Option.map_none, allocV, mksV, ZC.av, evO, evC, evB, evS, zipA_cons, putS_t, putS_f, mqV, maV, asgV, boxV, cellsS, storL, ownO, rd, brw, brws, bare, bares, plain, plains, killV, killVs, isB, isS, fadV, loadV, iadV, inRow, getC, List.getD_cons_zero, List.getD_cons_succ, List.all_cons, List.all_nil, List.length_cons, List.length_nil, List.drop_zero, List.drop_succ_cons, List.take_succ_cons, List.take_zero, Bool.and_true, Bool.and_false, Bool.false_and, Bool.true_and, Bool.and_self, Option.bind_some, Nat.reduceEqDiff, Nat.reduceBEq, Nat.reduceLT, Nat.reduceLeDiff, Nat.reduceAdd, Nat.reduceSub, Nat.add_zero, Nat.zero_add, Nat.zero_lt_succ, Nat.le_refl, reduceIte, Bool.false_eq_true, false_implies, implies_true, true_and, and_true, and_self, Bool.not_true, Bool.not_false, beq_self_eq_true, bne_self_eq_false, List.nil_append, dV, dcallV_W, callV_W, callW, callX, sK_ap, giveS, calleeV, ioAll, argL, lendPlain, lendAll, outL, frzB, frzBs, List.map_cons, List.map_nil, List.append_nil, lenV, keepS, List.length_map, Int.toNat_natCast, Int.natCast_nonneg, take_map_len, List.take_length, convV, bslV, pullS, buildV, b2sV, bytesA, frzRows, frzRow, frzL, storeV, ovw, setC, setOf, cellOf, ioOf, ioAll, isOwner, shapeOf, keepK, takeK, List.take_nil, List.drop_nil, List.cons_append, List.set_set, List.length_set, List.getElem?_cons_zero, List.getElem?_cons_succ, List.set_cons_zero, List.set_cons_succ, Option.map_some, List.isPrefixOf, retVC, cellV', evR, nfz, nfzs, nfzss, List.contains_nil, List.contains_cons, Bool.or_false, or_true]

/-- The bytes of a name. -/
def nameB (s : ByteArray) : ByteArray := strA [IntKind.u8.wrap s.size] ++ s
theorem nameB_size (s : ByteArray) : (nameB s).size = 1 + s.size := by
  rw [nameB, ByteArray.size_append, strA_size]; rfl

/-- loop.example/g00837/spec.l1NameBytes -/
def m112 : MC :=
  (.seq
   (.reg [⟨(some 2), none, .a (.asg (.c (.string ({ data := #[] }))))⟩])
   (.seq
    (.reg [⟨(some 3), none, .q (.mov (.t 0))⟩,
      ⟨(some 4), none, .q (.len true (.t 3))⟩,
      ⟨(some 5), none, .q (.conv .u8 (.t 4))⟩,
      ⟨(some 6), none, .a (.bsl 5 1 [.t 5])⟩,
      ⟨(some 7), none, .q (.b2s (.t 6))⟩,
      ⟨(some 8), none, .q (.mov (.t 0))⟩,
      ⟨(some 9), none, .q (.bin false .add (.t 7) (.t 8))⟩,
      ⟨(some 2), none, .a (.asg (.t 9))⟩])
    .ret))


theorem d112 (s : ByteArray) (hs : (s.size : Int) ≤ 1048576) : Does Go.Proofs.Try.prog 112 [.v (.string s)] false (.v (.string (nameB s))) [.dead] := by
  have hz : (strA [IntKind.u8.wrap s.size]).size = 1 := strA_size _
  refine does_intro (mc := m112) (N := 10) (rs := [2]) (fx := []) 1 rfl (by decide +kernel) ?_
  simp only [m112, isnilV, appV, extV, slcV, lhs, bnd, Int.toNat_zero, Nat.sub_zero, Option.map_none, allocV, mksV, ZC.av, evO, evC, evB, evS, zipA_cons, putS_t, putS_f, mqV, maV, asgV, boxV, cellsS, storL, ownO, rd, brw, brws, bare, bares, plain, plains, killV, killVs, isB, isS, fadV, loadV, iadV, inRow, getC, List.getD_cons_zero, List.getD_cons_succ, List.all_cons, List.all_nil, List.length_cons, List.length_nil, List.drop_zero, List.drop_succ_cons, List.take_succ_cons, List.take_zero, Bool.and_true, Bool.and_false, Bool.false_and, Bool.true_and, Bool.and_self, Option.bind_some, Nat.reduceEqDiff, Nat.reduceBEq, Nat.reduceLT, Nat.reduceLeDiff, Nat.reduceAdd, Nat.reduceSub, Nat.add_zero, Nat.zero_add, Nat.zero_lt_succ, Nat.le_refl, reduceIte, Bool.false_eq_true, false_implies, implies_true, true_and, and_true, and_self, Bool.not_true, Bool.not_false, beq_self_eq_true, bne_self_eq_false, List.nil_append, dV, dcallV_W, callV_W, callW, callX, sK_ap, giveS, calleeV, ioAll, argL, lendPlain, lendAll, outL, frzB, frzBs, List.map_cons, List.map_nil, List.append_nil, lenV, keepS, List.length_map, Int.toNat_natCast, Int.natCast_nonneg, take_map_len, List.take_length, convV, bslV, pullS, buildV, b2sV, bytesA, frzRows, frzRow, frzL, storeV, ovw, setC, setOf, cellOf, ioOf, ioAll, isOwner, shapeOf, keepK, takeK, List.take_nil, List.drop_nil, List.cons_append, List.set_set, List.length_set, List.getElem?_cons_zero, List.getElem?_cons_succ, List.set_cons_zero, List.set_cons_succ, Option.map_some, List.isPrefixOf]
  refine ⟨by rw [hz]; omega, ?_⟩
  simp only [nameB, isnilV, appV, extV, slcV, lhs, bnd, Int.toNat_zero, Nat.sub_zero, Option.map_none, allocV, mksV, ZC.av, evO, evC, evB, evS, zipA_cons, putS_t, putS_f, mqV, maV, asgV, boxV, cellsS, storL, ownO, rd, brw, brws, bare, bares, plain, plains, killV, killVs, isB, isS, fadV, loadV, iadV, inRow, getC, List.getD_cons_zero, List.getD_cons_succ, List.all_cons, List.all_nil, List.length_cons, List.length_nil, List.drop_zero, List.drop_succ_cons, List.take_succ_cons, List.take_zero, Bool.and_true, Bool.and_false, Bool.false_and, Bool.true_and, Bool.and_self, Option.bind_some, Nat.reduceEqDiff, Nat.reduceBEq, Nat.reduceLT, Nat.reduceLeDiff, Nat.reduceAdd, Nat.reduceSub, Nat.add_zero, Nat.zero_add, Nat.zero_lt_succ, Nat.le_refl, reduceIte, Bool.false_eq_true, false_implies, implies_true, true_and, and_true, and_self, Bool.not_true, Bool.not_false, beq_self_eq_true, bne_self_eq_false, List.nil_append, dV, dcallV_W, callV_W, callW, callX, sK_ap, giveS, calleeV, ioAll, argL, lendPlain, lendAll, outL, frzB, frzBs, List.map_cons, List.map_nil, List.append_nil, lenV, keepS, List.length_map, Int.toNat_natCast, Int.natCast_nonneg, take_map_len, List.take_length, convV, bslV, pullS, buildV, b2sV, bytesA, frzRows, frzRow, frzL, storeV, ovw, setC, setOf, cellOf, ioOf, ioAll, isOwner, shapeOf, keepK, takeK, List.take_nil, List.drop_nil, List.cons_append, List.set_set, List.length_set, List.getElem?_cons_zero, List.getElem?_cons_succ, List.set_cons_zero, List.set_cons_succ, Option.map_some, List.isPrefixOf, retVC, cellV', evR, nfz, nfzs, nfzss, List.contains_nil, List.contains_cons, Bool.or_false, or_true]

/-- loop.example/g00837/impl.nameBytes -/
def m115 : MC :=
  (.seq
   (.reg [⟨(some 2), none, .a (.asg (.c (.string ({ data := #[] }))))⟩])
   (.seq
    (.reg [⟨(some 3), none, .q (.mov (.t 0))⟩,
      ⟨(some 4), none, .q (.len true (.t 3))⟩,
      ⟨(some 5), none, .q (.conv .u8 (.t 4))⟩,
      ⟨(some 6), none, .a (.bsl 5 1 [.t 5])⟩,
      ⟨(some 7), none, .q (.b2s (.t 6))⟩,
      ⟨(some 8), none, .q (.mov (.t 0))⟩,
      ⟨(some 9), none, .q (.bin false .add (.t 7) (.t 8))⟩,
      ⟨(some 2), none, .a (.asg (.t 9))⟩])
    .ret))


theorem d115 (s : ByteArray) (hs : (s.size : Int) ≤ 1048576) : Does Go.Proofs.Try.prog 115 [.v (.string s)] false (.v (.string (nameB s))) [.dead] := by
  have hz : (strA [IntKind.u8.wrap s.size]).size = 1 := strA_size _
  refine does_intro (mc := m115) (N := 10) (rs := [2]) (fx := []) 1 rfl (by decide +kernel) ?_
  simp only [m115, isnilV, appV, extV, slcV, lhs, bnd, Int.toNat_zero, Nat.sub_zero, Option.map_none, allocV, mksV, ZC.av, evO, evC, evB, evS, zipA_cons, putS_t, putS_f, mqV, maV, asgV, boxV, cellsS, storL, ownO, rd, brw, brws, bare, bares, plain, plains, killV, killVs, isB, isS, fadV, loadV, iadV, inRow, getC, List.getD_cons_zero, List.getD_cons_succ, List.all_cons, List.all_nil, List.length_cons, List.length_nil, List.drop_zero, List.drop_succ_cons, List.take_succ_cons, List.take_zero, Bool.and_true, Bool.and_false, Bool.false_and, Bool.true_and, Bool.and_self, Option.bind_some, Nat.reduceEqDiff, Nat.reduceBEq, Nat.reduceLT, Nat.reduceLeDiff, Nat.reduceAdd, Nat.reduceSub, Nat.add_zero, Nat.zero_add, Nat.zero_lt_succ, Nat.le_refl, reduceIte, Bool.false_eq_true, false_implies, implies_true, true_and, and_true, and_self, Bool.not_true, Bool.not_false, beq_self_eq_true, bne_self_eq_false, List.nil_append, dV, dcallV_W, callV_W, callW, callX, sK_ap, giveS, calleeV, ioAll, argL, lendPlain, lendAll, outL, frzB, frzBs, List.map_cons, List.map_nil, List.append_nil, lenV, keepS, List.length_map, Int.toNat_natCast, Int.natCast_nonneg, take_map_len, List.take_length, convV, bslV, pullS, buildV, b2sV, bytesA, frzRows, frzRow, frzL, storeV, ovw, setC, setOf, cellOf, ioOf, ioAll, isOwner, shapeOf, keepK, takeK, List.take_nil, List.drop_nil, List.cons_append, List.set_set, List.length_set, List.getElem?_cons_zero, List.getElem?_cons_succ, List.set_cons_zero, List.set_cons_succ, Option.map_some, List.isPrefixOf]
  refine ⟨by rw [hz]; omega, ?_⟩
  simp only [nameB, isnilV, appV, extV, slcV, lhs, bnd, Int.toNat_zero, Nat.sub_zero, Option.map_none, allocV, mksV, ZC.av, evO, evC, evB, evS, zipA_cons, putS_t, putS_f, mqV, maV, asgV, boxV, cellsS, storL, ownO, rd, brw, brws, bare, bares, plain, plains, killV, killVs, isB, isS, fadV, loadV, iadV, inRow, getC, List.getD_cons_zero, List.getD_cons_succ, List.all_cons, List.all_nil, List.length_cons, List.length_nil, List.drop_zero, List.drop_succ_cons, List.take_succ_cons, List.take_zero, Bool.and_true, Bool.and_false, Bool.false_and, Bool.true_and, Bool.and_self, Option.bind_some, Nat.reduceEqDiff, Nat.reduceBEq, Nat.reduceLT, Nat.reduceLeDiff, Nat.reduceAdd, Nat.reduceSub, Nat.add_zero, Nat.zero_add, Nat.zero_lt_succ, Nat.le_refl, reduceIte, Bool.false_eq_true, false_implies, implies_true, true_and, and_true, and_self, Bool.not_true, Bool.not_false, beq_self_eq_true, bne_self_eq_false, List.nil_append, dV, dcallV_W, callV_W, callW, callX, sK_ap, giveS, calleeV, ioAll, argL, lendPlain, lendAll, outL, frzB, frzBs, List.map_cons, List.map_nil, List.append_nil, lenV, keepS, List.length_map, Int.toNat_natCast, Int.natCast_nonneg, take_map_len, List.take_length, convV, bslV, pullS, buildV, b2sV, bytesA, frzRows, frzRow, frzL, storeV, ovw, setC, setOf, cellOf, ioOf, ioAll, isOwner, shapeOf, keepK, takeK, List.take_nil, List.drop_nil, List.cons_append, List.set_set, List.length_set, List.getElem?_cons_zero, List.getElem?_cons_succ, List.set_cons_zero, List.set_cons_succ, Option.map_some, List.isPrefixOf, retVC, cellV', evR, nfz, nfzs, nfzss, List.contains_nil, List.contains_cons, Bool.or_false, or_true]

/-- loop.example/g00837/impl.one -/
def m116 : MC :=
  (.seq
   (.reg [⟨(some 2), none, .a (.asg (.c (.string ({ data := #[] }))))⟩])
   (.seq
    (.reg [⟨(some 3), none, .q (.mov (.t 0))⟩,
      ⟨(some 4), none, .q (.conv .u8 (.t 3))⟩,
      ⟨(some 5), none, .a (.bsl 5 1 [.t 4])⟩,
      ⟨(some 6), none, .q (.b2s (.t 5))⟩,
      ⟨(some 2), none, .a (.asg (.t 6))⟩])
    .ret))


theorem d116 (n : Int) : Does Go.Proofs.Try.prog 116 [.v (.int .i64 n)] false (.v (.string (strA [IntKind.u8.wrap n]))) [.dead] := by
  refine does_intro (mc := m116) (N := 7) (rs := [2]) (fx := []) 1 rfl (by decide +kernel) ?_
  simp only [m116, isnilV, appV, extV, slcV, lhs, bnd, Int.toNat_zero, Nat.sub_zero, Option.map_none, allocV, mksV, ZC.av, evO, evC, evB, evS, zipA_cons, putS_t, putS_f, mqV, maV, asgV, boxV, cellsS, storL, ownO, rd, brw, brws, bare, bares, plain, plains, killV, killVs, isB, isS, fadV, loadV, iadV, inRow, getC, List.getD_cons_zero, List.getD_cons_succ, List.all_cons, List.all_nil, List.length_cons, List.length_nil, List.drop_zero, List.drop_succ_cons, List.take_succ_cons, List.take_zero, Bool.and_true, Bool.and_false, Bool.false_and, Bool.true_and, Bool.and_self, Option.bind_some, Nat.reduceEqDiff, Nat.reduceBEq, Nat.reduceLT, Nat.reduceLeDiff, Nat.reduceAdd, Nat.reduceSub, Nat.add_zero, Nat.zero_add, Nat.zero_lt_succ, Nat.le_refl, reduceIte, Bool.false_eq_true, false_implies, implies_true, true_and, and_true, and_self, Bool.not_true, Bool.not_false, beq_self_eq_true, bne_self_eq_false, List.nil_append, dV, dcallV_W, callV_W, callW, callX, sK_ap, giveS, calleeV, ioAll, argL, lendPlain, lendAll, outL, frzB, frzBs, List.map_cons, List.map_nil, List.append_nil, lenV, keepS, List.length_map, Int.toNat_natCast, Int.natCast_nonneg, take_map_len, List.take_length, convV, bslV, pullS, buildV, b2sV, bytesA, frzRows, frzRow, frzL, storeV, ovw, setC, setOf, cellOf, ioOf, ioAll, isOwner, shapeOf, keepK, takeK, List.take_nil, List.drop_nil, List.cons_append, List.set_set, List.length_set, List.getElem?_cons_zero, List.getElem?_cons_succ, List.set_cons_zero, List.set_cons_succ, Option.map_some, List.isPrefixOf]
  simp only [isnilV, appV, extV, slcV, lhs, bnd, Int.toNat_zero, Nat.sub_zero, Option.map_none, allocV, mksV, ZC.av, evO, evC, evB, evS, zipA_cons, putS_t, putS_f, mqV, maV, asgV, boxV, cellsS, storL, ownO, rd, brw, brws, bare, bares, plain, plains, killV, killVs, isB, isS, fadV, loadV, iadV, inRow, getC, List.getD_cons_zero, List.getD_cons_succ, List.all_cons, List.all_nil, List.length_cons, List.length_nil, List.drop_zero, List.drop_succ_cons, List.take_succ_cons, List.take_zero, Bool.and_true, Bool.and_false, Bool.false_and, Bool.true_and, Bool.and_self, Option.bind_some, Nat.reduceEqDiff, Nat.reduceBEq, Nat.reduceLT, Nat.reduceLeDiff, Nat.reduceAdd, Nat.reduceSub, Nat.add_zero, Nat.zero_add, Nat.zero_lt_succ, Nat.le_refl, reduceIte, Bool.false_eq_true, false_implies, implies_true, true_and, and_true, and_self, Bool.not_true, Bool.not_false, beq_self_eq_true, bne_self_eq_false, List.nil_append, dV, dcallV_W, callV_W, callW, callX, sK_ap, giveS, calleeV, ioAll, argL, lendPlain, lendAll, outL, frzB, frzBs, List.map_cons, List.map_nil, List.append_nil, lenV, keepS, List.length_map, Int.toNat_natCast, Int.natCast_nonneg, take_map_len, List.take_length, convV, bslV, pullS, buildV, b2sV, bytesA, frzRows, frzRow, frzL, storeV, ovw, setC, setOf, cellOf, ioOf, ioAll, isOwner, shapeOf, keepK, takeK, List.take_nil, List.drop_nil, List.cons_append, List.set_set, List.length_set, List.getElem?_cons_zero, List.getElem?_cons_succ, List.set_cons_zero, List.set_cons_succ, Option.map_some, List.isPrefixOf, retVC, cellV', evR, nfz, nfzs, nfzss, List.contains_nil, List.contains_cons, Bool.or_false, or_true]

def e8 (n : Int) (j : Nat) : Int := IntKind.u8.wrap (n.fdiv (2 ^ (8 * (7 - j))))
def eight (n : Int) (j : Nat) : List Int := (List.range j).map (e8 n)
theorem eight_succ (n : Int) (j : Nat) : eight n (j + 1) = eight n j ++ [e8 n j] := by simp [eight, List.range_succ]
theorem sh8 {j : Nat} (h : j < 8) : IntKind.i64.wrap (8 * (7 - (j : Int))) = ((8 * (7 - j) : Nat) : Int) := by rw [w64 _ (by omega)]; omega
theorem sh8u {j : Nat} (h : j < 8) : IntKind.u64.wrap ((8 * (7 - j) : Nat) : Int) = ((8 * (7 - j) : Nat) : Int) := by
  have e : ∀ n : Int, IntKind.u64.wrap n = n % 18446744073709551616 := by intro n; simp [IntKind.wrap, IntKind.bits, IntKind.signed]
  rw [e]; omega
theorem sh8m {j : Nat} : min (8 * (7 - j)) IntKind.i64.bits = 8 * (7 - j) := by
  have : IntKind.i64.bits = 64 := rfl
  omega

/-- loop.example/g00837/spec.l9Eight -/
def m113 : MC :=
  (.seq
   (.reg [⟨(some 2), none, .a (.asg (.c (.string ({ data := #[] }))))⟩])
   (.seq
    (.reg [⟨(some 3), none, .a (.asg (.nils 5 1))⟩])
    (.seq
     (.seq
      (.reg [⟨(some 4), none, .a (.asg (.c (.int .i64 7)))⟩])
      (.block 0
       (.loop [0, 3, 4, 17]
        (.seq
         (.seq
          (.reg [⟨(some 5), none, .q (.mov (.t 4))⟩,
            ⟨(some 6), none, .q (.bin false .geq (.t 5) (.c (.int .i64 0)))⟩])
          (.cond (.t 6)
           .skip
           (.exit 0)))
         (.seq
          (.block 1
           (.reg [⟨(some 9), none, .q (.mov (.t 3))⟩,
             ⟨(some 10), none, .q (.mov (.t 0))⟩,
             ⟨(some 11), none, .q (.mov (.t 4))⟩,
             ⟨(some 12), none, .q (.bin false .mul (.c (.int .i64 8)) (.t 11))⟩,
             ⟨(some 13), none, .q (.conv .u64 (.t 12))⟩,
             ⟨(some 14), none, .q (.bin false .shr (.t 10) (.t 13))⟩,
             ⟨(some 15), none, .q (.conv .u8 (.t 14))⟩,
             ⟨(some 16), none, .a (.bsl 5 1 [.t 15])⟩,
             ⟨(some 17), none, .a (.app true 5 1 1 (.t 9) (.t 16))⟩,
             ⟨(some 3), none, .a (.asg (.t 17))⟩]))
          (.reg [⟨(some 7), none, .q (.mov (.t 4))⟩,
            ⟨(some 8), none, .q (.bin false .sub (.t 7) (.c (.int .i64 1)))⟩,
            ⟨(some 4), none, .a (.asg (.t 8))⟩]))))))
     (.seq
      (.reg [⟨(some 18), none, .q (.mov (.t 3))⟩,
        ⟨(some 19), none, .q (.b2s (.t 18))⟩,
        ⟨(some 2), none, .a (.asg (.t 19))⟩])
      .ret))))


theorem d113 (n : Int) : Does Go.Proofs.Try.prog 113 [.v (.int .i64 n)] false (.v (.string (strA (eight n 8)))) [.dead] := by
  refine does_intro (mc := m113) (N := 20) (rs := [2]) (fx := []) 1 rfl (by decide +kernel) ?_
  simp only [m113, isnilV, appV, extV, slcV, lhs, bnd, Int.toNat_zero, Nat.sub_zero, Option.map_none, allocV, mksV, ZC.av, evO, evC, evB, evS, zipA_cons, putS_t, putS_f, mqV, maV, asgV, boxV, cellsS, storL, ownO, rd, brw, brws, bare, bares, plain, plains, killV, killVs, isB, isS, fadV, loadV, iadV, inRow, getC, List.getD_cons_zero, List.getD_cons_succ, List.all_cons, List.all_nil, List.length_cons, List.length_nil, List.drop_zero, List.drop_succ_cons, List.take_succ_cons, List.take_zero, Bool.and_true, Bool.and_false, Bool.false_and, Bool.true_and, Bool.and_self, Option.bind_some, Nat.reduceEqDiff, Nat.reduceBEq, Nat.reduceLT, Nat.reduceLeDiff, Nat.reduceAdd, Nat.reduceSub, Nat.add_zero, Nat.zero_add, Nat.zero_lt_succ, Nat.le_refl, reduceIte, Bool.false_eq_true, false_implies, implies_true, true_and, and_true, and_self, Bool.not_true, Bool.not_false, beq_self_eq_true, bne_self_eq_false, List.nil_append, dV, dcallV_W, callV_W, callW, callX, sK_ap, giveS, calleeV, ioAll, argL, lendPlain, lendAll, outL, frzB, frzBs, List.map_cons, List.map_nil, List.append_nil, lenV, keepS, List.length_map, Int.toNat_natCast, Int.natCast_nonneg, take_map_len, List.take_length, convV, bslV, pullS, buildV, b2sV, bytesA, frzRows, frzRow, frzL, storeV, ovw, setC, setOf, cellOf, ioOf, ioAll, isOwner, shapeOf, keepK, takeK, List.take_nil, List.drop_nil, List.cons_append, List.set_set, List.length_set, List.getElem?_cons_zero, List.getElem?_cons_succ, List.set_cons_zero, List.set_cons_succ, Option.map_some, List.isPrefixOf]
  refine awp_loop (fun j : Nat => j ≤ 8) (fun j => stl [(0, .v (.int .i64 n)), (3, .usl 5 1 ((eight n j).map bR)), (4, .v (.int .i64 (7 - (j : Int)))), (17, .dead)]) (fun j => 8 - j) 0 (by omega) ?_ ?_
  · simp only [isnilV, appV, extV, slcV, lhs, bnd, Int.toNat_zero, Nat.sub_zero, Option.map_none, allocV, mksV, ZC.av, evO, evC, evB, evS, zipA_cons, putS_t, putS_f, mqV, maV, asgV, boxV, cellsS, storL, ownO, rd, brw, brws, bare, bares, plain, plains, killV, killVs, isB, isS, fadV, loadV, iadV, inRow, getC, List.getD_cons_zero, List.getD_cons_succ, List.all_cons, List.all_nil, List.length_cons, List.length_nil, List.drop_zero, List.drop_succ_cons, List.take_succ_cons, List.take_zero, Bool.and_true, Bool.and_false, Bool.false_and, Bool.true_and, Bool.and_self, Option.bind_some, Nat.reduceEqDiff, Nat.reduceBEq, Nat.reduceLT, Nat.reduceLeDiff, Nat.reduceAdd, Nat.reduceSub, Nat.add_zero, Nat.zero_add, Nat.zero_lt_succ, Nat.le_refl, reduceIte, Bool.false_eq_true, false_implies, implies_true, true_and, and_true, and_self, Bool.not_true, Bool.not_false, beq_self_eq_true, bne_self_eq_false, List.nil_append, dV, dcallV_W, callV_W, callW, callX, sK_ap, giveS, calleeV, ioAll, argL, lendPlain, lendAll, outL, frzB, frzBs, List.map_cons, List.map_nil, List.append_nil, lenV, keepS, List.length_map, Int.toNat_natCast, Int.natCast_nonneg, take_map_len, List.take_length, convV, bslV, pullS, buildV, b2sV, bytesA, frzRows, frzRow, frzL, storeV, ovw, setC, setOf, cellOf, ioOf, ioAll, isOwner, shapeOf, keepK, takeK, List.take_nil, List.drop_nil, List.cons_append, List.set_set, List.length_set, List.getElem?_cons_zero, List.getElem?_cons_succ, List.set_cons_zero, List.set_cons_succ, Option.map_some, List.isPrefixOf]
    rfl
  · intro j hj
    simp only [isnilV, appV, extV, slcV, lhs, bnd, Int.toNat_zero, Nat.sub_zero, Option.map_none, allocV, mksV, ZC.av, evO, evC, evB, evS, zipA_cons, putS_t, putS_f, mqV, maV, asgV, boxV, cellsS, storL, ownO, rd, brw, brws, bare, bares, plain, plains, killV, killVs, isB, isS, fadV, loadV, iadV, inRow, getC, List.getD_cons_zero, List.getD_cons_succ, List.all_cons, List.all_nil, List.length_cons, List.length_nil, List.drop_zero, List.drop_succ_cons, List.take_succ_cons, List.take_zero, Bool.and_true, Bool.and_false, Bool.false_and, Bool.true_and, Bool.and_self, Option.bind_some, Nat.reduceEqDiff, Nat.reduceBEq, Nat.reduceLT, Nat.reduceLeDiff, Nat.reduceAdd, Nat.reduceSub, Nat.add_zero, Nat.zero_add, Nat.zero_lt_succ, Nat.le_refl, reduceIte, Bool.false_eq_true, false_implies, implies_true, true_and, and_true, and_self, Bool.not_true, Bool.not_false, beq_self_eq_true, bne_self_eq_false, List.nil_append, dV, dcallV_W, callV_W, callW, callX, sK_ap, giveS, calleeV, ioAll, argL, lendPlain, lendAll, outL, frzB, frzBs, List.map_cons, List.map_nil, List.append_nil, lenV, keepS, List.length_map, Int.toNat_natCast, Int.natCast_nonneg, take_map_len, List.take_length, convV, bslV, pullS, buildV, b2sV, bytesA, frzRows, frzRow, frzL, storeV, ovw, setC, setOf, cellOf, ioOf, ioAll, isOwner, shapeOf, keepK, takeK, List.take_nil, List.drop_nil, List.cons_append, List.set_set, List.length_set, List.getElem?_cons_zero, List.getElem?_cons_succ, List.set_cons_zero, List.set_cons_succ, Option.map_some, List.isPrefixOf]
    refine cK_cut (fun h => ?_) (fun h => ?_)
    · have h2 : j < 8 := by have : 0 ≤ 7 - (j : Int) := by simpa using h
                            omega
      simp only [evW, sh8 h2, sh8u h2, sh8m, isnilV, appV, extV, slcV, lhs, bnd, Int.toNat_zero, Nat.sub_zero, Option.map_none, allocV, mksV, ZC.av, evO, evC, evB, evS, zipA_cons, putS_t, putS_f, mqV, maV, asgV, boxV, cellsS, storL, ownO, rd, brw, brws, bare, bares, plain, plains, killV, killVs, isB, isS, fadV, loadV, iadV, inRow, getC, List.getD_cons_zero, List.getD_cons_succ, List.all_cons, List.all_nil, List.length_cons, List.length_nil, List.drop_zero, List.drop_succ_cons, List.take_succ_cons, List.take_zero, Bool.and_true, Bool.and_false, Bool.false_and, Bool.true_and, Bool.and_self, Option.bind_some, Nat.reduceEqDiff, Nat.reduceBEq, Nat.reduceLT, Nat.reduceLeDiff, Nat.reduceAdd, Nat.reduceSub, Nat.add_zero, Nat.zero_add, Nat.zero_lt_succ, Nat.le_refl, reduceIte, Bool.false_eq_true, false_implies, implies_true, true_and, and_true, and_self, Bool.not_true, Bool.not_false, beq_self_eq_true, bne_self_eq_false, List.nil_append, dV, dcallV_W, callV_W, callW, callX, sK_ap, giveS, calleeV, ioAll, argL, lendPlain, lendAll, outL, frzB, frzBs, List.map_cons, List.map_nil, List.append_nil, lenV, keepS, List.length_map, Int.toNat_natCast, Int.natCast_nonneg, take_map_len, List.take_length, convV, bslV, pullS, buildV, b2sV, bytesA, frzRows, frzRow, frzL, storeV, ovw, setC, setOf, cellOf, ioOf, ioAll, isOwner, shapeOf, keepK, takeK, List.take_nil, List.drop_nil, List.cons_append, List.set_set, List.length_set, List.getElem?_cons_zero, List.getElem?_cons_succ, List.set_cons_zero, List.set_cons_succ, Option.map_some, List.isPrefixOf]
      have hl8 : (eight n j).length = j := by simp [eight]
      have ee : IntKind.u8.wrap (n.fdiv (2 ^ (8 * (7 - j)))) = e8 n j := rfl
      rw [ee, map_snoc, ← eight_succ, w64 _ (by omega), hl8]
      refine ⟨by omega, by omega, j + 1, by omega, by omega, ?_⟩
      have e2 : (7 : Int) - j - 1 = 7 - ((j + 1 : Nat) : Int) := by omega
      rw [e2]
    · have h2 : j = 8 := by have : ¬ 0 ≤ 7 - (j : Int) := by simpa using h
                            omega
      subst h2
      simp only [isnilV, appV, extV, slcV, lhs, bnd, Int.toNat_zero, Nat.sub_zero, Option.map_none, allocV, mksV, ZC.av, evO, evC, evB, evS, zipA_cons, putS_t, putS_f, mqV, maV, asgV, boxV, cellsS, storL, ownO, rd, brw, brws, bare, bares, plain, plains, killV, killVs, isB, isS, fadV, loadV, iadV, inRow, getC, List.getD_cons_zero, List.getD_cons_succ, List.all_cons, List.all_nil, List.length_cons, List.length_nil, List.drop_zero, List.drop_succ_cons, List.take_succ_cons, List.take_zero, Bool.and_true, Bool.and_false, Bool.false_and, Bool.true_and, Bool.and_self, Option.bind_some, Nat.reduceEqDiff, Nat.reduceBEq, Nat.reduceLT, Nat.reduceLeDiff, Nat.reduceAdd, Nat.reduceSub, Nat.add_zero, Nat.zero_add, Nat.zero_lt_succ, Nat.le_refl, reduceIte, Bool.false_eq_true, false_implies, implies_true, true_and, and_true, and_self, Bool.not_true, Bool.not_false, beq_self_eq_true, bne_self_eq_false, List.nil_append, dV, dcallV_W, callV_W, callW, callX, sK_ap, giveS, calleeV, ioAll, argL, lendPlain, lendAll, outL, frzB, frzBs, List.map_cons, List.map_nil, List.append_nil, lenV, keepS, List.length_map, Int.toNat_natCast, Int.natCast_nonneg, take_map_len, List.take_length, convV, bslV, pullS, buildV, b2sV, bytesA, frzRows, frzRow, frzL, storeV, ovw, setC, setOf, cellOf, ioOf, ioAll, isOwner, shapeOf, keepK, takeK, List.take_nil, List.drop_nil, List.cons_append, List.set_set, List.length_set, List.getElem?_cons_zero, List.getElem?_cons_succ, List.set_cons_zero, List.set_cons_succ, Option.map_some, List.isPrefixOf]
      rw [bR_frz, bytesA_map]
      simp only [isnilV, appV, extV, slcV, lhs, bnd, Int.toNat_zero, Nat.sub_zero, Option.map_none, allocV, mksV, ZC.av, evO, evC, evB, evS, zipA_cons, putS_t, putS_f, mqV, maV, asgV, boxV, cellsS, storL, ownO, rd, brw, brws, bare, bares, plain, plains, killV, killVs, isB, isS, fadV, loadV, iadV, inRow, getC, List.getD_cons_zero, List.getD_cons_succ, List.all_cons, List.all_nil, List.length_cons, List.length_nil, List.drop_zero, List.drop_succ_cons, List.take_succ_cons, List.take_zero, Bool.and_true, Bool.and_false, Bool.false_and, Bool.true_and, Bool.and_self, Option.bind_some, Nat.reduceEqDiff, Nat.reduceBEq, Nat.reduceLT, Nat.reduceLeDiff, Nat.reduceAdd, Nat.reduceSub, Nat.add_zero, Nat.zero_add, Nat.zero_lt_succ, Nat.le_refl, reduceIte, Bool.false_eq_true, false_implies, implies_true, true_and, and_true, and_self, Bool.not_true, Bool.not_false, beq_self_eq_true, bne_self_eq_false, List.nil_append, dV, dcallV_W, callV_W, callW, callX, sK_ap, giveS, calleeV, ioAll, argL, lendPlain, lendAll, outL, frzB, frzBs, List.map_cons, List.map_nil, List.append_nil, lenV, keepS, List.length_map, Int.toNat_natCast, Int.natCast_nonneg, take_map_len, List.take_length, convV, bslV, pullS, buildV, b2sV, bytesA, frzRows, frzRow, frzL, storeV, ovw, setC, setOf, cellOf, ioOf, ioAll, isOwner, shapeOf, keepK, takeK, List.take_nil, List.drop_nil, List.cons_append, List.set_set, List.length_set, List.getElem?_cons_zero, List.getElem?_cons_succ, List.set_cons_zero, List.set_cons_succ, Option.map_some, List.isPrefixOf, retVC, cellV', evR, nfz, nfzs, nfzss, List.contains_nil, List.contains_cons, Bool.or_false, or_true]
end Go.AM
