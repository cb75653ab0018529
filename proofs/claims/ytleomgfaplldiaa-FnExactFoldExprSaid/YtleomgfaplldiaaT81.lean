/- Contracts of functions of the given program, for the law FnExactFoldExpr: what they return and what they write, under the bounds that each theorem states. -/
import Derived.Test.YtleomgfaplldiaaC9
import Derived.Test.YtleomgfaplldiaaT80b
import Derived.Test.YtleomgfaplldiaaT52
import Derived.Test.YtleomgfaplldiaaT25
namespace Go.AM
set_option linter.unusedVariables false
set_option linter.unusedSimpArgs false

def whole (n : Int) : Bool := decide (-1000000000 ≤ n) && decide (n ≤ 1000000000)
theorem whole_iff {n : Int} : whole n = true ↔ -1000000000 ≤ n ∧ n ≤ 1000000000 := by simp [whole]
def knOk (l : List Known) : Bool := decide ((l.length : Int) ≤ 40) && l.all fun k => whole k.value
theorem knOk_no {l : List Known} {i : Nat} (h : i < l.length) (h2 : whole l[i].value = false) : knOk l = false := by
  have : (l.all fun k => whole k.value) = false := by
    rw [List.all_eq_false]
    exact ⟨l[i], List.getElem_mem h, by simp [h2]⟩
  simp [knOk, this]

/-- loop.example/g00837/impl.isWhole -/
def m133 : MC :=
  (.seq
   (.reg [⟨(some 2), none, .a (.asg (.c (.bool false)))⟩])
   (.seq
    (.reg [⟨(some 3), none, .q (.mov (.t 0))⟩,
      ⟨(some 4), none, .a (.call (.fn 63) false [.lend (.t 3), .lend (.c (.int .i64 (-1000000000))), .lend (.c (.int .i64 1000000000))])⟩,
      ⟨(some 2), none, .a (.asg (.t 4))⟩])
    .ret))


theorem d133 (n : Int) : Does Go.Proofs.Try.prog 133 [.v (.int .i64 n)] false (.v (.bool (whole n))) [.dead] := by
  refine does_intro (mc := m133) (N := 5) (rs := [2]) (fx := []) 1 rfl (by decide +kernel) ?_
  simp only [m133, EV, Nat.reduceEqDiff, Nat.reduceBEq, Nat.reduceLT, Nat.reduceLeDiff, Nat.reduceAdd, Nat.reduceSub, reduceIte]
  refine callK_i (d63 _ _ _) ?_
  simp only [EV, Nat.reduceEqDiff, Nat.reduceBEq, Nat.reduceLT, Nat.reduceLeDiff, Nat.reduceAdd, Nat.reduceSub, reduceIte]
  simp only [whole, EV, Nat.reduceEqDiff, Nat.reduceBEq, Nat.reduceLT, Nat.reduceLeDiff, Nat.reduceAdd, Nat.reduceSub, reduceIte, retVC, cellV', evR, nfz, nfzs, nfzss, List.contains_nil, List.contains_cons, Bool.or_false, or_true]

/-- loop.example/g00837/impl.areKnown$1 -/
def m132 : MC :=
  (.seq
   (.reg [⟨(some 1), none, .a (.box 132 (.t 0))⟩,
     ⟨(some 2), none, .a (.asg (.c (.bool false)))⟩])
   (.seq
    (.reg [⟨(some 3), none, .q (.fad 2 (.t 1))⟩,
      ⟨(some 4), none, .q (.load false 1 (.t 3))⟩,
      ⟨(some 5), none, .a (.call (.fn 133) false [.lend (.t 4)])⟩,
      ⟨(some 6), none, .q (.un .not (.t 5))⟩,
      ⟨(some 2), none, .a (.asg (.t 6))⟩])
    .ret))


theorem d132 (k : Known) : Does Go.Proofs.Try.prog 132 [.agg k.c] false (.v (.bool (!whole k.value))) [.dead] := by
  refine does_intro (mc := m132) (N := 7) (rs := [2]) (fx := []) 1 rfl (by decide +kernel) ?_
  simp only [m132, Known.c, EV, Nat.reduceEqDiff, Nat.reduceBEq, Nat.reduceLT, Nat.reduceLeDiff, Nat.reduceAdd, Nat.reduceSub, reduceIte]
  refine callK_i (d133 _) ?_
  simp only [EV, Nat.reduceEqDiff, Nat.reduceBEq, Nat.reduceLT, Nat.reduceLeDiff, Nat.reduceAdd, Nat.reduceSub, reduceIte]
  simp only [EV, Nat.reduceEqDiff, Nat.reduceBEq, Nat.reduceLT, Nat.reduceLeDiff, Nat.reduceAdd, Nat.reduceSub, reduceIte, retVC, cellV', evR, nfz, nfzs, nfzss, List.contains_nil, List.contains_cons, Bool.or_false, or_true]

/-- slices.IndexFunc[[]loop.example/g00837/impl.Known,loop.example/g00837/impl.Known] -/
def m134 : MC :=
  (.seq
   (.reg [⟨(some 4), none, .a (.asg (.c (.int .i64 0)))⟩])
   (.seq
    (.seq
     (.reg [⟨(some 6), none, .q (.mov (.t 0))⟩,
       ⟨(some 7), none, .q (.len false (.t 6))⟩,
       ⟨(some 8), none, .q (.mov (.c (.int .i64 0)))⟩])
     (.block 0
      (.loop [0, 1, 7, 8]
       (.seq
        (.reg [⟨(some 9), none, .q (.bin false .lss (.t 8) (.t 7))⟩])
        (.seq
         (.cond (.t 9)
          .skip
          (.exit 0))
         (.seq
          (.block 1
           (.seq
            (.reg [⟨(some 10), none, .q (.mov (.t 8))⟩,
              ⟨(some 5), none, .a (.asg (.t 10))⟩])
            (.seq
             (.reg [⟨(some 11), none, .q (.mov (.t 1))⟩,
               ⟨(some 12), none, .q (.mov (.t 0))⟩,
               ⟨(some 13), none, .q (.mov (.t 5))⟩,
               ⟨(some 14), none, .q (.iad 3 (.t 12) (.t 13))⟩,
               ⟨(some 15), none, .q (.load true 3 (.t 14))⟩,
               ⟨(some 16), none, .a (.call (.t 11) false [.lend (.t 15)])⟩])
             (.cond (.t 16)
              (.seq
               (.reg [⟨(some 17), none, .q (.mov (.t 5))⟩,
                 ⟨(some 4), none, .a (.asg (.t 17))⟩])
               .ret)
              .skip))))
          (.reg [⟨(some 18), none, .q (.bin false .add (.t 8) (.c (.int .i64 1)))⟩,
            ⟨(some 8), none, .q (.mov (.t 18))⟩])))))))
    (.seq
     (.reg [⟨(some 4), none, .a (.asg (.c (.int .i64 (-1))))⟩])
     .ret)))


theorem d134 (l : List Known) (hl : l.length < 9223372036854775807) (f : Nat) (caps : List AV) (q : Known → Bool) (hp : plains caps = true) (hb : bares caps = true) (hk : ∀ K, killVs K caps = caps) (hf : ∀ (st : St), frzBs st caps = caps)
    (hq : ∀ s ∈ l, Does Go.Proofs.Try.prog f (.agg s.c :: caps) false (.v (.bool (q s))) (.dead :: caps.map fun _ => .dead)) :
    Does Go.Proofs.Try.prog 134 [.fsl 3 (l.map Known.c), .clo f caps] false (.v (.int .i64 (findI q l))) [.dead, .dead] := by
  refine does_intro (mc := m134) (N := 19) (rs := [4]) (fx := []) 2 rfl (by decide +kernel) ?_
  simp only [m134, EV, Nat.reduceEqDiff, Nat.reduceBEq, Nat.reduceLT, Nat.reduceLeDiff, Nat.reduceAdd, Nat.reduceSub, reduceIte]
  refine awp_loop (fun i : Nat => i ≤ l.length ∧ ∀ j (hj : j < l.length), j < i → q l[j] = false) (fun i => stl [(0, .fsl 3 (l.map Known.c)), (1, .clo f caps), (7, .v (.int .i64 (l.length : Int))), (8, .v (.int .i64 (i : Int)))]) (fun i => l.length - i) 0 ⟨Nat.zero_le _, fun j hj h => absurd h (by omega)⟩ ?_ ?_
  · simp only [hp, hb, hk, EV, Nat.reduceEqDiff, Nat.reduceBEq, Nat.reduceLT, Nat.reduceLeDiff, Nat.reduceAdd, Nat.reduceSub, reduceIte]
    rfl
  · rintro i ⟨hi, hno⟩
    simp only [EV, Nat.reduceEqDiff, Nat.reduceBEq, Nat.reduceLT, Nat.reduceLeDiff, Nat.reduceAdd, Nat.reduceSub, reduceIte]
    refine cK_cut (fun h => ?_) (fun h => ?_)
    · have h1 : i < l.length := by simpa using h
      have h2 : (i : Int) < (l.length : Int) := by omega
      simp only [KnownE, nth_map h1, h2, hp, hb, EV, Nat.reduceEqDiff, Nat.reduceBEq, Nat.reduceLT, Nat.reduceLeDiff, Nat.reduceAdd, Nat.reduceSub, reduceIte]
      refine callK_i (hq l[i] (List.getElem_mem h1)) ?_
      simp only [EV, Nat.reduceEqDiff, Nat.reduceBEq, Nat.reduceLT, Nat.reduceLeDiff, Nat.reduceAdd, Nat.reduceSub, reduceIte]
      refine cK_cut (fun h => ?_) (fun h => ?_)
      · simp only [EV, Nat.reduceEqDiff, Nat.reduceBEq, Nat.reduceLT, Nat.reduceLeDiff, Nat.reduceAdd, Nat.reduceSub, reduceIte]
        simp only [findI_at h1 h hno, EV, Nat.reduceEqDiff, Nat.reduceBEq, Nat.reduceLT, Nat.reduceLeDiff, Nat.reduceAdd, Nat.reduceSub, reduceIte, retVC, cellV', evR, nfz, nfzs, nfzss, List.contains_nil, List.contains_cons, Bool.or_false, or_true]
      · simp only [hp, hb, hk, EV, Nat.reduceEqDiff, Nat.reduceBEq, Nat.reduceLT, Nat.reduceLeDiff, Nat.reduceAdd, Nat.reduceSub, reduceIte]
        rw [w64 _ (by omega)]
        refine ⟨i + 1, ⟨by omega, ?_⟩, by omega, rfl⟩
        intro j hj hji
        by_cases e : j = i
        · subst e; exact h
        · exact hno j hj (by omega)
    · have h1 : i = l.length := by have : ¬ (i : Int) < l.length := by simpa using h
                                   omega
      subst h1
      simp only [EV, Nat.reduceEqDiff, Nat.reduceBEq, Nat.reduceLT, Nat.reduceLeDiff, Nat.reduceAdd, Nat.reduceSub, reduceIte]
      simp only [findI_no (fun j hj => hno j hj hj), EV, Nat.reduceEqDiff, Nat.reduceBEq, Nat.reduceLT, Nat.reduceLeDiff, Nat.reduceAdd, Nat.reduceSub, reduceIte, retVC, cellV', evR, nfz, nfzs, nfzss, List.contains_nil, List.contains_cons, Bool.or_false, or_true]

/-- slices.ContainsFunc[[]loop.example/g00837/impl.Known,loop.example/g00837/impl.Known] -/
def m131 : MC :=
  (.seq
   (.reg [⟨(some 4), none, .a (.asg (.c (.bool false)))⟩])
   (.seq
    (.reg [⟨(some 5), none, .q (.mov (.t 0))⟩,
      ⟨(some 6), none, .q (.mov (.t 1))⟩,
      ⟨(some 7), none, .a (.call (.fn 134) false [.lend (.t 5), .lend (.t 6)])⟩,
      ⟨(some 8), none, .q (.bin false .geq (.t 7) (.c (.int .i64 0)))⟩,
      ⟨(some 4), none, .a (.asg (.t 8))⟩])
    .ret))


theorem d131 (l : List Known) (hl : l.length < 9223372036854775807) (f : Nat) (caps : List AV) (q : Known → Bool) (hp : plains caps = true) (hb : bares caps = true) (hk : ∀ K, killVs K caps = caps) (hf : ∀ (st : St), frzBs st caps = caps)
    (hq : ∀ s ∈ l, Does Go.Proofs.Try.prog f (.agg s.c :: caps) false (.v (.bool (q s))) (.dead :: caps.map fun _ => .dead)) :
    Does Go.Proofs.Try.prog 131 [.fsl 3 (l.map Known.c), .clo f caps] false (.v (.bool (l.any q))) [.dead, .dead] := by
  refine does_intro (mc := m131) (N := 9) (rs := [4]) (fx := []) 2 rfl (by decide +kernel) ?_
  simp only [m131, hp, hb, hk, hf, EV, Nat.reduceEqDiff, Nat.reduceBEq, Nat.reduceLT, Nat.reduceLeDiff, Nat.reduceAdd, Nat.reduceSub, reduceIte]
  refine callK_i (d134 l hl f caps q hp hb hk hf hq) ?_
  simp only [EV, Nat.reduceEqDiff, Nat.reduceBEq, Nat.reduceLT, Nat.reduceLeDiff, Nat.reduceAdd, Nat.reduceSub, reduceIte]
  simp only [findI_any, EV, Nat.reduceEqDiff, Nat.reduceBEq, Nat.reduceLT, Nat.reduceLeDiff, Nat.reduceAdd, Nat.reduceSub, reduceIte, retVC, cellV', evR, nfz, nfzs, nfzss, List.contains_nil, List.contains_cons, Bool.or_false, or_true]

/-- loop.example/g00837/impl.areKnown -/
def m104 : MC :=
  (.seq
   (.reg [⟨(some 2), none, .a (.asg (.c (.bool false)))⟩])
   (.seq
    (.reg [⟨(some 3), none, .q (.mov (.t 0))⟩,
      ⟨(some 4), none, .q (.len false (.t 3))⟩,
      ⟨(some 5), none, .q (.bin false .leq (.t 4) (.c (.int .i64 40)))⟩,
      ⟨(some 6), none, .q (.mov (.t 5))⟩,
      ⟨(some 7), (some (6, true)), .q (.mov (.t 0))⟩,
      ⟨(some 8), (some (6, true)), .a (.call (.fn 131) false [.lend (.t 7), .lend (.fn 132)])⟩,
      ⟨(some 9), (some (6, true)), .q (.un .not (.t 8))⟩,
      ⟨(some 10), none, .q (.pick (.t 6) (.t 9) (.c (.bool false)))⟩,
      ⟨(some 2), none, .a (.asg (.t 10))⟩])
    .ret))


theorem d104 (l : List Known) (hl : l.length < 9223372036854775807) : Does Go.Proofs.Try.prog 104 [.fsl 3 (l.map Known.c)] false (.v (.bool (knOk l))) [.dead] := by
  refine does_intro (mc := m104) (N := 11) (rs := [2]) (fx := []) 1 rfl (by decide +kernel) ?_
  simp only [m104, EV, Nat.reduceEqDiff, Nat.reduceBEq, Nat.reduceLT, Nat.reduceLeDiff, Nat.reduceAdd, Nat.reduceSub, reduceIte]
  have e : (!l.any fun k => !whole k.value) = l.all fun k => whole k.value := by simp [List.all_eq_not_any_not]
  have dk := d131 l hl 132 [] (fun k => !whole k.value) rfl rfl (fun _ => rfl) (fun _ => rfl) (fun s _ => d132 s)
  repeat' (first
    | (refine gK_cut (fun h => ?_) (fun h => ?_) <;> simp only [h, EV, Nat.reduceEqDiff, Nat.reduceBEq, Nat.reduceLT, Nat.reduceLeDiff, Nat.reduceAdd, Nat.reduceSub, reduceIte])
    | (refine cK_cut (fun h => ?_) (fun h => ?_) <;> simp only [h, EV, Nat.reduceEqDiff, Nat.reduceBEq, Nat.reduceLT, Nat.reduceLeDiff, Nat.reduceAdd, Nat.reduceSub, reduceIte])
    | (refine callK_i dk ?_ <;> simp only [h, EV, Nat.reduceEqDiff, Nat.reduceBEq, Nat.reduceLT, Nat.reduceLeDiff, Nat.reduceAdd, Nat.reduceSub, reduceIte]))
  all_goals simp only [knOk, e, h, Bool.true_and, Bool.false_and, EV, Nat.reduceEqDiff, Nat.reduceBEq, Nat.reduceLT, Nat.reduceLeDiff, Nat.reduceAdd, Nat.reduceSub, reduceIte, retVC, cellV', evR, nfz, nfzs, nfzss, List.contains_nil, List.contains_cons, Bool.or_false, or_true]

/-- loop.example/g00837/spec.l5Known -/
def m129 : MC :=
  (.seq
   (.reg [⟨(some 2), none, .a (.asg (.c (.bool false)))⟩])
   (.seq
    (.seq
     (.reg [⟨(some 5), none, .q (.mov (.t 0))⟩,
       ⟨(some 6), none, .q (.len false (.t 5))⟩,
       ⟨(some 7), none, .q (.mov (.c (.int .i64 0)))⟩])
     (.block 0
      (.loop [0, 5, 6, 7]
       (.seq
        (.reg [⟨(some 8), none, .q (.bin false .lss (.t 7) (.t 6))⟩])
        (.seq
         (.cond (.t 8)
          .skip
          (.exit 0))
         (.seq
          (.block 1
           (.seq
            (.reg [⟨(some 9), none, .q (.iad 3 (.t 5) (.t 7))⟩,
              ⟨(some 10), none, .q (.load true 3 (.t 9))⟩,
              ⟨(some 4), none, .a (.alloc 132 [.v (.string ({ data := #[] })), .v (.string ({ data := #[] })), .v (.int .i64 0)])⟩,
              ⟨none, none, .a (.store 3 (.t 4) (.t 10))⟩])
            (.seq
             (.reg [⟨(some 11), none, .q (.fad 2 (.t 4))⟩,
               ⟨(some 12), none, .q (.load false 1 (.t 11))⟩,
               ⟨(some 13), none, .a (.call (.fn 61) false [.lend (.t 12), .lend (.c (.int .i64 (-1000000000))), .lend (.c (.int .i64 1000000000))])⟩,
               ⟨(some 14), none, .q (.un .not (.t 13))⟩])
             (.cond (.t 14)
              (.seq
               (.reg [⟨(some 2), none, .a (.asg (.c (.bool false)))⟩])
               .ret)
              .skip))))
          (.reg [⟨(some 15), none, .q (.bin false .add (.t 7) (.c (.int .i64 1)))⟩,
            ⟨(some 7), none, .q (.mov (.t 15))⟩])))))))
    (.seq
     (.reg [⟨(some 16), none, .q (.mov (.t 0))⟩,
       ⟨(some 17), none, .q (.len false (.t 16))⟩,
       ⟨(some 18), none, .q (.bin false .leq (.t 17) (.c (.int .i64 40)))⟩,
       ⟨(some 2), none, .a (.asg (.t 18))⟩])
     .ret)))


set_option maxRecDepth 100000 in
theorem d129 (l : List Known) (hl : l.length < 9223372036854775807) : Does Go.Proofs.Try.prog 129 [.fsl 3 (l.map Known.c)] false (.v (.bool (knOk l))) [.dead] := by
  refine does_intro (mc := m129) (N := 19) (rs := [2]) (fx := []) 1 rfl (by decide +kernel) ?_
  simp only [m129, EV, Nat.reduceEqDiff, Nat.reduceBEq, Nat.reduceLT, Nat.reduceLeDiff, Nat.reduceAdd, Nat.reduceSub, reduceIte]
  refine awp_loop (fun i : Nat => i ≤ l.length ∧ (l.take i).all (fun k => whole k.value) = true) (fun i => stl [(0, .fsl 3 (l.map Known.c)), (5, .fsl 3 (l.map Known.c)), (6, .v (.int .i64 (l.length : Int))), (7, .v (.int .i64 (i : Int)))]) (fun i => l.length - i) 0 ⟨Nat.zero_le _, by simp⟩ ?_ ?_
  · simp only [EV, Nat.reduceEqDiff, Nat.reduceBEq, Nat.reduceLT, Nat.reduceLeDiff, Nat.reduceAdd, Nat.reduceSub, reduceIte]
    rfl
  · rintro i ⟨hi, hok⟩
    simp only [EV, Nat.reduceEqDiff, Nat.reduceBEq, Nat.reduceLT, Nat.reduceLeDiff, Nat.reduceAdd, Nat.reduceSub, reduceIte]
    refine cK_cut (fun h => ?_) (fun h => ?_)
    · have h1 : i < l.length := by simpa using h
      have h2 : (i : Int) < (l.length : Int) := by omega
      simp only [nth_map h1, h2, Known.c, EV, Nat.reduceEqDiff, Nat.reduceBEq, Nat.reduceLT, Nat.reduceLeDiff, Nat.reduceAdd, Nat.reduceSub, reduceIte]
      refine callK_i (d61 _ _ _) ?_
      simp only [EV, Nat.reduceEqDiff, Nat.reduceBEq, Nat.reduceLT, Nat.reduceLeDiff, Nat.reduceAdd, Nat.reduceSub, reduceIte]
      refine cK_cut (fun h => ?_) (fun h => ?_)
      · have hw : whole l[i].value = false := by simp only [Bool.not_eq_true'] at h; exact h
        simp only [EV, Nat.reduceEqDiff, Nat.reduceBEq, Nat.reduceLT, Nat.reduceLeDiff, Nat.reduceAdd, Nat.reduceSub, reduceIte]
        simp only [knOk_no h1 hw, EV, Nat.reduceEqDiff, Nat.reduceBEq, Nat.reduceLT, Nat.reduceLeDiff, Nat.reduceAdd, Nat.reduceSub, reduceIte, retVC, cellV', evR, nfz, nfzs, nfzss, List.contains_nil, List.contains_cons, Bool.or_false, or_true]
      · have hw : whole l[i].value = true := by simp only [Bool.not_eq_false'] at h; exact h
        simp only [EV, Nat.reduceEqDiff, Nat.reduceBEq, Nat.reduceLT, Nat.reduceLeDiff, Nat.reduceAdd, Nat.reduceSub, reduceIte]
        rw [w64 _ (by omega)]
        refine ⟨i + 1, ⟨by omega, ?_⟩, by omega, rfl⟩
        rw [List.take_succ_eq_append_getElem h1, List.all_append, hok]
        simp [hw]
    · have h1 : i = l.length := by have : ¬ (i : Int) < l.length := by simpa using h
                                   omega
      subst h1
      rw [List.take_length] at hok
      simp only [EV, Nat.reduceEqDiff, Nat.reduceBEq, Nat.reduceLT, Nat.reduceLeDiff, Nat.reduceAdd, Nat.reduceSub, reduceIte]
      simp only [knOk, hok, Bool.and_true, EV, Nat.reduceEqDiff, Nat.reduceBEq, Nat.reduceLT, Nat.reduceLeDiff, Nat.reduceAdd, Nat.reduceSub, reduceIte, retVC, cellV', evR, nfz, nfzs, nfzss, List.contains_nil, List.contains_cons, Bool.or_false, or_true]

theorem tdiv_b {a : Int} (b : Int) (ha : whole a = true) : -1000000000 ≤ a.tdiv b ∧ a.tdiv b ≤ 1000000000 := by
  have h := whole_iff.1 ha
  have e : (a.tdiv b).natAbs = a.natAbs / b.natAbs := Int.natAbs_tdiv a b
  have e2 : a.natAbs / b.natAbs ≤ a.natAbs := Nat.div_le_self _ _
  omega
theorem tmod_b {a : Int} (b : Int) (ha : whole a = true) : -1000000000 ≤ a.tmod b ∧ a.tmod b ≤ 1000000000 := by
  have h := whole_iff.1 ha
  have e : (a.tmod b).natAbs = a.natAbs % b.natAbs := Int.natAbs_tmod a b
  have e2 : a.natAbs % b.natAbs ≤ a.natAbs := Nat.mod_le _ _
  omega
theorem tmod_neg {a b : Int} (h : a.tmod b ≠ 0) : decide (a.tmod b < 0) = decide (a < 0) := by
  by_cases g : a < 0
  · have e : (-a).tmod b = -(a.tmod b) := Int.neg_tmod ..
    have e2 : 0 ≤ (-a).tmod b := Int.tmod_nonneg b (by omega)
    have : a.tmod b < 0 := by omega
    simp [this, g]
  · have e2 : 0 ≤ a.tmod b := Int.tmod_nonneg b (by omega)
    have g2 : ¬ a.tmod b < 0 := by omega
    simp [g, g2]
def adj (a b : Int) : Bool := (a.tmod b != 0) && (decide (a < 0) != decide (b < 0))
def flo (a b : Int) : Int := if adj a b = true then a.tdiv b - 1 else a.tdiv b
def rst (a b : Int) : Int := if adj a b = true then a.tmod b + b else a.tmod b
theorem rst_eq (a b : Int) : b * flo a b = a - rst a b := by
  have e := Int.mul_tdiv_add_tmod a b
  unfold flo rst
  split
  · rw [Int.mul_sub, Int.mul_one]; omega
  · omega
theorem flo_b {a : Int} (b : Int) (ha : whole a = true) : -1000000001 ≤ flo a b ∧ flo a b ≤ 1000000000 := by
  have := tdiv_b b ha
  unfold flo; split <;> omega
theorem rst_b {a b : Int} (ha : whole a = true) (hb : whole b = true) : -2000000000 ≤ rst a b ∧ rst a b ≤ 2000000000 := by
  have := tmod_b b ha
  have h := whole_iff.1 hb
  unfold rst; split <;> omega

/-- loop.example/g00837/spec.l5Floor -/
def m149 : MC :=
  (.seq
   (.reg [⟨(some 4), none, .a (.asg (.c (.int .i64 0)))⟩])
   (.seq
    (.reg [⟨(some 6), none, .q (.mov (.t 0))⟩,
      ⟨(some 7), none, .q (.mov (.t 1))⟩,
      ⟨(some 8), none, .q (.bin false .quo (.t 6) (.t 7))⟩,
      ⟨(some 5), none, .a (.asg (.t 8))⟩])
    (.join [5]
     (.seq
      (.reg [⟨(some 9), none, .q (.mov (.t 0))⟩,
        ⟨(some 10), none, .q (.mov (.t 1))⟩,
        ⟨(some 11), none, .q (.bin false .rem (.t 9) (.t 10))⟩,
        ⟨(some 12), none, .q (.bin false .neq (.t 11) (.c (.int .i64 0)))⟩,
        ⟨(some 13), none, .q (.mov (.t 12))⟩,
        ⟨(some 14), (some (13, true)), .q (.mov (.t 0))⟩,
        ⟨(some 15), (some (13, true)), .q (.bin false .lss (.t 14) (.c (.int .i64 0)))⟩,
        ⟨(some 16), (some (13, true)), .q (.mov (.t 1))⟩,
        ⟨(some 17), (some (13, true)), .q (.bin false .lss (.t 16) (.c (.int .i64 0)))⟩,
        ⟨(some 18), (some (13, true)), .q (.bin true .neq (.t 15) (.t 17))⟩,
        ⟨(some 19), none, .q (.pick (.t 13) (.t 18) (.c (.bool false)))⟩])
      (.cond (.t 19)
       (.reg [⟨(some 20), none, .q (.mov (.t 5))⟩,
         ⟨(some 21), none, .q (.bin false .sub (.t 20) (.c (.int .i64 1)))⟩,
         ⟨(some 5), none, .a (.asg (.t 21))⟩])
       .skip))
     (.seq
      (.reg [⟨(some 22), none, .q (.mov (.t 5))⟩,
        ⟨(some 4), none, .a (.asg (.t 22))⟩])
      .ret))))


set_option maxRecDepth 100000 in
theorem d149 (a b : Int) (ha : whole a = true) (hb : whole b = true) (h0 : b ≠ 0) : Does Go.Proofs.Try.prog 149 [.v (.int .i64 a), .v (.int .i64 b)] false (.v (.int .i64 (flo a b))) [.dead, .dead] := by
  have hq := tdiv_b b ha
  have hr := tmod_b b ha
  refine does_intro (mc := m149) (N := 23) (rs := [4]) (fx := []) 2 rfl (by decide +kernel) ?_
  simp only [m149, EV, Nat.reduceEqDiff, Nat.reduceBEq, Nat.reduceLT, Nat.reduceLeDiff, Nat.reduceAdd, Nat.reduceSub, reduceIte]
  refine ⟨h0, ?_⟩
  rw [w64 (a.tdiv b) (by omega)]
  refine awp_join (fun q : Int => q = flo a b) (fun q => stl [(5, .v (.int .i64 q))]) ?_ ?_
  · simp only [EV, Nat.reduceEqDiff, Nat.reduceBEq, Nat.reduceLT, Nat.reduceLeDiff, Nat.reduceAdd, Nat.reduceSub, reduceIte]
    refine ⟨h0, ?_⟩
    refine gK_cut (fun h => ?_) (fun h => ?_)
    · simp only [h, EV, Nat.reduceEqDiff, Nat.reduceBEq, Nat.reduceLT, Nat.reduceLeDiff, Nat.reduceAdd, Nat.reduceSub, reduceIte]
      refine cK_cut (fun g => ?_) (fun g => ?_)
      · simp only [EV, Nat.reduceEqDiff, Nat.reduceBEq, Nat.reduceLT, Nat.reduceLeDiff, Nat.reduceAdd, Nat.reduceSub, reduceIte]
        rw [w64 (a.tdiv b - 1) (by omega)]
        refine ⟨_, ?_, rfl⟩
        simp_all [flo, adj]
      · simp only [EV, Nat.reduceEqDiff, Nat.reduceBEq, Nat.reduceLT, Nat.reduceLeDiff, Nat.reduceAdd, Nat.reduceSub, reduceIte]
        refine ⟨_, ?_, rfl⟩
        simp_all [flo, adj]
    · simp only [h, EV, Nat.reduceEqDiff, Nat.reduceBEq, Nat.reduceLT, Nat.reduceLeDiff, Nat.reduceAdd, Nat.reduceSub, reduceIte]
      refine ⟨_, ?_, rfl⟩
      simp_all [flo, adj]
  · rintro q rfl
    simp only [EV, Nat.reduceEqDiff, Nat.reduceBEq, Nat.reduceLT, Nat.reduceLeDiff, Nat.reduceAdd, Nat.reduceSub, reduceIte]
    simp only [EV, Nat.reduceEqDiff, Nat.reduceBEq, Nat.reduceLT, Nat.reduceLeDiff, Nat.reduceAdd, Nat.reduceSub, reduceIte, retVC, cellV', evR, nfz, nfzs, nfzss, List.contains_nil, List.contains_cons, Bool.or_false, or_true]

/-- loop.example/g00837/impl.quotient -/
def m136 : MC :=
  (.seq
   (.reg [⟨(some 4), none, .a (.asg (.c (.int .i64 0)))⟩,
     ⟨(some 5), none, .a (.asg (.c (.int .i64 0)))⟩])
   (.seq
    (.dreg [⟨(some 8), none, .q (.mov (.t 0))⟩,
      ⟨(some 9), none, .q (.mov (.t 1))⟩,
      ⟨(some 10), none, .q (.bin false .quo (.t 8) (.t 9))⟩,
      ⟨(some 11), none, .q (.mov (.t 0))⟩,
      ⟨(some 12), none, .q (.mov (.t 1))⟩,
      ⟨(some 13), none, .q (.bin false .rem (.t 11) (.t 12))⟩,
      ⟨(some 6), none, .q (.mov (.t 10))⟩,
      ⟨(some 7), none, .q (.mov (.t 13))⟩])
    (.join [6, 7]
     (.seq
      (.reg [⟨(some 14), none, .q (.mov (.t 7))⟩,
        ⟨(some 15), none, .q (.bin false .neq (.t 14) (.c (.int .i64 0)))⟩,
        ⟨(some 16), none, .q (.mov (.t 15))⟩,
        ⟨(some 17), (some (16, true)), .q (.mov (.t 7))⟩,
        ⟨(some 18), (some (16, true)), .q (.bin false .lss (.t 17) (.c (.int .i64 0)))⟩,
        ⟨(some 19), (some (16, true)), .q (.mov (.t 1))⟩,
        ⟨(some 20), (some (16, true)), .q (.bin false .lss (.t 19) (.c (.int .i64 0)))⟩,
        ⟨(some 21), (some (16, true)), .q (.bin true .neq (.t 18) (.t 20))⟩,
        ⟨(some 22), none, .q (.pick (.t 16) (.t 21) (.c (.bool false)))⟩])
      (.cond (.t 22)
       (.reg [⟨(some 23), none, .q (.mov (.t 6))⟩,
         ⟨(some 24), none, .q (.bin false .sub (.t 23) (.c (.int .i64 1)))⟩,
         ⟨(some 25), none, .q (.mov (.t 7))⟩,
         ⟨(some 26), none, .q (.mov (.t 1))⟩,
         ⟨(some 27), none, .q (.bin false .add (.t 25) (.t 26))⟩,
         ⟨(some 6), none, .a (.asg (.t 24))⟩,
         ⟨(some 7), none, .a (.asg (.t 27))⟩])
       .skip))
     (.seq
      (.reg [⟨(some 28), none, .q (.mov (.t 6))⟩,
        ⟨(some 29), none, .q (.mov (.t 7))⟩,
        ⟨(some 4), none, .a (.asg (.t 28))⟩,
        ⟨(some 5), none, .a (.asg (.t 29))⟩])
      .ret))))


set_option maxRecDepth 100000 in
theorem d136 (a b : Int) (ha : whole a = true) (hb : whole b = true) (h0 : b ≠ 0) : Does Go.Proofs.Try.prog 136 [.v (.int .i64 a), .v (.int .i64 b)] false (.tup [.v (.int .i64 (flo a b)), .v (.int .i64 (rst a b))]) [.dead, .dead] := by
  have hq := tdiv_b b ha
  have hr := tmod_b b ha
  have hb2 := whole_iff.1 hb
  refine does_intro (mc := m136) (N := 30) (rs := [4, 5]) (fx := []) 2 rfl (by decide +kernel) ?_
  simp only [m136, EV, Nat.reduceEqDiff, Nat.reduceBEq, Nat.reduceLT, Nat.reduceLeDiff, Nat.reduceAdd, Nat.reduceSub, reduceIte]
  refine ⟨h0, ?_⟩
  try refine ⟨h0, ?_⟩
  rw [w64 (a.tdiv b) (by omega)]
  refine awp_join (fun q : Int × Int => q = (flo a b, rst a b)) (fun q => stl [(6, .v (.int .i64 q.1)), (7, .v (.int .i64 q.2))]) ?_ ?_
  · simp only [EV, Nat.reduceEqDiff, Nat.reduceBEq, Nat.reduceLT, Nat.reduceLeDiff, Nat.reduceAdd, Nat.reduceSub, reduceIte]
    refine gK_cut (fun h => ?_) (fun h => ?_)
    · have hm : a.tmod b ≠ 0 := by simpa using h
      simp only [h, tmod_neg hm, EV, Nat.reduceEqDiff, Nat.reduceBEq, Nat.reduceLT, Nat.reduceLeDiff, Nat.reduceAdd, Nat.reduceSub, reduceIte]
      refine cK_cut (fun g => ?_) (fun g => ?_)
      · simp only [EV, Nat.reduceEqDiff, Nat.reduceBEq, Nat.reduceLT, Nat.reduceLeDiff, Nat.reduceAdd, Nat.reduceSub, reduceIte]
        rw [w64 (a.tdiv b - 1) (by omega), w64 (a.tmod b + b) (by omega)]
        refine ⟨(a.tdiv b - 1, a.tmod b + b), ?_, rfl⟩
        simp_all [flo, rst, adj]
      · simp only [EV, Nat.reduceEqDiff, Nat.reduceBEq, Nat.reduceLT, Nat.reduceLeDiff, Nat.reduceAdd, Nat.reduceSub, reduceIte]
        refine ⟨(a.tdiv b, a.tmod b), ?_, rfl⟩
        simp_all [flo, rst, adj]
    · simp only [h, EV, Nat.reduceEqDiff, Nat.reduceBEq, Nat.reduceLT, Nat.reduceLeDiff, Nat.reduceAdd, Nat.reduceSub, reduceIte]
      refine ⟨(a.tdiv b, a.tmod b), ?_, rfl⟩
      simp_all [flo, rst, adj]
  · rintro q rfl
    simp only [EV, Nat.reduceEqDiff, Nat.reduceBEq, Nat.reduceLT, Nat.reduceLeDiff, Nat.reduceAdd, Nat.reduceSub, reduceIte]
    simp only [EV, Nat.reduceEqDiff, Nat.reduceBEq, Nat.reduceLT, Nat.reduceLeDiff, Nat.reduceAdd, Nat.reduceSub, reduceIte, retVC, cellV', evR, nfz, nfzs, nfzss, List.contains_nil, List.contains_cons, Bool.or_false, or_true]

def opOf (k a b : Int) : Int := if k = 3 then a + b else if k = 4 then a - b else if k = 5 then a * b else if k = 6 then flo a b else rst a b
theorem mul_b {a b : Int} (ha : whole a = true) (hb : whole b = true) : -1000000000000000000 ≤ a * b ∧ a * b ≤ 1000000000000000000 := by
  have h := whole_iff.1 ha
  have g := whole_iff.1 hb
  have e : (a * b).natAbs = a.natAbs * b.natAbs := Int.natAbs_mul a b
  have e2 : a.natAbs * b.natAbs ≤ 1000000000 * 1000000000 := Nat.mul_le_mul (by omega) (by omega)
  omega

/-- loop.example/g00837/spec.l5Do -/
def m146 : MC :=
  (.seq
   (.reg [⟨(some 6), none, .a (.asg (.c (.int .i64 0)))⟩])
   (.seq
    (.seq
     (.reg [⟨(some 7), none, .q (.mov (.t 0))⟩])
     (.block 0
      (.seq
       (.reg [⟨(some 9), none, .q (.bin false .eql (.t 7) (.c (.int .i64 3)))⟩,
         ⟨(some 8), none, .a (.asg (.t 9))⟩])
       (.cond (.t 8)
        (.seq
         (.reg [⟨(some 10), none, .q (.mov (.t 1))⟩,
           ⟨(some 11), none, .q (.mov (.t 2))⟩,
           ⟨(some 12), none, .q (.bin false .add (.t 10) (.t 11))⟩,
           ⟨(some 6), none, .a (.asg (.t 12))⟩])
         .ret)
        (.seq
         (.reg [⟨(some 14), none, .q (.bin false .eql (.t 7) (.c (.int .i64 4)))⟩,
           ⟨(some 13), none, .a (.asg (.t 14))⟩])
         (.cond (.t 13)
          (.seq
           (.reg [⟨(some 15), none, .q (.mov (.t 1))⟩,
             ⟨(some 16), none, .q (.mov (.t 2))⟩,
             ⟨(some 17), none, .q (.bin false .sub (.t 15) (.t 16))⟩,
             ⟨(some 6), none, .a (.asg (.t 17))⟩])
           .ret)
          (.seq
           (.reg [⟨(some 19), none, .q (.bin false .eql (.t 7) (.c (.int .i64 5)))⟩,
             ⟨(some 18), none, .a (.asg (.t 19))⟩])
           (.cond (.t 18)
            (.seq
             (.reg [⟨(some 20), none, .q (.mov (.t 1))⟩,
               ⟨(some 21), none, .q (.mov (.t 2))⟩,
               ⟨(some 22), none, .q (.bin false .mul (.t 20) (.t 21))⟩,
               ⟨(some 6), none, .a (.asg (.t 22))⟩])
             .ret)
            (.seq
             (.reg [⟨(some 24), none, .q (.bin false .eql (.t 7) (.c (.int .i64 6)))⟩,
               ⟨(some 23), none, .a (.asg (.t 24))⟩])
             (.cond (.t 23)
              (.seq
               (.reg [⟨(some 25), none, .q (.mov (.t 1))⟩,
                 ⟨(some 26), none, .q (.mov (.t 2))⟩,
                 ⟨(some 27), none, .a (.call (.fn 149) false [.lend (.t 25), .lend (.t 26)])⟩,
                 ⟨(some 6), none, .a (.asg (.t 27))⟩])
               .ret)
              .skip))))))))))
    (.seq
     (.reg [⟨(some 28), none, .q (.mov (.t 1))⟩,
       ⟨(some 29), none, .q (.mov (.t 2))⟩,
       ⟨(some 30), none, .q (.mov (.t 1))⟩,
       ⟨(some 31), none, .q (.mov (.t 2))⟩,
       ⟨(some 32), none, .a (.call (.fn 149) false [.lend (.t 30), .lend (.t 31)])⟩,
       ⟨(some 33), none, .q (.bin false .mul (.t 29) (.t 32))⟩,
       ⟨(some 34), none, .q (.bin false .sub (.t 28) (.t 33))⟩,
       ⟨(some 6), none, .a (.asg (.t 34))⟩])
     .ret)))


set_option maxRecDepth 100000 in
theorem d146 (k a b : Int) (ha : whole a = true) (hb : whole b = true) (hk : 3 ≤ k ∧ k ≤ 7) (h0 : ¬ (k = 3 ∨ k = 4 ∨ k = 5) → b ≠ 0) : Does Go.Proofs.Try.prog 146 [.v (.int .i64 k), .v (.int .i64 a), .v (.int .i64 b)] false (.v (.int .i64 (opOf k a b))) [.dead, .dead, .dead] := by
  have wa := whole_iff.1 ha
  have wb := whole_iff.1 hb
  have wm := mul_b ha hb
  refine does_intro (mc := m146) (N := 35) (rs := [6]) (fx := []) 3 rfl (by decide +kernel) ?_
  simp only [m146, EV, Nat.reduceEqDiff, Nat.reduceBEq, Nat.reduceLT, Nat.reduceLeDiff, Nat.reduceAdd, Nat.reduceSub, reduceIte]
  refine cK_cut (fun h => ?_) (fun h => ?_)
  · have e : k = 3 := by simpa using h
    subst e
    simp only [EV, Nat.reduceEqDiff, Nat.reduceBEq, Nat.reduceLT, Nat.reduceLeDiff, Nat.reduceAdd, Nat.reduceSub, reduceIte]
    rw [w64 (a + b) (by omega)]
    simp only [opOf, EV, Nat.reduceEqDiff, Nat.reduceBEq, Nat.reduceLT, Nat.reduceLeDiff, Nat.reduceAdd, Nat.reduceSub, reduceIte, retVC, cellV', evR, nfz, nfzs, nfzss, List.contains_nil, List.contains_cons, Bool.or_false, or_true]
  have n3 : ¬ k = 3 := by simpa using h
  clear h
  simp only [EV, Nat.reduceEqDiff, Nat.reduceBEq, Nat.reduceLT, Nat.reduceLeDiff, Nat.reduceAdd, Nat.reduceSub, reduceIte]
  refine cK_cut (fun h => ?_) (fun h => ?_)
  · have e : k = 4 := by simpa using h
    subst e
    simp only [EV, Nat.reduceEqDiff, Nat.reduceBEq, Nat.reduceLT, Nat.reduceLeDiff, Nat.reduceAdd, Nat.reduceSub, reduceIte]
    rw [w64 (a - b) (by omega)]
    simp only [opOf, n3, EV, Nat.reduceEqDiff, Nat.reduceBEq, Nat.reduceLT, Nat.reduceLeDiff, Nat.reduceAdd, Nat.reduceSub, reduceIte, retVC, cellV', evR, nfz, nfzs, nfzss, List.contains_nil, List.contains_cons, Bool.or_false, or_true]
  have n4 : ¬ k = 4 := by simpa using h
  clear h
  simp only [EV, Nat.reduceEqDiff, Nat.reduceBEq, Nat.reduceLT, Nat.reduceLeDiff, Nat.reduceAdd, Nat.reduceSub, reduceIte]
  refine cK_cut (fun h => ?_) (fun h => ?_)
  · have e : k = 5 := by simpa using h
    subst e
    simp only [EV, Nat.reduceEqDiff, Nat.reduceBEq, Nat.reduceLT, Nat.reduceLeDiff, Nat.reduceAdd, Nat.reduceSub, reduceIte]
    rw [w64 (a * b) (by omega)]
    simp only [opOf, n3, n4, EV, Nat.reduceEqDiff, Nat.reduceBEq, Nat.reduceLT, Nat.reduceLeDiff, Nat.reduceAdd, Nat.reduceSub, reduceIte, retVC, cellV', evR, nfz, nfzs, nfzss, List.contains_nil, List.contains_cons, Bool.or_false, or_true]
  have n5 : ¬ k = 5 := by simpa using h
  clear h
  have hb0 : b ≠ 0 := h0 (by omega)
  simp only [EV, Nat.reduceEqDiff, Nat.reduceBEq, Nat.reduceLT, Nat.reduceLeDiff, Nat.reduceAdd, Nat.reduceSub, reduceIte]
  refine cK_cut (fun h => ?_) (fun h => ?_)
  · have e : k = 6 := by simpa using h
    subst e
    simp only [EV, Nat.reduceEqDiff, Nat.reduceBEq, Nat.reduceLT, Nat.reduceLeDiff, Nat.reduceAdd, Nat.reduceSub, reduceIte]
    refine callK_i (d149 a b ha hb hb0) ?_
    simp only [EV, Nat.reduceEqDiff, Nat.reduceBEq, Nat.reduceLT, Nat.reduceLeDiff, Nat.reduceAdd, Nat.reduceSub, reduceIte]
    simp only [opOf, n3, n4, n5, EV, Nat.reduceEqDiff, Nat.reduceBEq, Nat.reduceLT, Nat.reduceLeDiff, Nat.reduceAdd, Nat.reduceSub, reduceIte, retVC, cellV', evR, nfz, nfzs, nfzss, List.contains_nil, List.contains_cons, Bool.or_false, or_true]
  have n6 : ¬ k = 6 := by simpa using h
  clear h
  have hr := rst_b ha hb
  have he := rst_eq a b
  simp only [EV, Nat.reduceEqDiff, Nat.reduceBEq, Nat.reduceLT, Nat.reduceLeDiff, Nat.reduceAdd, Nat.reduceSub, reduceIte]
  refine callK_i (d149 a b ha hb hb0) ?_
  simp only [EV, Nat.reduceEqDiff, Nat.reduceBEq, Nat.reduceLT, Nat.reduceLeDiff, Nat.reduceAdd, Nat.reduceSub, reduceIte]
  rw [he, w64 (a - rst a b) (by omega), show a - (a - rst a b) = rst a b by omega, w64 (rst a b) (by omega)]
  simp only [opOf, n3, n4, n5, n6, EV, Nat.reduceEqDiff, Nat.reduceBEq, Nat.reduceLT, Nat.reduceLeDiff, Nat.reduceAdd, Nat.reduceSub, reduceIte, retVC, cellV', evR, nfz, nfzs, nfzss, List.contains_nil, List.contains_cons, Bool.or_false, or_true]
end Go.AM
