/- Contracts of functions of the given program, for the law FnLarger: what they return and what they write, under the bounds that each theorem states. -/
import Derived.Test.YtmacgaechjiecaaGreatG3
import Derived.Deep.RegionHeld3
import Derived.Laws.EntriesVeiled
import Derived.Shelf.Bits.Mul64
import Derived.Laws.MakeOwn
import Derived.Laws.CopyOwn
import Derived.RegionTactic
import Derived.ChangeAlike
namespace Go.AM
set_option linter.unusedVariables false
set_option linter.unusedSimpArgs false
/-- So far so good: each size is right or not known, and known are those of the first rounds. -/
def SzOk (l : List Ty) (s : List Int) (r i : Nat) : Prop := s.length = l.length ∧ ∀ j : Nat, j < l.length → (getS s j = sz l j ∨ getS s j = -1) ∧ ((rk l j < r ∨ (j < i ∧ rk l j < r + 1)) → getS s j = sz l j)

theorem getS_at {s : List Int} {j : Nat} (h : j < s.length) : getS s (j : Int) = s[j] := by simp [getS, h]

theorem getS_set {s : List Int} {i j : Nat} {v : Int} (hi : i < s.length) : getS (s.set i v) (j : Int) = if j = i then v else getS s (j : Int) := by
  simp only [getS, Int.toNat_natCast]
  by_cases e : j = i
  · subst e; simp [hi]
  · rw [if_neg e, List.getElem?_set_ne (fun h => e h.symm)]

theorem SzOk.at {l : List Ty} {s : List Int} {r i : Nat} (h : SzOk l s r i) {k : Int} (h0 : 0 ≤ k) (h1 : k < (l.length : Int)) : (getS s k = sz l k ∨ getS s k = -1) ∧ (rk l k < r → getS s k = sz l k) := by
  have := h.2 k.toNat (by omega)
  rw [Int.toNat_of_nonneg h0] at this
  exact ⟨this.1, fun hr => this.2 (.inl hr)⟩

theorem SzOk.step {l : List Ty} (ht : tabOk l = true) {s : List Int} {r i : Nat} (h : SzOk l s r i) (hi : i < l.length) : SzOk l (s.set i (oneP l[i] s)) r (i + 1) := by
  have hs : i < s.length := by rw [h.1]; exact hi
  have hk : ∀ k ∈ prt false l[i], 0 ≤ k ∧ k < (l.length : Int) ∧ rk l k < rk l (i : Int) := by
    intro k hk
    have hk' : k ∈ kids l false (i : Int) := by rw [kids_at (n := (i : Int)) (by simpa using hi)]; simpa using hk
    have h1 := kids_ok (tabOk_tys ht) (Int.natCast_nonneg i) (by omega) hk'
    exact ⟨h1.1, h1.2, rk_lt ht (Int.natCast_nonneg i) (by omega) hk'⟩
  have hnn : ∀ k, 0 ≤ sz l k := fun k => (sz_nn (tabOk_tys ht) k).1
  have hse : sz l (i : Int) = oneT l[i] (sz l) := by
    have := sz_eq (l := l) ht (n := (i : Int)) (Int.natCast_nonneg i) (by omega) (hn := by simpa using hi)
    simpa using this
  refine ⟨by rw [List.length_set]; exact h.1, fun j hj => ?_⟩
  rw [getS_set hs]
  by_cases e : j = i
  · subst e
    rw [if_pos rfl, hse]
    refine ⟨oneP_or hnn fun k hk' => (h.at (hk k hk').1 (hk k hk').2.1).1, fun hr => ?_⟩
    refine oneP_eq hnn fun k hk' => (h.at (hk k hk').1 (hk k hk').2.1).2 ?_
    have := (hk k hk').2.2
    omega
  · rw [if_neg e]
    refine ⟨(h.2 j hj).1, fun hr => (h.2 j hj).2 ?_⟩
    omega

theorem SzOk.next {l : List Ty} {s : List Int} {r : Nat} (h : SzOk l s r l.length) : SzOk l s (r + 1) 0 :=
  ⟨h.1, fun j hj => ⟨(h.2 j hj).1, fun hr => (h.2 j hj).2 (.inr ⟨hj, by omega⟩)⟩⟩

theorem SzOk.le {l : List Ty} (ht : tabOk l = true) {s : List Int} {r i : Nat} (h : SzOk l s r i) : ∀ x ∈ s, x ≤ 1000000001 := by
  intro x hx
  obtain ⟨j, hj, rfl⟩ := List.mem_iff_getElem.1 hx
  have := (h.2 j (by rw [← h.1]; exact hj)).1
  rw [getS_at hj] at this
  have := (sz_nn (tabOk_tys ht) (j : Int)).2
  omega

/-- loop.example/g00837/spec.l3Size -/
def m135 : MC :=
  (.seq
   (.reg [⟨(some 4), none, .a (.asg (.c (.int .i64 0)))⟩])
   (.seq
    (.reg [⟨(some 9), none, .q (.mov (.t 0))⟩,
      ⟨(some 10), none, .q (.len false (.t 9))⟩,
      ⟨(some 11), none, .a (.mks 3 1 8 [.v (.int .i64 0)] (.t 10) (.t 10))⟩,
      ⟨(some 5), none, .a (.asg (.t 11))⟩])
    (.seq
     (.seq
      (.reg [⟨(some 12), none, .q (.mov (.t 5))⟩,
        ⟨(some 13), none, .q (.len false (.t 12))⟩,
        ⟨(some 14), none, .q (.mov (.c (.int .i64 0)))⟩])
      (.block 0
       (.loop [0, 1, 5, 11, 13, 14]
        (.seq
         (.reg [⟨(some 15), none, .q (.bin false .lss (.t 14) (.t 13))⟩])
         (.seq
          (.cond (.t 15)
           .skip
           (.exit 0))
          (.seq
           (.block 1
            (.seq
             (.reg [⟨(some 16), none, .q (.mov (.t 14))⟩,
               ⟨(some 6), none, .a (.asg (.t 16))⟩])
             (.reg [⟨(some 17), none, .q (.mov (.t 5))⟩,
               ⟨(some 18), none, .q (.mov (.t 6))⟩,
               ⟨(some 19), none, .q (.iad 1 (.t 17) (.t 18))⟩,
               ⟨none, none, .a (.store 1 (.t 19) (.c (.int .i64 (-1))))⟩])))
           (.reg [⟨(some 20), none, .q (.bin false .add (.t 14) (.c (.int .i64 1)))⟩,
             ⟨(some 14), none, .q (.mov (.t 20))⟩])))))))
     (.seq
      (.seq
       (.reg [⟨(some 21), none, .q (.mov (.t 0))⟩,
         ⟨(some 22), none, .q (.len false (.t 21))⟩,
         ⟨(some 23), none, .q (.mov (.c (.int .i64 0)))⟩])
       (.block 2
        (.loop [0, 1, 5, 11, 22, 23]
         (.seq
          (.reg [⟨(some 24), none, .q (.bin false .lss (.t 23) (.t 22))⟩])
          (.seq
           (.cond (.t 24)
            .skip
            (.exit 2))
           (.seq
            (.block 3
             (.seq
              (.reg [⟨(some 25), none, .q (.mov (.t 0))⟩,
                ⟨(some 26), none, .q (.len false (.t 25))⟩,
                ⟨(some 27), none, .q (.mov (.c (.int .i64 0)))⟩])
              (.block 4
               (.loop [0, 1, 5, 11, 22, 23, 25, 26, 27]
                (.seq
                 (.reg [⟨(some 28), none, .q (.bin false .lss (.t 27) (.t 26))⟩])
                 (.seq
                  (.cond (.t 28)
                   .skip
                   (.exit 4))
                  (.seq
                   (.block 5
                    (.seq
                     (.reg [⟨(some 29), none, .q (.mov (.t 27))⟩,
                       ⟨(some 30), none, .q (.iad 6 (.t 25) (.t 27))⟩,
                       ⟨(some 31), none, .q (.load true 6 (.t 30))⟩,
                       ⟨(some 8), none, .a (.alloc 40 [.v (.int .i64 0), .v (.int .i64 0), .v (.int .i64 0), .s 97 3, .v (.string ({ data := #[] })), .v (.string ({ data := #[] }))])⟩,
                       ⟨(some 7), none, .a (.asg (.t 29))⟩,
                       ⟨none, none, .a (.store 6 (.t 8) (.t 31))⟩])
                     (.reg [⟨(some 32), none, .q (.mov (.t 5))⟩,
                       ⟨(some 33), none, .q (.mov (.t 7))⟩,
                       ⟨(some 34), none, .q (.load true 6 (.t 8))⟩,
                       ⟨(some 35), none, .q (.mov (.t 5))⟩,
                       ⟨(some 36), none, .a (.call (.fn 201) false [.lend (.t 34), .lend (.t 35)])⟩,
                       ⟨(some 37), none, .q (.iad 1 (.t 32) (.t 33))⟩,
                       ⟨none, none, .a (.store 1 (.t 37) (.t 36))⟩])))
                   (.reg [⟨(some 38), none, .q (.bin false .add (.t 27) (.c (.int .i64 1)))⟩,
                     ⟨(some 27), none, .q (.mov (.t 38))⟩]))))))))
            (.reg [⟨(some 39), none, .q (.bin false .add (.t 23) (.c (.int .i64 1)))⟩,
              ⟨(some 23), none, .q (.mov (.t 39))⟩])))))))
      (.seq
       (.reg [⟨(some 40), none, .q (.mov (.t 5))⟩,
         ⟨(some 41), none, .q (.mov (.t 1))⟩,
         ⟨(some 42), none, .q (.iad 1 (.t 40) (.t 41))⟩,
         ⟨(some 43), none, .q (.load false 1 (.t 42))⟩,
         ⟨(some 4), none, .a (.asg (.t 43))⟩])
       .ret)))))

set_option maxHeartbeats 1000000 in
set_option maxRecDepth 100000 in
theorem d135 (l : List Ty) (n : Int) (hl : (l.length : Int) ≤ 1048576) (hs : ∀ s ∈ l, s.sm) (ht : tabOk l = true) (hn : isNum l n = true) : Does Go.Proofs.Tryz.prog 135 [.fsl 6 (l.map Ty.z), .v (.int .i64 n)] false (.v (.int .i64 (sz l n))) [.dead, .dead] := by
  have h24 := tabOk_len ht
  obtain ⟨n0, n1⟩ := isNum_in.1 hn
  refine does_intro (mc := m135) (N := 44) (rs := [4]) (fx := []) 2 rfl (by decide +kernel) ?_
  simp only [m135, EV, Nat.reduceEqDiff, Nat.reduceBEq, Nat.reduceLT, Nat.reduceLeDiff, Nat.reduceAdd, Nat.reduceSub, reduceIte]
  refine ⟨by omega, by omega, ?_⟩
  refine awp_loop (fun p : List Int × Nat => p.2 ≤ l.length ∧ p.1.length = l.length ∧ ∀ j : Nat, j < p.2 → getS p.1 (j : Int) = -1) (fun p => stl [(0, .fsl 6 (l.map Ty.z)), (1, .v (.int .i64 n)), (5, .usl 3 1 (p.1.map iv)), (11, .dead), (13, .v (.int .i64 (l.length : Int))), (14, .v (.int .i64 (p.2 : Int)))]) (fun p => l.length - p.2) (List.replicate l.length 0, 0) ⟨Nat.zero_le _, by simp, fun j h => absurd h (by omega)⟩ ?_ ?_
  · simp only [List.map_replicate, List.length_replicate, iv, EV, Nat.reduceEqDiff, Nat.reduceBEq, Nat.reduceLT, Nat.reduceLeDiff, Nat.reduceAdd, Nat.reduceSub, reduceIte]
    rfl
  · rintro ⟨s, i⟩ ⟨p1, p2, p3⟩
    simp only at p1 p2 p3
    simp only [EV, Nat.reduceEqDiff, Nat.reduceBEq, Nat.reduceLT, Nat.reduceLeDiff, Nat.reduceAdd, Nat.reduceSub, reduceIte]
    refine cK_cut (fun h => ?_) (fun h => ?_)
    · have q1 : i < l.length := by simpa using h
      have q2 : (i : Int) < (l.length : Int) := by omega
      have q3 : i < s.length := by omega
      have q4 : (i : Int) < (s.length : Int) := by omega
      clear h
      simp only [nth_map q3, q3, q4, iv, EV, Nat.reduceEqDiff, Nat.reduceBEq, Nat.reduceLT, Nat.reduceLeDiff, Nat.reduceAdd, Nat.reduceSub, reduceIte]
      rw [w64 _ (by omega)]
      refine ⟨(s.set i (-1), i + 1), ⟨q1, by simp [p2], fun j hj => ?_⟩, by simp only; omega, by simp only [List.map_set]; rfl⟩
      rw [getS_set q3]
      simp only at hj
      split
      · rfl
      · exact p3 j (by omega)
    · have q1 : i = l.length := by have : ¬ (i : Int) < (l.length : Int) := by simpa using h
                                   omega
      subst q1
      clear h
      have h0 : SzOk l s 0 0 := ⟨p2, fun j hj => ⟨.inr (p3 j hj), fun h => by omega⟩⟩
      simp only [EV, Nat.reduceEqDiff, Nat.reduceBEq, Nat.reduceLT, Nat.reduceLeDiff, Nat.reduceAdd, Nat.reduceSub, reduceIte]
      refine awp_loop (fun p : List Int × Nat => p.2 ≤ l.length ∧ SzOk l p.1 p.2 0) (fun p => stl [(0, .fsl 6 (l.map Ty.z)), (1, .v (.int .i64 n)), (5, .usl 3 1 (p.1.map iv)), (11, .dead), (22, .v (.int .i64 (l.length : Int))), (23, .v (.int .i64 (p.2 : Int)))]) (fun p => l.length - p.2) (s, 0) ⟨Nat.zero_le _, h0⟩ ?_ ?_
      · simp only [EV, Nat.reduceEqDiff, Nat.reduceBEq, Nat.reduceLT, Nat.reduceLeDiff, Nat.reduceAdd, Nat.reduceSub, reduceIte]
        rfl
      · rintro ⟨s, r⟩ ⟨p1, p2⟩
        simp only at p1 p2
        simp only [EV, Nat.reduceEqDiff, Nat.reduceBEq, Nat.reduceLT, Nat.reduceLeDiff, Nat.reduceAdd, Nat.reduceSub, reduceIte]
        refine cK_cut (fun h => ?_) (fun h => ?_)
        · have r1 : r < l.length := by simpa using h
          clear h
          simp only [EV, Nat.reduceEqDiff, Nat.reduceBEq, Nat.reduceLT, Nat.reduceLeDiff, Nat.reduceAdd, Nat.reduceSub, reduceIte]
          refine awp_loop (fun p : List Int × Nat => p.2 ≤ l.length ∧ SzOk l p.1 r p.2) (fun p => stl [(0, .fsl 6 (l.map Ty.z)), (1, .v (.int .i64 n)), (5, .usl 3 1 (p.1.map iv)), (11, .dead), (22, .v (.int .i64 (l.length : Int))), (23, .v (.int .i64 (r : Int))), (25, .fsl 6 (l.map Ty.z)), (26, .v (.int .i64 (l.length : Int))), (27, .v (.int .i64 (p.2 : Int)))]) (fun p => l.length - p.2) (s, 0) ⟨Nat.zero_le _, p2⟩ ?_ ?_
          · simp only [EV, Nat.reduceEqDiff, Nat.reduceBEq, Nat.reduceLT, Nat.reduceLeDiff, Nat.reduceAdd, Nat.reduceSub, reduceIte]
            rfl
          · rintro ⟨s, i⟩ ⟨p3, p4⟩
            simp only at p3 p4
            simp only [EV, Nat.reduceEqDiff, Nat.reduceBEq, Nat.reduceLT, Nat.reduceLeDiff, Nat.reduceAdd, Nat.reduceSub, reduceIte]
            refine cK_cut (fun h => ?_) (fun h => ?_)
            · have q1 : i < l.length := by simpa using h
              have q2 : (i : Int) < (l.length : Int) := by omega
              have q3 : i < s.length := by rw [p4.1]; exact q1
              have q4 : (i : Int) < (s.length : Int) := by omega
              have hsm := hs _ (List.getElem_mem q1)
              have hk : ∀ k ∈ prt false l[i], 0 ≤ k ∧ k < (s.length : Int) := by
                intro k hk
                have hk' : k ∈ kids l false (i : Int) := by rw [kids_at (n := (i : Int)) (by simpa using q1)]; simpa using hk
                have h1 := kids_ok (tabOk_tys ht) (Int.natCast_nonneg i) (by omega) hk'
                rw [p4.1]; exact h1
              clear h
              simp only [iv_frz, nth_map q1, q1, q2, TyE, Ty.z, EV, Nat.reduceEqDiff, Nat.reduceBEq, Nat.reduceLT, Nat.reduceLeDiff, Nat.reduceAdd, Nat.reduceSub, reduceIte]
              refine callK_i (d201 l[i] s hsm hk (prt_len (tabOk_tys ht) false q1) (by rw [p4.1]; exact hl) (p4.le ht) fun h4 => by have := (tysOk_good (tabOk_tys ht) q1).arr (by simpa using h4); omega) ?_
              simp only [nth_map q3, q3, q4, iv, EV, Nat.reduceEqDiff, Nat.reduceBEq, Nat.reduceLT, Nat.reduceLeDiff, Nat.reduceAdd, Nat.reduceSub, reduceIte]
              rw [w64 _ (by omega)]
              exact ⟨(s.set i (oneP l[i] s), i + 1), ⟨q1, p4.step ht q1⟩, by simp only; omega, by simp only [List.map_set]; rfl⟩
            · have q1 : i = l.length := by have : ¬ (i : Int) < (l.length : Int) := by simpa using h
                                           omega
              subst q1
              simp only [EV, Nat.reduceEqDiff, Nat.reduceBEq, Nat.reduceLT, Nat.reduceLeDiff, Nat.reduceAdd, Nat.reduceSub, reduceIte]
              rw [w64 _ (by omega)]
              exact ⟨(s, r + 1), ⟨r1, p4.next⟩, by simp only; omega, rfl⟩
        · have q1 : r = l.length := by have : ¬ (r : Int) < (l.length : Int) := by simpa using h
                                       omega
          subst q1
          have hgs := (p2.at n0 n1).2 (rk_small ht n0 n1)
          have q3 : n.toNat < s.length := by rw [p2.1]; omega
          have q4 : n < (s.length : Int) := by rw [p2.1]; exact n1
          have hgn : s[n.toNat] = sz l n := by rw [← hgs]; simp [getS, q3]
          simp only [nth_map q3, q3, q4, n0, iv, EV, Nat.reduceEqDiff, Nat.reduceBEq, Nat.reduceLT, Nat.reduceLeDiff, Nat.reduceAdd, Nat.reduceSub, reduceIte]
          simp only [hgn, EV, Nat.reduceEqDiff, Nat.reduceBEq, Nat.reduceLT, Nat.reduceLeDiff, Nat.reduceAdd, Nat.reduceSub, reduceIte, evRE, retVC, cellV', evR, nfz, nfzs, nfzss, List.contains_nil, List.contains_cons, Bool.or_false, or_true]

end Go.AM
namespace Go.AM
set_option linter.unusedVariables false
set_option linter.unusedSimpArgs false
noncomputable def szOk (l : List Ty) (n : Int) : Bool := (tabOk l && isNum l n) && decide (sz l n ≤ 1000000000)

def sizesL (l : List Ty) : List Int := (List.range l.length).map fun k : Nat => sz l (k : Int)

/-- loop.example/g00837/impl.SizeOf -/
def m17 : MC :=
  (.seq
   (.reg [⟨(some 4), none, .a (.asg (.c (.int .i64 0)))⟩,
     ⟨(some 5), none, .a (.asg (.c (.bool false)))⟩])
   (.seq
    (.seq
     (.reg [⟨(some 7), none, .q (.mov (.t 0))⟩,
       ⟨(some 8), none, .a (.call (.fn 55) false [.lend (.t 7)])⟩,
       ⟨(some 9), none, .q (.un .not (.t 8))⟩,
       ⟨(some 10), none, .q (.mov (.t 9))⟩,
       ⟨(some 11), (some (10, false)), .q (.mov (.t 0))⟩,
       ⟨(some 12), (some (10, false)), .q (.mov (.t 1))⟩,
       ⟨(some 13), (some (10, false)), .a (.call (.fn 61) false [.lend (.t 11), .lend (.t 12)])⟩,
       ⟨(some 14), (some (10, false)), .q (.un .not (.t 13))⟩,
       ⟨(some 15), none, .q (.pick (.t 10) (.c (.bool true)) (.t 14))⟩])
     (.cond (.t 15)
      (.seq
       (.reg [⟨(some 4), none, .a (.asg (.c (.int .i64 0)))⟩,
         ⟨(some 5), none, .a (.asg (.c (.bool false)))⟩])
       .ret)
      .skip))
    (.seq
     (.reg [⟨(some 16), none, .q (.mov (.t 0))⟩,
       ⟨(some 17), none, .a (.call (.fn 62) false [.lend (.t 16)])⟩,
       ⟨(some 18), none, .q (.mov (.t 1))⟩,
       ⟨(some 19), none, .q (.iad 1 (.t 17) (.t 18))⟩,
       ⟨(some 20), none, .q (.load false 1 (.t 19))⟩,
       ⟨(some 6), none, .a (.asg (.t 20))⟩])
     (.seq
      (.seq
       (.reg [⟨(some 21), none, .q (.mov (.t 6))⟩,
         ⟨(some 22), none, .q (.bin false .gtr (.t 21) (.c (.int .i64 1000000000)))⟩])
       (.cond (.t 22)
        (.seq
         (.reg [⟨(some 4), none, .a (.asg (.c (.int .i64 0)))⟩,
           ⟨(some 5), none, .a (.asg (.c (.bool false)))⟩])
         .ret)
        .skip))
      (.seq
       (.reg [⟨(some 23), none, .q (.mov (.t 6))⟩,
         ⟨(some 4), none, .a (.asg (.t 23))⟩,
         ⟨(some 5), none, .a (.asg (.c (.bool true)))⟩])
       .ret)))))

set_option maxRecDepth 100000 in
theorem d17_of (l : List Ty) (n : Int) (hl : (l.length : Int) ≤ 1048576) (hs : ∀ s ∈ l, s.sm)
    (h104 : tabOk l = true → Does Go.Proofs.Tryz.prog 62 [.fsl 6 (l.map Ty.z)] false (.usl 3 1 ((sizesL l).map iv)) [.dead]) : Does Go.Proofs.Tryz.prog 17 [.fsl 6 (l.map Ty.z), .v (.int .i64 n)] false (.tup [.v (.int .i64 (if szOk l n = true then sz l n else 0)), .v (.bool (szOk l n))]) [.dead, .dead] := by
  refine does_intro (mc := m17) (N := 24) (rs := [4, 5]) (fx := []) 2 rfl (by decide +kernel) ?_
  simp only [m17, EV, Nat.reduceEqDiff, Nat.reduceBEq, Nat.reduceLT, Nat.reduceLeDiff, Nat.reduceAdd, Nat.reduceSub, reduceIte]
  refine callK_i (d55 l hl hs) ?_
  simp only [EV, Nat.reduceEqDiff, Nat.reduceBEq, Nat.reduceLT, Nat.reduceLeDiff, Nat.reduceAdd, Nat.reduceSub, reduceIte]
  rcases e : tabOk l with _ | _
  · simp only [Bool.not_false, EV, Nat.reduceEqDiff, Nat.reduceBEq, Nat.reduceLT, Nat.reduceLeDiff, Nat.reduceAdd, Nat.reduceSub, reduceIte]
    simp only [szOk, e, Bool.false_and, EV, Nat.reduceEqDiff, Nat.reduceBEq, Nat.reduceLT, Nat.reduceLeDiff, Nat.reduceAdd, Nat.reduceSub, reduceIte, evRE, retVC, cellV', evR, nfz, nfzs, nfzss, List.contains_nil, List.contains_cons, Bool.or_false, or_true]
  simp only [Bool.not_true, EV, Nat.reduceEqDiff, Nat.reduceBEq, Nat.reduceLT, Nat.reduceLeDiff, Nat.reduceAdd, Nat.reduceSub, reduceIte]
  refine callK_i (d61 l n hl) ?_
  simp only [EV, Nat.reduceEqDiff, Nat.reduceBEq, Nat.reduceLT, Nat.reduceLeDiff, Nat.reduceAdd, Nat.reduceSub, reduceIte]
  rcases e1 : isNum l n with _ | _
  · simp only [Bool.not_false, EV, Nat.reduceEqDiff, Nat.reduceBEq, Nat.reduceLT, Nat.reduceLeDiff, Nat.reduceAdd, Nat.reduceSub, reduceIte]
    simp only [szOk, e, e1, Bool.and_false, Bool.false_and, EV, Nat.reduceEqDiff, Nat.reduceBEq, Nat.reduceLT, Nat.reduceLeDiff, Nat.reduceAdd, Nat.reduceSub, reduceIte, evRE, retVC, cellV', evR, nfz, nfzs, nfzss, List.contains_nil, List.contains_cons, Bool.or_false, or_true]
  obtain ⟨n0, n1⟩ := isNum_in.1 e1
  have q3 : n.toNat < (sizesL l).length := by simp [sizesL]; omega
  have q4 : n < ((sizesL l).length : Int) := by simp [sizesL]; omega
  have hg : (sizesL l)[n.toNat] = sz l n := by simp only [sizesL, List.getElem_map, List.getElem_range]; rw [Int.toNat_of_nonneg n0]
  simp only [Bool.not_true, EV, Nat.reduceEqDiff, Nat.reduceBEq, Nat.reduceLT, Nat.reduceLeDiff, Nat.reduceAdd, Nat.reduceSub, reduceIte]
  refine callK_i (h104 e) ?_
  simp only [nth_map q3, q3, q4, n0, hg, iv, EV, Nat.reduceEqDiff, Nat.reduceBEq, Nat.reduceLT, Nat.reduceLeDiff, Nat.reduceAdd, Nat.reduceSub, reduceIte]
  rcases e2 : decide (1000000000 < sz l n) with _ | _
  · have e3 : decide (sz l n ≤ 1000000000) = true := by simp at e2 ⊢; omega
    simp only [EV, Nat.reduceEqDiff, Nat.reduceBEq, Nat.reduceLT, Nat.reduceLeDiff, Nat.reduceAdd, Nat.reduceSub, reduceIte]
    simp only [szOk, e, e1, e3, Bool.and_self, if_true, EV, Nat.reduceEqDiff, Nat.reduceBEq, Nat.reduceLT, Nat.reduceLeDiff, Nat.reduceAdd, Nat.reduceSub, reduceIte, evRE, retVC, cellV', evR, nfz, nfzs, nfzss, List.contains_nil, List.contains_cons, Bool.or_false, or_true]
  · have e3 : decide (sz l n ≤ 1000000000) = false := by simp at e2 ⊢; omega
    simp only [EV, Nat.reduceEqDiff, Nat.reduceBEq, Nat.reduceLT, Nat.reduceLeDiff, Nat.reduceAdd, Nat.reduceSub, reduceIte]
    simp only [szOk, e, e1, e3, Bool.and_false, EV, Nat.reduceEqDiff, Nat.reduceBEq, Nat.reduceLT, Nat.reduceLeDiff, Nat.reduceAdd, Nat.reduceSub, reduceIte, evRE, retVC, cellV', evR, nfz, nfzs, nfzss, List.contains_nil, List.contains_cons, Bool.or_false, or_true]

end Go.AM
namespace Go.AM
set_option linter.unusedVariables false
set_option linter.unusedSimpArgs false
/-- A type that is not too large has parts that are not. -/
theorem sz_rec {l : List Ty} (ht : tabOk l = true) {n : Int} (h0 : 0 ≤ n) (h1 : n < (l.length : Int)) {hn : n.toNat < l.length} (hk : l[n.toNat].kind = 5) (hs : sz l n ≤ 1000000000) :
    sz l n = sumZ (sz l) (prt false l[n.toNat]) ∧ ∀ k ∈ prt false l[n.toNat], sz l k ≤ 1000000000 := by
  have hnn : ∀ k, 0 ≤ sz l k := fun k => (sz_nn (tabOk_tys ht) k).1
  have e := sz_eq ht h0 h1 (hn := hn)
  unfold oneT capS at e
  rw [hk] at e
  simp only [show ((5 : Int) == 1) = false from rfl, show ((5 : Int) == 2) = false from rfl, show ((5 : Int) == 3) = false from rfl, show ((5 : Int) == 6) = false from rfl, show ((5 : Int) == 4) = false from rfl, Bool.or_self, Bool.false_eq_true, if_false] at e
  have e2 : sz l n = sumZ (sz l) (prt false l[n.toNat]) := by omega
  refine ⟨e2, fun k hk => ?_⟩
  have : ∀ {ks : List Int} {k : Int}, k ∈ ks → sz l k ≤ sumZ (sz l) ks := by
    intro ks
    induction ks with
    | nil => intro k h; simp at h
    | cons x ks ih =>
      intro k h
      have h2 := sumZ_nn (g := sz l) (ks := ks) fun k _ => hnn k
      have h3 := hnn x
      simp only [sumZ]
      rcases List.mem_cons.1 h with rfl | h
      · omega
      · have := ih h; omega
  have := this hk
  omega

theorem sumZ_app {g : Int → Int} : ∀ {a b : List Int}, sumZ g (a ++ b) = sumZ g a + sumZ g b
  | [], b => by simp [sumZ]
  | x :: a, b => by simp only [List.cons_append, sumZ, sumZ_app (a := a)]; omega

end Go.AM
namespace Go.Proofs.Sizes
open Go Go.AM Go.RowKit Go.Shelf Go.Proofs
set_option linter.unusedVariables false
set_option linter.unusedSimpArgs false

/-- The cells of a type. -/
theorem row_at {w : World} {Fz : Nat → Prop} {sz : Nat} : ∀ {rows : List (List AV)} {xs : List Value} {o : List Nat} {g h : Nat} {i : Nat} (hi : i < rows.length), RepRows w Fz sz rows xs o → At w g h xs → ∃ x1 o1, RepRow w Fz rows[i] x1 o1 ∧ rows[i].length = sz ∧ At w g (h + i * sz) x1
  | [], xs, o, g, h, i, hi, _, _ => absurd hi (by simp)
  | r :: rows, xs, o, g, h, i, hi, hr, ha => by
    simp only [RepRows] at hr
    obtain ⟨x1, x2, o1, o2, rfl, rfl, hl, h1, h2⟩ := hr
    have hx : x1.length = sz := by rw [← hl]; exact h1.length
    cases i with
    | zero => exact ⟨x1, o1, h1, hl, fun j u hj => by simpa using ha j u (by rw [List.getElem?_append_left (List.getElem?_eq_some_iff.1 hj).1]; exact hj)⟩
    | succ i =>
      have ha2 : At w g (h + sz) x2 := fun j u hj => by
        have := ha (sz + j) u (by rw [List.getElem?_append_right (by omega), hx, Nat.add_sub_cancel_left]; exact hj)
        rwa [← Nat.add_assoc] at this
      obtain ⟨y, oy, q1, q2, q3⟩ := row_at (rows := rows) (i := i) (by simpa using hi) h2 ha2
      refine ⟨y, oy, q1, q2, ?_⟩
      have e : h + (i + 1) * sz = h + sz + i * sz := by rw [Nat.succ_mul]; omega
      rw [e]
      exact q3

structure Mem (Bo Bl Bf g gl hl cap c : Nat) (Fz : Nat → Prop) (l : List Ty) (s : List Int) (W : World) : Prop where
  o : W.cell? ⟨Bo, 0, none⟩ = some (.slice (some ⟨g, 0, none⟩) l.length c)
  lb : W.cell? ⟨Bl, 0, none⟩ = some (.slice (some ⟨gl, hl, none⟩) l.length cap)
  f : W.cell? ⟨Bf, 0, none⟩ = some (.func (.func 130) #[] #[.pointer (some ⟨Bo, 0, none⟩), .pointer (some ⟨Bl, 0, none⟩), .pointer (some ⟨Bf, 0, none⟩)])
  vals : W.heap[g]? = some (.cells (s.map (Value.int .i64)).toArray 3 (0, 0))
  len : s.length = l.length
  rep : RepC W Fz (.fsl 6 (l.map Ty.z)) (.slice (some ⟨gl, hl, none⟩) l.length cap) []
  fz : ∀ b, Fz b → b < W.heap.size ∧ b ≠ g
  ne : Bo ≠ g ∧ Bl ≠ g ∧ Bf ≠ g
theorem Mem.at {Bo Bl Bf g gl hl cap c : Nat} {Fz : Nat → Prop} {l : List Ty} {s : List Int} {W : World} (M : Mem Bo Bl Bf g gl hl cap c Fz l s W) {j : Nat} (hj : j < l.length) : W.cell? ⟨g, j, none⟩ = some (.int .i64 (getS s j)) := by
  rw [cell_of_cells M.vals]
  have : j < s.length := by rw [M.len]; exact hj
  simp [getS_at this, this]
theorem Mem.row {Bo Bl Bf g gl hl cap c : Nat} {Fz : Nat → Prop} {l : List Ty} {s : List Int} {W : World} (M : Mem Bo Bl Bf g gl hl cap c Fz l s W) {n : Nat} (hn : n < l.length) :
    ∃ fv, RepC W Fz (.fsl 3 (l[n].fields.map Fd.z)) fv [] ∧ W.cell? ⟨gl, hl + n * 6, none⟩ = some (.int .i64 l[n].kind) ∧ W.cell? ⟨gl, hl + n * 6 + 1, none⟩ = some (.int .i64 l[n].long) ∧ W.cell? ⟨gl, hl + n * 6 + 2, none⟩ = some (.int .i64 l[n].base) ∧
      W.cell? ⟨gl, hl + n * 6 + 3, none⟩ = some fv ∧ W.cell? ⟨gl, hl + n * 6 + 4, none⟩ = some (.string l[n].owner) ∧ W.cell? ⟨gl, hl + n * 6 + 5, none⟩ = some (.string l[n].name) := by
  have hr := M.rep
  simp only [RepC] at hr
  obtain ⟨_, A, cc, he, _, hr⟩ := hr
  rcases hr with hr | ⟨g2, h2, xs, rfl, _, hrs, hat⟩
  · have : l = [] := List.map_eq_nil_iff.1 hr
    subst this
    simp at hn
  · simp only [Value.slice.injEq, Option.some.injEq, Addr.mk.injEq] at he
    obtain ⟨⟨rfl, rfl, _⟩, _, rfl⟩ := he
    obtain ⟨x1, o1, q1, _, q3⟩ := row_at (i := n) (by simpa using hn) hrs hat
    simp only [List.getElem_map, Ty.z, RepRow] at q1
    obtain ⟨_, _, _, _, rfl, rfl, ⟨rfl, _, rfl⟩, _, _, _, _, rfl, rfl, ⟨rfl, _, rfl⟩, _, _, _, _, rfl, rfl, ⟨rfl, _, rfl⟩, fv, _, _, _, rfl, rfl, hf, _, _, _, _, rfl, rfl, ⟨rfl, _, rfl⟩, _, _, _, _, rfl, rfl, ⟨rfl, _, rfl⟩, rfl, rfl⟩ := q1
    have hf0 : ∀ {o : List Nat}, RepC W Fz (.fsl 3 (l[n].fields.map Fd.z)) fv o → o = [] := fun h => by simp only [RepC] at h; exact h.1
    refine ⟨fv, ?_, q3 0 _ rfl, q3 1 _ rfl, q3 2 _ rfl, q3 3 _ rfl, q3 4 _ rfl, q3 5 _ rfl⟩
    have := hf0 hf
    subst this
    exact hf
end Go.Proofs.Sizes

namespace Go.Proofs.Sizes
open Go Go.AM Go.RowKit Go.Shelf Go.Proofs
attribute [local go_sem] Oper.semAt_some
set_option linter.unusedVariables false
set_option linter.unusedSimpArgs false

/-- Each size is right, or not known yet. -/
def Som (l : List Ty) (s : List Int) : Prop := ∀ j : Nat, j < l.length → getS s (j : Int) = sz l (j : Int) ∨ getS s (j : Int) = -1
def Mor (l : List Ty) (s s' : List Int) : Prop := ∀ j : Nat, j < l.length → getS s (j : Int) = sz l (j : Int) → getS s' (j : Int) = sz l (j : Int)

theorem Mem.ext {Bo Bl Bf g gl hl cap c : Nat} {Fz : Nat → Prop} {l : List Ty} {s : List Int} {W W' : World} (M : Mem Bo Bl Bf g gl hl cap c Fz l s W) (hE : Ext W W' []) : Mem Bo Bl Bf g gl hl cap c Fz l s W' := by
  have hb : ∀ {p : Addr} {v : Value}, W.cell? p = some v → W'.cell? p = some v := fun {p v} h => (World.cell?_of_block (hE.blk _ (World.block_lt_of_cell? W _ h) (by simp))).trans h
  exact ⟨hb M.o, hb M.lb, hb M.f, (hE.blk _ (Array.getElem?_eq_some_iff.1 M.vals).1 (by simp)).trans M.vals, M.len, M.rep.keep _ _ _ ⟨fun b h => ⟨h, hE.blk b (M.fz b h).1 (by simp)⟩, fun b h => by simp at h⟩,
    fun b h => ⟨Nat.lt_of_lt_of_le (M.fz b h).1 hE.size, (M.fz b h).2⟩, M.ne⟩
theorem Mem.put {Bo Bl Bf g gl hl cap c : Nat} {Fz : Nat → Prop} {l : List Ty} {s : List Int} {W : World} (M : Mem Bo Bl Bf g gl hl cap c Fz l s W) {n : Nat} (hn : n < l.length) (v : Int) : Mem Bo Bl Bf g gl hl cap c Fz l (s.set n v) (W.setCell ⟨g, n, none⟩ (.int .i64 v)) ∧ Ext W (W.setCell ⟨g, n, none⟩ (.int .i64 v)) [g] := by
  have hg := (Array.getElem?_eq_some_iff.1 M.vals).1
  have hh : (W.setCell ⟨g, n, none⟩ (.int .i64 v)).heap[g]? = some (.cells ((s.set n v).map (Value.int .i64)).toArray 3 (0, 0)) := by
    simp [World.setCell, Array.getElem?_modify, M.vals, List.map_set]
  have hE : Ext W (W.setCell ⟨g, n, none⟩ (.int .i64 v)) [g] :=
    ⟨rfl, rfl, rfl, by simp [World.setCell], fun b hb hn => Below.heap_setCell _ _ _ b (by simpa using hn)⟩
  have hb : ∀ {p : Addr} {u : Value}, p.block ≠ g → W.cell? p = some u → (W.setCell ⟨g, n, none⟩ (.int .i64 v)).cell? p = some u := fun {p u} hne h => (World.cell?_of_block (hE.blk _ (World.block_lt_of_cell? W _ h) (by simpa using hne))).trans h
  exact ⟨⟨hb M.ne.1 M.o, hb M.ne.2.1 M.lb, hb M.ne.2.2 M.f, hh, by rw [List.length_set]; exact M.len, M.rep.keep _ _ _ ⟨fun b h => ⟨h, hE.blk b (M.fz b h).1 (by simpa using (M.fz b h).2)⟩, fun b h => by simp at h⟩,
    fun b h => ⟨Nat.lt_of_lt_of_le (M.fz b h).1 hE.size, (M.fz b h).2⟩, M.ne⟩, hE⟩

set_option maxRecDepth 100000 in
set_option maxHeartbeats 4000000 in
theorem c130 {Bo Bl Bf g gl hl cap c : Nat} {Fz : Nat → Prop} {l : List Ty} (ht : tabOk l = true) (hsm0 : ∀ t ∈ l, t.sm) (hll : l.length ≤ 24) (hcc : l.length ≤ cap) (hc : l.length ≤ c) : ∀ (k n : Nat), n < l.length → rk l (n : Int) < k → ∀ (W : World) (s : List Int), Mem Bo Bl Bf g gl hl cap c Fz l s W → Som l s →
    Calls Tryz.prog 130 #[.int .i64 (n : Int), .pointer (some ⟨Bo, 0, none⟩), .pointer (some ⟨Bl, 0, none⟩), .pointer (some ⟨Bf, 0, none⟩)] W fun e W' => e = .returned (.int .i64 (sz l (n : Int))) ∧ ∃ s', Mem Bo Bl Bf g gl hl cap c Fz l s' W' ∧ Som l s' ∧ getS s' (n : Int) = sz l (n : Int) ∧ Mor l s s' ∧ Ext W W' [g]
  | 0, n, _, h, _, _, _, _ => absurd h (by omega)
  | k + 1, n, hn, hk, W, s, M, hS => by
    have ih := c130 (cap := cap) (c := c) (Bo := Bo) (Bl := Bl) (Bf := Bf) (g := g) (gl := gl) (hl := hl) (Fz := Fz) ht hsm0 hll hcc hc k
    refine callsIn_wide (n := 9).1 (callsIn_of_wp Tryz.func130 rfl trivial ?_ rfl)
    simp only [Tryz.ntmps130, List.size_toArray, List.length_cons, List.length_nil, Nat.reduceAdd, Nat.reduceSub, Array.replicate_succ, Array.replicate_zero, List.push_toArray, List.append_toArray, List.nil_append, List.cons_append]
    have m1 := M.o
    have m2 := M.at hn
    rcases hS n hn with h0 | h0
    · have hnn := (sz_nn (tabOk_tys ht) (n : Int)).1
      rw [h0] at m2
      gi_wp2
      refine bodyPost_ret (results_tmp rfl _ _ _) rfl ?_
      exact ⟨rfl, s, M, hS, h0, fun j _ h => h, Ext.refl _ _⟩
    · rw [h0] at m2
      have m3 := M.lb
      obtain ⟨fv, f0, r0, r1, r2, r3, r4, r5⟩ := M.row hn
      have f0' := f0
      simp only [RepC] at f0'
      obtain ⟨_, Af, cf, rfl, hcf, hAf⟩ := f0'
      have G := tysOk_good (tabOk_tys ht) hn
      have hse : sz l (n : Int) = oneT l[n] (sz l) := by
        have := sz_eq (l := l) ht (n := (n : Int)) (Int.natCast_nonneg n) (by omega) (hn := by simpa using hn)
        simpa using this
      obtain ⟨W1, hW1⟩ : ∃ W1, W.alloc (Obj.cells #[Value.int .i64 l[n].kind, Value.int .i64 l[n].long, Value.int .i64 l[n].base, Value.slice Af (List.map Fd.z l[n].fields).length cf, Value.string l[n].owner, Value.string l[n].name] 40) = W1 := ⟨_, rfl⟩
      have hE1 : Ext W W1 [] := by rw [← hW1]; exact Ext.alloc _ _ _
      have M1 := M.ext hE1
      have hb1 : W1.heap[W.heap.size]? = some (Obj.cells #[Value.int .i64 l[n].kind, Value.int .i64 l[n].long, Value.int .i64 l[n].base, Value.slice Af (List.map Fd.z l[n].fields).length cf, Value.string l[n].owner, Value.string l[n].name] 40) := by rw [← hW1]; exact World.alloc_heap_new _ _
      have k0 : W1.cell? ⟨W.heap.size, 0, none⟩ = some (.int .i64 l[n].kind) := by rw [cell_of_cells hb1]; rfl
      have k1 : W1.cell? ⟨W.heap.size, 1, none⟩ = some (.int .i64 l[n].long) := by rw [cell_of_cells hb1]; rfl
      have k2 : W1.cell? ⟨W.heap.size, 2, none⟩ = some (.int .i64 l[n].base) := by rw [cell_of_cells hb1]; rfl
      have k3 : W1.cell? ⟨W.heap.size, 3, none⟩ = some (.slice Af l[n].fields.length cf) := by rw [cell_of_cells hb1]; simp
      have k4 : W1.cell? ⟨W.heap.size, 4, none⟩ = some (.string l[n].owner) := by rw [cell_of_cells hb1]; rfl
      have k5 : W1.cell? ⟨W.heap.size, 5, none⟩ = some (.string l[n].name) := by rw [cell_of_cells hb1]; rfl
      have n1 := M1.o
      have n2 := M1.at hn
      rw [h0] at n2
      have n3 := M1.f
      have n4 : W1.frozen? ⟨g, n, none⟩ = false := by simp [World.frozen?, M1.vals]
      have hE1g : Ext W W1 [g] := hE1.mono (by simp)
      have hlt1 : W.heap.size < W1.heap.size := (Array.getElem?_eq_some_iff.1 hb1).1
      have hne1 : W.heap.size ∉ [g] := by have := (Array.getElem?_eq_some_iff.1 M.vals).1; simp; omega
      simp only [List.length_map] at hW1
      -- what is stored and handed back
      have fin : ∀ (v : Int) (W2 : World) (s2 : List Int), v = sz l (n : Int) → Mem Bo Bl Bf g gl hl cap c Fz l s2 W2 → Som l s2 → Mor l s s2 → Ext W W2 [g] →
          ∃ s', Mem Bo Bl Bf g gl hl cap c Fz l s' (W2.setCell ⟨g, n, none⟩ (.int .i64 v)) ∧ Som l s' ∧ getS s' (n : Int) = sz l (n : Int) ∧ Mor l s s' ∧ Ext W (W2.setCell ⟨g, n, none⟩ (.int .i64 v)) [g] := by
        intro v W2 s2 hv M2 hS2 hM2 hE2
        obtain ⟨q1, q2⟩ := M2.put hn v
        have hn2 : n < s2.length := by rw [M2.len]; exact hn
        refine ⟨_, q1, fun j hj => ?_, ?_, fun j hj h => ?_, hE2.trans q2 fun b hb _ => hb⟩
        · rw [getS_set hn2]
          split
          · rename_i e; rw [e]; exact .inl hv
          · exact hS2 j hj
        · rw [getS_set hn2, if_pos rfl]; exact hv
        · rw [getS_set hn2]
          split
          · rename_i e; rw [e]; exact hv
          · exact hM2 j hj h
      have one := G.one
      have hsm := hsm0 _ (List.getElem_mem hn)
      have hcase : l[n].kind = 1 ∨ l[n].kind = 2 ∨ l[n].kind = 3 ∨ l[n].kind = 6 ∨ l[n].kind = 4 ∨ l[n].kind = 5 := by omega
      rcases hcase with hg | hg | hg | hg | hg | hg
      · have hv : sz l (n : Int) = 4 := by rw [hse]; simp [oneT, hg]
        rw [hg] at r0 k0 hW1
        obtain ⟨s', F1, F2, F3, F4, F5⟩ := fin (min 4 1000000001) W1 s (by rw [hv]; rfl) M1 hS (fun j _ h => h) hE1g
        obtain ⟨W2, hW2⟩ : ∃ W2, W1.setCell ⟨g, n, none⟩ (.int .i64 (min 4 1000000001)) = W2 := ⟨_, rfl⟩
        rw [hW2] at F1 F5
        have p1 := F1.o
        have p2 := F1.at hn
        rw [F3] at p2
        clear hv hse
        gi_wp2
        refine bodyPost_ret (results_tmp rfl _ _ _) rfl ?_
        exact ⟨rfl, s', F1, F2, F3, F4, F5⟩
      · have hv : sz l (n : Int) = 1 := by rw [hse]; simp [oneT, hg]
        rw [hg] at r0 k0 hW1
        obtain ⟨s', F1, F2, F3, F4, F5⟩ := fin (min 1 1000000001) W1 s (by rw [hv]; rfl) M1 hS (fun j _ h => h) hE1g
        obtain ⟨W2, hW2⟩ : ∃ W2, W1.setCell ⟨g, n, none⟩ (.int .i64 (min 1 1000000001)) = W2 := ⟨_, rfl⟩
        rw [hW2] at F1 F5
        have p1 := F1.o
        have p2 := F1.at hn
        rw [F3] at p2
        clear hv hse
        gi_wp2
        refine bodyPost_ret (results_tmp rfl _ _ _) rfl ?_
        exact ⟨rfl, s', F1, F2, F3, F4, F5⟩
      · have hv : sz l (n : Int) = 1 := by rw [hse]; simp [oneT, hg]
        rw [hg] at r0 k0 hW1
        obtain ⟨s', F1, F2, F3, F4, F5⟩ := fin (min 1 1000000001) W1 s (by rw [hv]; rfl) M1 hS (fun j _ h => h) hE1g
        obtain ⟨W2, hW2⟩ : ∃ W2, W1.setCell ⟨g, n, none⟩ (.int .i64 (min 1 1000000001)) = W2 := ⟨_, rfl⟩
        rw [hW2] at F1 F5
        have p1 := F1.o
        have p2 := F1.at hn
        rw [F3] at p2
        clear hv hse
        gi_wp2
        refine bodyPost_ret (results_tmp rfl _ _ _) rfl ?_
        exact ⟨rfl, s', F1, F2, F3, F4, F5⟩
      · have hv : sz l (n : Int) = 8 := by rw [hse]; simp [oneT, hg]
        rw [hg] at r0 k0 hW1
        obtain ⟨s', F1, F2, F3, F4, F5⟩ := fin (min 8 1000000001) W1 s (by rw [hv]; rfl) M1 hS (fun j _ h => h) hE1g
        obtain ⟨W2, hW2⟩ : ∃ W2, W1.setCell ⟨g, n, none⟩ (.int .i64 (min 8 1000000001)) = W2 := ⟨_, rfl⟩
        rw [hW2] at F1 F5
        have p1 := F1.o
        have p2 := F1.at hn
        rw [F3] at p2
        clear hv hse
        gi_wp2
        refine bodyPost_ret (results_tmp rfl _ _ _) rfl ?_
        exact ⟨rfl, s', F1, F2, F3, F4, F5⟩
      · obtain ⟨a1, a2, a3⟩ := G.arr hg
        obtain ⟨b0, b1⟩ := isNum_in.1 a1
        obtain ⟨m, hm⟩ : ∃ m : Nat, l[n].base = (m : Int) := ⟨l[n].base.toNat, by omega⟩
        have hml : m < l.length := by omega
        have hmk : rk l (m : Int) < k := by
          have : (m : Int) ∈ kids l false (n : Int) := by
            rw [kids_at (n := (n : Int)) (by simpa using hn)]
            simp [prt, hg, hm]
          have := rk_lt ht (Int.natCast_nonneg n) (by omega) this
          omega
        have hcall : ∀ W', Ext W1 W' [] → _ := fun W' hE' => ih m hml hmk W' s (M1.ext hE') hS
        rw [hg] at r0 k0 hW1
        rw [hm] at r2 k2 hW1
        gi_wp2
        refine wpIn_wide.2 ?_
        go_region_held3 (fun w => w.cell? ⟨W.heap.size, 1, none⟩ = some (.int .i64 l[n].long) ∧ w.cell? ⟨W.heap.size, 2, none⟩ = some (.int .i64 (m : Int)) ∧ w.cell? ⟨Bf, 0, none⟩ = some (.func (.func 130) #[] #[.pointer (some ⟨Bo, 0, none⟩), .pointer (some ⟨Bl, 0, none⟩), .pointer (some ⟨Bf, 0, none⟩)])) (first | exact ⟨k1, k2, n3⟩ | exact ⟨by assumption, by assumption, by assumption⟩) (first | (go_at_call 130; refine (hcall _ (Ext.drew _ _)).mono ?_; rintro e W2 ⟨rfl, s2, M2, S2, g2, Mo2, E2⟩; have c1 : W2.cell? ⟨W.heap.size, 1, none⟩ = some (.int .i64 l[n].long) := (World.cell?_of_block (E2.blk W.heap.size hlt1 hne1)).trans k1; have c2 : W2.cell? ⟨W.heap.size, 2, none⟩ = some (.int .i64 (m : Int)) := (World.cell?_of_block (E2.blk W.heap.size hlt1 hne1)).trans k2; have c3 := M2.f))
        have hv : min (l[n].long * sz l (m : Int)) 1000000001 = sz l (n : Int) := by
          have hp : prt false l[n] = [(m : Int)] := by
            simp [prt, hg, hm, G.none (by rw [hg]; omega)]
          rw [hse]
          unfold oneT capS
          rw [hg, hp]
          simp only [sumZ, show ((4 : Int) == 1) = false from rfl, show ((4 : Int) == 2) = false from rfl, show ((4 : Int) == 3) = false from rfl, show ((4 : Int) == 6) = false from rfl, show ((4 : Int) == 4) = true from rfl, Bool.or_self, Bool.false_eq_true, if_false, if_true, Int.add_zero]
          rw [Int.mul_comm, Int.min_comm]
        have hb := sz_nn (tabOk_tys ht) (m : Int)
        have hw1 : l[n].long * sz l (m : Int) ≤ 1000 * sz l (m : Int) := Int.mul_le_mul_of_nonneg_right a3 hb.1
        have hw0 : 0 ≤ l[n].long * sz l (m : Int) := Int.mul_nonneg (by omega) hb.1
        have hw := w64 (l[n].long * sz l (m : Int)) (by omega)
        simp only [hw]
        obtain ⟨s', F1, F2, F3, F4, F5⟩ := fin (min (l[n].long * sz l (m : Int)) 1000000001) W2 s2 hv M2 S2 Mo2 (hE1g.trans ((Ext.drew W1 [g]).trans E2 fun b hb _ => hb) fun b hb _ => hb)
        obtain ⟨W3, hW3⟩ : ∃ W3, W2.setCell ⟨g, n, none⟩ (.int .i64 (min (l[n].long * sz l (m : Int)) 1000000001)) = W3 := ⟨_, rfl⟩
        rw [hW3] at F1 F5
        have p1 := F1.o
        have p2 := F1.at hn
        rw [F3] at p2
        have o1 := M2.o
        have o2 := M2.at hn
        have o3 : W2.frozen? ⟨g, n, none⟩ = false := by simp [World.frozen?, M2.vals]
        clear hv hse hw hw0 hw1
        gi_wp2
        refine bodyPost_ret (results_tmp rfl _ _ _) rfl ?_
        exact ⟨rfl, s', F1, F2, F3, F4, F5⟩
      · have hk6 : ∀ i (h : i < (prt false l[n]).length), ∃ m : Nat, (prt false l[n])[i] = (m : Int) ∧ m < l.length ∧ rk l (m : Int) < k := by
          intro i h
          have hm : (prt false l[n])[i] ∈ kids l false (n : Int) := by
            rw [kids_at (n := (n : Int)) (by simpa using hn)]
            simp only [Int.toNat_natCast]
            exact List.getElem_mem h
          obtain ⟨b0, b1⟩ := kids_ok (tabOk_tys ht) (Int.natCast_nonneg n) (by omega) hm
          have hlt := rk_lt ht (Int.natCast_nonneg n) (by omega) hm
          exact ⟨(prt false l[n])[i].toNat, by omega, by omega, by rw [Int.toNat_of_nonneg b0]; omega⟩
        have h7 := prt_len (tabOk_tys ht) false hn
        have hv : min (sumZ (sz l) (prt false l[n])) 1000000001 = sz l (n : Int) := by
          rw [hse]
          unfold oneT capS
          rw [hg]
          simp only [show ((5 : Int) == 1) = false from rfl, show ((5 : Int) == 2) = false from rfl, show ((5 : Int) == 3) = false from rfl, show ((5 : Int) == 6) = false from rfl, show ((5 : Int) == 4) = false from rfl, Bool.or_self, Bool.false_eq_true, if_false]
          rw [Int.min_comm]
        have h136 := (d131 l[n] false hsm).2 W1 Fz [.agg #[Value.int .i64 l[n].kind, Value.int .i64 l[n].long, Value.int .i64 l[n].base, Value.slice Af (List.map Fd.z l[n].fields).length cf, Value.string l[n].owner, Value.string l[n].name], .bool false] [] (by
          have f1 : RepC W1 Fz (.fsl 3 (l[n].fields.map Fd.z)) (Value.slice Af (List.map Fd.z l[n].fields).length cf) [] := f0.keep _ _ _ ⟨fun b h => ⟨h, hE1.blk b (M.fz b h).1 (by simp)⟩, fun b h => by simp at h⟩
          refine ⟨_, _, [], [], rfl, rfl, ⟨[Value.int .i64 l[n].kind, Value.int .i64 l[n].long, Value.int .i64 l[n].base, Value.slice Af (List.map Fd.z l[n].fields).length cf, Value.string l[n].owner, Value.string l[n].name], rfl, ?_⟩, _, _, [], [], rfl, rfl, by simp [RepV, RepC, Value.oneCell'], rfl, rfl⟩
          exact ⟨_, _, [], [], rfl, rfl, by simp [RepV, RepC, Value.oneCell'], _, _, [], [], rfl, rfl, by simp [RepV, RepC, Value.oneCell'], _, _, [], [], rfl, rfl, by simp [RepV, RepC, Value.oneCell'], _, _, [], [], rfl, rfl, f1.toV, _, _, [], [], rfl, rfl, by simp [RepV, RepC, Value.oneCell'], _, _, [], [], rfl, rfl, by simp [RepV, RepC, Value.oneCell'], rfl, rfl⟩) List.nodup_nil (by simp) (fun b hb => (M1.fz b hb).1)
        rw [hg] at r0 k0 hW1 h136
        generalize hps : prt false l[n] = ps at h136 hk6 h7 hv
        clear hse
        gi_wp2
        simp only [List.length_map] at h136
        refine ⟨trivial, (callsIn_wide.2 h136).mono ?_⟩
        rintro e Wp ⟨x, ox, oo, rfl, hEp, hx, _, _, hold⟩
        have Mp := M1.ext hEp
        have hgW := (Array.getElem?_eq_some_iff.1 M1.vals).1
        obtain ⟨A, cp, rfl, hA⟩ : ∃ A cp, x = .slice A ps.length cp ∧ (0 < ps.length → ps.length ≤ cp ∧ ∃ gp hp, A = some ⟨gp, hp, none⟩ ∧ W1.heap.size ≤ gp ∧ gp < Wp.heap.size ∧ ∀ i (h : i < ps.length), Wp.cell? ⟨gp, hp + i, none⟩ = some (.int .i64 ps[i])) := by
          simp only [RepV, RepC] at hx
          rcases hx with ⟨rfl, hx, _⟩ | ⟨gp, hp, cp, cur, vs, o', rfl, rfl, _, hc, _, hrw, hat⟩
          · have : ps = [] := List.map_eq_nil_iff.1 hx
            subst this
            exact ⟨none, 0, rfl, fun h => absurd h (by simp)⟩
          · obtain ⟨rfl, rfl⟩ := AllF.rows_iv hrw
            have hgp := hold gp (by simp)
            refine ⟨some ⟨gp, hp * 1, none⟩, cp, by rw [List.length_map], fun _ => ⟨by simpa using hc, gp, hp * 1, rfl, by rcases hgp.1 with h | h; simp at h; exact h, hgp.2, fun i h => hat i _ (by simp [h])⟩⟩
        gi_wp2
        gi_loopw [7, 46] (fun a b wr => ∃ (i : Nat) (s2 : List Int), i ≤ ps.length ∧ b = .int .i64 (i : Int) ∧ a = .int .i64 (sumZ (sz l) (ps.take i)) ∧ Mem Bo Bl Bf g gl hl cap c Fz l s2 wr ∧ Som l s2 ∧ Mor l s s2 ∧ Ext W wr [g] ∧ Ext Wp wr [g])
          (fun a b _ => ps.length - (intOf b).toNat)
        case atStart => exact ⟨0, s, Nat.zero_le _, rfl, rfl, Mp, hS, fun j _ h => h, hE1g.trans (hEp.mono (by simp)) (fun b hb _ => hb), Ext.refl _ _⟩
        case round =>
          obtain ⟨i, s2, hi, rfl, rfl, Ms, Ss, Mo, EW, EP⟩ := hrel
          by_cases hlt : i < ps.length
          · obtain ⟨hc', gp, hp, rfl, hg1, hg2, hat⟩ := hA (by omega)
            have hcx : wr.cell? ⟨gp, hp + i, none⟩ = some (.int .i64 ps[i]) := (World.cell?_of_block (EP.blk gp hg2 (by simp; omega))).trans (hat i hlt)
            obtain ⟨m, hm, hml, hmk⟩ := hk6 i hlt
            rw [hm] at hcx
            have hf := Ms.f
            have hb := sz_nn (tabOk_tys ht) (m : Int)
            have hs1 : sumZ (sz l) (ps.take (i + 1)) = sumZ (sz l) (ps.take i) + sz l (m : Int) := by
              rw [List.take_succ_eq_append_getElem hlt, sumZ_app, hm]; simp [sumZ]
            have hs2 : 0 ≤ sumZ (sz l) (ps.take i) ∧ sumZ (sz l) (ps.take i) ≤ 7000000007 := by
              have q1 := sumZ_nn (g := sz l) (ks := ps.take i) fun k _ => (sz_nn (tabOk_tys ht) k).1
              have q2 := sumZ_le (g := sz l) (B := 1000000001) (ks := ps.take i) fun k _ => (sz_nn (tabOk_tys ht) k).2
              simp only [List.length_take] at q2
              omega
            gi_wp2
            refine ⟨trivial, (callsIn_wide.2 (ih m hml hmk wr s2 Ms Ss)).mono ?_⟩
            rintro e W3 ⟨rfl, s3, M3, S3, g3, Mo3, E3⟩
            gi_wp2
            exact ⟨⟨i + 1, s3, hlt, by simp, by rw [hs1], M3, S3, fun j hj h => Mo3 j hj (Mo j hj h), EW.trans E3 fun b hb _ => hb, EP.trans E3 fun b hb _ => hb⟩, by simp [intOf]; omega⟩
          · obtain rfl : i = ps.length := by omega
            simp only [List.take_length]
            obtain ⟨s', F1, F2, F3, F4, F5⟩ := fin (min (sumZ (sz l) ps) 1000000001) wr s2 hv Ms Ss Mo EW
            obtain ⟨W4, hW4⟩ : ∃ W4, wr.setCell ⟨g, n, none⟩ (.int .i64 (min (sumZ (sz l) ps) 1000000001)) = W4 := ⟨_, rfl⟩
            rw [hW4] at F1 F5
            have p1 := F1.o
            have p2 := F1.at hn
            rw [F3] at p2
            have o1 := Ms.o
            have o2 := Ms.at hn
            have o3 : wr.frozen? ⟨g, n, none⟩ = false := by simp [World.frozen?, Ms.vals]
            clear hv
            gi_wp2
            refine bodyPost_ret (results_tmp rfl _ _ _) rfl ?_
            exact ⟨rfl, s', F1, F2, F3, F4, F5⟩
end Go.Proofs.Sizes

namespace Go.Proofs.Sizes
open Go Go.AM Go.RowKit Go.Shelf Go.Proofs
attribute [local go_sem] Oper.semAt_some
set_option linter.unusedVariables false
set_option linter.unusedSimpArgs false

/-- What slices.Repeat does for us. -/
def Rep141 (len : Nat) : Prop := ∀ (w : World) (b : Nat), w.cell? ⟨b, 0, none⟩ = some (.int .i64 (-1)) → Calls Tryz.prog 129 #[.slice (some ⟨b, 0, none⟩) 1 1, .int .i64 (len : Int)] w fun e w' =>
  ∃ g, e = .returned (.slice (some ⟨g, 0, none⟩) len len) ∧ Ext w w' [] ∧ w.heap.size ≤ g ∧ w'.heap[g]? = some (.cells ((List.replicate len (-1 : Int)).map (Value.int .i64)).toArray 3 (0, 0))

set_option maxRecDepth 100000 in
set_option maxHeartbeats 4000000 in
theorem c62 (l : List Ty) (hl : (l.length : Int) ≤ 1048576) (hs : ∀ t ∈ l, t.sm) (ht : tabOk l = true) (h141 : Rep141 l.length) : Con Tryz.prog 62 [.fsl 6 (l.map Ty.z)] false (.usl 3 1 ((sizesL l).map iv)) [.dead] := by
  intro w Fz xs os hrep hos hfz hlt
  simp only [RepVs] at hrep
  obtain ⟨sv, _, o1, _, rfl, rfl, h1, rfl, rfl⟩ := hrep
  simp only [RepV] at h1
  have h1' := h1
  simp only [RepC] at h1
  obtain ⟨rfl, A, cap, rfl, hcap, hA⟩ := h1
  have h24 := tabOk_len ht
  have h3 := (tysOk_len (tabOk_tys ht)).1
  refine callsIn_wide (n := 9).1 (callsIn_of_wp Tryz.func62 rfl trivial ?_ rfl)
  simp only [Tryz.ntmps62, List.size_toArray, List.length_cons, List.length_nil, Nat.reduceAdd, Nat.reduceSub, Array.replicate_succ, Array.replicate_zero, List.push_toArray, List.append_toArray, List.nil_append, List.cons_append]
  obtain ⟨w4, hw4⟩ : ∃ w4, (w.alloc (Obj.cells #[Value.slice A l.length cap] 24)).alloc (Obj.cells #[Value.int .i64 (-1)] 3) = w4 := ⟨_, rfl⟩
  have hE4 : Ext w w4 [] := by rw [← hw4]; exact (Ext.alloc _ _ _).trans (Ext.alloc _ [] _) (by simp)
  have hb2 : w4.heap[w.heap.size]? = some (.cells #[Value.slice A l.length cap] 24) := by
    rw [← hw4, Below.heap_alloc _ _ _ (by simp)]
    exact World.alloc_heap_new _ _
  have hb3 : w4.heap[w.heap.size + 1]? = some (.cells #[Value.int .i64 (-1)] 3) := by
    rw [← hw4]
    have := World.alloc_heap_new (w.alloc (Obj.cells #[Value.slice A l.length cap] 24)) (.cells #[Value.int .i64 (-1)] 3)
    rwa [World.size_alloc] at this
  have hc2 : w4.cell? ⟨w.heap.size, 0, none⟩ = some (Value.slice A l.length cap) := by rw [cell_of_cells hb2]; rfl
  have hrepc := h141 w4 (w.heap.size + 1) (by rw [cell_of_cells hb3]; rfl)
  gi_wp2
  refine ⟨trivial, (callsIn_wide.2 hrepc).mono ?_⟩
  rintro e w5 ⟨g, rfl, hE5, hg4, hgc⟩
  have hgl := (Array.getElem?_eq_some_iff.1 hgc).1
  have hs4 : w4.heap.size = w.heap.size + 2 := by rw [← hw4]; simp
  have hs5 := hE5.size
  obtain ⟨w6, hw6⟩ : ∃ w6, (w5.alloc (Obj.cells #[Value.slice (some ⟨g, 0, none⟩) l.length l.length] 46)).alloc (Obj.cells #[Value.nilFunc] 99) = w6 := ⟨_, rfl⟩
  have hE56 : Ext w5 w6 [] := by rw [← hw6]; exact (Ext.alloc _ _ _).trans (Ext.alloc _ [] _) (by simp)
  have c3 : w6.heap[w5.heap.size]? = some (.cells #[Value.slice (some ⟨g, 0, none⟩) l.length l.length] 46) := by
    rw [← hw6, Below.heap_alloc _ _ _ (by simp)]
    exact World.alloc_heap_new _ _
  have c4 : w6.heap[w5.heap.size + 1]? = some (.cells #[Value.nilFunc] 99) := by
    rw [← hw6]
    have := World.alloc_heap_new (w5.alloc (Obj.cells #[Value.slice (some ⟨g, 0, none⟩) l.length l.length] 46)) (.cells #[Value.nilFunc] 99)
    rwa [World.size_alloc] at this
  have c4c : w6.cell? ⟨w5.heap.size + 1, 0, none⟩ = some Value.nilFunc := by rw [cell_of_cells c4]; rfl
  have c4f : w6.frozen? ⟨w5.heap.size + 1, 0, none⟩ = false := by simp [World.frozen?, c4]
  obtain ⟨w7, hw7⟩ : ∃ w7, w6.setCell ⟨w5.heap.size + 1, 0, none⟩ (Value.func (.func 130) #[] #[.pointer (some ⟨w5.heap.size, 0, none⟩), .pointer (some ⟨w.heap.size, 0, none⟩), .pointer (some ⟨w5.heap.size + 1, 0, none⟩)]) = w7 := ⟨_, rfl⟩
  have hE67 : Ext w6 w7 [w5.heap.size + 1] := by rw [← hw7]; exact ⟨rfl, rfl, rfl, by simp [World.setCell], fun b hb hn => Below.heap_setCell _ _ _ b (by simpa using hn)⟩
  have hE57 : Ext w5 w7 [] := hE56.trans hE67 fun b hb hlt => by simp at hb; omega
  have d3 : w7.heap[w5.heap.size]? = some (.cells #[Value.slice (some ⟨g, 0, none⟩) l.length l.length] 46) := (hE67.blk _ (Array.getElem?_eq_some_iff.1 c3).1 (by simp)).trans c3
  have d4 : w7.cell? ⟨w5.heap.size + 1, 0, none⟩ = some (Value.func (.func 130) #[] #[.pointer (some ⟨w5.heap.size, 0, none⟩), .pointer (some ⟨w.heap.size, 0, none⟩), .pointer (some ⟨w5.heap.size + 1, 0, none⟩)]) := by rw [← hw7]; exact World.cell?_setCell_same' _ _ _ (by rw [c4c]; rfl)
  have hE47 : Ext w4 w7 [] := hE5.trans hE57 (by simp)
  have hE7 : Ext w w7 [] := hE4.trans hE47 (by simp)
  have hl0 : ¬ List.map Ty.z l = [] := by intro h; have := congrArg List.length h; simp at this; subst this; simp at h3
  obtain ⟨gl, h, vs, rfl, hFg, hrs, hat⟩ := hA.resolve_left hl0
  have M7 : Mem w5.heap.size w.heap.size (w5.heap.size + 1) g gl h cap l.length Fz l (List.replicate l.length (-1)) w7 := by
    refine ⟨by rw [cell_of_cells d3]; rfl, by rw [cell_of_cells ((hE47.blk _ (by omega) (by simp)).trans hb2)]; rfl, d4, (hE57.blk g hgl (by simp)).trans hgc, by simp, AllF.keepW hlt hE7 (by simpa using h1'), fun b hb => ?_, by omega, by omega, by omega⟩
    have := hlt b hb
    have := hE7.size
    exact ⟨by omega, by omega⟩
  have hgr : ∀ j : Nat, j < l.length → getS (List.replicate l.length (-1)) (j : Int) = -1 := fun j hj => by simp [getS, hj]
  have m3 := M7.lb
  have hst : (store ⟨w5.heap.size + 1, 0, none⟩ (Value.func (.func 130) #[] #[.pointer (some ⟨w5.heap.size, 0, none⟩), .pointer (some ⟨w.heap.size, 0, none⟩), .pointer (some ⟨w5.heap.size + 1, 0, none⟩)])).run Tryz.prog w6 = .ok () w7 := by
    rw [run_store_func]
    simp [stored, go_sem, c4c, c4f, hw7]
  gi_wp2
  gi_loopw [13] (fun b wr => ∃ (i : Nat) (s2 : List Int), i ≤ l.length ∧ b = .int .i64 (i : Int) ∧ Mem w5.heap.size w.heap.size (w5.heap.size + 1) g gl h cap l.length Fz l s2 wr ∧ Som l s2 ∧ (∀ j : Nat, j < i → getS s2 (j : Int) = sz l (j : Int)) ∧ Ext w7 wr [g])
    (fun b _ => l.length - (intOf b).toNat)
  case atStart => exact ⟨0, _, Nat.zero_le _, rfl, M7, fun j hj => .inr (hgr j hj), fun j hj => absurd hj (by omega), Ext.refl _ _⟩
  case round =>
    obtain ⟨i, s2, hi, rfl, Ms, Ss, Di, EW⟩ := hrel
    by_cases hlt' : i < l.length
    · have hf := Ms.f
      gi_wp2
      refine ⟨trivial, (callsIn_wide.2 (c130 ht hs h24 (by simpa using hcap) (Nat.le_refl _) (rk l (i : Int) + 1) i hlt' (Nat.lt_succ_self _) wr s2 Ms Ss)).mono ?_⟩
      rintro e W3 ⟨rfl, s3, M3, S3, g3, Mo3, E3⟩
      gi_wp2
      exact ⟨⟨i + 1, s3, hlt', by simp, M3, S3, fun j hj => by
        by_cases e : j = i
        · rw [e]; exact g3
        · exact Mo3 j (by omega) (Di j (by omega)), EW.trans E3 fun b hb _ => hb⟩, by simp [intOf]; omega⟩
    · obtain rfl : i = l.length := by omega
      have o1 := Ms.o
      gi_wp2
      refine bodyPost_ret (results_tmp rfl _ _ _) rfl ?_
      have hs2 : s2 = sizesL l := by
        refine List.ext_getElem (by rw [Ms.len]; simp [sizesL]) fun j h1 h2 => ?_
        have hj : j < l.length := by rw [← Ms.len]; exact h1
        have := Di j hj
        rw [getS_at h1] at this
        simp [sizesL, this]
      refine ⟨_, [g], [], rfl, hE7.trans EW fun b hb hlt => by simp at hb; omega, ?_, ⟨_, _, [], [], rfl, rfl, rfl, rfl, rfl⟩, by simp, fun b hb => ?_⟩
      · rw [← hs2]
        simp only [RepV, RepC]
        refine .inr ⟨g, 0, l.length, _, s2.map (Value.int .i64), [], by simp [Ms.len], rfl, Ms.vals, by simp [Ms.len], by simp [Ms.len], cells_int s2, fun j u hj => ?_⟩
        rw [cell_of_cells Ms.vals]
        simpa using hj
      · simp at hb
        subst hb
        have := (Array.getElem?_eq_some_iff.1 Ms.vals).1
        exact ⟨.inr (by omega), this⟩
end Go.Proofs.Sizes

namespace Go.Proofs.Sizes
open Go Go.AM Go.RowKit Go.Shelf Go.Proofs
attribute [local go_sem] Oper.semAt_some
set_option linter.unusedVariables false
set_option linter.unusedSimpArgs false

theorem e_zero : bits .and .u64 0 4294967295 = 0 := by decide
theorem e_one : bits .and .u64 1 4294967295 = 1 := by decide
theorem e_n (k : Nat) (hk : k < 4294967296) : bits .and .u64 (k : Int) 4294967295 = (k : Int) := by
  rw [Go.Proofs.Mul64.maskN k (by omega)]
  omega

set_option maxRecDepth 100000 in
set_option maxHeartbeats 1000000 in
theorem mul198 (F : Fence) (n : Nat) (h : F.fn 236) (hro : F.round = none) (k : Nat) (hk : k < 4294967296) (w : World) : CallsIn F n Tryz.prog 236 #[.int .u64 1, .int .u64 (k : Int)] w fun e w' => e = .returned (.tuple #[.int .u64 0, .int .u64 (k : Int)]) ∧ w' = w := by
  refine callsIn_of_wp Tryz.func236 rfl h ?_ hro
  simp only [Tryz.ntmps236, List.size_toArray, List.length_cons, List.length_nil, Nat.reduceAdd, Nat.reduceSub, Array.replicate_succ, Array.replicate_zero, List.push_toArray, List.append_toArray, List.nil_append, List.cons_append]
  have w1 := Go.Proofs.Mul64.wrapN k (by omega)
  have e0 := e_zero
  have e1 := e_one
  have e2 := e_n k hk
  have e3 : (k : Int) / 4294967296 = 0 := by omega
  gi_wp2
  refine bodyPost_ret (results_tmp2 rfl _ _ _) rfl ?_
  exact ⟨rfl, rfl⟩

set_option maxRecDepth 100000 in
set_option maxHeartbeats 1000000 in
theorem mul173 (F : Fence) (n : Nat) (h : F.fn 236) (h2 : F.fn 199) (hro : F.round = none) (hd : F.depth = none) (k : Nat) (hk : k < 4294967296) (w : World) : CallsIn F n Tryz.prog 199 #[.int .u64 1, .int .u64 (k : Int)] w fun e w' => e = .returned (.tuple #[.int .u64 0, .int .u64 (k : Int)]) ∧ w' = w := by
  refine callsIn_of_wp Tryz.func199 rfl h2 ?_ hro
  simp only [Tryz.ntmps199, List.size_toArray, List.length_cons, List.length_nil, Nat.reduceAdd, Nat.reduceSub, Array.replicate_succ, Array.replicate_zero, List.push_toArray, List.append_toArray, List.nil_append, List.cons_append]
  gi_wp2_with (gi_at_call 236; refine (mul198 F _ h hro k hk _).mono ?_; rintro e w' ⟨rfl, rfl⟩)
  refine bodyPost_ret (results_tmp2 rfl _ _ _) rfl ?_
  exact ⟨rfl, rfl⟩
end Go.Proofs.Sizes

namespace Go.Proofs.Sizes
open Go Go.AM Go.RowKit Go.Shelf Go.Proofs
set_option linter.unusedVariables false
set_option linter.unusedSimpArgs false

theorem info3 : (Tryz.prog.info? 3).map (fun i => (i.zero, i.size, i.bytes)) = some (some (.int .i64 0), 1, 8) := by kernel_rfl
theorem made0 (n : Nat) : madeCells (Value.cells (.int .i64 0)) (n * 1) = (List.replicate n (Value.int .i64 0)).toArray := by
  apply Array.ext
  · simp [madeCells]
  · intro i h1 h2
    simp [madeCells, Value.cells, Nat.mod_one]

def RowN (len n : Nat) : List Value := List.replicate n (Value.int .i64 (-1)) ++ List.replicate (len - n) (Value.int .i64 0)
theorem RowN_copy {len n m : Nat} (h : n + m ≤ len) : (RowN len n).toArray.toList.take n ++ List.replicate m (Value.int .i64 (-1)) ++ (RowN len n).toArray.toList.drop (n + m) = RowN len (n + m) := by
  have e1 : (RowN len n).take n = List.replicate n (Value.int .i64 (-1)) := by simp [RowN]
  have e2 : (RowN len n).drop (n + m) = List.replicate (len - (n + m)) (Value.int .i64 0) := by
    rw [RowN, List.drop_append]
    simp
    omega
  simp only [e1, e2]
  rw [RowN, List.replicate_append_replicate]

set_option maxRecDepth 100000 in
set_option maxHeartbeats 2000000 in
theorem rep141 (len : Nat) (h0 : 0 < len) (hl : len ≤ 24) : Rep141 len := by
  intro w b hc
  refine calls_of_wp Tryz.func129 rfl ?_
  simp only [Tryz.ntmps129, List.size_toArray, List.length_cons, List.length_nil, Nat.reduceAdd, Nat.reduceSub, Array.replicate_succ, Array.replicate_zero, List.push_toArray, List.append_toArray, List.nil_append, List.cons_append]
  have w1 := Go.Proofs.Mul64.wrapN len (by omega)
  obtain ⟨i0, hi, hz0, hz1, hz2⟩ := info_parts info3
  have e3 : decide ((9223372036854775807 : Int) < (len : Int)) = false := by simp; omega
  have hmk := run_makeSlice (P := Tryz.prog) (w := w) 46 3 i0 _ Tryz.underlying46 hi hz0 .i64 .i64 (len : Int) (len : Int) (by omega) (by omega) (by rw [hz1]; simp; omega) (by rw [hz2]; omega) (by omega)
  rw [hz1, Int.toNat_natCast, made0] at hmk
  obtain ⟨w2, hw2⟩ : ∃ w2, w.alloc (.cells (List.replicate len (Value.int .i64 0)).toArray 3) = w2 := ⟨_, rfl⟩
  rw [hw2] at hmk
  have hgl : w.heap.size < w2.heap.size := by rw [← hw2]; simp
  have hg2 : w2.heap[w.heap.size]? = some (.cells (List.replicate len (Value.int .i64 0)).toArray 3 (0, 0)) := by rw [← hw2]; exact World.alloc_heap_new _ _
  have hcb : w2.cell? ⟨b, 0, none⟩ = some (.int .i64 (-1)) := by
    have hblt := World.block_lt_of_cell? w _ hc
    rw [← hw2]
    exact (World.cell?_of_block (Below.heap_alloc _ _ _ hblt)).trans hc
  have hsz : (Tryz.prog.info? 3).map (·.size) = some 1 := by rw [hi]; simp [hz1]
  have hcp := run_copy_row (P := Tryz.prog) w2 46 46 3 3 w.heap.size 0 len len ⟨b, 0, none⟩ 1 1 (List.replicate len (Value.int .i64 0)).toArray 3 [.int .i64 (-1)] Tryz.underlying46 hsz hg2 (by show 1 = min 1 len; omega) (by
    intro j v hj
    cases j with
    | zero => simp at hj; subst hj; simpa [Addr.add] using hcb
    | succ j => simp at hj) (by simp; omega) (by simp [Value.oneCell'])
  generalize hw3 : w2.setRow _ _ = w3 at hcp
  have hg3 : w3.heap[w.heap.size]? = some (.cells (RowN len 1).toArray 3 (0, 0)) := by
    rw [← hw3, setRow_heap _ _ _ _ _ _ hg2]
    simp [RowN]
  have hE3 : Ext w w3 [] := by
    rw [← hw3, ← hw2]
    exact ⟨rfl, rfl, rfl, by simp [World.setRow], fun k hk _ => (setRow_other _ _ k _ (by omega)).trans (Below.heap_alloc _ _ _ hk)⟩
  obtain ⟨g, hgd⟩ : ∃ g, w.heap.size = g := ⟨_, rfl⟩
  have hE2 : Ext w w2 [] := by rw [← hw2]; exact Ext.alloc _ _ _
  have hE23 : Ext w2 w3 [g] := by
    rw [← hw3]
    exact ⟨rfl, rfl, rfl, by simp [World.setRow], fun k hk hn => setRow_other _ _ k _ (by simp at hn; omega)⟩
  rw [hgd] at hmk hcp hg3
  go_wp2_with (go_at_call 199; refine (callsIn_wide.1 (mul173 Fence.wide 0 trivial trivial rfl rfl len (by omega) _)).mono ?_; rintro e w' ⟨rfl, rfl⟩)
  go_loopw [8] (fun a wr => ∃ n : Nat, 0 < n ∧ n ≤ len ∧ a = .int .i64 (n : Int) ∧ wr.heap[g]? = some (Obj.cells (RowN len n).toArray 3 (0, 0)) ∧ Ext w2 wr [g]) (fun a _ => len - (intOf a).toNat)
  case atStart => exact ⟨1, by omega, by omega, rfl, hg3, hE23⟩
  case round =>
    obtain ⟨n, n0, n1, rfl, hgr, hER⟩ := hrel
    by_cases hlt : n < len
    · have hcells : ∀ j v, (List.replicate (min n (len - n)) (Value.int .i64 (-1)))[j]? = some v → wr.cell? ((⟨g, 0, none⟩ : Addr).add j) = some v := by
        intro j v hj
        obtain ⟨hj1, rfl⟩ := List.getElem?_eq_some_iff.1 hj
        simp at hj1
        have ea : ((⟨g, 0, none⟩ : Addr).add j) = ⟨g, j, none⟩ := by cases j <;> simp [Addr.add]
        rw [ea, cell_of_cells hgr]
        simp only [List.getElem?_toArray, RowN]
        rw [List.getElem?_append_left (by simp; omega), List.getElem?_replicate, if_pos (by omega), List.getElem_replicate]
      have hcq := run_copy_row (P := Tryz.prog) wr.drew 46 46 3 3 g n (len - n) (len - n) ⟨g, 0, none⟩ n len (RowN len n).toArray 3 (List.replicate (min n (len - n)) (Value.int .i64 (-1))) Tryz.underlying46 hsz hgr (by simp) hcells (by simp [RowN]; omega) (by intro v hv; rw [(List.mem_replicate.1 hv).2]; rfl)
      generalize hw4 : wr.drew.setRow g _ = w4 at hcq
      have hg4 : w4.heap[g]? = some (.cells (RowN len (n + min n (len - n))).toArray 3 (0, 0)) := by
        rw [← hw4, setRow_heap _ _ _ _ _ _ (show wr.drew.heap[g]? = _ from hgr)]
        have := RowN_copy (len := len) (n := n) (m := min n (len - n)) (by omega)
        rw [← this]
        simp
      have hE4 : Ext wr w4 [g] := by
        rw [← hw4]
        exact ⟨rfl, rfl, rfl, by simp [World.setRow], fun k hk hn => setRow_other _ _ k _ (by simp at hn; omega)⟩
      rw [List.length_replicate] at hcq
      go_wp2
      go_region
      all_goals go_wp2
      exact ⟨⟨n + min n (len - n), by omega, by omega, by simp, hg4, hER.trans hE4 fun k hk _ => hk⟩, by simp [intOf]; omega⟩
    · obtain rfl : n = len := by omega
      go_wp2
      refine bodyPost_ret (results_tmp rfl _ _ _) rfl ?_
      refine ⟨g, rfl, hE2.trans hER fun k hk hlt => by simp at hk; omega, by omega, ?_⟩
      rw [hgr]
      simp [RowN]
end Go.Proofs.Sizes

namespace Go.AM
set_option linter.unusedVariables false
set_option linter.unusedSimpArgs false
theorem d62 (l : List Ty) (hl : (l.length : Int) ≤ 1048576) (hs : ∀ s ∈ l, s.sm) (ht : tabOk l = true) : Does Go.Proofs.Tryz.prog 62 [.fsl 6 (l.map Ty.z)] false (.usl 3 1 ((sizesL l).map iv)) [.dead] :=
  ⟨by decide +kernel, Go.Proofs.Sizes.c62 l hl hs ht (Go.Proofs.Sizes.rep141 l.length (by have := (tysOk_len (tabOk_tys ht)).1; omega) (tabOk_len ht))⟩

end Go.AM
namespace Go.AM
set_option linter.unusedVariables false
set_option linter.unusedSimpArgs false
def upL (n b : Int) : Int := (n + b - 1) / b * b

theorem upL_le {n b : Int} (h0 : 0 ≤ n) (h1 : 1 ≤ b) : n ≤ upL n b ∧ upL n b < n + b := by
  unfold upL
  have e1 := Int.emod_add_mul_ediv (n + b - 1) b
  have e2 := Int.emod_nonneg (n + b - 1) (show b ≠ 0 by omega)
  have e3 := Int.emod_lt_of_pos (n + b - 1) (show 0 < b by omega)
  have e4 := Int.mul_comm b ((n + b - 1) / b)
  omega

theorem upL_nn {n b : Int} (h0 : 0 ≤ n) (h1 : 1 ≤ b) : 0 ≤ (n + b - 1) / b ∧ (n + b - 1) / b ≤ n + b - 1 := by
  exact ⟨Int.ediv_nonneg (by omega) (by omega), Int.ediv_le_self _ (by omega)⟩

/-- loop.example/g00837/impl.lineUp -/
def m65 : MC :=
  (.seq
   (.reg [⟨(some 4), none, .a (.asg (.c (.int .i64 0)))⟩])
   (.seq
    (.reg [⟨(some 5), none, .q (.mov (.t 0))⟩,
      ⟨(some 6), none, .q (.mov (.t 1))⟩,
      ⟨(some 7), none, .q (.bin false .add (.t 5) (.t 6))⟩,
      ⟨(some 8), none, .q (.bin false .sub (.t 7) (.c (.int .i64 1)))⟩,
      ⟨(some 9), none, .q (.mov (.t 1))⟩,
      ⟨(some 10), none, .q (.bin false .quo (.t 8) (.t 9))⟩,
      ⟨(some 11), none, .q (.mov (.t 1))⟩,
      ⟨(some 12), none, .q (.bin false .mul (.t 10) (.t 11))⟩,
      ⟨(some 4), none, .a (.asg (.t 12))⟩])
    .ret))

theorem d65 (n b : Int) (h0 : 0 ≤ n) (h1 : n ≤ 1000000000000) (h2 : 1 ≤ b) (h3 : b ≤ 1000000000000) : Does Go.Proofs.Tryz.prog 65 [.v (.int .i64 n), .v (.int .i64 b)] false (.v (.int .i64 (upL n b))) [.dead, .dead] := by
  have e1 : (n + b - 1).tdiv b = (n + b - 1) / b := Int.tdiv_eq_ediv_of_nonneg (by omega)
  have g1 := upL_le h0 h2
  have g2 := upL_nn h0 h2
  have w1 := w64 (n + b) (by omega)
  have w2 := w64 (n + b - 1) (by omega)
  have w3 := w64 ((n + b - 1) / b) (by omega)
  have w4 : IntKind.i64.wrap ((n + b - 1) / b * b) = upL n b := w64 (upL n b) (by omega)
  have hb : b ≠ 0 := by omega
  refine does_intro (mc := m65) (N := 13) (rs := [4]) (fx := []) 2 rfl (by decide +kernel) ?_
  simp only [m65, w1, w2, e1, w3, w4, EV, Nat.reduceEqDiff, Nat.reduceBEq, Nat.reduceLT, Nat.reduceLeDiff, Nat.reduceAdd, Nat.reduceSub, reduceIte]
  refine ⟨hb, ?_⟩
  simp only [EV, Nat.reduceEqDiff, Nat.reduceBEq, Nat.reduceLT, Nat.reduceLeDiff, Nat.reduceAdd, Nat.reduceSub, reduceIte, evRE, retVC, cellV', evR, nfz, nfzs, nfzss, List.contains_nil, List.contains_cons, Bool.or_false, or_true]

/-- loop.example/g00837/spec.l10Up -/
def m136 : MC :=
  (.seq
   (.reg [⟨(some 4), none, .a (.asg (.c (.int .i64 0)))⟩])
   (.seq
    (.reg [⟨(some 5), none, .q (.mov (.t 0))⟩,
      ⟨(some 6), none, .q (.mov (.t 1))⟩,
      ⟨(some 7), none, .q (.bin false .add (.t 5) (.t 6))⟩,
      ⟨(some 8), none, .q (.bin false .sub (.t 7) (.c (.int .i64 1)))⟩,
      ⟨(some 9), none, .q (.mov (.t 1))⟩,
      ⟨(some 10), none, .q (.bin false .quo (.t 8) (.t 9))⟩,
      ⟨(some 11), none, .q (.mov (.t 1))⟩,
      ⟨(some 12), none, .q (.bin false .mul (.t 10) (.t 11))⟩,
      ⟨(some 4), none, .a (.asg (.t 12))⟩])
    .ret))

theorem d136 (n b : Int) (h0 : 0 ≤ n) (h1 : n ≤ 1000000000000) (h2 : 1 ≤ b) (h3 : b ≤ 1000000000000) : Does Go.Proofs.Tryz.prog 136 [.v (.int .i64 n), .v (.int .i64 b)] false (.v (.int .i64 (upL n b))) [.dead, .dead] := by
  have e1 : (n + b - 1).tdiv b = (n + b - 1) / b := Int.tdiv_eq_ediv_of_nonneg (by omega)
  have g1 := upL_le h0 h2
  have g2 := upL_nn h0 h2
  have w1 := w64 (n + b) (by omega)
  have w2 := w64 (n + b - 1) (by omega)
  have w3 := w64 ((n + b - 1) / b) (by omega)
  have w4 : IntKind.i64.wrap ((n + b - 1) / b * b) = upL n b := w64 (upL n b) (by omega)
  have hb : b ≠ 0 := by omega
  refine does_intro (mc := m136) (N := 13) (rs := [4]) (fx := []) 2 rfl (by decide +kernel) ?_
  simp only [m136, w1, w2, e1, w3, w4, EV, Nat.reduceEqDiff, Nat.reduceBEq, Nat.reduceLT, Nat.reduceLeDiff, Nat.reduceAdd, Nat.reduceSub, reduceIte]
  refine ⟨hb, ?_⟩
  simp only [EV, Nat.reduceEqDiff, Nat.reduceBEq, Nat.reduceLT, Nat.reduceLeDiff, Nat.reduceAdd, Nat.reduceSub, reduceIte, evRE, retVC, cellV', evR, nfz, nfzs, nfzss, List.contains_nil, List.contains_cons, Bool.or_false, or_true]

end Go.AM
namespace Go.AM
set_option linter.unusedVariables false
set_option linter.unusedSimpArgs false
def byOf (g : Int) : Int := max 1 (min 8 g)

theorem byOf_in (g : Int) : 1 ≤ byOf g ∧ byOf g ≤ 8 := by unfold byOf; omega

def layStep (g : Int → Int) (s : Option (List Fd × Int)) (f : Fd) : Option (List Fd × Int) := match s with
  | none => none
  | some (out, e) => if (decide (1000000000 < g f.typ) || decide (1000000000 < upL e (byOf (g f.typ)))) = true then none
    else some (out ++ [⟨f.name, upL e (byOf (g f.typ)), g f.typ⟩], upL e (byOf (g f.typ)) + g f.typ)

def layS (g : Int → Int) (fs : List Fd) : Option (List Fd × Int) := fs.foldl (layStep g) (some ([], 0))

theorem lay_none (g : Int → Int) : ∀ fs : List Fd, fs.foldl (layStep g) none = none
  | [] => rfl
  | f :: fs => lay_none g fs

theorem layS_app (g : Int → Int) (a b : List Fd) : layS g (a ++ b) = b.foldl (layStep g) (layS g a) := by unfold layS; rw [List.foldl_append]

theorem layS_take (g : Int → Int) {fs : List Fd} {i : Nat} (h : i < fs.length) : layS g (fs.take (i + 1)) = layStep g (layS g (fs.take i)) fs[i] := by
  rw [List.take_succ_eq_append_getElem h, layS_app]; rfl

theorem layS_cut (g : Int → Int) {fs : List Fd} {i : Nat} (h : layS g (fs.take i) = none) : layS g fs = none := by
  rw [← List.take_append_drop i fs, layS_app, h]; exact lay_none g _

/-- What is known of places that were laid. -/
theorem layS_ok {g : Int → Int} (hg : ∀ k, 0 ≤ g k) (fs : List Fd) : ∀ (i : Nat), i ≤ fs.length → ∀ {out : List Fd} {e : Int}, layS g (fs.take i) = some (out, e) → out.length = i ∧ 0 ≤ e ∧ e ≤ 2000000000
  | 0, _, out, e, h => by
    simp only [List.take_zero, layS, List.foldl_nil, Option.some.injEq, Prod.mk.injEq] at h
    obtain ⟨rfl, rfl⟩ := h
    simp
  | i + 1, hi, out, e, h => by
    rw [layS_take g (by omega)] at h
    cases hl : layS g (fs.take i) with
    | none => rw [hl] at h; simp [layStep] at h
    | some p =>
      obtain ⟨o, e'⟩ := p
      obtain ⟨h1, h2, h3⟩ := layS_ok hg fs i (by omega) hl
      rw [hl] at h
      simp only [layStep] at h
      split at h
      · cases h
      · rename_i hn
        simp only [Bool.or_eq_true, decide_eq_true_eq, not_or] at hn
        simp only [Option.some.injEq, Prod.mk.injEq] at h
        obtain ⟨rfl, rfl⟩ := h
        have b1 := byOf_in (g fs[i].typ)
        have u := upL_le h2 b1.1
        have := hg fs[i].typ
        refine ⟨by simp [h1], by omega, by omega⟩

noncomputable def layO (l : List Ty) (n : Int) : Option (List Fd) := if recOk l n = true then (layS (sz l) (allF l n)).map (·.1) else none

theorem allL_typ {l : List Ty} (ht : tysOk l = true) : ∀ (ns : List Int), ∀ f ∈ allL l ns, isNum l f.typ = true
  | [], f, hf => by simp [allL] at hf
  | n :: ns, f, hf => by
    simp only [allL, List.mem_append] at hf
    rcases hf with hf | hf
    · exact allL_typ ht ns f hf
    · unfold fdsAt at hf
      split at hf
      · rename_i t h
        obtain ⟨hn, rfl⟩ := List.getElem?_eq_some_iff.1 h
        exact (tysOk_good ht hn).flds f hf
      · simp at hf

/-- loop.example/g00837/spec.l10Layout -/
def m69 : MC :=
  (.seq
   (.reg [⟨(some 4), none, .a (.asg (.nils 35 3))⟩,
     ⟨(some 5), none, .a (.asg (.c (.bool false)))⟩])
   (.seq
    (.reg [⟨(some 6), none, .a (.asg (.nils 35 3))⟩])
    (.seq
     (.reg [⟨(some 7), none, .a (.asg (.c (.int .i64 0)))⟩])
     (.seq
      (.seq
       (.reg [⟨(some 12), none, .q (.mov (.t 0))⟩,
         ⟨(some 13), none, .q (.mov (.t 1))⟩,
         ⟨(some 14), none, .a (.call (.fn 134) false [.lend (.t 12), .lend (.t 13)])⟩,
         ⟨(some 15), none, .q (.len false (.t 14))⟩,
         ⟨(some 16), none, .q (.mov (.c (.int .i64 0)))⟩])
       (.block 0
        (.loop [0, 6, 7, 14, 15, 16, 42]
         (.seq
          (.reg [⟨(some 17), none, .q (.bin false .lss (.t 16) (.t 15))⟩])
          (.seq
           (.cond (.t 17)
            .skip
            (.exit 0))
           (.seq
            (.block 1
             (.seq
              (.reg [⟨(some 18), none, .q (.iad 3 (.t 14) (.t 16))⟩,
                ⟨(some 19), none, .q (.load true 3 (.t 18))⟩,
                ⟨(some 9), none, .a (.alloc 97 [.v (.string ({ data := #[] })), .v (.int .i64 0), .v (.int .i64 0)])⟩,
                ⟨none, none, .a (.store 3 (.t 9) (.t 19))⟩])
              (.seq
               (.reg [⟨(some 20), none, .q (.mov (.t 0))⟩,
                 ⟨(some 21), none, .q (.fad 2 (.t 9))⟩,
                 ⟨(some 22), none, .q (.load false 1 (.t 21))⟩,
                 ⟨(some 23), none, .a (.call (.fn 135) false [.lend (.t 20), .lend (.t 22)])⟩,
                 ⟨(some 10), none, .a (.asg (.t 23))⟩])
               (.seq
                (.reg [⟨(some 24), none, .q (.mov (.t 7))⟩,
                  ⟨(some 25), none, .q (.mov (.t 10))⟩,
                  ⟨(some 26), none, .a (.call (.fn 137) false [.lend (.c (.int .i64 8)), .lend (.t 25)])⟩,
                  ⟨(some 27), none, .a (.call (.fn 75) false [.lend (.c (.int .i64 1)), .lend (.t 26)])⟩,
                  ⟨(some 28), none, .a (.call (.fn 136) false [.lend (.t 24), .lend (.t 27)])⟩,
                  ⟨(some 11), none, .a (.asg (.t 28))⟩])
                (.seq
                 (.seq
                  (.reg [⟨(some 29), none, .q (.mov (.t 10))⟩,
                    ⟨(some 30), none, .q (.bin false .gtr (.t 29) (.c (.int .i64 1000000000)))⟩,
                    ⟨(some 31), none, .q (.mov (.t 30))⟩,
                    ⟨(some 32), (some (31, false)), .q (.mov (.t 11))⟩,
                    ⟨(some 33), (some (31, false)), .q (.bin false .gtr (.t 32) (.c (.int .i64 1000000000)))⟩,
                    ⟨(some 34), none, .q (.pick (.t 31) (.c (.bool true)) (.t 33))⟩])
                  (.cond (.t 34)
                   (.seq
                    (.reg [⟨(some 4), none, .a (.asg (.nils 35 3))⟩,
                      ⟨(some 5), none, .a (.asg (.c (.bool false)))⟩])
                    .ret)
                   .skip))
                 (.seq
                  (.reg [⟨(some 35), none, .q (.mov (.t 6))⟩,
                    ⟨(some 36), none, .q (.fad 0 (.t 9))⟩,
                    ⟨(some 37), none, .q (.load false 1 (.t 36))⟩,
                    ⟨(some 38), none, .q (.mov (.t 11))⟩,
                    ⟨(some 39), none, .q (.mov (.t 10))⟩,
                    ⟨(some 40), none, .a (.build [0, 1, 2] [0, 1, 2] [1, 1, 1] [.v (.string ({ data := #[] })), .v (.int .i64 0), .v (.int .i64 0)] [.t 37, .t 38, .t 39])⟩,
                    ⟨(some 41), none, .a (.bsl 35 3 [.t 40])⟩,
                    ⟨(some 42), none, .a (.app true 35 3 32 (.t 35) (.t 41))⟩,
                    ⟨(some 6), none, .a (.asg (.t 42))⟩])
                  (.reg [⟨(some 43), none, .q (.mov (.t 11))⟩,
                    ⟨(some 44), none, .q (.mov (.t 10))⟩,
                    ⟨(some 45), none, .q (.bin false .add (.t 43) (.t 44))⟩,
                    ⟨(some 7), none, .a (.asg (.t 45))⟩])))))))
            (.reg [⟨(some 46), none, .q (.bin false .add (.t 16) (.c (.int .i64 1)))⟩,
              ⟨(some 16), none, .q (.mov (.t 46))⟩])))))))
      (.seq
       (.reg [⟨(some 47), none, .q (.mov (.t 6))⟩,
         ⟨(some 4), none, .a (.asg (.t 47))⟩,
         ⟨(some 5), none, .a (.asg (.c (.bool true)))⟩])
       .ret)))))

set_option maxHeartbeats 1000000 in
set_option maxRecDepth 100000 in
theorem d69 (l : List Ty) (n : Int) (hl : (l.length : Int) ≤ 1048576) (hs : ∀ s ∈ l, s.sm) (ht : tabOk l = true) (hr : isRec l n = true) :
    Does Go.Proofs.Tryz.prog 69 [.fsl 6 (l.map Ty.z), .v (.int .i64 n)] false (.tup [.usl 35 3 ((((layS (sz l) (allF l n)).map (·.1)).getD []).map Fd.o), .v (.bool (layS (sz l) (allF l n)).isSome)]) [.dead, .dead] := by
  have hA := allF_len ht n
  have hT : ∀ f ∈ allF l n, isNum l f.typ = true := allL_typ (tabOk_tys ht) _
  have hg : ∀ k, 0 ≤ sz l k := fun k => (sz_nn (tabOk_tys ht) k).1
  have hg1 : ∀ k, sz l k ≤ 1000000001 := fun k => (sz_nn (tabOk_tys ht) k).2
  refine does_intro (mc := m69) (N := 48) (rs := [4, 5]) (fx := []) 2 rfl (by decide +kernel) ?_
  simp only [m69, EV, Nat.reduceEqDiff, Nat.reduceBEq, Nat.reduceLT, Nat.reduceLeDiff, Nat.reduceAdd, Nat.reduceSub, reduceIte]
  refine callK_i (d134 l hl ht _ n (Nat.lt_succ_self _) (.inr hr)) ?_
  generalize allF l n = fs at hA hT ⊢
  simp only [EV, Nat.reduceEqDiff, Nat.reduceBEq, Nat.reduceLT, Nat.reduceLeDiff, Nat.reduceAdd, Nat.reduceSub, reduceIte]
  refine awp_loop (fun p : List Fd × Int × Nat => p.2.2 ≤ fs.length ∧ layS (sz l) (fs.take p.2.2) = some (p.1, p.2.1)) (fun p => stl [(0, .fsl 6 (l.map Ty.z)), (6, .usl 35 3 (p.1.map Fd.o)), (7, .v (.int .i64 p.2.1)), (14, .usl 97 3 (fs.map Fd.o)), (15, .v (.int .i64 (fs.length : Int))), (16, .v (.int .i64 (p.2.2 : Int))), (42, .dead)]) (fun p => fs.length - p.2.2) ([], 0, 0) ⟨Nat.zero_le _, rfl⟩ ?_ ?_
  · simp only [EV, Nat.reduceEqDiff, Nat.reduceBEq, Nat.reduceLT, Nat.reduceLeDiff, Nat.reduceAdd, Nat.reduceSub, reduceIte]
    rfl
  · rintro ⟨out, e, i⟩ ⟨g1, g2⟩
    simp only at g1 g2
    obtain ⟨o1, o2, o3⟩ := layS_ok hg fs i g1 g2
    simp only [EV, Nat.reduceEqDiff, Nat.reduceBEq, Nat.reduceLT, Nat.reduceLeDiff, Nat.reduceAdd, Nat.reduceSub, reduceIte]
    refine cK_cut (fun h => ?_) (fun h => ?_)
    · have h1 : i < fs.length := by simpa using h
      have h2 : (i : Int) < (fs.length : Int) := by omega
      have hf := hT _ (List.getElem_mem h1)
      have s0 := hg fs[i].typ
      have s1 := hg1 fs[i].typ
      have b1 := byOf_in (sz l fs[i].typ)
      have u1 := upL_le o2 b1.1
      have st := layS_take (sz l) h1
      rw [g2] at st
      simp only [layStep] at st
      clear h
      simp only [h1, h2, nth_map h1, FdE, Fd.o, EV, Nat.reduceEqDiff, Nat.reduceBEq, Nat.reduceLT, Nat.reduceLeDiff, Nat.reduceAdd, Nat.reduceSub, reduceIte]
      refine callK_i (d135 l fs[i].typ hl hs ht hf) ?_
      simp only [EV, Nat.reduceEqDiff, Nat.reduceBEq, Nat.reduceLT, Nat.reduceLeDiff, Nat.reduceAdd, Nat.reduceSub, reduceIte]
      refine callK_i (d137 8 (sz l fs[i].typ)) ?_
      simp only [EV, Nat.reduceEqDiff, Nat.reduceBEq, Nat.reduceLT, Nat.reduceLeDiff, Nat.reduceAdd, Nat.reduceSub, reduceIte]
      refine callK_i (d75 1 (min 8 (sz l fs[i].typ))) ?_
      simp only [EV, Nat.reduceEqDiff, Nat.reduceBEq, Nat.reduceLT, Nat.reduceLeDiff, Nat.reduceAdd, Nat.reduceSub, reduceIte]
      refine callK_i (d136 e (byOf (sz l fs[i].typ)) o2 (by omega) b1.1 (by omega)) ?_
      simp only [EV, Nat.reduceEqDiff, Nat.reduceBEq, Nat.reduceLT, Nat.reduceLeDiff, Nat.reduceAdd, Nat.reduceSub, reduceIte]
      rcases c1 : decide (1000000000 < sz l fs[i].typ) with _ | _
      · rw [c1] at st
        simp only [EV, Nat.reduceEqDiff, Nat.reduceBEq, Nat.reduceLT, Nat.reduceLeDiff, Nat.reduceAdd, Nat.reduceSub, reduceIte]
        rcases c2 : decide (1000000000 < upL e (byOf (sz l fs[i].typ))) with _ | _
        · rw [c2, Bool.false_or, if_neg (by decide)] at st
          have c3 : upL e (byOf (sz l fs[i].typ)) ≤ 1000000000 := by simpa using c2
          have c4 : sz l fs[i].typ ≤ 1000000000 := by simpa using c1
          have w1 := w64 (upL e (byOf (sz l fs[i].typ)) + sz l fs[i].typ) (by omega)
          have w2 := w64 ((i : Int) + 1) (by omega)
          simp only [FdE, Fd.o, List.length_map, w1, w2, EV, Nat.reduceEqDiff, Nat.reduceBEq, Nat.reduceLT, Nat.reduceLeDiff, Nat.reduceAdd, Nat.reduceSub, reduceIte]
          exact ⟨by omega, by omega, (out ++ [⟨fs[i].name, upL e (byOf (sz l fs[i].typ)), sz l fs[i].typ⟩], upL e (byOf (sz l fs[i].typ)) + sz l fs[i].typ, i + 1), ⟨h1, st⟩, by simp only; omega, by rw [List.map_append]; rfl⟩
        · rw [c2, Bool.false_or, if_pos rfl] at st
          have hn := layS_cut (sz l) st
          simp only [EV, Nat.reduceEqDiff, Nat.reduceBEq, Nat.reduceLT, Nat.reduceLeDiff, Nat.reduceAdd, Nat.reduceSub, reduceIte]
          simp only [hn, Option.map_none, Option.getD_none, Option.isSome_none, List.map_nil, EV, Nat.reduceEqDiff, Nat.reduceBEq, Nat.reduceLT, Nat.reduceLeDiff, Nat.reduceAdd, Nat.reduceSub, reduceIte, evRE, retVC, cellV', evR, nfz, nfzs, nfzss, List.contains_nil, List.contains_cons, Bool.or_false, or_true]
      · rw [c1, Bool.true_or, if_pos rfl] at st
        have hn := layS_cut (sz l) st
        simp only [EV, Nat.reduceEqDiff, Nat.reduceBEq, Nat.reduceLT, Nat.reduceLeDiff, Nat.reduceAdd, Nat.reduceSub, reduceIte]
        simp only [hn, Option.map_none, Option.getD_none, Option.isSome_none, List.map_nil, EV, Nat.reduceEqDiff, Nat.reduceBEq, Nat.reduceLT, Nat.reduceLeDiff, Nat.reduceAdd, Nat.reduceSub, reduceIte, evRE, retVC, cellV', evR, nfz, nfzs, nfzss, List.contains_nil, List.contains_cons, Bool.or_false, or_true]
    · have h1 : i = fs.length := by have : ¬ (i : Int) < (fs.length : Int) := by simpa using h
                                    omega
      subst h1
      rw [List.take_length] at g2
      simp only [EV, Nat.reduceEqDiff, Nat.reduceBEq, Nat.reduceLT, Nat.reduceLeDiff, Nat.reduceAdd, Nat.reduceSub, reduceIte]
      simp only [g2, Option.map_some, Option.getD_some, Option.isSome_some, Fd.nfz, Fd.frz, EV, Nat.reduceEqDiff, Nat.reduceBEq, Nat.reduceLT, Nat.reduceLeDiff, Nat.reduceAdd, Nat.reduceSub, reduceIte, evRE, retVC, cellV', evR, nfz, nfzs, nfzss, List.contains_nil, List.contains_cons, Bool.or_false, or_true]

/-- What a layout says, as the functions hand it back. -/
noncomputable def layL (l : List Ty) (n : Int) : List Fd := (layO l n).getD []

/-- loop.example/g00837/spec.LayoutOf -/
def m21 : MC :=
  (.seq
   (.reg [⟨(some 4), none, .a (.asg (.nils 35 3))⟩,
     ⟨(some 5), none, .a (.asg (.c (.bool false)))⟩])
   (.seq
    (.seq
     (.reg [⟨(some 6), none, .q (.mov (.t 0))⟩,
       ⟨(some 7), none, .q (.mov (.t 1))⟩,
       ⟨(some 8), none, .a (.call (.fn 68) false [.lend (.t 6), .lend (.t 7)])⟩,
       ⟨(some 9), none, .q (.un .not (.t 8))⟩])
     (.cond (.t 9)
      (.seq
       (.reg [⟨(some 4), none, .a (.asg (.nils 35 3))⟩,
         ⟨(some 5), none, .a (.asg (.c (.bool false)))⟩])
       .ret)
      .skip))
    (.seq
     (.reg [⟨(some 10), none, .q (.mov (.t 0))⟩,
       ⟨(some 11), none, .q (.mov (.t 1))⟩,
       ⟨(some 12), none, .a (.call (.fn 69) false [.lend (.t 10), .lend (.t 11)])⟩,
       ⟨(some 13), none, .q (.ext 12 0)⟩,
       ⟨(some 14), none, .q (.ext 12 1)⟩,
       ⟨(some 4), none, .a (.asg (.t 13))⟩,
       ⟨(some 5), none, .a (.asg (.t 14))⟩])
     .ret)))

set_option maxRecDepth 100000 in
theorem d21 (l : List Ty) (n : Int) (hl : (l.length : Int) ≤ 1048576) (hs : ∀ s ∈ l, s.sm) :
    Does Go.Proofs.Tryz.prog 21 [.fsl 6 (l.map Ty.z), .v (.int .i64 n)] false (.tup [.usl 35 3 ((layL l n).map Fd.o), .v (.bool (layO l n).isSome)]) [.dead, .dead] := by
  refine does_intro (mc := m21) (N := 15) (rs := [4, 5]) (fx := []) 2 rfl (by decide +kernel) ?_
  simp only [m21, EV, Nat.reduceEqDiff, Nat.reduceBEq, Nat.reduceLT, Nat.reduceLeDiff, Nat.reduceAdd, Nat.reduceSub, reduceIte]
  refine callK_i (d68 l n hl hs) ?_
  simp only [EV, Nat.reduceEqDiff, Nat.reduceBEq, Nat.reduceLT, Nat.reduceLeDiff, Nat.reduceAdd, Nat.reduceSub, reduceIte]
  rcases e : recOk l n with _ | _
  · simp only [Bool.not_false, EV, Nat.reduceEqDiff, Nat.reduceBEq, Nat.reduceLT, Nat.reduceLeDiff, Nat.reduceAdd, Nat.reduceSub, reduceIte]
    simp only [layL, layO, e, if_false, Option.getD_none, Option.isSome_none, List.map_nil, EV, Nat.reduceEqDiff, Nat.reduceBEq, Nat.reduceLT, Nat.reduceLeDiff, Nat.reduceAdd, Nat.reduceSub, reduceIte, evRE, retVC, cellV', evR, nfz, nfzs, nfzss, List.contains_nil, List.contains_cons, Bool.or_false, or_true]
  · have e' := e
    simp only [recOk, Bool.and_eq_true] at e'
    simp only [Bool.not_true, EV, Nat.reduceEqDiff, Nat.reduceBEq, Nat.reduceLT, Nat.reduceLeDiff, Nat.reduceAdd, Nat.reduceSub, reduceIte]
    refine callK_i (d69 l n hl hs e'.1 e'.2) ?_
    simp only [EV, Nat.reduceEqDiff, Nat.reduceBEq, Nat.reduceLT, Nat.reduceLeDiff, Nat.reduceAdd, Nat.reduceSub, reduceIte]
    simp only [layL, layO, e, if_true, Option.isSome_map, Fd.nfz, Fd.frz, EV, Nat.reduceEqDiff, Nat.reduceBEq, Nat.reduceLT, Nat.reduceLeDiff, Nat.reduceAdd, Nat.reduceSub, reduceIte, evRE, retVC, cellV', evR, nfz, nfzs, nfzss, List.contains_nil, List.contains_cons, Bool.or_false, or_true]

/-- loop.example/g00837/impl.LayoutOf -/
def m18 : MC :=
  (.seq
   (.reg [⟨(some 4), none, .a (.asg (.nils 35 3))⟩,
     ⟨(some 5), none, .a (.asg (.c (.bool false)))⟩])
   (.seq
    (.seq
     (.reg [⟨(some 13), none, .q (.mov (.t 0))⟩,
       ⟨(some 14), none, .q (.mov (.t 1))⟩,
       ⟨(some 15), none, .a (.call (.fn 63) false [.lend (.t 13), .lend (.t 14)])⟩,
       ⟨(some 16), none, .q (.un .not (.t 15))⟩])
     (.cond (.t 16)
      (.seq
       (.reg [⟨(some 4), none, .a (.asg (.nils 35 3))⟩,
         ⟨(some 5), none, .a (.asg (.c (.bool false)))⟩])
       .ret)
      .skip))
    (.seq
     (.reg [⟨(some 17), none, .a (.bsl 35 3 [])⟩,
       ⟨(some 18), none, .q (.mov (.t 0))⟩,
       ⟨(some 19), none, .a (.call (.fn 62) false [.lend (.t 18)])⟩,
       ⟨(some 6), none, .a (.asg (.t 17))⟩,
       ⟨(some 7), none, .a (.asg (.c (.int .i64 0)))⟩,
       ⟨(some 8), none, .a (.asg (.t 19))⟩])
     (.seq
      (.seq
       (.reg [⟨(some 20), none, .q (.mov (.t 0))⟩,
         ⟨(some 21), none, .q (.mov (.t 1))⟩,
         ⟨(some 22), none, .a (.call (.fn 64) false [.lend (.t 20), .lend (.t 21)])⟩,
         ⟨(some 23), none, .q (.len false (.t 22))⟩,
         ⟨(some 24), none, .q (.mov (.c (.int .i64 0)))⟩])
       (.block 0
        (.loop [6, 7, 8, 17, 19, 22, 23, 24, 51]
         (.seq
          (.reg [⟨(some 25), none, .q (.bin false .lss (.t 24) (.t 23))⟩])
          (.seq
           (.cond (.t 25)
            .skip
            (.exit 0))
           (.seq
            (.block 1
             (.seq
              (.reg [⟨(some 26), none, .q (.iad 3 (.t 22) (.t 24))⟩,
                ⟨(some 27), none, .q (.load true 3 (.t 26))⟩,
                ⟨(some 10), none, .a (.alloc 97 [.v (.string ({ data := #[] })), .v (.int .i64 0), .v (.int .i64 0)])⟩,
                ⟨none, none, .a (.store 3 (.t 10) (.t 27))⟩])
              (.seq
               (.reg [⟨(some 28), none, .q (.mov (.t 8))⟩,
                 ⟨(some 29), none, .q (.fad 2 (.t 10))⟩,
                 ⟨(some 30), none, .q (.load false 1 (.t 29))⟩,
                 ⟨(some 31), none, .q (.iad 1 (.t 28) (.t 30))⟩,
                 ⟨(some 32), none, .q (.load false 1 (.t 31))⟩,
                 ⟨(some 11), none, .a (.asg (.t 32))⟩])
               (.seq
                (.reg [⟨(some 33), none, .q (.mov (.t 7))⟩,
                  ⟨(some 34), none, .q (.mov (.t 11))⟩,
                  ⟨(some 35), none, .q (.mm false (.t 34) (.c (.int .i64 8)))⟩,
                  ⟨(some 36), none, .q (.mm true (.t 35) (.c (.int .i64 1)))⟩,
                  ⟨(some 37), none, .a (.call (.fn 65) false [.lend (.t 33), .lend (.t 36)])⟩,
                  ⟨(some 12), none, .a (.asg (.t 37))⟩])
                (.seq
                 (.seq
                  (.reg [⟨(some 38), none, .q (.mov (.t 11))⟩,
                    ⟨(some 39), none, .q (.bin false .gtr (.t 38) (.c (.int .i64 1000000000)))⟩,
                    ⟨(some 40), none, .q (.mov (.t 39))⟩,
                    ⟨(some 41), (some (40, false)), .q (.mov (.t 12))⟩,
                    ⟨(some 42), (some (40, false)), .q (.bin false .gtr (.t 41) (.c (.int .i64 1000000000)))⟩,
                    ⟨(some 43), none, .q (.pick (.t 40) (.c (.bool true)) (.t 42))⟩])
                  (.cond (.t 43)
                   (.seq
                    (.reg [⟨(some 4), none, .a (.asg (.nils 35 3))⟩,
                      ⟨(some 5), none, .a (.asg (.c (.bool false)))⟩])
                    .ret)
                   .skip))
                 (.seq
                  (.reg [⟨(some 44), none, .q (.mov (.t 6))⟩,
                    ⟨(some 45), none, .q (.fad 0 (.t 10))⟩,
                    ⟨(some 46), none, .q (.load false 1 (.t 45))⟩,
                    ⟨(some 47), none, .q (.mov (.t 12))⟩,
                    ⟨(some 48), none, .q (.mov (.t 11))⟩,
                    ⟨(some 49), none, .a (.build [0, 1, 2] [0, 1, 2] [1, 1, 1] [.v (.string ({ data := #[] })), .v (.int .i64 0), .v (.int .i64 0)] [.t 46, .t 47, .t 48])⟩,
                    ⟨(some 50), none, .a (.bsl 35 3 [.t 49])⟩,
                    ⟨(some 51), none, .a (.app true 35 3 32 (.t 44) (.t 50))⟩,
                    ⟨(some 6), none, .a (.asg (.t 51))⟩])
                  (.reg [⟨(some 52), none, .q (.mov (.t 12))⟩,
                    ⟨(some 53), none, .q (.mov (.t 11))⟩,
                    ⟨(some 54), none, .q (.bin false .add (.t 52) (.t 53))⟩,
                    ⟨(some 7), none, .a (.asg (.t 54))⟩])))))))
            (.reg [⟨(some 55), none, .q (.bin false .add (.t 24) (.c (.int .i64 1)))⟩,
              ⟨(some 24), none, .q (.mov (.t 55))⟩])))))))
      (.seq
       (.reg [⟨(some 56), none, .q (.mov (.t 6))⟩,
         ⟨(some 4), none, .a (.asg (.t 56))⟩,
         ⟨(some 5), none, .a (.asg (.c (.bool true)))⟩])
       .ret)))))

set_option maxHeartbeats 1000000 in
set_option maxRecDepth 100000 in
theorem d18 (l : List Ty) (n : Int) (hl : (l.length : Int) ≤ 1048576) (hs : ∀ s ∈ l, s.sm) :
    Does Go.Proofs.Tryz.prog 18 [.fsl 6 (l.map Ty.z), .v (.int .i64 n)] false (.tup [.usl 35 3 ((layL l n).map Fd.o), .v (.bool (layO l n).isSome)]) [.dead, .dead] := by
  refine does_intro (mc := m18) (N := 57) (rs := [4, 5]) (fx := []) 2 rfl (by decide +kernel) ?_
  simp only [m18, EV, Nat.reduceEqDiff, Nat.reduceBEq, Nat.reduceLT, Nat.reduceLeDiff, Nat.reduceAdd, Nat.reduceSub, reduceIte]
  refine callK_i (d63 l n hl hs) ?_
  simp only [EV, Nat.reduceEqDiff, Nat.reduceBEq, Nat.reduceLT, Nat.reduceLeDiff, Nat.reduceAdd, Nat.reduceSub, reduceIte]
  rcases e : recOk l n with _ | _
  · simp only [Bool.not_false, EV, Nat.reduceEqDiff, Nat.reduceBEq, Nat.reduceLT, Nat.reduceLeDiff, Nat.reduceAdd, Nat.reduceSub, reduceIte]
    simp only [layL, layO, e, if_false, Option.getD_none, Option.isSome_none, List.map_nil, EV, Nat.reduceEqDiff, Nat.reduceBEq, Nat.reduceLT, Nat.reduceLeDiff, Nat.reduceAdd, Nat.reduceSub, reduceIte, evRE, retVC, cellV', evR, nfz, nfzs, nfzss, List.contains_nil, List.contains_cons, Bool.or_false, or_true]
  have e' := e
  simp only [recOk, Bool.and_eq_true] at e'
  obtain ⟨ht, hr⟩ := e'
  have eL : layL l n = ((layS (sz l) (allF l n)).map (·.1)).getD [] := by simp [layL, layO, e]
  have eO : (layO l n).isSome = (layS (sz l) (allF l n)).isSome := by simp [layO, e]
  rw [eL, eO]
  simp only [Bool.not_true, EV, Nat.reduceEqDiff, Nat.reduceBEq, Nat.reduceLT, Nat.reduceLeDiff, Nat.reduceAdd, Nat.reduceSub, reduceIte]
  refine callK_i (d62 l hl hs ht) ?_
  simp only [EV, Nat.reduceEqDiff, Nat.reduceBEq, Nat.reduceLT, Nat.reduceLeDiff, Nat.reduceAdd, Nat.reduceSub, reduceIte]
  refine callK_i (d64 l n hl ht hr) ?_
  have hA := allF_len ht n
  have hT : ∀ f ∈ allF l n, isNum l f.typ = true := allL_typ (tabOk_tys ht) _
  have hg : ∀ k, 0 ≤ sz l k := fun k => (sz_nn (tabOk_tys ht) k).1
  have hg1 : ∀ k, sz l k ≤ 1000000001 := fun k => (sz_nn (tabOk_tys ht) k).2
  have h24 := tabOk_len ht
  generalize allF l n = fs at hA hT ⊢
  simp only [EV, Nat.reduceEqDiff, Nat.reduceBEq, Nat.reduceLT, Nat.reduceLeDiff, Nat.reduceAdd, Nat.reduceSub, reduceIte]
  refine awp_loop (fun p : List Fd × Int × Nat => p.2.2 ≤ fs.length ∧ layS (sz l) (fs.take p.2.2) = some (p.1, p.2.1)) (fun p => stl [(6, .usl 35 3 (p.1.map Fd.o)), (7, .v (.int .i64 p.2.1)), (8, .usl 3 1 ((sizesL l).map iv)), (17, .dead), (19, .dead), (22, .usl 97 3 (fs.map Fd.o)), (23, .v (.int .i64 (fs.length : Int))), (24, .v (.int .i64 (p.2.2 : Int))), (51, .dead)]) (fun p => fs.length - p.2.2) ([], 0, 0) ⟨Nat.zero_le _, rfl⟩ ?_ ?_
  · simp only [EV, Nat.reduceEqDiff, Nat.reduceBEq, Nat.reduceLT, Nat.reduceLeDiff, Nat.reduceAdd, Nat.reduceSub, reduceIte]
    rfl
  · rintro ⟨out, e, i⟩ ⟨g1, g2⟩
    simp only at g1 g2
    obtain ⟨o1, o2, o3⟩ := layS_ok hg fs i g1 g2
    simp only [EV, Nat.reduceEqDiff, Nat.reduceBEq, Nat.reduceLT, Nat.reduceLeDiff, Nat.reduceAdd, Nat.reduceSub, reduceIte]
    refine cK_cut (fun h => ?_) (fun h => ?_)
    · have h1 : i < fs.length := by simpa using h
      have h2 : (i : Int) < (fs.length : Int) := by omega
      have hf := hT _ (List.getElem_mem h1)
      obtain ⟨n0, n1⟩ := isNum_in.1 hf
      have s0 := hg fs[i].typ
      have s1 := hg1 fs[i].typ
      have b1 := byOf_in (sz l fs[i].typ)
      have u1 := upL_le o2 b1.1
      have eb : max (min (sz l fs[i].typ) 8) 1 = byOf (sz l fs[i].typ) := by unfold byOf; omega
      have st := layS_take (sz l) h1
      rw [g2] at st
      simp only [layStep] at st
      clear h
      have q3 : fs[i].typ.toNat < (sizesL l).length := by simp [sizesL]; omega
      have q4 : fs[i].typ < ((sizesL l).length : Int) := by simp [sizesL]; omega
      have hgz : (sizesL l)[fs[i].typ.toNat] = sz l fs[i].typ := by simp only [sizesL, List.getElem_map, List.getElem_range]; rw [Int.toNat_of_nonneg n0]
      simp only [h1, h2, nth_map h1, FdE, Fd.o, EV, Nat.reduceEqDiff, Nat.reduceBEq, Nat.reduceLT, Nat.reduceLeDiff, Nat.reduceAdd, Nat.reduceSub, reduceIte]
      simp only [n0, q4, q3, nth_map q3, hgz, iv, eb, EV, Nat.reduceEqDiff, Nat.reduceBEq, Nat.reduceLT, Nat.reduceLeDiff, Nat.reduceAdd, Nat.reduceSub, reduceIte]
      refine callK_i (d65 e (byOf (sz l fs[i].typ)) o2 (by omega) b1.1 (by omega)) ?_
      simp only [EV, Nat.reduceEqDiff, Nat.reduceBEq, Nat.reduceLT, Nat.reduceLeDiff, Nat.reduceAdd, Nat.reduceSub, reduceIte]
      rcases c1 : decide (1000000000 < sz l fs[i].typ) with _ | _
      · rw [c1] at st
        simp only [EV, Nat.reduceEqDiff, Nat.reduceBEq, Nat.reduceLT, Nat.reduceLeDiff, Nat.reduceAdd, Nat.reduceSub, reduceIte]
        rcases c2 : decide (1000000000 < upL e (byOf (sz l fs[i].typ))) with _ | _
        · rw [c2, Bool.false_or, if_neg (by decide)] at st
          have c3 : upL e (byOf (sz l fs[i].typ)) ≤ 1000000000 := by simpa using c2
          have c4 : sz l fs[i].typ ≤ 1000000000 := by simpa using c1
          have w1 := w64 (upL e (byOf (sz l fs[i].typ)) + sz l fs[i].typ) (by omega)
          have w2 := w64 ((i : Int) + 1) (by omega)
          simp only [FdE, Fd.o, List.length_map, w1, w2, EV, Nat.reduceEqDiff, Nat.reduceBEq, Nat.reduceLT, Nat.reduceLeDiff, Nat.reduceAdd, Nat.reduceSub, reduceIte]
          exact ⟨by omega, by omega, (out ++ [⟨fs[i].name, upL e (byOf (sz l fs[i].typ)), sz l fs[i].typ⟩], upL e (byOf (sz l fs[i].typ)) + sz l fs[i].typ, i + 1), ⟨h1, st⟩, by simp only; omega, by rw [List.map_append]; rfl⟩
        · rw [c2, Bool.false_or, if_pos rfl] at st
          have hn := layS_cut (sz l) st
          simp only [EV, Nat.reduceEqDiff, Nat.reduceBEq, Nat.reduceLT, Nat.reduceLeDiff, Nat.reduceAdd, Nat.reduceSub, reduceIte]
          simp only [hn, Option.map_none, Option.getD_none, Option.isSome_none, List.map_nil, EV, Nat.reduceEqDiff, Nat.reduceBEq, Nat.reduceLT, Nat.reduceLeDiff, Nat.reduceAdd, Nat.reduceSub, reduceIte, evRE, retVC, cellV', evR, nfz, nfzs, nfzss, List.contains_nil, List.contains_cons, Bool.or_false, or_true]
      · rw [c1, Bool.true_or, if_pos rfl] at st
        have hn := layS_cut (sz l) st
        simp only [EV, Nat.reduceEqDiff, Nat.reduceBEq, Nat.reduceLT, Nat.reduceLeDiff, Nat.reduceAdd, Nat.reduceSub, reduceIte]
        simp only [hn, Option.map_none, Option.getD_none, Option.isSome_none, List.map_nil, EV, Nat.reduceEqDiff, Nat.reduceBEq, Nat.reduceLT, Nat.reduceLeDiff, Nat.reduceAdd, Nat.reduceSub, reduceIte, evRE, retVC, cellV', evR, nfz, nfzs, nfzss, List.contains_nil, List.contains_cons, Bool.or_false, or_true]
    · have h1 : i = fs.length := by have : ¬ (i : Int) < (fs.length : Int) := by simpa using h
                                    omega
      subst h1
      rw [List.take_length] at g2
      simp only [EV, Nat.reduceEqDiff, Nat.reduceBEq, Nat.reduceLT, Nat.reduceLeDiff, Nat.reduceAdd, Nat.reduceSub, reduceIte]
      simp only [g2, Option.map_some, Option.getD_some, Option.isSome_some, Fd.nfz, Fd.frz, EV, Nat.reduceEqDiff, Nat.reduceBEq, Nat.reduceLT, Nat.reduceLeDiff, Nat.reduceAdd, Nat.reduceSub, reduceIte, evRE, retVC, cellV', evR, nfz, nfzs, nfzss, List.contains_nil, List.contains_cons, Bool.or_false, or_true]

end Go.AM
namespace Go.AM
set_option linter.unusedVariables false
set_option linter.unusedSimpArgs false
theorem layL_cases (l : List Ty) (n : Int) : layL l n = [] ∨ (tabOk l = true ∧ isRec l n = true ∧ ∃ out e, layS (sz l) (allF l n) = some (out, e) ∧ layL l n = out ∧ (layO l n).isSome = true) := by
  unfold layL layO
  split
  · rename_i h
    simp only [recOk, Bool.and_eq_true] at h
    cases hl : layS (sz l) (allF l n) with
    | none => left; rfl
    | some p => right; exact ⟨h.1, h.2, p.1, p.2, rfl, rfl, rfl⟩
  · left; rfl

theorem layL_len (l : List Ty) (n : Int) : (layL l n).length ≤ 150 := by
  rcases layL_cases l n with h | ⟨ht, hr, out, e, h, ho, _⟩
  · rw [h]; simp
  · rw [ho]
    have := layS_ok (fun k => (sz_nn (tabOk_tys ht) k).1) (allF l n) (allF l n).length (Nat.le_refl _) (by rw [List.take_length]; exact h)
    have := allF_len ht n
    omega

end Go.AM
namespace Go.AM
set_option linter.unusedVariables false
set_option linter.unusedSimpArgs false
theorem lay_pre {g : Int → Int} : ∀ (X : List Fd) {o o' : List Fd} {e e' : Int}, X.foldl (layStep g) (some (o, e)) = some (o', e') → ∃ Y, o' = o ++ Y
  | [], o, o', e, e', h => by
    simp only [List.foldl_nil, Option.some.injEq, Prod.mk.injEq] at h
    exact ⟨[], by rw [h.1, List.append_nil]⟩
  | f :: X, o, o', e, e', h => by
    simp only [List.foldl_cons, layStep] at h
    split at h
    · rw [lay_none] at h; cases h
    · obtain ⟨Y, hY⟩ := lay_pre X h
      exact ⟨_ :: Y, by rw [hY, List.append_assoc]; rfl⟩

theorem layO_ext {l : List Ty} {a b : Int} {X : List Fd} (ha : recOk l a = true) (hb : recOk l b = true) (hX : allF l a = allF l b ++ X) (h : (layO l a).isSome = true) : (layO l b).isSome = true ∧ ∃ Y, layL l a = layL l b ++ Y := by
  unfold layL
  simp only [layO, ha, hb, if_true] at h ⊢
  rw [hX, layS_app] at h ⊢
  cases hl : layS (sz l) (allF l b) with
  | none => rw [hl, lay_none] at h; simp at h
  | some p =>
    obtain ⟨o, e⟩ := p
    rw [hl] at h
    cases hr : X.foldl (layStep (sz l)) (some (o, e)) with
    | none => rw [hr] at h; simp at h
    | some q =>
      obtain ⟨o', e'⟩ := q
      obtain ⟨Y, hY⟩ := lay_pre X hr
      exact ⟨rfl, Y, hY⟩

theorem sz_line {l : List Ty} (ht : tabOk l = true) : ∀ (k : Nat) (a b : Int), (lineL l a).length < k → isRec l a = true → b ∈ lineL l a → sz l a ≤ 1000000000 → sz l b ≤ sz l a
  | 0, a, b, h, _, _, _ => absurd h (by omega)
  | k + 1, a, b, h, hr, hm, hs => by
    have hlr := lineL_rec ht hr
    rw [hlr] at hm
    rcases List.mem_cons.1 hm with rfl | hm
    · exact Int.le_refl _
    · rcases (isRec_base (tabOk_tys ht) hr).1 with hb | hb
      · rw [lineL_neg hb] at hm; simp at hm
      · rw [hlr, List.length_cons] at h
        obtain ⟨g0, g1, gn, hk⟩ := isRec_in hr
        obtain ⟨s1, s2⟩ := sz_rec ht g0 g1 (hn := gn) hk hs
        obtain ⟨b0, b1, bn, _⟩ := isRec_in hb
        rw [baseAt_eq gn] at hb hm h b0
        have hp : prt false l[a.toNat] = l[a.toNat].base :: l[a.toNat].fields.map Fd.typ := by
          have e6 : (l[a.toNat].kind == 6) = false := by rw [hk]; rfl
          simp only [prt, b0, e6, decide_true, Bool.not_false, Bool.or_true, Bool.and_self, if_true, List.singleton_append]
        rw [hp] at s1 s2
        simp only [sumZ] at s1
        have s3 := s2 _ (List.mem_cons_self ..)
        have s4 := sumZ_nn (g := sz l) (ks := l[a.toNat].fields.map Fd.typ) fun k _ => (sz_nn (tabOk_tys ht) k).1
        have ih := sz_line ht k l[a.toNat].base b (by omega) hb hm s3
        omega

theorem szOk_ext {l : List Ty} {a b : Int} (ha : recOk l a = true) (h : extOk l a b = true) (hs : szOk l a = true) : szOk l b = true ∧ sz l b ≤ sz l a := by
  simp only [recOk, Bool.and_eq_true] at ha
  simp only [szOk, Bool.and_eq_true, decide_eq_true_eq] at hs
  have h1 := sz_line ha.1 _ a b (Nat.lt_succ_self _) ha.2 (List.contains_iff_mem.1 h) hs.2
  have hb := lineL_in ha.1 _ _ (.inr ha.2) b (List.contains_iff_mem.1 h)
  obtain ⟨b0, b1, _⟩ := isRec_in hb
  refine ⟨?_, h1⟩
  simp only [szOk, ha.1, isNum_in.2 ⟨b0, b1⟩, Bool.and_self, Bool.true_and, decide_eq_true_eq]
  omega

theorem may_ext {l : List Ty} {a b : Int} (ha : recOk l a = true) (hb : recOk l b = true) (h : extOk l a b = true) : numsOk l b a = true ∧ mayL l b a = true := by
  simp only [recOk, Bool.and_eq_true] at ha hb
  obtain ⟨a0, a1, an, ak⟩ := isRec_in ha.2
  obtain ⟨b0, b1, bn, bk⟩ := isRec_in hb.2
  refine ⟨by simp only [numsOk, ha.1, isNum_in.2 ⟨a0, a1⟩, isNum_in.2 ⟨b0, b1⟩, Bool.and_self], ?_⟩
  have e : mayL l b a = mayT l b a l[b.toNat] l[a.toNat] := by simp [mayL, an, bn]
  have h5 : ((5 : Int) == 5) = true := rfl
  rw [e]
  unfold mayT
  rw [ak, bk, h5]
  split
  · rfl
  · simpa [extOk] using h

/-- loop.example/g00837/spec.DrawLayoutOf -/
def m20 : MC :=
  (.seq
   (.reg [⟨(some 2), none, .q (.mov (.nils 40 6))⟩,
     ⟨(some 3), none, .a (.asg (.c (.int .i64 0)))⟩])
   (.seq
    (.reg [⟨(some 4), none, .q (.mov (.t 0))⟩,
      ⟨(some 5), none, .a (.call (.fn 67) true [.lend (.t 4)])⟩,
      ⟨(some 6), none, .q (.ext 5 0)⟩,
      ⟨(some 7), none, .q (.ext 5 1)⟩,
      ⟨(some 2), none, .q (.mov (.t 6))⟩,
      ⟨(some 3), none, .a (.asg (.t 7))⟩])
    .ret))

set_option maxRecDepth 100000 in
theorem p20 (code : List Int) (hl : (code.length : Int) ≤ 1048576) (hb : ∀ b ∈ code, 0 ≤ b ∧ b ≤ 255) :
    DoesE Go.Proofs.Tryz.prog 20 [.fsl 1 (code.map bv)] true fun r o => o = [.dead] ∧ ∃ (l : List Ty) (n : Int), r = .tup [.fsl 6 (l.map Ty.z), .v (.int .i64 n)] ∧ l.length ≤ 9 ∧ ∀ t ∈ l, t.sm := by
  refine doesE_intro (mc := m20) (N := 8) (rs := [2, 3]) (fx := []) 1 rfl (by decide +kernel) ?_
  simp only [m20, EV, Nat.reduceEqDiff, Nat.reduceBEq, Nat.reduceLT, Nat.reduceLeDiff, Nat.reduceAdd, Nat.reduceSub, reduceIte]
  refine callE_i (p67 code hl hb) (fun r o h => ⟨h.2, h.1⟩) ?_
  rintro _ ⟨l, n, rfl, l9, hs⟩
  simp only [pbeq, EV, Nat.reduceEqDiff, Nat.reduceBEq, Nat.reduceLT, Nat.reduceLeDiff, Nat.reduceAdd, Nat.reduceSub, reduceIte]
  simp only [EV, Nat.reduceEqDiff, Nat.reduceBEq, Nat.reduceLT, Nat.reduceLeDiff, Nat.reduceAdd, Nat.reduceSub, reduceIte, evRE, retVC, cellV', evR, nfz, nfzs, nfzss, List.contains_nil, List.contains_cons, Bool.or_false, or_true]
  exact ⟨⟨l, n, rfl, l9, hs⟩, Or.inl trivial⟩

/-- loop.example/g00837/laws.FnLarger -/
def m3 : MC :=
  (.seq
   (.reg [⟨(some 4), none, .a (.asg (.c (.bool false)))⟩])
   (.keep [0, 1]
   (.seq
    (.seq
     (.reg [⟨(some 29), none, .q (.mov (.t 0))⟩,
       ⟨(some 30), none, .q (.mov (.t 1))⟩,
       ⟨(some 31), none, .a (.call (.fn 13) false [.lend (.t 29), .lend (.t 30)])⟩])
     (.keep [0, 1, 31]
     (.cond (.t 31)
      (.seq
       (.reg [⟨(some 4), none, .a (.asg (.c (.bool true)))⟩])
       .ret)
      .skip)))
    (.keep [0, 1]
    (.seq
     (.reg [⟨(some 33), none, .q (.mov (.t 0))⟩,
       ⟨(some 34), none, .a (.call (.fn 14) true [.lend (.t 33)])⟩,
       ⟨(some 32), none, .q (.mov (.t 34))⟩,
       ⟨(some 35), none, .q (.ext 32 0)⟩,
       ⟨(some 36), none, .q (.ext 32 1)⟩,
       ⟨(some 37), none, .q (.ext 32 2)⟩,
       ⟨(some 5), none, .q (.mov (.t 35))⟩,
       ⟨(some 6), none, .a (.asg (.t 36))⟩,
       ⟨(some 7), none, .a (.asg (.t 37))⟩])
     (.keep [1, 5, 6, 7, 32, 34, 35]
     (.seq
      (.reg [⟨(some 39), none, .q (.mov (.t 5))⟩,
        ⟨(some 40), none, .q (.mov (.t 6))⟩,
        ⟨(some 41), none, .q (.mov (.t 7))⟩,
        ⟨(some 42), none, .a (.call (.fn 15) false [.lend (.t 39), .lend (.t 40), .lend (.t 41)])⟩,
        ⟨(some 38), none, .q (.mov (.t 42))⟩,
        ⟨(some 43), none, .q (.ext 38 0)⟩,
        ⟨(some 44), none, .q (.ext 38 1)⟩,
        ⟨(some 8), none, .a (.asg (.t 43))⟩,
        ⟨(some 9), none, .a (.asg (.t 44))⟩])
      (.keep [1, 5, 6, 7, 8, 9, 32, 34, 35]
      (.seq
       (.reg [⟨(some 46), none, .q (.mov (.t 5))⟩,
         ⟨(some 47), none, .q (.mov (.t 6))⟩,
         ⟨(some 48), none, .q (.mov (.t 7))⟩,
         ⟨(some 49), none, .a (.call (.fn 16) false [.lend (.t 46), .lend (.t 47), .lend (.t 48)])⟩,
         ⟨(some 45), none, .q (.mov (.t 49))⟩,
         ⟨(some 50), none, .q (.ext 45 0)⟩,
         ⟨(some 51), none, .q (.ext 45 1)⟩,
         ⟨(some 10), none, .a (.asg (.t 50))⟩,
         ⟨(some 11), none, .a (.asg (.t 51))⟩])
       (.keep [1, 5, 6, 7, 8, 9, 10, 11, 32, 34, 35]
       (.seq
        (.seq
         (.reg [⟨(some 52), none, .q (.mov (.t 9))⟩,
           ⟨(some 53), none, .q (.mov (.t 11))⟩,
           ⟨(some 54), none, .q (.bin true .neq (.t 52) (.t 53))⟩,
           ⟨(some 55), none, .q (.mov (.t 54))⟩,
           ⟨(some 56), (some (55, false)), .q (.mov (.t 8))⟩,
           ⟨(some 57), (some (55, false)), .q (.mov (.t 10))⟩,
           ⟨(some 58), (some (55, false)), .q (.bin true .neq (.t 56) (.t 57))⟩,
           ⟨(some 59), none, .q (.pick (.t 55) (.c (.bool true)) (.t 58))⟩])
         (.keep [1, 5, 6, 7, 8, 9, 32, 34, 35, 59]
         (.cond (.t 59)
          (.seq
           (.reg [⟨(some 4), none, .a (.asg (.c (.bool false)))⟩])
           .ret)
          .skip)))
        (.keep [1, 5, 6, 7, 8, 9, 32, 34, 35]
        (.join [1]
         (.seq
          (.reg [⟨(some 60), none, .q (.mov (.t 9))⟩,
            ⟨(some 61), none, .q (.mov (.t 60))⟩,
            ⟨(some 62), (some (61, true)), .q (.mov (.t 8))⟩,
            ⟨(some 63), none, .q (.pick (.t 61) (.t 62) (.c (.bool false)))⟩])
          (.keep [1, 5, 6, 7, 32, 34, 35, 63]
          (.cond (.t 63)
           (.seq
            (.reg [⟨(some 65), none, .q (.mov (.t 5))⟩,
              ⟨(some 66), none, .q (.mov (.t 6))⟩,
              ⟨(some 67), none, .a (.call (.fn 17) false [.lend (.t 65), .lend (.t 66)])⟩,
              ⟨(some 64), none, .q (.mov (.t 67))⟩,
              ⟨(some 68), none, .q (.ext 64 0)⟩,
              ⟨(some 69), none, .q (.ext 64 1)⟩,
              ⟨(some 12), none, .a (.asg (.t 68))⟩,
              ⟨(some 13), none, .a (.asg (.t 69))⟩])
            (.keep [1, 5, 6, 7, 12, 13, 32, 34, 35]
            (.seq
             (.reg [⟨(some 71), none, .q (.mov (.t 5))⟩,
               ⟨(some 72), none, .q (.mov (.t 7))⟩,
               ⟨(some 73), none, .a (.call (.fn 17) false [.lend (.t 71), .lend (.t 72)])⟩,
               ⟨(some 70), none, .q (.mov (.t 73))⟩,
               ⟨(some 74), none, .q (.ext 70 0)⟩,
               ⟨(some 75), none, .q (.ext 70 1)⟩,
               ⟨(some 14), none, .a (.asg (.t 74))⟩,
               ⟨(some 15), none, .a (.asg (.t 75))⟩])
             (.keep [1, 5, 6, 7, 12, 13, 14, 15, 32, 34, 35]
             (.seq
              (.seq
               (.reg [⟨(some 76), none, .q (.mov (.t 13))⟩,
                 ⟨(some 77), none, .q (.mov (.t 76))⟩,
                 ⟨(some 78), (some (77, true)), .q (.mov (.t 15))⟩,
                 ⟨(some 79), (some (77, true)), .q (.un .not (.t 78))⟩,
                 ⟨(some 80), (some (77, true)), .q (.mov (.t 79))⟩,
                 ⟨(some 81), (some (80, false)), .q (.mov (.t 12))⟩,
                 ⟨(some 82), (some (80, false)), .q (.mov (.t 14))⟩,
                 ⟨(some 83), (some (80, false)), .q (.bin false .lss (.t 81) (.t 82))⟩,
                 ⟨(some 84), (some (77, true)), .q (.pick (.t 80) (.c (.bool true)) (.t 83))⟩,
                 ⟨(some 85), none, .q (.pick (.t 77) (.t 84) (.c (.bool false)))⟩])
               (.keep [1, 5, 6, 7, 32, 34, 35, 85]
               (.cond (.t 85)
                (.seq
                 (.reg [⟨(some 4), none, .a (.asg (.c (.bool false)))⟩])
                 .ret)
                .skip)))
              (.keep [1, 5, 6, 7, 32, 34, 35]
              (.seq
               (.reg [⟨(some 87), none, .q (.mov (.t 5))⟩,
                 ⟨(some 88), none, .q (.mov (.t 6))⟩,
                 ⟨(some 89), none, .a (.call (.fn 18) false [.lend (.t 87), .lend (.t 88)])⟩,
                 ⟨(some 86), none, .a (.asg (.t 89))⟩,
                 ⟨(some 90), none, .q (.ext 86 0)⟩,
                 ⟨(some 91), none, .q (.ext 86 1)⟩,
                 ⟨(some 16), none, .a (.asg (.t 90))⟩,
                 ⟨(some 17), none, .a (.asg (.t 91))⟩])
               (.keep [1, 5, 6, 7, 16, 17, 32, 34, 35, 86, 89, 90]
               (.seq
                (.reg [⟨(some 93), none, .q (.mov (.t 5))⟩,
                  ⟨(some 94), none, .q (.mov (.t 7))⟩,
                  ⟨(some 95), none, .a (.call (.fn 18) false [.lend (.t 93), .lend (.t 94)])⟩,
                  ⟨(some 92), none, .a (.asg (.t 95))⟩,
                  ⟨(some 96), none, .q (.ext 92 0)⟩,
                  ⟨(some 97), none, .q (.ext 92 1)⟩,
                  ⟨(some 18), none, .a (.asg (.t 96))⟩,
                  ⟨(some 19), none, .a (.asg (.t 97))⟩])
                (.keep [1, 5, 6, 7, 16, 17, 18, 19, 32, 34, 35, 86, 89, 90, 92, 95, 96]
                (.seq
                 (.seq
                  (.reg [⟨(some 98), none, .q (.mov (.t 17))⟩,
                    ⟨(some 99), none, .q (.mov (.t 98))⟩,
                    ⟨(some 100), (some (99, true)), .q (.mov (.t 19))⟩,
                    ⟨(some 101), (some (99, true)), .q (.un .not (.t 100))⟩,
                    ⟨(some 102), (some (99, true)), .q (.mov (.t 101))⟩,
                    ⟨(some 103), (some (102, false)), .q (.mov (.t 18))⟩,
                    ⟨(some 104), (some (102, false)), .q (.len false (.t 103))⟩,
                    ⟨(some 105), (some (102, false)), .q (.mov (.t 16))⟩,
                    ⟨(some 106), (some (102, false)), .q (.len false (.t 105))⟩,
                    ⟨(some 107), (some (102, false)), .q (.bin false .gtr (.t 104) (.t 106))⟩,
                    ⟨(some 108), (some (99, true)), .q (.pick (.t 102) (.c (.bool true)) (.t 107))⟩,
                    ⟨(some 109), none, .q (.pick (.t 99) (.t 108) (.c (.bool false)))⟩])
                  (.keep [1, 5, 6, 7, 16, 17, 18, 32, 34, 35, 86, 89, 90, 92, 95, 96, 109]
                  (.cond (.t 109)
                   (.seq
                    (.reg [⟨(some 4), none, .a (.asg (.c (.bool false)))⟩])
                    .ret)
                   .skip)))
                 (.keep [1, 5, 6, 7, 16, 17, 18, 32, 34, 35, 86, 89, 90, 92, 95, 96]
                 (.seq
                  (.seq
                   (.reg [⟨(some 20), none, .a (.asg (.c (.int .i64 0)))⟩])
                   (.keep [1, 5, 6, 7, 16, 17, 18, 20, 32, 34, 35, 86, 89, 90, 92, 95, 96]
                   (.block 0
                    (.loop [1, 5, 6, 7, 16, 17, 18, 20, 32, 34, 35, 86, 89, 90, 92, 95, 96]
                     (.seq
                      (.seq
                       (.reg [⟨(some 110), none, .q (.mov (.t 17))⟩,
                         ⟨(some 111), none, .q (.mov (.t 110))⟩,
                         ⟨(some 112), (some (111, true)), .q (.mov (.t 20))⟩,
                         ⟨(some 113), (some (111, true)), .q (.mov (.t 18))⟩,
                         ⟨(some 114), (some (111, true)), .q (.len false (.t 113))⟩,
                         ⟨(some 115), (some (111, true)), .q (.bin false .lss (.t 112) (.t 114))⟩,
                         ⟨(some 116), none, .q (.pick (.t 111) (.t 115) (.c (.bool false)))⟩])
                       (.keep [1, 5, 6, 7, 16, 17, 18, 20, 32, 34, 35, 86, 89, 90, 92, 95, 96, 116]
                       (.cond (.t 116)
                        .skip
                        (.exit 0))))
                      (.keep [1, 5, 6, 7, 16, 17, 18, 20, 32, 34, 35, 86, 89, 90, 92, 95, 96]
                      (.seq
                       (.block 1
                        (.seq
                         (.dreg [⟨(some 119), none, .q (.mov (.t 16))⟩,
                           ⟨(some 120), none, .q (.mov (.t 20))⟩,
                           ⟨(some 121), none, .q (.iad 3 (.t 119) (.t 120))⟩,
                           ⟨(some 122), none, .q (.load true 3 (.t 121))⟩,
                           ⟨(some 123), none, .q (.mov (.t 18))⟩,
                           ⟨(some 124), none, .q (.mov (.t 20))⟩,
                           ⟨(some 125), none, .q (.iad 3 (.t 123) (.t 124))⟩,
                           ⟨(some 126), none, .q (.load true 3 (.t 125))⟩,
                           ⟨(some 127), none, .q (.eqa true [1, 0, 0] (.t 122) (.t 126))⟩])
                         (.keep [1, 5, 6, 7, 16, 17, 18, 20, 32, 34, 35, 86, 89, 90, 92, 95, 96, 127]
                         (.cond (.t 127)
                          (.seq
                           (.reg [⟨(some 4), none, .a (.asg (.c (.bool false)))⟩])
                           .ret)
                          .skip))))
                       (.keep [1, 5, 6, 7, 16, 17, 18, 20, 32, 34, 35, 86, 89, 90, 92, 95, 96]
                       (.reg [⟨(some 117), none, .q (.mov (.t 20))⟩,
                         ⟨(some 118), none, .q (.bin false .add (.t 117) (.c (.int .i64 1)))⟩,
                         ⟨(some 20), none, .a (.asg (.t 118))⟩])))))))))
                  (.keep [1, 5, 6, 7, 32, 34, 35]
                  (.seq
                   (.reg [⟨(some 129), none, .q (.mov (.t 5))⟩,
                     ⟨(some 130), none, .q (.mov (.t 7))⟩,
                     ⟨(some 131), none, .q (.mov (.t 6))⟩,
                     ⟨(some 132), none, .a (.call (.fn 19) false [.lend (.t 129), .lend (.t 130), .lend (.t 131)])⟩,
                     ⟨(some 128), none, .q (.mov (.t 132))⟩,
                     ⟨(some 133), none, .q (.ext 128 0)⟩,
                     ⟨(some 134), none, .q (.ext 128 1)⟩,
                     ⟨(some 21), none, .a (.asg (.t 133))⟩,
                     ⟨(some 22), none, .a (.asg (.t 134))⟩])
                   (.keep [1, 21, 22]
                   (.seq
                    (.reg [⟨(some 135), none, .q (.mov (.t 22))⟩,
                      ⟨(some 136), none, .q (.un .not (.t 135))⟩,
                      ⟨(some 137), none, .q (.mov (.t 136))⟩,
                      ⟨(some 138), (some (137, false)), .q (.mov (.t 21))⟩,
                      ⟨(some 139), (some (137, false)), .q (.un .not (.t 138))⟩,
                      ⟨(some 140), none, .q (.pick (.t 137) (.c (.bool true)) (.t 139))⟩])
                    (.keep [1, 140]
                    (.cond (.t 140)
                     (.seq
                      (.reg [⟨(some 4), none, .a (.asg (.c (.bool false)))⟩])
                      .ret)
                     .skip)))))))))))))))))))
           .skip)))
         (.seq
          (.reg [⟨(some 142), none, .q (.mov (.t 1))⟩,
            ⟨(some 143), none, .a (.call (.fn 20) true [.lend (.t 142)])⟩,
            ⟨(some 141), none, .q (.mov (.t 143))⟩,
            ⟨(some 144), none, .q (.ext 141 0)⟩,
            ⟨(some 145), none, .q (.ext 141 1)⟩,
            ⟨(some 23), none, .q (.mov (.t 144))⟩,
            ⟨(some 24), none, .a (.asg (.t 145))⟩])
          (.keep [23, 24, 141, 143, 144]
          (.seq
           (.reg [⟨(some 147), none, .q (.mov (.t 23))⟩,
             ⟨(some 148), none, .q (.mov (.t 24))⟩,
             ⟨(some 149), none, .a (.call (.fn 18) false [.lend (.t 147), .lend (.t 148)])⟩,
             ⟨(some 146), none, .a (.asg (.t 149))⟩,
             ⟨(some 150), none, .q (.ext 146 0)⟩,
             ⟨(some 151), none, .q (.ext 146 1)⟩,
             ⟨(some 25), none, .a (.asg (.t 150))⟩,
             ⟨(some 26), none, .a (.asg (.t 151))⟩])
           (.keep [23, 24, 25, 26, 141, 143, 144, 146, 149, 150]
           (.seq
            (.reg [⟨(some 153), none, .q (.mov (.t 23))⟩,
              ⟨(some 154), none, .q (.mov (.t 24))⟩,
              ⟨(some 155), none, .a (.call (.fn 21) false [.lend (.t 153), .lend (.t 154)])⟩,
              ⟨(some 152), none, .a (.asg (.t 155))⟩,
              ⟨(some 156), none, .q (.ext 152 0)⟩,
              ⟨(some 157), none, .q (.ext 152 1)⟩,
              ⟨(some 27), none, .a (.asg (.t 156))⟩,
              ⟨(some 28), none, .a (.asg (.t 157))⟩])
            (.keep [25, 26, 27, 28, 146, 149, 150, 152, 155, 156]
            (.seq
             (.reg [⟨(some 158), none, .q (.mov (.t 26))⟩,
               ⟨(some 159), none, .q (.mov (.t 28))⟩,
               ⟨(some 160), none, .q (.bin true .eql (.t 158) (.t 159))⟩,
               ⟨(some 161), none, .q (.mov (.t 160))⟩,
               ⟨(some 162), (some (161, true)), .q (.mov (.t 25))⟩,
               ⟨(some 163), (some (161, true)), .q (.len false (.t 162))⟩,
               ⟨(some 164), (some (161, true)), .q (.mov (.t 27))⟩,
               ⟨(some 165), (some (161, true)), .q (.len false (.t 164))⟩,
               ⟨(some 166), (some (161, true)), .q (.bin false .eql (.t 163) (.t 165))⟩,
               ⟨(some 167), none, .q (.pick (.t 161) (.t 166) (.c (.bool false)))⟩,
               ⟨(some 4), none, .a (.asg (.t 167))⟩])
             .ret))))))))))))))))))))

set_option maxHeartbeats 2000000 in
set_option maxRecDepth 100000 in
theorem d3 (code more : List Int) (hc : (code.length : Int) ≤ 9223372036854775807) (hm : (more.length : Int) ≤ 9223372036854775807) (hcb : ∀ b ∈ code, 0 ≤ b ∧ b ≤ 255) (hmb : ∀ b ∈ more, 0 ≤ b ∧ b ≤ 255) :
    Does Go.Proofs.Tryz.prog 3 [.fsl 1 (code.map bv), .fsl 1 (more.map bv)] false (.v (.bool true)) [.dead, .dead] := by
  have bs : ∀ b : Bool, (b != b) = false := fun b => by cases b <;> rfl
  refine does_intro (mc := m3) (N := 168) (rs := [4]) (fx := []) 2 rfl (by decide +kernel) ?_
  simp only [m3, EV, Nat.reduceEqDiff, Nat.reduceBEq, Nat.reduceLT, Nat.reduceLeDiff, Nat.reduceAdd, Nat.reduceSub, reduceIte]
  refine callK_i (d13 code more hc hm) ?_
  simp only [EV, Nat.reduceEqDiff, Nat.reduceBEq, Nat.reduceLT, Nat.reduceLeDiff, Nat.reduceAdd, Nat.reduceSub, reduceIte]
  refine cK_cut (fun h => ?_) (fun h => ?_)
  · simp only [EV, Nat.reduceEqDiff, Nat.reduceBEq, Nat.reduceLT, Nat.reduceLeDiff, Nat.reduceAdd, Nat.reduceSub, reduceIte]
    simp only [EV, Nat.reduceEqDiff, Nat.reduceBEq, Nat.reduceLT, Nat.reduceLeDiff, Nat.reduceAdd, Nat.reduceSub, reduceIte, evRE, retVC, cellV', evR, nfz, nfzs, nfzss, List.contains_nil, List.contains_cons, Bool.or_false, or_true]
  have h1 : (code.length : Int) ≤ 1048576 ∧ (more.length : Int) ≤ 1048576 := by
    simp only [Bool.or_eq_false_iff, decide_eq_false_iff_not] at h
    omega
  clear h
  simp only [EV, Nat.reduceEqDiff, Nat.reduceBEq, Nat.reduceLT, Nat.reduceLeDiff, Nat.reduceAdd, Nat.reduceSub, reduceIte]
  refine callE_i (p14 code h1.1 hcb) (fun r o h => ⟨h.2, h.1⟩) ?_
  rintro _ ⟨l, a, b, rfl, l9, hs⟩
  have hl : (l.length : Int) ≤ 1048576 := by omega
  simp only [pbeq, EV, Nat.reduceEqDiff, Nat.reduceBEq, Nat.reduceLT, Nat.reduceLeDiff, Nat.reduceAdd, Nat.reduceSub, reduceIte]
  refine callK_i (d15 l a b hl hs) ?_
  simp only [pbeq, EV, Nat.reduceEqDiff, Nat.reduceBEq, Nat.reduceLT, Nat.reduceLeDiff, Nat.reduceAdd, Nat.reduceSub, reduceIte]
  refine callK_i (d16 l a b hl hs) ?_
  simp only [bs, pbeq, EV, Nat.reduceEqDiff, Nat.reduceBEq, Nat.reduceLT, Nat.reduceLeDiff, Nat.reduceAdd, Nat.reduceSub, reduceIte]
  refine awp_join (fun _ : Unit => True) (fun _ => stl [(1, .fsl 1 (more.map bv))]) ?_ ?_
  · simp only [EV, Nat.reduceEqDiff, Nat.reduceBEq, Nat.reduceLT, Nat.reduceLeDiff, Nat.reduceAdd, Nat.reduceSub, reduceIte]
    rcases e : (recOk l a && recOk l b) with _ | _
    · simp only [EV, Nat.reduceEqDiff, Nat.reduceBEq, Nat.reduceLT, Nat.reduceLeDiff, Nat.reduceAdd, Nat.reduceSub, reduceIte]
      exact ⟨(), trivial⟩
    have e' := e
    simp only [Bool.and_eq_true] at e'
    obtain ⟨ha, hb⟩ := e'
    simp only [Bool.true_and, EV, Nat.reduceEqDiff, Nat.reduceBEq, Nat.reduceLT, Nat.reduceLeDiff, Nat.reduceAdd, Nat.reduceSub, reduceIte]
    rcases ee : extOk l a b with _ | _
    · simp only [EV, Nat.reduceEqDiff, Nat.reduceBEq, Nat.reduceLT, Nat.reduceLeDiff, Nat.reduceAdd, Nat.reduceSub, reduceIte]
      exact ⟨(), trivial⟩
    obtain ⟨X, hX⟩ := ext_all ha ee
    have hso := szOk_ext ha ee
    have hlo := layO_ext ha hb hX
    have hlb := layL_len l b
    obtain ⟨hn, hmay⟩ := may_ext ha hb ee
    have dput := d19 l b a hl hs
    rw [hn, hmay] at dput
    have da := d17_of l a hl hs (d62 l hl hs)
    have db := d17_of l b hl hs (d62 l hl hs)
    have la := d18 l a hl hs
    have lb := d18 l b hl hs
    simp only [EV, Nat.reduceEqDiff, Nat.reduceBEq, Nat.reduceLT, Nat.reduceLeDiff, Nat.reduceAdd, Nat.reduceSub, reduceIte]
    refine callK_i da ?_
    simp only [pbeq, EV, Nat.reduceEqDiff, Nat.reduceBEq, Nat.reduceLT, Nat.reduceLeDiff, Nat.reduceAdd, Nat.reduceSub, reduceIte]
    refine callK_i db ?_
    simp only [pbeq, EV, Nat.reduceEqDiff, Nat.reduceBEq, Nat.reduceLT, Nat.reduceLeDiff, Nat.reduceAdd, Nat.reduceSub, reduceIte]
    rcases es : szOk l a with _ | _
    simp only [es, if_false, pbeq, EV, Nat.reduceEqDiff, Nat.reduceBEq, Nat.reduceLT, Nat.reduceLeDiff, Nat.reduceAdd, Nat.reduceSub, reduceIte]
    rotate_left
    obtain ⟨q1, q2⟩ := hso es
    have q3 : decide (sz l a < sz l b) = false := by simp; omega
    simp only [es, q1, q3, if_true, pbeq, EV, Nat.reduceEqDiff, Nat.reduceBEq, Nat.reduceLT, Nat.reduceLeDiff, Nat.reduceAdd, Nat.reduceSub, reduceIte]
    all_goals
      refine callK_i la ?_
      simp only [pbeq, EV, Nat.reduceEqDiff, Nat.reduceBEq, Nat.reduceLT, Nat.reduceLeDiff, Nat.reduceAdd, Nat.reduceSub, reduceIte]
      refine callK_i lb ?_
      simp only [pbeq, EV, Nat.reduceEqDiff, Nat.reduceBEq, Nat.reduceLT, Nat.reduceLeDiff, Nat.reduceAdd, Nat.reduceSub, reduceIte]
      rcases eo : (layO l a).isSome with _ | _
      · simp only [EV, Nat.reduceEqDiff, Nat.reduceBEq, Nat.reduceLT, Nat.reduceLeDiff, Nat.reduceAdd, Nat.reduceSub, reduceIte]
        refine awp_loop (fun _ : Unit => True) (fun _ => stl [(1, .fsl 1 (more.map bv)), (5, .fsl 6 (l.map Ty.z)), (6, .v (.int .i64 a)), (7, .v (.int .i64 b)), (16, .usl 35 3 ((layL l a).map Fd.o)), (17, .v (.bool false)), (18, .usl 35 3 ((layL l b).map Fd.o)), (20, .v (.int .i64 0)), (32, .tup [.fsl 6 (l.map Ty.z), .v (.int .i64 a), .v (.int .i64 b)]), (34, .tup [.fsl 6 (l.map Ty.z), .v (.int .i64 a), .v (.int .i64 b)]), (35, .fsl 6 (l.map Ty.z)), (86, .tup [.dead, .v (.bool false)]), (89, .dead), (90, .dead), (92, .tup [.dead, .v (.bool (layO l b).isSome)]), (95, .dead), (96, .dead)]) (fun _ => 0) () trivial ?_ ?_
        · simp only [EV, Nat.reduceEqDiff, Nat.reduceBEq, Nat.reduceLT, Nat.reduceLeDiff, Nat.reduceAdd, Nat.reduceSub, reduceIte]
        · intro _ _
          simp only [EV, Nat.reduceEqDiff, Nat.reduceBEq, Nat.reduceLT, Nat.reduceLeDiff, Nat.reduceAdd, Nat.reduceSub, reduceIte]
          refine callK_i dput ?_
          simp only [Bool.and_self, pbeq, EV, Nat.reduceEqDiff, Nat.reduceBEq, Nat.reduceLT, Nat.reduceLeDiff, Nat.reduceAdd, Nat.reduceSub, reduceIte]
          exact ⟨(), trivial⟩
      · obtain ⟨o1, Y, hY⟩ := hlo eo
        have q4 : decide (((layL l a).length : Int) < ((layL l b).length : Int)) = false := by rw [hY]; simp; omega
        simp only [o1, q4, EV, Nat.reduceEqDiff, Nat.reduceBEq, Nat.reduceLT, Nat.reduceLeDiff, Nat.reduceAdd, Nat.reduceSub, reduceIte]
        refine awp_loop (fun i : Nat => i ≤ (layL l b).length) (fun i => stl [(1, .fsl 1 (more.map bv)), (5, .fsl 6 (l.map Ty.z)), (6, .v (.int .i64 a)), (7, .v (.int .i64 b)), (16, .usl 35 3 ((layL l a).map Fd.o)), (17, .v (.bool true)), (18, .usl 35 3 ((layL l b).map Fd.o)), (20, .v (.int .i64 (i : Int))), (32, .tup [.fsl 6 (l.map Ty.z), .v (.int .i64 a), .v (.int .i64 b)]), (34, .tup [.fsl 6 (l.map Ty.z), .v (.int .i64 a), .v (.int .i64 b)]), (35, .fsl 6 (l.map Ty.z)), (86, .tup [.dead, .v (.bool true)]), (89, .dead), (90, .dead), (92, .tup [.dead, .v (.bool true)]), (95, .dead), (96, .dead)]) (fun i => (layL l b).length - i) 0 (Nat.zero_le _) ?_ ?_
        · simp only [EV, Nat.reduceEqDiff, Nat.reduceBEq, Nat.reduceLT, Nat.reduceLeDiff, Nat.reduceAdd, Nat.reduceSub, reduceIte]
          rfl
        · intro i hi
          simp only [EV, Nat.reduceEqDiff, Nat.reduceBEq, Nat.reduceLT, Nat.reduceLeDiff, Nat.reduceAdd, Nat.reduceSub, reduceIte]
          refine cK_cut (fun h => ?_) (fun h => ?_)
          · have q1 : i < (layL l b).length := by simpa using h
            have q2 : (i : Int) < ((layL l b).length : Int) := by omega
            have q3 : i < (layL l a).length := by rw [hY, List.length_append]; omega
            have q4 : (i : Int) < ((layL l a).length : Int) := by omega
            have q5 : (layL l a)[i] = (layL l b)[i] := by simp only [hY]; exact List.getElem_append_left q1
            clear h
            simp only [nth_map q1, q1, q2, nth_map q3, q3, q4, q5, Fd.o, EV, Nat.reduceEqDiff, Nat.reduceBEq, Nat.reduceLT, Nat.reduceLeDiff, Nat.reduceAdd, Nat.reduceSub, reduceIte]
            rw [w64 _ (by omega)]
            exact ⟨i + 1, q1, by omega, rfl⟩
          · simp only [EV, Nat.reduceEqDiff, Nat.reduceBEq, Nat.reduceLT, Nat.reduceLeDiff, Nat.reduceAdd, Nat.reduceSub, reduceIte]
            refine callK_i dput ?_
            simp only [Bool.and_self, pbeq, EV, Nat.reduceEqDiff, Nat.reduceBEq, Nat.reduceLT, Nat.reduceLeDiff, Nat.reduceAdd, Nat.reduceSub, reduceIte]
            exact ⟨(), trivial⟩
  rintro _ _
  simp only [EV, Nat.reduceEqDiff, Nat.reduceBEq, Nat.reduceLT, Nat.reduceLeDiff, Nat.reduceAdd, Nat.reduceSub, reduceIte]
  refine callE_i (p20 more h1.2 hmb) (fun r o h => ⟨h.2, h.1⟩) ?_
  rintro _ ⟨l', m, rfl, l9', hs'⟩
  have hl' : (l'.length : Int) ≤ 1048576 := by omega
  simp only [pbeq, EV, Nat.reduceEqDiff, Nat.reduceBEq, Nat.reduceLT, Nat.reduceLeDiff, Nat.reduceAdd, Nat.reduceSub, reduceIte]
  refine callK_i (d18 l' m hl' hs') ?_
  simp only [pbeq, EV, Nat.reduceEqDiff, Nat.reduceBEq, Nat.reduceLT, Nat.reduceLeDiff, Nat.reduceAdd, Nat.reduceSub, reduceIte]
  refine callK_i (d21 l' m hl' hs') ?_
  simp only [pbeq, EV, Nat.reduceEqDiff, Nat.reduceBEq, Nat.reduceLT, Nat.reduceLeDiff, Nat.reduceAdd, Nat.reduceSub, reduceIte]
  simp only [EV, Nat.reduceEqDiff, Nat.reduceBEq, Nat.reduceLT, Nat.reduceLeDiff, Nat.reduceAdd, Nat.reduceSub, reduceIte, evRE, retVC, cellV', evR, nfz, nfzs, nfzss, List.contains_nil, List.contains_cons, Bool.or_false, or_true]

end Go.AM
