/- Contracts of functions of the given program, for the law FnReached: what they return and what they write, under the bounds that each theorem states. -/
import Derived.Test.YtjbmgopednpbmaaG3
namespace Go.AM
set_option linter.unusedVariables false
set_option linter.unusedSimpArgs false
/-- loop.example/g00837/spec.l1Num -/
def m172 : MC :=
  (.seq
   (.reg [⟨(some 2), none, .a (.asg (.c (.string ({ data := #[] }))))⟩])
   (.seq
    (.seq
     (.reg [⟨(some 3), none, .q (.mov (.t 0))⟩,
       ⟨(some 4), none, .q (.bin false .lss (.t 3) (.c (.int .i64 10)))⟩])
     (.cond (.t 4)
      (.seq
       (.reg [⟨(some 5), none, .q (.mov (.t 0))⟩,
         ⟨(some 6), none, .q (.bin false .add (.c (.int .i64 48)) (.t 5))⟩,
         ⟨(some 7), none, .q (.conv .u8 (.t 6))⟩,
         ⟨(some 8), none, .a (.bsl 5 1 [.t 7])⟩,
         ⟨(some 9), none, .q (.b2s (.t 8))⟩,
         ⟨(some 2), none, .a (.asg (.t 9))⟩])
       .ret)
      .skip))
    (.seq
     (.mixt [] [0, 2] [] [] []
       []
       (.step 0 ⟨(some 10), none, .q (.mov (.t 0))⟩
       (.step 1 ⟨(some 11), none, .q (.bin false .quo (.t 10) (.c (.int .i64 10)))⟩
        (.step 3 ⟨(some 13), none, .q (.mov (.t 0))⟩
         (.step 4 ⟨(some 14), none, .q (.bin false .rem (.t 13) (.c (.int .i64 10)))⟩
          (.step 5 ⟨(some 15), none, .q (.bin false .add (.c (.int .i64 48)) (.t 14))⟩
           (.alt (.step 2 ⟨(some 12), none, .a (.call (.fn 172) false [.lend (.t 11)])⟩
            (.step 6 ⟨(some 16), none, .q (.conv .u8 (.t 15))⟩
             (.step 7 ⟨(some 17), none, .a (.bsl 5 1 [.t 16])⟩
              (.step 8 ⟨(some 18), none, .q (.b2s (.t 17))⟩
               (.step 9 ⟨(some 19), none, .q (.bin false .add (.t 12) (.t 18))⟩
                (.step 10 ⟨(some 2), none, .a (.asg (.t 19))⟩
                 .nil))))))
            (.step 6 ⟨(some 16), none, .q (.conv .u8 (.t 15))⟩
            (.alt (.step 2 ⟨(some 12), none, .a (.call (.fn 172) false [.lend (.t 11)])⟩
             (.step 7 ⟨(some 17), none, .a (.bsl 5 1 [.t 16])⟩
              (.step 8 ⟨(some 18), none, .q (.b2s (.t 17))⟩
               (.step 9 ⟨(some 19), none, .q (.bin false .add (.t 12) (.t 18))⟩
                (.step 10 ⟨(some 2), none, .a (.asg (.t 19))⟩
                 .nil)))))
             (.step 7 ⟨(some 17), none, .a (.bsl 5 1 [.t 16])⟩
             (.alt (.step 2 ⟨(some 12), none, .a (.call (.fn 172) false [.lend (.t 11)])⟩
              (.step 8 ⟨(some 18), none, .q (.b2s (.t 17))⟩
               (.step 9 ⟨(some 19), none, .q (.bin false .add (.t 12) (.t 18))⟩
                (.step 10 ⟨(some 2), none, .a (.asg (.t 19))⟩
                 .nil))))
              (.step 8 ⟨(some 18), none, .q (.b2s (.t 17))⟩
              (.step 2 ⟨(some 12), none, .a (.call (.fn 172) false [.lend (.t 11)])⟩
               (.step 9 ⟨(some 19), none, .q (.bin false .add (.t 12) (.t 18))⟩
                (.step 10 ⟨(some 2), none, .a (.asg (.t 19))⟩
                 .nil)))))))))))))))
     .ret)))

set_option maxHeartbeats 1000000 in
set_option maxRecDepth 100000 in
theorem d172 : ∀ (f : Nat) (n : Int), 0 ≤ n → n < f → n ≤ 1000000 → DoesE Go.Proofs.Try.prog 172 [.v (.int .i64 n)] false fun r o => ∃ s : ByteArray, r = .v (.string s) ∧ (s.size : Int) ≤ n + 1 ∧ o = [.dead]
  | 0, n, h0, h1, _ => by omega
  | f + 1, n, h0, h1, h2 => by
    refine doesE_intro (mc := m172) (N := 20) (rs := [2]) (fx := []) 1 rfl (by decide +kernel) ?_
    simp only [m172, EV, Nat.reduceEqDiff, Nat.reduceBEq, Nat.reduceLT, Nat.reduceLeDiff, Nat.reduceAdd, Nat.reduceSub, reduceIte]
    refine cK_cut (fun h => ?_) (fun h => ?_)
    · have h3 : n < 10 := by simpa using h
      simp only [EV, Nat.reduceEqDiff, Nat.reduceBEq, Nat.reduceLT, Nat.reduceLeDiff, Nat.reduceAdd, Nat.reduceSub, reduceIte]
      simp only [EV, Nat.reduceEqDiff, Nat.reduceBEq, Nat.reduceLT, Nat.reduceLeDiff, Nat.reduceAdd, Nat.reduceSub, reduceIte, evRE, retVC, cellV', evR, nfz, nfzs, nfzss, List.contains_nil, List.contains_cons, Bool.or_false, or_true]
      have h9 : (strA [IntKind.u8.wrap (IntKind.i64.wrap (48 + n))]).size = 1 := rfl
      exact ⟨_, rfl, by rw [h9]; omega⟩
    · have h3 : ¬ n < 10 := by simpa using h
      have ed : n.tdiv 10 = n / 10 := Int.tdiv_eq_ediv_of_nonneg (by omega)
      have ih := d172 f (n / 10) (by omega) (by omega) (by omega)
      have h9 : ∀ x : Int, (strA [x]).size = 1 := fun _ => rfl
      have fin : ∀ {K : AV → Prop}, (∀ s : ByteArray, (s.size : Int) ≤ n / 10 + 1 → K (.v (.string s))) → callK Go.Proofs.Try.prog 172 [.v (.int .i64 (n / 10))] false [.dead] K := fun hk =>
        callE_i (S := fun r => ∃ s : ByteArray, r = .v (.string s) ∧ (s.size : Int) ≤ n / 10 + 1) ih (by rintro r o ⟨s, g1, g2, g3⟩; exact ⟨⟨s, g1, g2⟩, g3⟩) (by rintro r ⟨s, rfl, g2⟩; exact hk s g2)
      simp only [ed, w64 (n / 10) (by omega), EV, Nat.reduceEqDiff, Nat.reduceBEq, Nat.reduceLT, Nat.reduceLeDiff, Nat.reduceAdd, Nat.reduceSub, reduceIte]
      refine ⟨by omega, by omega, ?_, ?_, ?_, ?_⟩
      all_goals refine fin fun s hs => ?_
      all_goals simp only [EV, Nat.reduceEqDiff, Nat.reduceBEq, Nat.reduceLT, Nat.reduceLeDiff, Nat.reduceAdd, Nat.reduceSub, reduceIte]
      all_goals refine ⟨by rw [h9]; omega, ?_⟩
      all_goals simp only [EV, Nat.reduceEqDiff, Nat.reduceBEq, Nat.reduceLT, Nat.reduceLeDiff, Nat.reduceAdd, Nat.reduceSub, reduceIte, evRE, retVC, cellV', evR, nfz, nfzs, nfzss, List.contains_nil, List.contains_cons, Bool.or_false, or_true]
      all_goals exact ⟨_, rfl, by rw [ByteArray.size_append, h9]; omega⟩

theorem base_len3 : baseTs.length = 3 := rfl

theorem n172 {n : Int} (h0 : 0 ≤ n) (h1 : n ≤ 1000000) {K : AV → Prop} (k : ∀ s : ByteArray, (s.size : Int) ≤ n + 1 → K (.v (.string s))) : callK Go.Proofs.Try.prog 172 [.v (.int .i64 n)] false [.dead] K :=
  callE_i (S := fun r => ∃ s : ByteArray, r = .v (.string s) ∧ (s.size : Int) ≤ n + 1) (d172 (n.toNat + 1) n h0 (by omega) h1) (by rintro r o ⟨s, g1, g2, g3⟩; exact ⟨⟨s, g1, g2⟩, g3⟩) (by rintro r ⟨s, rfl, g2⟩; exact k s g2)

end Go.AM
namespace Go.AM
set_option linter.unusedVariables false
set_option linter.unusedSimpArgs false
/-- What is drawn: small, and a pointer leads to a type. -/
structure TyD (n : Int) (t : Ty) : Prop where
  few : t.fields.length ≤ 3
  names : ∀ f ∈ t.fields, (f.name.size : Int) ≤ 40
  owner : (t.owner.size : Int) ≤ 40
  name : (t.name.size : Int) ≤ 40
  ptr : t.kind = 6 → 0 ≤ t.base ∧ t.base < n

theorem TyD.sm {n : Int} {t : Ty} (h : TyD n t) : t.sm := by
  have := h.few; have h2 := h.owner; have h3 := h.name
  exact ⟨trivial, trivial, trivial, ⟨by omega, fun f hf => ⟨by have := h.names f hf; omega, trivial, trivial⟩⟩, by omega, by omega⟩

theorem base_tyD (n : Int) : ∀ t ∈ baseTs, TyD n t := by
  intro t ht
  simp only [baseTs, List.mem_cons, List.not_mem_nil, or_false] at ht
  rcases ht with rfl | rfl | rfl <;> exact ⟨by simp, by simp, by decide, by decide, fun h => absurd h (by decide)⟩

theorem TyD.put {n : Int} {t : Ty} (h : TyD n t) {o m : ByteArray} (h1 : (o.size : Int) ≤ 40) (h2 : (m.size : Int) ≤ 40) : TyD n { t with owner := o, name := m } := ⟨h.few, h.names, h1, h2, h.ptr⟩

/-- (*loop.example/g00837/spec.l1Cur).types -/
def m140 : MC :=
  (.seq
   (.reg [⟨(some 2), none, .a (.asg (.nils 59 6))⟩])
   (.seq
    (.reg [⟨(some 10), none, .a (.call (.fn 171) false [])⟩,
      ⟨(some 3), none, .a (.asg (.t 10))⟩])
    (.seq
     (.reg [⟨(some 11), none, .q (.mov (.t 0))⟩,
       ⟨(some 12), none, .a (.call (.fn 106) false [.io (.t 11), .lend (.c (.int .i64 7))])⟩,
       ⟨(some 13), none, .q (.bin false .add (.c (.int .i64 3)) (.t 12))⟩,
       ⟨(some 4), none, .a (.asg (.t 13))⟩])
     (.seq
      (.block 0
       (.loop [0, 3, 4, 10, 90]
        (.seq
         (.seq
          (.reg [⟨(some 14), none, .q (.mov (.t 3))⟩,
            ⟨(some 15), none, .q (.len false (.t 14))⟩,
            ⟨(some 16), none, .q (.mov (.t 4))⟩,
            ⟨(some 17), none, .q (.bin false .lss (.t 15) (.t 16))⟩])
          (.cond (.t 17)
           .skip
           (.exit 0)))
         (.block 1
          (.seq
           (.reg [⟨(some 18), none, .q (.mov (.t 0))⟩,
             ⟨(some 19), none, .a (.call (.fn 106) false [.io (.t 18), .lend (.c (.int .i64 3))])⟩,
             ⟨(some 20), none, .q (.bin false .add (.c (.int .i64 4)) (.t 19))⟩,
             ⟨(some 21), none, .a (.build [0, 2] [0, 2] [1, 1] [.v (.int .i64 0), .v (.int .i64 0), .v (.int .i64 0), .s 57 3, .v (.string ({ data := #[] })), .v (.string ({ data := #[] }))] [.t 20, .c (.int .i64 (-1))])⟩,
             ⟨(some 5), none, .a (.alloc 59 [.v (.int .i64 0), .v (.int .i64 0), .v (.int .i64 0), .s 57 3, .v (.string ({ data := #[] })), .v (.string ({ data := #[] }))])⟩,
             ⟨none, none, .a (.store 6 (.t 5) (.t 21))⟩])
           (.join [0, 3, 4, 5, 10, 90]
            (.seq
             (.reg [⟨(some 22), none, .q (.mov (.t 0))⟩,
               ⟨(some 23), none, .a (.call (.fn 96) false [.io (.t 22), .lend (.c (.int .i64 2))])⟩])
             (.cond (.t 23)
              (.seq
               (.reg [⟨(some 24), none, .q (.mov (.t 0))⟩,
                 ⟨(some 25), none, .a (.bsl 9 1 [.c (.string ({ data := #[65] })), .c (.string ({ data := #[66] }))])⟩,
                 ⟨(some 26), none, .a (.call (.fn 97) false [.io (.t 24), .give (.t 25)])⟩,
                 ⟨(some 27), none, .q (.fad 4 (.t 5))⟩,
                 ⟨none, none, .a (.store 1 (.t 27) (.t 26))⟩])
               (.reg [⟨(some 28), none, .q (.mov (.t 3))⟩,
                 ⟨(some 29), none, .q (.len false (.t 28))⟩,
                 ⟨(some 30), none, .a (.call (.fn 172) false [.lend (.t 29)])⟩,
                 ⟨(some 31), none, .q (.bin false .add (.c (.string ({ data := #[84] }))) (.t 30))⟩,
                 ⟨(some 32), none, .q (.fad 5 (.t 5))⟩,
                 ⟨none, none, .a (.store 1 (.t 32) (.t 31))⟩]))
              .skip))
            (.join [0, 3, 4, 5, 10, 90]
             (.seq
              (.reg [⟨(some 33), none, .q (.fad 0 (.t 5))⟩,
                ⟨(some 34), none, .q (.load false 1 (.t 33))⟩])
              (.block 2
               (.seq
                (.reg [⟨(some 42), none, .q (.bin false .eql (.t 34) (.c (.int .i64 4)))⟩,
                  ⟨(some 41), none, .a (.asg (.t 42))⟩])
                (.cond (.t 41)
                 (.seq
                  (.reg [⟨(some 43), none, .q (.mov (.t 0))⟩,
                    ⟨(some 44), none, .a (.call (.fn 106) false [.io (.t 43), .lend (.c (.int .i64 5))])⟩,
                    ⟨(some 45), none, .q (.bin false .add (.c (.int .i64 1)) (.t 44))⟩,
                    ⟨(some 46), none, .q (.fad 1 (.t 5))⟩,
                    ⟨none, none, .a (.store 1 (.t 46) (.t 45))⟩])
                  (.reg [⟨(some 47), none, .q (.mov (.t 0))⟩,
                    ⟨(some 48), none, .q (.mov (.t 3))⟩,
                    ⟨(some 49), none, .q (.len false (.t 48))⟩,
                    ⟨(some 50), none, .a (.call (.fn 106) false [.io (.t 47), .lend (.t 49)])⟩,
                    ⟨(some 51), none, .q (.fad 2 (.t 5))⟩,
                    ⟨none, none, .a (.store 1 (.t 51) (.t 50))⟩]))
                 (.seq
                  (.reg [⟨(some 53), none, .q (.bin false .eql (.t 34) (.c (.int .i64 5)))⟩,
                    ⟨(some 52), none, .a (.asg (.t 53))⟩])
                  (.cond (.t 52)
                   (.join [0, 3, 4, 5, 10, 90]
                    (.seq
                     (.reg [⟨(some 54), none, .q (.mov (.t 0))⟩,
                       ⟨(some 55), none, .q (.mov (.t 3))⟩,
                       ⟨(some 56), none, .q (.len false (.t 55))⟩,
                       ⟨(some 57), none, .a (.call (.fn 106) false [.io (.t 54), .lend (.t 56)])⟩,
                       ⟨(some 6), none, .a (.asg (.t 57))⟩])
                     (.seq
                      (.reg [⟨(some 58), none, .q (.mov (.t 3))⟩,
                        ⟨(some 59), none, .q (.mov (.t 6))⟩,
                        ⟨(some 60), none, .q (.iad 6 (.t 58) (.t 59))⟩,
                        ⟨(some 61), none, .q (.fad 0 (.t 60))⟩,
                        ⟨(some 62), none, .q (.load false 1 (.t 61))⟩,
                        ⟨(some 63), none, .q (.bin false .eql (.t 62) (.c (.int .i64 5)))⟩])
                      (.cond (.t 63)
                       (.reg [⟨(some 64), none, .q (.mov (.t 6))⟩,
                         ⟨(some 65), none, .q (.fad 2 (.t 5))⟩,
                         ⟨none, none, .a (.store 1 (.t 65) (.t 64))⟩])
                       .skip)))
                    (.seq
                     (.reg [⟨(some 66), none, .q (.mov (.t 0))⟩,
                       ⟨(some 67), none, .a (.call (.fn 106) false [.io (.t 66), .lend (.c (.int .i64 4))])⟩,
                       ⟨(some 7), none, .a (.asg (.t 67))⟩])
                     (.block 3
                      (.loop [0, 3, 4, 5, 7, 10, 90]
                       (.seq
                        (.seq
                         (.reg [⟨(some 68), none, .q (.mov (.t 7))⟩,
                           ⟨(some 69), none, .q (.bin false .gtr (.t 68) (.c (.int .i64 0)))⟩])
                         (.cond (.t 69)
                          .skip
                          (.exit 3)))
                        (.seq
                         (.block 4
                          (.mixt [] [0, 3, 4, 5, 7, 10, 90] [] [] []
                            []
                            (.step 0 ⟨(some 72), none, .q (.fad 3 (.t 5))⟩
                            (.step 2 ⟨(some 74), none, .q (.mov (.t 7))⟩
                             (.step 5 ⟨(some 77), none, .q (.mov (.t 0))⟩
                              (.step 7 ⟨(some 79), none, .q (.mov (.t 0))⟩
                               (.step 8 ⟨(some 80), none, .q (.mov (.t 3))⟩
                                (.step 9 ⟨(some 81), none, .q (.len false (.t 80))⟩
                                 (.alt (.step 1 ⟨(some 73), none, .q (.load false 1 (.t 72))⟩
                                  (.step 3 ⟨(some 75), none, .a (.call (.fn 172) false [.lend (.t 74)])⟩
                                   (.step 4 ⟨(some 76), none, .q (.bin false .add (.c (.string ({ data := #[102] }))) (.t 75))⟩
                                    (.step 6 ⟨(some 78), none, .a (.call (.fn 106) false [.io (.t 77), .lend (.c (.int .i64 3))])⟩
                                     (.step 10 ⟨(some 82), none, .a (.call (.fn 106) false [.io (.t 79), .lend (.t 81)])⟩
                                      (.step 11 ⟨(some 83), none, .a (.build [0, 1, 2] [0, 1, 2] [1, 1, 1] [.v (.string ({ data := #[] })), .v (.int .i64 0), .v (.int .i64 0)] [.t 76, .t 78, .t 82])⟩
                                       (.step 12 ⟨(some 84), none, .a (.bsl 57 3 [.t 83])⟩
                                        (.step 13 ⟨(some 85), none, .a (.app true 57 3 32 (.t 73) (.t 84))⟩
                                         (.step 14 ⟨(some 86), none, .q (.fad 3 (.t 5))⟩
                                          (.step 15 ⟨none, none, .a (.store 1 (.t 86) (.t 85))⟩
                                           .nil))))))))))
                                  (.step 3 ⟨(some 75), none, .a (.call (.fn 172) false [.lend (.t 74)])⟩
                                  (.step 4 ⟨(some 76), none, .q (.bin false .add (.c (.string ({ data := #[102] }))) (.t 75))⟩
                                   (.alt (.step 1 ⟨(some 73), none, .q (.load false 1 (.t 72))⟩
                                    (.step 6 ⟨(some 78), none, .a (.call (.fn 106) false [.io (.t 77), .lend (.c (.int .i64 3))])⟩
                                     (.step 10 ⟨(some 82), none, .a (.call (.fn 106) false [.io (.t 79), .lend (.t 81)])⟩
                                      (.step 11 ⟨(some 83), none, .a (.build [0, 1, 2] [0, 1, 2] [1, 1, 1] [.v (.string ({ data := #[] })), .v (.int .i64 0), .v (.int .i64 0)] [.t 76, .t 78, .t 82])⟩
                                       (.step 12 ⟨(some 84), none, .a (.bsl 57 3 [.t 83])⟩
                                        (.step 13 ⟨(some 85), none, .a (.app true 57 3 32 (.t 73) (.t 84))⟩
                                         (.step 14 ⟨(some 86), none, .q (.fad 3 (.t 5))⟩
                                          (.step 15 ⟨none, none, .a (.store 1 (.t 86) (.t 85))⟩
                                           .nil))))))))
                                    (.step 6 ⟨(some 78), none, .a (.call (.fn 106) false [.io (.t 77), .lend (.c (.int .i64 3))])⟩
                                    (.alt (.step 1 ⟨(some 73), none, .q (.load false 1 (.t 72))⟩
                                     (.step 10 ⟨(some 82), none, .a (.call (.fn 106) false [.io (.t 79), .lend (.t 81)])⟩
                                      (.step 11 ⟨(some 83), none, .a (.build [0, 1, 2] [0, 1, 2] [1, 1, 1] [.v (.string ({ data := #[] })), .v (.int .i64 0), .v (.int .i64 0)] [.t 76, .t 78, .t 82])⟩
                                       (.step 12 ⟨(some 84), none, .a (.bsl 57 3 [.t 83])⟩
                                        (.step 13 ⟨(some 85), none, .a (.app true 57 3 32 (.t 73) (.t 84))⟩
                                         (.step 14 ⟨(some 86), none, .q (.fad 3 (.t 5))⟩
                                          (.step 15 ⟨none, none, .a (.store 1 (.t 86) (.t 85))⟩
                                           .nil)))))))
                                     (.step 10 ⟨(some 82), none, .a (.call (.fn 106) false [.io (.t 79), .lend (.t 81)])⟩
                                     (.alt (.step 1 ⟨(some 73), none, .q (.load false 1 (.t 72))⟩
                                      (.step 11 ⟨(some 83), none, .a (.build [0, 1, 2] [0, 1, 2] [1, 1, 1] [.v (.string ({ data := #[] })), .v (.int .i64 0), .v (.int .i64 0)] [.t 76, .t 78, .t 82])⟩
                                       (.step 12 ⟨(some 84), none, .a (.bsl 57 3 [.t 83])⟩
                                        (.step 13 ⟨(some 85), none, .a (.app true 57 3 32 (.t 73) (.t 84))⟩
                                         (.step 14 ⟨(some 86), none, .q (.fad 3 (.t 5))⟩
                                          (.step 15 ⟨none, none, .a (.store 1 (.t 86) (.t 85))⟩
                                           .nil))))))
                                      (.step 11 ⟨(some 83), none, .a (.build [0, 1, 2] [0, 1, 2] [1, 1, 1] [.v (.string ({ data := #[] })), .v (.int .i64 0), .v (.int .i64 0)] [.t 76, .t 78, .t 82])⟩
                                      (.alt (.step 1 ⟨(some 73), none, .q (.load false 1 (.t 72))⟩
                                       (.step 12 ⟨(some 84), none, .a (.bsl 57 3 [.t 83])⟩
                                        (.step 13 ⟨(some 85), none, .a (.app true 57 3 32 (.t 73) (.t 84))⟩
                                         (.step 14 ⟨(some 86), none, .q (.fad 3 (.t 5))⟩
                                          (.step 15 ⟨none, none, .a (.store 1 (.t 86) (.t 85))⟩
                                           .nil)))))
                                       (.step 12 ⟨(some 84), none, .a (.bsl 57 3 [.t 83])⟩
                                       (.step 1 ⟨(some 73), none, .q (.load false 1 (.t 72))⟩
                                        (.step 13 ⟨(some 85), none, .a (.app true 57 3 32 (.t 73) (.t 84))⟩
                                         (.step 14 ⟨(some 86), none, .q (.fad 3 (.t 5))⟩
                                          (.step 15 ⟨none, none, .a (.store 1 (.t 86) (.t 85))⟩
                                           .nil)))))))))))))))))))))))
                         (.reg [⟨(some 70), none, .q (.mov (.t 7))⟩,
                           ⟨(some 71), none, .q (.bin false .sub (.t 70) (.c (.int .i64 1)))⟩,
                           ⟨(some 7), none, .a (.asg (.t 71))⟩])))))))
                   (.reg [⟨(some 35), none, .q (.mov (.t 0))⟩,
                     ⟨(some 36), none, .q (.mov (.t 4))⟩,
                     ⟨(some 37), none, .q (.bin false .sub (.t 36) (.c (.int .i64 3)))⟩,
                     ⟨(some 38), none, .a (.call (.fn 106) false [.io (.t 35), .lend (.t 37)])⟩,
                     ⟨(some 39), none, .q (.bin false .add (.c (.int .i64 3)) (.t 38))⟩,
                     ⟨(some 40), none, .q (.fad 2 (.t 5))⟩,
                     ⟨none, none, .a (.store 1 (.t 40) (.t 39))⟩])))))))
             (.reg [⟨(some 87), none, .q (.mov (.t 3))⟩,
               ⟨(some 88), none, .q (.load true 6 (.t 5))⟩,
               ⟨(some 89), none, .a (.bsl 59 6 [.t 88])⟩,
               ⟨(some 90), none, .a (.app true 59 6 80 (.t 87) (.t 89))⟩,
               ⟨(some 3), none, .a (.asg (.t 90))⟩]))))))))
      (.seq
       (.seq
        (.reg [⟨(some 91), none, .q (.mov (.t 3))⟩,
          ⟨(some 92), none, .q (.len false (.t 91))⟩,
          ⟨(some 93), none, .q (.mov (.c (.int .i64 0)))⟩])
        (.block 5
         (.loop [0, 3, 10, 90, 91, 92, 93]
          (.seq
           (.reg [⟨(some 94), none, .q (.bin false .lss (.t 93) (.t 92))⟩])
           (.seq
            (.cond (.t 94)
             .skip
             (.exit 5))
            (.join [0, 3, 10, 90, 91, 92, 93]
             (.block 6
              (.seq
               (.reg [⟨(some 95), none, .q (.mov (.t 93))⟩,
                 ⟨(some 96), none, .q (.iad 6 (.t 91) (.t 93))⟩,
                 ⟨(some 97), none, .q (.load true 6 (.t 96))⟩,
                 ⟨(some 9), none, .a (.alloc 59 [.v (.int .i64 0), .v (.int .i64 0), .v (.int .i64 0), .s 57 3, .v (.string ({ data := #[] })), .v (.string ({ data := #[] }))])⟩,
                 ⟨(some 8), none, .a (.asg (.t 95))⟩,
                 ⟨none, none, .a (.storek 6 (.t 9) (.t 97))⟩])
               (.seq
                (.reg [⟨(some 98), none, .q (.fad 0 (.t 9))⟩,
                  ⟨(some 99), none, .q (.load false 1 (.t 98))⟩,
                  ⟨(some 100), none, .q (.bin false .eql (.t 99) (.c (.int .i64 6)))⟩,
                  ⟨(some 101), none, .q (.mov (.t 100))⟩,
                  ⟨(some 102), (some (101, true)), .q (.mov (.t 3))⟩,
                  ⟨(some 103), (some (101, true)), .q (.fad 2 (.t 9))⟩,
                  ⟨(some 104), (some (101, true)), .q (.load false 1 (.t 103))⟩,
                  ⟨(some 105), (some (101, true)), .q (.iad 6 (.t 102) (.t 104))⟩,
                  ⟨(some 106), (some (101, true)), .q (.fad 0 (.t 105))⟩,
                  ⟨(some 107), (some (101, true)), .q (.load false 1 (.t 106))⟩,
                  ⟨(some 108), (some (101, true)), .q (.bin false .eql (.t 107) (.c (.int .i64 6)))⟩,
                  ⟨(some 109), none, .q (.pick (.t 101) (.t 108) (.c (.bool false)))⟩])
                (.cond (.t 109)
                 (.seq
                  (.reg [⟨(some 110), none, .q (.mov (.t 3))⟩,
                    ⟨(some 111), none, .q (.mov (.t 8))⟩,
                    ⟨(some 112), none, .q (.iad 6 (.t 110) (.t 111))⟩,
                    ⟨(some 113), none, .q (.fad 0 (.t 112))⟩,
                    ⟨none, none, .a (.store 1 (.t 113) (.c (.int .i64 5)))⟩])
                  (.reg [⟨(some 114), none, .q (.mov (.t 3))⟩,
                    ⟨(some 115), none, .q (.mov (.t 8))⟩,
                    ⟨(some 116), none, .q (.iad 6 (.t 114) (.t 115))⟩,
                    ⟨(some 117), none, .q (.fad 2 (.t 116))⟩,
                    ⟨none, none, .a (.store 1 (.t 117) (.c (.int .i64 (-1))))⟩]))
                 .skip))))
             (.reg [⟨(some 118), none, .q (.bin false .add (.t 93) (.c (.int .i64 1)))⟩,
               ⟨(some 93), none, .q (.mov (.t 118))⟩])))))))
       (.seq
        (.reg [⟨(some 119), none, .q (.mov (.t 3))⟩,
          ⟨(some 2), none, .a (.asg (.t 119))⟩])
        .ret))))))

set_option maxHeartbeats 4000000 in
set_option maxRecDepth 100000 in
theorem p140 (c : Cur) (n : Int) (hc : c.ok n) (hn : n ≤ 115292150460) : Draws 140 [] c n 600 fun r => ∃ l : List Ty, r = .usl 59 6 (l.map Ty.o) ∧ 3 ≤ l.length ∧ l.length ≤ 9 ∧ ∀ t ∈ l, TyD l.length t := by
  refine doesE_intro (mc := m140) (N := 120) (rs := [2]) (fx := [0]) 1 rfl (by decide +kernel) ?_
  simp only [m140, EV, Nat.reduceEqDiff, Nat.reduceBEq, Nat.reduceLT, Nat.reduceLeDiff, Nat.reduceAdd, Nat.reduceSub, reduceIte]
  refine callK_i d171 ?_
  simp only [EV, Nat.reduceEqDiff, Nat.reduceBEq, Nat.reduceLT, Nat.reduceLeDiff, Nat.reduceAdd, Nat.reduceSub, reduceIte]
  refine (p106 c n 7 hc (by omega) (by omega)).call (fun _ => rfl) ?_
  rintro _ c1 hc1 ⟨v, rfl, v0, v1, _⟩
  have v2 := v1 (by omega)
  have hw : IntKind.i64.wrap (3 + v) = 3 + v := w64 _ (by omega)
  have hv : ∃ m : Nat, 3 + v = (m : Int) := ⟨(3 + v).toNat, by omega⟩
  obtain ⟨m, hm⟩ := hv
  have hm3 : 3 ≤ m := by omega
  have hm9 : m ≤ 9 := by omega
  have hwm : IntKind.i64.wrap (m : Int) = m := w64 _ (by omega)
  simp only [hm, hwm, EV, Nat.reduceEqDiff, Nat.reduceBEq, Nat.reduceLT, Nat.reduceLeDiff, Nat.reduceAdd, Nat.reduceSub, reduceIte]
  refine awp_loop (fun p : List Ty × Cur => 3 ≤ p.1.length ∧ p.1.length ≤ m ∧ (∀ t ∈ p.1, TyD m t) ∧ p.2.ok (n + 2 + 60 * p.1.length)) (fun p => stl [(0, .box 115 p.2.z), (3, .usl 59 6 (p.1.map Ty.o)), (4, .v (.int .i64 (m : Int))), (10, .dead), (90, .dead)]) (fun p => m - p.1.length) (baseTs, c1) ⟨by simp only [base_len3]; omega, by simp only [base_len3]; omega, base_tyD _, hc1.up (by simp only [base_len3]; omega)⟩ ?_ ?_
  · simp only [EV, Nat.reduceEqDiff, Nat.reduceBEq, Nat.reduceLT, Nat.reduceLeDiff, Nat.reduceAdd, Nat.reduceSub, reduceIte]
  · rintro ⟨l, c⟩ ⟨l3, lm, lD, hc⟩
    simp only at l3 lm lD hc
    simp only [EV, Nat.reduceEqDiff, Nat.reduceBEq, Nat.reduceLT, Nat.reduceLeDiff, Nat.reduceAdd, Nat.reduceSub, reduceIte]
    refine cK_cut (fun h => ?_) (fun h => ?_)
    · have hlm : l.length < m := by have : (l.length : Int) < (m : Int) := by simpa using h
                                    omega
      clear h
      simp only [EV, Nat.reduceEqDiff, Nat.reduceBEq, Nat.reduceLT, Nat.reduceLeDiff, Nat.reduceAdd, Nat.reduceSub, reduceIte]
      refine (p106 c _ 3 hc (by omega) (by omega)).call (fun _ => rfl) ?_
      rintro _ c2 hc2 ⟨kd, rfl, k0, k1, _⟩
      have k2 := k1 (by omega)
      have hwk : IntKind.i64.wrap (4 + kd) = 4 + kd := w64 _ (by omega)
      have hck : ∃ q : Int, 4 + kd = q := ⟨_, rfl⟩
      obtain ⟨q, hq⟩ := hck
      have hwq : IntKind.i64.wrap q = q := w64 _ (by omega)
      simp only [hq, hwq, EV, Nat.reduceEqDiff, Nat.reduceBEq, Nat.reduceLT, Nat.reduceLeDiff, Nat.reduceAdd, Nat.reduceSub, reduceIte]
      refine awp_join (fun p : Ty × Cur => (∃ o m : ByteArray, p.1 = ⟨q, 0, -1, [], o, m⟩ ∧ (o.size : Int) ≤ 40 ∧ (m.size : Int) ≤ 40) ∧ p.2.ok (n + 2 + 60 * l.length + 6)) (fun p => stl [(0, .box 115 p.2.z), (3, .usl 59 6 (l.map Ty.o)), (4, .v (.int .i64 (m : Int))), (5, .box 59 p.1.o), (10, .dead), (90, .dead)]) ?_ ?_
      · simp only [EV, Nat.reduceEqDiff, Nat.reduceBEq, Nat.reduceLT, Nat.reduceLeDiff, Nat.reduceAdd, Nat.reduceSub, reduceIte]
        refine (p96 c2 _ 2 hc2 (by omega) (by omega)).call (fun _ => rfl) ?_
        rintro _ c3 hc3 ⟨b, rfl⟩
        simp only [EV, Nat.reduceEqDiff, Nat.reduceBEq, Nat.reduceLT, Nat.reduceLeDiff, Nat.reduceAdd, Nat.reduceSub, reduceIte]
        cases b
        · simp only [EV, Nat.reduceEqDiff, Nat.reduceBEq, Nat.reduceLT, Nat.reduceLeDiff, Nat.reduceAdd, Nat.reduceSub, reduceIte]
          exact ⟨(⟨q, 0, -1, [], ⟨#[]⟩, ⟨#[]⟩⟩, c3), ⟨⟨_, _, rfl, by decide, by decide⟩, hc3.up (by omega)⟩, rfl⟩
        · simp only [EV, Nat.reduceEqDiff, Nat.reduceBEq, Nat.reduceLT, Nat.reduceLeDiff, Nat.reduceAdd, Nat.reduceSub, reduceIte]
          refine (p97 c3 _ [⟨#[65]⟩, ⟨#[66]⟩] hc3 (by omega) (by decide) (by decide)).call (fun _ => rfl) ?_
          rintro _ c4 hc4 ⟨s, hs, rfl⟩
          have hs1 : (s.size : Int) ≤ 40 := by
            simp only [List.mem_cons, List.not_mem_nil, or_false] at hs
            rcases hs with rfl | rfl <;> decide
          simp only [EV, Nat.reduceEqDiff, Nat.reduceBEq, Nat.reduceLT, Nat.reduceLeDiff, Nat.reduceAdd, Nat.reduceSub, reduceIte]
          refine n172 (by omega) (by omega) fun nm hnm => ?_
          simp only [EV, Nat.reduceEqDiff, Nat.reduceBEq, Nat.reduceLT, Nat.reduceLeDiff, Nat.reduceAdd, Nat.reduceSub, reduceIte]
          have h84 : ((⟨#[84]⟩ : ByteArray).size : Nat) = 1 := rfl
          refine ⟨by rw [h84]; omega, (⟨q, 0, -1, [], s, ⟨#[84]⟩ ++ nm⟩, c4), ⟨⟨_, _, rfl, hs1, by rw [ByteArray.size_append, h84]; omega⟩, hc4.up (by omega)⟩, rfl⟩
      rintro ⟨t, c5⟩ ⟨⟨o, mm, rfl, ho, hmm⟩, hc5⟩
      simp only at hc5
      simp only [Ty.o, List.map_nil, EV, Nat.reduceEqDiff, Nat.reduceBEq, Nat.reduceLT, Nat.reduceLeDiff, Nat.reduceAdd, Nat.reduceSub, reduceIte]
      refine awp_join (fun p : Ty × Cur => TyD m p.1 ∧ p.2.ok (n + 2 + 60 * l.length + 50)) (fun p => stl [(0, .box 115 p.2.z), (3, .usl 59 6 (l.map Ty.o)), (4, .v (.int .i64 (m : Int))), (5, .box 59 p.1.o), (10, .dead), (90, .dead)]) ?_ ?_
      · simp only [EV, Nat.reduceEqDiff, Nat.reduceBEq, Nat.reduceLT, Nat.reduceLeDiff, Nat.reduceAdd, Nat.reduceSub, reduceIte]
        rcases e4 : (q == 4) with _ | _
        rotate_left
        · have q4 : q = 4 := by simpa using e4
          simp only [e4, EV, Nat.reduceEqDiff, Nat.reduceBEq, Nat.reduceLT, Nat.reduceLeDiff, Nat.reduceAdd, Nat.reduceSub, reduceIte]
          refine (p106 c5 _ 5 hc5 (by omega) (by omega)).call (fun _ => rfl) ?_
          rintro _ c6 hc6 ⟨u, rfl, u0, u1, _⟩
          simp only [EV, Nat.reduceEqDiff, Nat.reduceBEq, Nat.reduceLT, Nat.reduceLeDiff, Nat.reduceAdd, Nat.reduceSub, reduceIte]
          refine (p106 c6 _ l.length hc6 (by omega) (by omega)).call (fun _ => rfl) ?_
          rintro _ c7 hc7 ⟨u2, rfl, _⟩
          simp only [EV, Nat.reduceEqDiff, Nat.reduceBEq, Nat.reduceLT, Nat.reduceLeDiff, Nat.reduceAdd, Nat.reduceSub, reduceIte]
          exact ⟨(⟨q, IntKind.i64.wrap (1 + u), u2, [], o, mm⟩, c7), ⟨⟨by simp, by simp, ho, hmm, fun h => by simp only at h; omega⟩, hc7.up (by omega)⟩, rfl⟩
        rcases e5 : (q == 5) with _ | _
        · have q6 : q = 6 := by
            have h4 : ¬ q = 4 := by simpa using e4
            have h5 : ¬ q = 5 := by simpa using e5
            omega
          simp only [e4, e5, EV, Nat.reduceEqDiff, Nat.reduceBEq, Nat.reduceLT, Nat.reduceLeDiff, Nat.reduceAdd, Nat.reduceSub, reduceIte]
          rw [w64 ((m : Int) - 3) (by omega)]
          refine (p106 c5 _ ((m : Int) - 3) hc5 (by omega) (by omega)).call (fun _ => rfl) ?_
          rintro _ c6 hc6 ⟨u, rfl, u0, u1, u2⟩
          have hu : 3 + u < (m : Int) := by
            by_cases h : 1 < (m : Int) - 3
            · have := u1 h; omega
            · have := u2 (by omega); omega
          simp only [EV, Nat.reduceEqDiff, Nat.reduceBEq, Nat.reduceLT, Nat.reduceLeDiff, Nat.reduceAdd, Nat.reduceSub, reduceIte]
          rw [w64 (3 + u) (by omega)]
          exact ⟨(⟨q, 0, 3 + u, [], o, mm⟩, c6), ⟨⟨by simp, by simp, ho, hmm, fun _ => ⟨by simp only; omega, hu⟩⟩, hc6.up (by omega)⟩, rfl⟩
        · have q5 : ¬ q = 6 := by have : q = 5 := by simpa using e5
                                  omega
          simp only [e4, e5, EV, Nat.reduceEqDiff, Nat.reduceBEq, Nat.reduceLT, Nat.reduceLeDiff, Nat.reduceAdd, Nat.reduceSub, reduceIte]
          refine awp_join (fun p : Int × Cur => p.2.ok (n + 2 + 60 * l.length + 8)) (fun p => stl [(0, .box 115 p.2.z), (3, .usl 59 6 (l.map Ty.o)), (4, .v (.int .i64 (m : Int))), (5, .box 59 (Ty.o ⟨q, 0, p.1, [], o, mm⟩)), (10, .dead), (90, .dead)]) ?_ ?_
          · simp only [EV, Nat.reduceEqDiff, Nat.reduceBEq, Nat.reduceLT, Nat.reduceLeDiff, Nat.reduceAdd, Nat.reduceSub, reduceIte]
            refine (p106 c5 _ l.length hc5 (by omega) (by omega)).call (fun _ => rfl) ?_
            rintro _ c6 hc6 ⟨u, rfl, u0, u1, _⟩
            have hu := u1 (by omega)
            have hun : u.toNat < l.length := by omega
            simp only [u0, hu, hun, nth_map hun, Ty.o, EV, Nat.reduceEqDiff, Nat.reduceBEq, Nat.reduceLT, Nat.reduceLeDiff, Nat.reduceAdd, Nat.reduceSub, reduceIte]
            rcases e : (l[u.toNat].kind == 5) with _ | _
            · simp only [Ty.o, EV, Nat.reduceEqDiff, Nat.reduceBEq, Nat.reduceLT, Nat.reduceLeDiff, Nat.reduceAdd, Nat.reduceSub, reduceIte]
              exact ⟨(-1, c6), hc6.up (by omega), rfl⟩
            · simp only [Ty.o, EV, Nat.reduceEqDiff, Nat.reduceBEq, Nat.reduceLT, Nat.reduceLeDiff, Nat.reduceAdd, Nat.reduceSub, reduceIte]
              exact ⟨(u, c6), hc6.up (by omega), rfl⟩
          rintro ⟨b, c6⟩ hc6
          simp only at hc6
          simp only [Ty.o, List.map_nil, EV, Nat.reduceEqDiff, Nat.reduceBEq, Nat.reduceLT, Nat.reduceLeDiff, Nat.reduceAdd, Nat.reduceSub, reduceIte]
          refine (p106 c6 _ 4 hc6 (by omega) (by omega)).call (fun _ => rfl) ?_
          rintro _ c7 hc7 ⟨k, rfl, k0, k1, _⟩
          have k3 := k1 (by omega)
          simp only [EV, Nat.reduceEqDiff, Nat.reduceBEq, Nat.reduceLT, Nat.reduceLeDiff, Nat.reduceAdd, Nat.reduceSub, reduceIte]
          refine awp_loop (fun p : List Fd × Int × Cur => (p.1.length : Int) + p.2.1 ≤ 3 ∧ 0 ≤ p.2.1 ∧ (∀ f ∈ p.1, (f.name.size : Int) ≤ 40) ∧ p.2.2.ok (n + 2 + 60 * l.length + 10 + 6 * p.1.length)) (fun p => stl [(0, .box 115 p.2.2.z), (3, .usl 59 6 (l.map Ty.o)), (4, .v (.int .i64 (m : Int))), (5, .box 59 (Ty.o ⟨q, 0, b, p.1, o, mm⟩)), (7, .v (.int .i64 p.2.1)), (10, .dead), (90, .dead)]) (fun p => p.2.1.toNat) ([], k, c7) ⟨by simp; omega, k0, by simp, hc7.up (by simp; omega)⟩ ?_ ?_
          · simp only [Ty.o, List.map_nil, EV, Nat.reduceEqDiff, Nat.reduceBEq, Nat.reduceLT, Nat.reduceLeDiff, Nat.reduceAdd, Nat.reduceSub, reduceIte]
          · rintro ⟨fs, k, c8⟩ ⟨g1, g2, g3, g4⟩
            simp only at g1 g2 g3 g4
            simp only [Ty.o, EV, Nat.reduceEqDiff, Nat.reduceBEq, Nat.reduceLT, Nat.reduceLeDiff, Nat.reduceAdd, Nat.reduceSub, reduceIte]
            refine cK_cut (fun h => ?_) (fun h => ?_)
            · have hk : 0 < k := by simpa using h
              clear h
              have h102 : ((⟨#[102]⟩ : ByteArray).size : Nat) = 1 := rfl
              have wk := w64 (k - 1) (by omega)
              simp only [wk, EV, Nat.reduceEqDiff, Nat.reduceBEq, Nat.reduceLT, Nat.reduceLeDiff, Nat.reduceAdd, Nat.reduceSub, reduceIte]
              have ld : ∀ (nm : ByteArray) (u v : Int) (c' : Cur), (nm.size : Int) ≤ k + 1 → c'.ok (n + 2 + 60 * l.length + 10 + 6 * fs.length + 2 + 2) →
                  (((fs ++ [(⟨⟨#[102]⟩ ++ nm, u, v⟩ : Fd)]).length : Int) + (k - 1) ≤ 3 ∧ 0 ≤ k - 1 ∧ (∀ f ∈ fs ++ [(⟨⟨#[102]⟩ ++ nm, u, v⟩ : Fd)], (f.name.size : Int) ≤ 40) ∧ c'.ok (n + 2 + 60 * l.length + 10 + 6 * (fs ++ [(⟨⟨#[102]⟩ ++ nm, u, v⟩ : Fd)]).length)) := by
                intro nm u v c' hnm hc'
                refine ⟨by simp; omega, by omega, ?_, hc'.up (by simp; omega)⟩
                intro f hf
                rcases List.mem_append.1 hf with hf | hf
                · exact g3 f hf
                · rw [List.mem_singleton] at hf
                  rw [hf]
                  simp only [ByteArray.size_append, h102]; omega
              have lm1 : ∀ (nm : ByteArray) (u v : Int), List.map Fd.o fs ++ [[AV.v (.string (⟨#[102]⟩ ++ nm)), AV.v (.int .i64 u), AV.v (.int .i64 v)]] = List.map Fd.o (fs ++ [⟨⟨#[102]⟩ ++ nm, u, v⟩]) := fun nm u v => by rw [List.map_append]; rfl
              refine ⟨?_, ?_⟩
              · refine n172 (by omega) (by omega) fun nm hnm => ?_
                simp only [EV, Nat.reduceEqDiff, Nat.reduceBEq, Nat.reduceLT, Nat.reduceLeDiff, Nat.reduceAdd, Nat.reduceSub, reduceIte]
                refine ⟨by rw [h102]; omega, ?_⟩
                refine (p106 c8 _ 3 g4 (by omega) (by omega)).call (fun _ => rfl) ?_
                rintro _ c9 hc9 ⟨u, rfl, _⟩
                simp only [EV, Nat.reduceEqDiff, Nat.reduceBEq, Nat.reduceLT, Nat.reduceLeDiff, Nat.reduceAdd, Nat.reduceSub, reduceIte]
                refine (p106 c9 _ l.length hc9 (by omega) (by omega)).call (fun _ => rfl) ?_
                rintro _ c10 hc10 ⟨v, rfl, _⟩
                simp only [wk, EV, Nat.reduceEqDiff, Nat.reduceBEq, Nat.reduceLT, Nat.reduceLeDiff, Nat.reduceAdd, Nat.reduceSub, reduceIte]
                refine ⟨by omega, by omega, (fs ++ [⟨⟨#[102]⟩ ++ nm, u, v⟩], k - 1, c10), ld nm u v c10 hnm hc10, by simp only; omega, ?_⟩
                simp only [lm1]
              · refine n172 (by omega) (by omega) fun nm hnm => ?_
                simp only [EV, Nat.reduceEqDiff, Nat.reduceBEq, Nat.reduceLT, Nat.reduceLeDiff, Nat.reduceAdd, Nat.reduceSub, reduceIte]
                refine ⟨by rw [h102]; omega, ?_⟩
                refine ⟨?_, ?_⟩
                · refine (p106 c8 _ 3 g4 (by omega) (by omega)).call (fun _ => rfl) ?_
                  rintro _ c9 hc9 ⟨u, rfl, _⟩
                  simp only [EV, Nat.reduceEqDiff, Nat.reduceBEq, Nat.reduceLT, Nat.reduceLeDiff, Nat.reduceAdd, Nat.reduceSub, reduceIte]
                  refine (p106 c9 _ l.length hc9 (by omega) (by omega)).call (fun _ => rfl) ?_
                  rintro _ c10 hc10 ⟨v, rfl, _⟩
                  simp only [wk, EV, Nat.reduceEqDiff, Nat.reduceBEq, Nat.reduceLT, Nat.reduceLeDiff, Nat.reduceAdd, Nat.reduceSub, reduceIte]
                  refine ⟨by omega, by omega, (fs ++ [⟨⟨#[102]⟩ ++ nm, u, v⟩], k - 1, c10), ld nm u v c10 hnm hc10, by simp only; omega, ?_⟩
                  simp only [lm1]
                · refine (p106 c8 _ 3 g4 (by omega) (by omega)).call (fun _ => rfl) ?_
                  rintro _ c9 hc9 ⟨u, rfl, _⟩
                  simp only [EV, Nat.reduceEqDiff, Nat.reduceBEq, Nat.reduceLT, Nat.reduceLeDiff, Nat.reduceAdd, Nat.reduceSub, reduceIte]
                  refine ⟨?_, ?_⟩
                  · refine (p106 c9 _ l.length hc9 (by omega) (by omega)).call (fun _ => rfl) ?_
                    rintro _ c10 hc10 ⟨v, rfl, _⟩
                    simp only [wk, EV, Nat.reduceEqDiff, Nat.reduceBEq, Nat.reduceLT, Nat.reduceLeDiff, Nat.reduceAdd, Nat.reduceSub, reduceIte]
                    refine ⟨by omega, by omega, (fs ++ [⟨⟨#[102]⟩ ++ nm, u, v⟩], k - 1, c10), ld nm u v c10 hnm hc10, by simp only; omega, ?_⟩
                    simp only [lm1]
                  · refine (p106 c9 _ l.length hc9 (by omega) (by omega)).call (fun _ => rfl) ?_
                    rintro _ c10 hc10 ⟨v, rfl, _⟩
                    simp only [wk, EV, Nat.reduceEqDiff, Nat.reduceBEq, Nat.reduceLT, Nat.reduceLeDiff, Nat.reduceAdd, Nat.reduceSub, reduceIte]
                    refine ⟨by omega, by omega, (fs ++ [⟨⟨#[102]⟩ ++ nm, u, v⟩], k - 1, c10), ld nm u v c10 hnm hc10, by simp only; omega, ?_⟩
                    simp only [lm1]
            · simp only [EV, Nat.reduceEqDiff, Nat.reduceBEq, Nat.reduceLT, Nat.reduceLeDiff, Nat.reduceAdd, Nat.reduceSub, reduceIte]
              exact ⟨(⟨q, 0, b, fs, o, mm⟩, c8), ⟨⟨by simp only; omega, g3, ho, hmm, fun h => absurd h q5⟩, g4.up (by omega)⟩, rfl⟩
      · rintro ⟨t, c6⟩ ⟨hD, hc6⟩
        simp only at hD hc6
        simp only [Ty.o, EV, Nat.reduceEqDiff, Nat.reduceBEq, Nat.reduceLT, Nat.reduceLeDiff, Nat.reduceAdd, Nat.reduceSub, reduceIte]
        refine ⟨by omega, by omega, (l ++ [t], c6), ⟨by simp; omega, by simp; omega, ?_, hc6.up (by simp; omega)⟩, by simp; omega, ?_⟩
        · intro s hs
          rcases List.mem_append.1 hs with hs | hs
          · exact lD s hs
          · rw [List.mem_singleton] at hs; rw [hs]; exact hD
        · rw [List.map_append]
          rfl
    · have hlm : l.length = m := by have : ¬ (l.length : Int) < (m : Int) := by simpa using h
                                    omega
      simp only [EV, Nat.reduceEqDiff, Nat.reduceBEq, Nat.reduceLT, Nat.reduceLeDiff, Nat.reduceAdd, Nat.reduceSub, reduceIte]
      refine awp_loop (fun p : List Ty × Nat => p.1.length = m ∧ p.2 ≤ m ∧ ∀ t ∈ p.1, TyD m t) (fun p => stl [(0, .box 115 c.z), (3, .usl 59 6 (p.1.map Ty.o)), (10, .dead), (90, .dead), (91, .sref 3 [] 0 m), (92, .v (.int .i64 (m : Int))), (93, .v (.int .i64 (p.2 : Int)))]) (fun p => m - p.2) (l, 0) ⟨hlm, Nat.zero_le _, lD⟩ ?_ ?_
      · simp only [hlm, EV, Nat.reduceEqDiff, Nat.reduceBEq, Nat.reduceLT, Nat.reduceLeDiff, Nat.reduceAdd, Nat.reduceSub, reduceIte]
        rfl
      · rintro ⟨l, i⟩ ⟨hlm, him, lD⟩
        simp only at hlm him lD
        simp only [EV, Nat.reduceEqDiff, Nat.reduceBEq, Nat.reduceLT, Nat.reduceLeDiff, Nat.reduceAdd, Nat.reduceSub, reduceIte]
        refine cK_cut (fun h => ?_) (fun h => ?_)
        · have hi : i < m := by have : (i : Int) < (m : Int) := by simpa using h
                                omega
          have hil : i < l.length := by omega
          have hi2 : (i : Int) < (m : Int) := by omega
          have hD := lD _ (List.getElem_mem hil)
          clear h
          refine awp_join (fun l : List Ty => l.length = m ∧ ∀ t ∈ l, TyD m t) (fun l => stl [(0, .box 115 c.z), (3, .usl 59 6 (l.map Ty.o)), (10, .dead), (90, .dead), (91, .sref 3 [] 0 m), (92, .v (.int .i64 (m : Int))), (93, .v (.int .i64 (i : Int)))]) ?_ ?_
          · simp only [hlm, hi, hi2, hil, nth_map hil, Ty.o, EV, Nat.reduceEqDiff, Nat.reduceBEq, Nat.reduceLT, Nat.reduceLeDiff, Nat.reduceAdd, Nat.reduceSub, reduceIte]
            have same : ∃ a : List Ty, (a.length = m ∧ ∀ t ∈ a, TyD m t) ∧ List.map Ty.o l = List.map Ty.o a := ⟨l, ⟨hlm, lD⟩, rfl⟩
            rcases e6 : (l[i].kind == 6) with _ | _
            · simp only [EV, Nat.reduceEqDiff, Nat.reduceBEq, Nat.reduceLT, Nat.reduceLeDiff, Nat.reduceAdd, Nat.reduceSub, reduceIte]
              exact ⟨l, ⟨hlm, lD⟩, rfl⟩
            · have hp := hD.ptr (by simpa using e6)
              have hb : l[i].base.toNat < l.length := by omega
              have hb1 : l[i].base.toNat < m := by omega
              have h4 : i < (l.map Ty.o).length := by simp; exact hil
              simp only [e6, hlm, hi, hi2, hil, hb, hb1, hp.1, hp.2, nth_map hb, Ty.o, EV, Nat.reduceEqDiff, Nat.reduceBEq, Nat.reduceLT, Nat.reduceLeDiff, Nat.reduceAdd, Nat.reduceSub, reduceIte]
              rcases e7 : (l[l[i].base.toNat].kind == 6) with _ | _
              · simp only [EV, Nat.reduceEqDiff, Nat.reduceBEq, Nat.reduceLT, Nat.reduceLeDiff, Nat.reduceAdd, Nat.reduceSub, reduceIte]
                exact ⟨l, ⟨hlm, lD⟩, rfl⟩
              · simp only [hlm, hi, hi2, hil, nth_map hil, nth_set h4, List.getElem?_set_self h4, h4, modify_set, Ty.o, EV, Nat.reduceEqDiff, Nat.reduceBEq, Nat.reduceLT, Nat.reduceLeDiff, Nat.reduceAdd, Nat.reduceSub, reduceIte]
                refine ⟨l.set i ⟨5, l[i].long, -1, l[i].fields, l[i].owner, l[i].name⟩, ⟨by rw [List.length_set]; exact hlm, ?_⟩, ?_⟩
                · intro t ht
                  rcases List.mem_or_eq_of_mem_set ht with h | h
                  · exact lD t h
                  · rw [h]
                    exact ⟨hD.few, hD.names, hD.owner, hD.name, fun h => absurd h (show ¬ (5 : Int) = 6 by decide)⟩
                · rw [List.map_set]
                  rfl
          · rintro l ⟨hlm, lD⟩
            simp only [EV, Nat.reduceEqDiff, Nat.reduceBEq, Nat.reduceLT, Nat.reduceLeDiff, Nat.reduceAdd, Nat.reduceSub, reduceIte]
            rw [w64 _ (by omega)]
            exact ⟨(l, i + 1), ⟨hlm, hi, lD⟩, by simp only; omega, rfl⟩
        · simp only [EV, Nat.reduceEqDiff, Nat.reduceBEq, Nat.reduceLT, Nat.reduceLeDiff, Nat.reduceAdd, Nat.reduceSub, reduceIte]
          simp only [EV, Nat.reduceEqDiff, Nat.reduceBEq, Nat.reduceLT, Nat.reduceLeDiff, Nat.reduceAdd, Nat.reduceSub, reduceIte, evRE, retVC, cellV', evR, nfz, nfzs, nfzss, List.contains_nil, List.contains_cons, Bool.or_false, or_true]
          exact ⟨⟨c, rfl, hc.up (by omega), l, rfl, by omega, by omega, by rw [hlm]; exact lD⟩, Or.inr (Ty.nfz l)⟩

end Go.AM
namespace Go.AM
set_option linter.unusedVariables false
set_option linter.unusedSimpArgs false
theorem set_ty (l : List Ty) {k : Nat} (h : k < l.length) (t : Ty) (ht : t.sm) (hs : ∀ s ∈ l, s.sm) (hl : l.length ≤ 9) : ∃ a : List Ty, (a.length ≤ 9 ∧ ∀ s ∈ a, s.sm) ∧ (l.map Ty.o).set k t.o = a.map Ty.o :=
  ⟨l.set k t, ⟨by rw [List.length_set]; exact hl, fun s hm => (List.mem_or_eq_of_mem_set hm).elim (hs s) (fun e => e ▸ ht)⟩, by rw [List.map_set]⟩

theorem modify_get {l : List (List AV)} {i : Nat} {a : List AV} {f : List AV → List AV} (h : l[i]? = some a) : l.modify i f = l.set i (f a) := by
  apply List.ext_getElem?
  intro j
  rw [List.getElem?_modify]
  by_cases hj : i = j
  · subst hj
    have hi : i < l.length := by
      rcases Nat.lt_or_ge i l.length with h1 | h1
      · exact h1
      · rw [List.getElem?_eq_none h1] at h; cases h
    have hl : l[i] = a := by rw [List.getElem?_eq_getElem hi] at h; exact Option.some.inj h
    simp [hi, hl]
  · simp [hj, List.getElem?_set_ne hj]

/-- (*loop.example/g00837/spec.l1Cur).anyTypes -/
def m93 : MC :=
  (.seq
   (.reg [⟨(some 2), none, .a (.asg (.nils 59 6))⟩])
   (.seq
    (.reg [⟨(some 5), none, .q (.mov (.t 0))⟩,
      ⟨(some 6), none, .a (.call (.fn 140) false [.io (.t 5)])⟩,
      ⟨(some 3), none, .a (.asg (.t 6))⟩])
    (.seq
     (.reg [⟨(some 7), none, .q (.mov (.t 0))⟩,
       ⟨(some 8), none, .q (.mov (.t 3))⟩,
       ⟨(some 9), none, .q (.len false (.t 8))⟩,
       ⟨(some 10), none, .a (.call (.fn 106) false [.io (.t 7), .lend (.t 9)])⟩,
       ⟨(some 4), none, .a (.asg (.t 10))⟩])
     (.join [0, 3, 6, 63, 65, 66]
      (.seq
       (.reg [⟨(some 11), none, .q (.mov (.t 0))⟩,
         ⟨(some 12), none, .a (.call (.fn 106) false [.io (.t 11), .lend (.c (.int .i64 30))])⟩])
       (.block 0
        (.seq
         (.reg [⟨(some 14), none, .q (.bin false .eql (.t 12) (.c (.int .i64 0)))⟩,
           ⟨(some 13), none, .a (.asg (.t 14))⟩])
         (.cond (.t 13)
          (.reg [⟨(some 15), none, .q (.mov (.t 3))⟩,
            ⟨(some 16), none, .q (.mov (.t 4))⟩,
            ⟨(some 17), none, .q (.iad 6 (.t 15) (.t 16))⟩,
            ⟨(some 18), none, .q (.fad 1 (.t 17))⟩,
            ⟨(some 19), none, .q (.load false 1 (.t 18))⟩,
            ⟨(some 20), none, .q (.bin false .add (.t 19) (.c (.int .i64 1)))⟩,
            ⟨(some 21), none, .q (.iad 6 (.t 15) (.t 16))⟩,
            ⟨(some 22), none, .q (.fad 1 (.t 21))⟩,
            ⟨none, none, .a (.store 1 (.t 22) (.t 20))⟩])
          (.seq
           (.reg [⟨(some 24), none, .q (.bin false .eql (.t 12) (.c (.int .i64 1)))⟩,
             ⟨(some 23), none, .a (.asg (.t 24))⟩])
           (.cond (.t 23)
            (.reg [⟨(some 25), none, .q (.mov (.t 3))⟩,
              ⟨(some 26), none, .q (.mov (.t 4))⟩,
              ⟨(some 27), none, .q (.mov (.t 0))⟩,
              ⟨(some 28), none, .a (.bsl 9 1 [.c (.string ({ data := #[] })), .c (.string ({ data := #[73, 78, 84] })), .c (.string ({ data := #[84, 51] }))])⟩,
              ⟨(some 29), none, .a (.call (.fn 97) false [.io (.t 27), .give (.t 28)])⟩,
              ⟨(some 30), none, .q (.iad 6 (.t 25) (.t 26))⟩,
              ⟨(some 31), none, .q (.fad 5 (.t 30))⟩,
              ⟨none, none, .a (.store 1 (.t 31) (.t 29))⟩])
            (.seq
             (.reg [⟨(some 33), none, .q (.bin false .eql (.t 12) (.c (.int .i64 2)))⟩,
               ⟨(some 32), none, .a (.asg (.t 33))⟩])
             (.cond (.t 32)
              (.seq
               (.reg [⟨(some 34), none, .q (.mov (.t 3))⟩,
                 ⟨(some 35), none, .q (.mov (.t 4))⟩,
                 ⟨(some 36), none, .q (.iad 6 (.t 34) (.t 35))⟩,
                 ⟨(some 37), none, .q (.fad 3 (.t 36))⟩,
                 ⟨(some 38), none, .q (.load false 1 (.t 37))⟩,
                 ⟨(some 39), none, .q (.len false (.t 38))⟩,
                 ⟨(some 40), none, .q (.bin false .gtr (.t 39) (.c (.int .i64 0)))⟩])
               (.cond (.t 40)
                (.mixt [4] [0, 3, 6, 63, 65, 66] [] [] [1]
                  [⟨(some 42), none, .q (.mov (.t 4))⟩]
                  (.step 0 ⟨(some 41), none, .q (.mov (.t 3))⟩
                  (.step 2 ⟨(some 43), none, .q (.iad 6 (.t 41) (.t 42))⟩
                   (.step 3 ⟨(some 44), none, .q (.fad 3 (.t 43))⟩
                    (.step 5 ⟨(some 46), none, .q (.mov (.t 0))⟩
                     (.step 6 ⟨(some 47), none, .q (.mov (.t 3))⟩
                      (.step 7 ⟨(some 48), none, .q (.len false (.t 47))⟩
                       (.step 8 ⟨(some 49), none, .q (.bin false .add (.t 48) (.c (.int .i64 1)))⟩
                        (.alt (.step 4 ⟨(some 45), none, .q (.load false 1 (.t 44))⟩
                         (.step 9 ⟨(some 50), none, .a (.call (.fn 106) false [.io (.t 46), .lend (.t 49)])⟩
                          (.step 10 ⟨(some 51), none, .q (.iad 3 (.t 45) (.c (.int .i64 0)))⟩
                           (.step 11 ⟨(some 52), none, .q (.fad 2 (.t 51))⟩
                            (.step 12 ⟨none, none, .a (.store 1 (.t 52) (.t 50))⟩
                             .nil)))))
                         (.step 9 ⟨(some 50), none, .a (.call (.fn 106) false [.io (.t 46), .lend (.t 49)])⟩
                         (.step 4 ⟨(some 45), none, .q (.load false 1 (.t 44))⟩
                          (.step 10 ⟨(some 51), none, .q (.iad 3 (.t 45) (.c (.int .i64 0)))⟩
                           (.step 11 ⟨(some 52), none, .q (.fad 2 (.t 51))⟩
                            (.step 12 ⟨none, none, .a (.store 1 (.t 52) (.t 50))⟩
                             .nil))))))))))))))
                .skip))
              (.seq
               (.reg [⟨(some 54), none, .q (.bin false .eql (.t 12) (.c (.int .i64 3)))⟩,
                 ⟨(some 53), none, .a (.asg (.t 54))⟩])
               (.cond (.t 53)
                (.reg [⟨(some 55), none, .q (.mov (.t 3))⟩,
                  ⟨(some 56), none, .q (.mov (.t 4))⟩,
                  ⟨(some 57), none, .q (.mov (.t 0))⟩,
                  ⟨(some 58), none, .a (.call (.fn 106) false [.io (.t 57), .lend (.c (.int .i64 8))])⟩,
                  ⟨(some 59), none, .q (.iad 6 (.t 55) (.t 56))⟩,
                  ⟨(some 60), none, .q (.fad 0 (.t 59))⟩,
                  ⟨none, none, .a (.store 1 (.t 60) (.t 58))⟩])
                (.seq
                 (.reg [⟨(some 62), none, .q (.bin false .eql (.t 12) (.c (.int .i64 4)))⟩,
                   ⟨(some 61), none, .a (.asg (.t 62))⟩])
                 (.cond (.t 61)
                  (.reg [⟨(some 63), none, .q (.mov (.t 3))⟩,
                    ⟨(some 64), none, .q (.mov (.t 0))⟩,
                    ⟨(some 65), none, .a (.call (.fn 106) false [.io (.t 64), .lend (.c (.int .i64 4))])⟩,
                    ⟨(some 66), none, .q (.slc false 6 (.t 63) none (some (.t 65)))⟩,
                    ⟨(some 3), none, .a (.asg (.t 66))⟩])
                  .skip))))))))))))
      (.seq
       (.reg [⟨(some 67), none, .q (.mov (.t 3))⟩,
         ⟨(some 2), none, .a (.asg (.t 67))⟩])
       .ret)))))

set_option maxHeartbeats 4000000 in
set_option maxRecDepth 100000 in
theorem p93 (c : Cur) (n : Int) (hc : c.ok n) (hn : n ≤ 115292150460) : Draws 93 [] c n 620 fun r => ∃ l : List Ty, r = .usl 59 6 (l.map Ty.o) ∧ l.length ≤ 9 ∧ ∀ t ∈ l, t.sm := by
  refine doesE_intro (mc := m93) (N := 68) (rs := [2]) (fx := [0]) 1 rfl (by decide +kernel) ?_
  simp only [m93, EV, Nat.reduceEqDiff, Nat.reduceBEq, Nat.reduceLT, Nat.reduceLeDiff, Nat.reduceAdd, Nat.reduceSub, reduceIte]
  refine (p140 c n hc hn).call (fun _ => rfl) ?_
  rintro _ c1 hc1 ⟨l, rfl, l3, l9, lD⟩
  have hs : ∀ t ∈ l, t.sm := fun t ht => (lD t ht).sm
  simp only [EV, Nat.reduceEqDiff, Nat.reduceBEq, Nat.reduceLT, Nat.reduceLeDiff, Nat.reduceAdd, Nat.reduceSub, reduceIte]
  refine (p106 c1 _ l.length hc1 (by omega) (by omega)).call (fun _ => rfl) ?_
  rintro _ c2 hc2 ⟨k, rfl, k0, k1, _⟩
  have kl := k1 (by omega)
  have kn : k.toNat < l.length := by omega
  simp only [EV, Nat.reduceEqDiff, Nat.reduceBEq, Nat.reduceLT, Nat.reduceLeDiff, Nat.reduceAdd, Nat.reduceSub, reduceIte]
  refine awp_join (fun p : List Ty × Cur × AV => (p.1.length ≤ 9 ∧ ∀ t ∈ p.1, t.sm) ∧ p.2.1.ok (n + 610)) (fun p => stl [(0, .box 115 p.2.1.z), (3, .usl 59 6 (p.1.map Ty.o)), (6, .dead), (63, .dead), (65, p.2.2), (66, .dead)]) ?_ ?_
  · simp only [EV, Nat.reduceEqDiff, Nat.reduceBEq, Nat.reduceLT, Nat.reduceLeDiff, Nat.reduceAdd, Nat.reduceSub, reduceIte]
    refine (p106 c2 _ 30 hc2 (by omega) (by omega)).call (fun _ => rfl) ?_
    rintro _ c3 hc3 ⟨q, rfl, q0, q1, _⟩
    have hk := hs _ (List.getElem_mem kn)
    have h4 : k.toNat < (l.map Ty.o).length := by simp; exact kn
    simp only [EV, Nat.reduceEqDiff, Nat.reduceBEq, Nat.reduceLT, Nat.reduceLeDiff, Nat.reduceAdd, Nat.reduceSub, reduceIte]
    rcases e0 : (q == 0) with _ | _
    rotate_left
    · simp only [e0, k0, kl, kn, nth_map kn, nth_set h4, List.getElem?_set_self h4, h4, modify_set, Ty.o, EV, Nat.reduceEqDiff, Nat.reduceBEq, Nat.reduceLT, Nat.reduceLeDiff, Nat.reduceAdd, Nat.reduceSub, reduceIte]
      obtain ⟨a, ha, he⟩ := set_ty l kn ⟨l[k.toNat].kind, IntKind.i64.wrap (l[k.toNat].long + 1), l[k.toNat].base, l[k.toNat].fields, l[k.toNat].owner, l[k.toNat].name⟩ (by unfold Ty.sm at hk ⊢; exact hk) hs l9
      exact ⟨(a, c3, .dead), ⟨ha, hc3.up (by omega)⟩, by rw [← he]; rfl⟩
    rcases e1 : (q == 1) with _ | _
    rotate_left
    · simp only [e0, e1, EV, Nat.reduceEqDiff, Nat.reduceBEq, Nat.reduceLT, Nat.reduceLeDiff, Nat.reduceAdd, Nat.reduceSub, reduceIte]
      refine (p97 c3 _ [⟨#[]⟩, ⟨#[73, 78, 84]⟩, ⟨#[84, 51]⟩] hc3 (by omega) (by decide) (by decide)).call (fun _ => rfl) ?_
      rintro _ c4 hc4 ⟨s, hs', rfl⟩
      simp only [e0, k0, kl, kn, nth_map kn, nth_set h4, List.getElem?_set_self h4, h4, modify_set, Ty.o, EV, Nat.reduceEqDiff, Nat.reduceBEq, Nat.reduceLT, Nat.reduceLeDiff, Nat.reduceAdd, Nat.reduceSub, reduceIte]
      have hs1 : (s.size : Int) ≤ 1048576 := by
        simp only [List.mem_cons, List.not_mem_nil, or_false] at hs'
        rcases hs' with rfl | rfl | rfl <;> decide
      obtain ⟨a, ha, he⟩ := set_ty l kn ⟨l[k.toNat].kind, l[k.toNat].long, l[k.toNat].base, l[k.toNat].fields, l[k.toNat].owner, s⟩ (by unfold Ty.sm at hk ⊢; exact ⟨trivial, trivial, trivial, hk.2.2.2.1, hk.2.2.2.2.1, hs1⟩) hs l9
      exact ⟨(a, c4, .dead), ⟨ha, hc4.up (by omega)⟩, by rw [← he]; rfl⟩
    rcases e2 : (q == 2) with _ | _
    rotate_left
    · simp only [e0, e1, e2, k0, kl, kn, nth_map kn, Ty.o, EV, Nat.reduceEqDiff, Nat.reduceBEq, Nat.reduceLT, Nat.reduceLeDiff, Nat.reduceAdd, Nat.reduceSub, reduceIte]
      rcases f0 : decide (0 < (l[k.toNat].fields.length : Int)) with _ | _
      · simp only [EV, Nat.reduceEqDiff, Nat.reduceBEq, Nat.reduceLT, Nat.reduceLeDiff, Nat.reduceAdd, Nat.reduceSub, reduceIte]
        exact ⟨(l, c3, .dead), ⟨⟨l9, hs⟩, hc3.up (by omega)⟩, rfl⟩
      · have f1 : 0 < l[k.toNat].fields.length := by have : 0 < (l[k.toNat].fields.length : Int) := by simpa using f0
                                                     omega
        have wl := w64 ((l.length : Int) + 1) (by omega)
        have hg : (l.map Ty.o)[k.toNat]? = some [.v (.int .i64 l[k.toNat].kind), .v (.int .i64 l[k.toNat].long), .v (.int .i64 l[k.toNat].base), .usl 57 3 (l[k.toNat].fields.map Fd.o), .v (.string l[k.toNat].owner), .v (.string l[k.toNat].name)] := by simp [kn, Ty.o]
        have f2 : (0 : Int) < (l[k.toNat].fields.length : Int) := by omega
        have f4 : 0 < (l[k.toNat].fields.map Fd.o).length := by simp; exact f1
        simp only [f0, k0, kl, kn, nth_map kn, wl, Ty.o, EV, Nat.reduceEqDiff, Nat.reduceBEq, Nat.reduceLT, Nat.reduceLeDiff, Nat.reduceAdd, Nat.reduceSub, reduceIte]
        refine ⟨?_, ?_⟩
        · refine (p106 c3 _ ((l.length : Int) + 1) hc3 (by omega) (by omega)).call (fun _ => rfl) ?_
          rintro _ c4 hc4 ⟨u, rfl, _⟩
          simp only [hg, modify_get hg, f1, f2, f4, k0, kl, kn, nth_map kn, nth_map f1, nth_set h4, List.getElem?_set_self h4, h4, modify_set, Ty.o, Fd.o, EV, Nat.reduceEqDiff, Nat.reduceBEq, Nat.reduceLT, Nat.reduceLeDiff, Nat.reduceAdd, Nat.reduceSub, reduceIte]
          refine ⟨by omega, ?_⟩
          obtain ⟨a, ha, he⟩ := set_ty l kn ⟨l[k.toNat].kind, l[k.toNat].long, l[k.toNat].base, l[k.toNat].fields.set 0 ⟨l[k.toNat].fields[0].name, l[k.toNat].fields[0].mark, u⟩, l[k.toNat].owner, l[k.toNat].name⟩ (by
            unfold Ty.sm at hk ⊢
            refine ⟨trivial, trivial, trivial, ⟨by simpa using hk.2.2.2.1.1, fun f hf => ?_⟩, hk.2.2.2.2.1, hk.2.2.2.2.2⟩
            rcases List.mem_or_eq_of_mem_set hf with h | h
            · exact hk.2.2.2.1.2 f h
            · rw [h]
              exact ⟨(hk.2.2.2.1.2 _ (List.getElem_mem f1)).1, trivial, trivial⟩) hs l9
          refine ⟨(a, c4, .dead), ⟨ha, hc4.up (by omega)⟩, ?_⟩
          simp only [← he, Ty.o, List.map_set]
          rfl
        · refine (p106 c3 _ ((l.length : Int) + 1) hc3 (by omega) (by omega)).call (fun _ => rfl) ?_
          rintro _ c4 hc4 ⟨u, rfl, _⟩
          simp only [hg, modify_get hg, f1, f2, f4, k0, kl, kn, nth_map kn, nth_map f1, nth_set h4, List.getElem?_set_self h4, h4, modify_set, Ty.o, Fd.o, EV, Nat.reduceEqDiff, Nat.reduceBEq, Nat.reduceLT, Nat.reduceLeDiff, Nat.reduceAdd, Nat.reduceSub, reduceIte]
          refine ⟨by omega, ?_⟩
          obtain ⟨a, ha, he⟩ := set_ty l kn ⟨l[k.toNat].kind, l[k.toNat].long, l[k.toNat].base, l[k.toNat].fields.set 0 ⟨l[k.toNat].fields[0].name, l[k.toNat].fields[0].mark, u⟩, l[k.toNat].owner, l[k.toNat].name⟩ (by
            unfold Ty.sm at hk ⊢
            refine ⟨trivial, trivial, trivial, ⟨by simpa using hk.2.2.2.1.1, fun f hf => ?_⟩, hk.2.2.2.2.1, hk.2.2.2.2.2⟩
            rcases List.mem_or_eq_of_mem_set hf with h | h
            · exact hk.2.2.2.1.2 f h
            · rw [h]
              exact ⟨(hk.2.2.2.1.2 _ (List.getElem_mem f1)).1, trivial, trivial⟩) hs l9
          refine ⟨(a, c4, .dead), ⟨ha, hc4.up (by omega)⟩, ?_⟩
          simp only [← he, Ty.o, List.map_set]
          rfl
    rcases e3 : (q == 3) with _ | _
    rotate_left
    · simp only [e0, e1, e2, e3, EV, Nat.reduceEqDiff, Nat.reduceBEq, Nat.reduceLT, Nat.reduceLeDiff, Nat.reduceAdd, Nat.reduceSub, reduceIte]
      refine (p106 c3 _ 8 hc3 (by omega) (by omega)).call (fun _ => rfl) ?_
      rintro _ c4 hc4 ⟨u, rfl, _⟩
      simp only [e0, k0, kl, kn, nth_map kn, nth_set h4, List.getElem?_set_self h4, h4, modify_set, Ty.o, EV, Nat.reduceEqDiff, Nat.reduceBEq, Nat.reduceLT, Nat.reduceLeDiff, Nat.reduceAdd, Nat.reduceSub, reduceIte]
      obtain ⟨a, ha, he⟩ := set_ty l kn ⟨u, l[k.toNat].long, l[k.toNat].base, l[k.toNat].fields, l[k.toNat].owner, l[k.toNat].name⟩ (by unfold Ty.sm at hk ⊢; exact hk) hs l9
      exact ⟨(a, c4, .dead), ⟨ha, hc4.up (by omega)⟩, by rw [← he]; rfl⟩
    rcases e4' : (q == 4) with _ | _
    rotate_left
    · simp only [e0, e1, e2, e3, e4', EV, Nat.reduceEqDiff, Nat.reduceBEq, Nat.reduceLT, Nat.reduceLeDiff, Nat.reduceAdd, Nat.reduceSub, reduceIte]
      refine (p106 c3 _ 4 hc3 (by omega) (by omega)).call (fun _ => rfl) ?_
      rintro _ c4 hc4 ⟨u, rfl, u0, u1, _⟩
      have u4 := u1 (by omega)
      simp only [EV, Nat.reduceEqDiff, Nat.reduceBEq, Nat.reduceLT, Nat.reduceLeDiff, Nat.reduceAdd, Nat.reduceSub, reduceIte]
      refine ⟨by omega, u0, by omega, (l.take u.toNat, c4, .v (.int .i64 u)), ⟨⟨by simp; omega, fun t ht => hs t (List.mem_of_mem_take ht)⟩, hc4.up (by omega)⟩, ?_⟩
      rw [← List.map_take]
    · simp only [e0, e1, e2, e3, e4', EV, Nat.reduceEqDiff, Nat.reduceBEq, Nat.reduceLT, Nat.reduceLeDiff, Nat.reduceAdd, Nat.reduceSub, reduceIte]
      exact ⟨(l, c3, .dead), ⟨⟨l9, hs⟩, hc3.up (by omega)⟩, rfl⟩
  · rintro ⟨l, c, x65⟩ ⟨⟨l9, hs⟩, hc⟩
    simp only at l9 hs hc
    simp only [EV, Nat.reduceEqDiff, Nat.reduceBEq, Nat.reduceLT, Nat.reduceLeDiff, Nat.reduceAdd, Nat.reduceSub, reduceIte]
    simp only [Ty.nfz, EV, Nat.reduceEqDiff, Nat.reduceBEq, Nat.reduceLT, Nat.reduceLeDiff, Nat.reduceAdd, Nat.reduceSub, reduceIte, evRE, retVC, cellV', evR, nfz, nfzs, nfzss, List.contains_nil, List.contains_cons, Bool.or_false, or_true]
    exact ⟨c, rfl, hc.up (by omega), l, rfl, l9, hs⟩

end Go.AM
namespace Go.AM
set_option linter.unusedVariables false
set_option linter.unusedSimpArgs false
/-- (*loop.example/g00837/spec.l1Cur).typed -/
def m95 : MC :=
  (.seq
   (.reg [⟨(some 2), none, .a (.asg (.nils 59 6))⟩,
     ⟨(some 3), none, .a (.asg (.c (.int .i64 0)))⟩])
   (.seq
    (.reg [⟨(some 5), none, .q (.mov (.t 0))⟩,
      ⟨(some 6), none, .a (.call (.fn 93) false [.io (.t 5)])⟩,
      ⟨(some 4), none, .a (.asg (.t 6))⟩])
    (.seq
     (.reg [⟨(some 7), none, .q (.mov (.t 4))⟩,
       ⟨(some 8), none, .q (.mov (.t 0))⟩,
       ⟨(some 9), none, .q (.mov (.t 4))⟩,
       ⟨(some 10), none, .q (.len false (.t 9))⟩,
       ⟨(some 11), none, .q (.bin false .add (.t 10) (.c (.int .i64 1)))⟩,
       ⟨(some 12), none, .a (.call (.fn 106) false [.io (.t 8), .lend (.t 11)])⟩,
       ⟨(some 13), none, .q (.mov (.t 0))⟩,
       ⟨(some 14), none, .a (.call (.fn 106) false [.io (.t 13), .lend (.c (.int .i64 20))])⟩,
       ⟨(some 15), none, .q (.bin false .quo (.t 14) (.c (.int .i64 19)))⟩,
       ⟨(some 16), none, .q (.bin false .sub (.t 12) (.t 15))⟩,
       ⟨(some 2), none, .a (.asg (.t 7))⟩,
       ⟨(some 3), none, .a (.asg (.t 16))⟩])
     .ret)))

set_option maxRecDepth 100000 in
theorem p95 (c : Cur) (n : Int) (hc : c.ok n) (hn : n ≤ 115292150460) : Draws 95 [] c n 630 fun r => ∃ (l : List Ty) (x : Int), r = .tup [.usl 59 6 (l.map Ty.o), .v (.int .i64 x)] ∧ l.length ≤ 9 ∧ (∀ t ∈ l, t.sm) ∧ -10 ≤ x ∧ x ≤ 10 := by
  refine doesE_intro (mc := m95) (N := 17) (rs := [2, 3]) (fx := [0]) 1 rfl (by decide +kernel) ?_
  simp only [m95, EV, Nat.reduceEqDiff, Nat.reduceBEq, Nat.reduceLT, Nat.reduceLeDiff, Nat.reduceAdd, Nat.reduceSub, reduceIte]
  refine (p93 c n hc hn).call (fun _ => rfl) ?_
  rintro _ c1 hc1 ⟨l, rfl, l9, hs⟩
  have wl := w64 ((l.length : Int) + 1) (by omega)
  simp only [wl, EV, Nat.reduceEqDiff, Nat.reduceBEq, Nat.reduceLT, Nat.reduceLeDiff, Nat.reduceAdd, Nat.reduceSub, reduceIte]
  refine (p106 c1 _ ((l.length : Int) + 1) hc1 (by omega) (by omega)).call (fun _ => rfl) ?_
  rintro _ c2 hc2 ⟨u, rfl, u0, u1, u2⟩
  simp only [wl, EV, Nat.reduceEqDiff, Nat.reduceBEq, Nat.reduceLT, Nat.reduceLeDiff, Nat.reduceAdd, Nat.reduceSub, reduceIte]
  refine (p106 c2 _ 20 hc2 (by omega) (by omega)).call (fun _ => rfl) ?_
  rintro _ c3 hc3 ⟨v, rfl, v0, v1, _⟩
  have v2 := v1 (by omega)
  have hu : u ≤ 9 := by
    by_cases h : 1 < (l.length : Int) + 1
    · have := u1 h; omega
    · have := u2 (by omega); omega
  have hv : v.tdiv 19 = v / 19 := Int.tdiv_eq_ediv_of_nonneg v0
  have w1 := w64 (v / 19) (by omega)
  have w2 := w64 (u - v / 19) (by omega)
  simp only [hv, w1, w2, EV, Nat.reduceEqDiff, Nat.reduceBEq, Nat.reduceLT, Nat.reduceLeDiff, Nat.reduceAdd, Nat.reduceSub, reduceIte]
  refine ⟨by omega, ?_⟩
  simp only [Ty.nfz, EV, Nat.reduceEqDiff, Nat.reduceBEq, Nat.reduceLT, Nat.reduceLeDiff, Nat.reduceAdd, Nat.reduceSub, reduceIte, evRE, retVC, cellV', evR, nfz, nfzs, nfzss, List.contains_nil, List.contains_cons, Bool.or_false, or_true]
  exact ⟨c3, rfl, hc3.up (by omega), l, u - v / 19, rfl, l9, hs, by omega, by omega⟩

/-- (*loop.example/g00837/spec.l1Cur).record -/
def m94 : MC :=
  (.seq
   (.reg [⟨(some 4), none, .a (.asg (.c (.int .i64 0)))⟩])
   (.seq
    (.reg [⟨(some 5), none, .a (.asg (.nils 3 1))⟩])
    (.seq
     (.seq
      (.reg [⟨(some 8), none, .q (.mov (.t 1))⟩,
        ⟨(some 9), none, .q (.len false (.t 8))⟩,
        ⟨(some 10), none, .q (.mov (.c (.int .i64 0)))⟩])
      (.block 0
       (.loop [0, 1, 5, 8, 9, 10, 21]
        (.seq
         (.reg [⟨(some 11), none, .q (.bin false .lss (.t 10) (.t 9))⟩])
         (.seq
          (.cond (.t 11)
           .skip
           (.exit 0))
          (.join [0, 1, 5, 8, 9, 10, 21]
           (.block 1
            (.seq
             (.reg [⟨(some 12), none, .q (.mov (.t 10))⟩,
               ⟨(some 13), none, .q (.iad 6 (.t 8) (.t 10))⟩,
               ⟨(some 14), none, .q (.load true 6 (.t 13))⟩,
               ⟨(some 7), none, .a (.alloc 59 [.v (.int .i64 0), .v (.int .i64 0), .v (.int .i64 0), .s 57 3, .v (.string ({ data := #[] })), .v (.string ({ data := #[] }))])⟩,
               ⟨(some 6), none, .a (.asg (.t 12))⟩,
               ⟨none, none, .a (.store 6 (.t 7) (.t 14))⟩])
             (.seq
              (.reg [⟨(some 15), none, .q (.fad 0 (.t 7))⟩,
                ⟨(some 16), none, .q (.load false 1 (.t 15))⟩,
                ⟨(some 17), none, .q (.bin false .eql (.t 16) (.c (.int .i64 5)))⟩])
              (.cond (.t 17)
               (.reg [⟨(some 18), none, .q (.mov (.t 5))⟩,
                 ⟨(some 19), none, .q (.mov (.t 6))⟩,
                 ⟨(some 20), none, .a (.bsl 3 1 [.t 19])⟩,
                 ⟨(some 21), none, .a (.app true 3 1 8 (.t 18) (.t 20))⟩,
                 ⟨(some 5), none, .a (.asg (.t 21))⟩])
               .skip))))
           (.reg [⟨(some 22), none, .q (.bin false .add (.t 10) (.c (.int .i64 1)))⟩,
             ⟨(some 10), none, .q (.mov (.t 22))⟩])))))))
     (.seq
      (.seq
       (.reg [⟨(some 23), none, .q (.mov (.t 5))⟩,
         ⟨(some 24), none, .q (.len false (.t 23))⟩,
         ⟨(some 25), none, .q (.bin false .eql (.t 24) (.c (.int .i64 0)))⟩,
         ⟨(some 26), none, .q (.mov (.t 25))⟩,
         ⟨(some 27), (some (26, false)), .q (.mov (.t 0))⟩,
         ⟨(some 28), (some (26, false)), .a (.call (.fn 96) false [.io (.t 27), .lend (.c (.int .i64 10))])⟩,
         ⟨(some 29), none, .q (.pick (.t 26) (.c (.bool true)) (.t 28))⟩])
       (.cond (.t 29)
        (.seq
         (.reg [⟨(some 30), none, .q (.mov (.t 0))⟩,
           ⟨(some 31), none, .q (.mov (.t 1))⟩,
           ⟨(some 32), none, .q (.len false (.t 31))⟩,
           ⟨(some 33), none, .a (.call (.fn 107) false [.lend (.c (.int .i64 1)), .lend (.t 32)])⟩,
           ⟨(some 34), none, .a (.call (.fn 106) false [.io (.t 30), .lend (.t 33)])⟩,
           ⟨(some 4), none, .a (.asg (.t 34))⟩])
         .ret)
        .skip))
      (.seq
       (.reg [⟨(some 35), none, .q (.mov (.t 5))⟩,
         ⟨(some 36), none, .q (.mov (.t 0))⟩,
         ⟨(some 37), none, .q (.mov (.t 5))⟩,
         ⟨(some 38), none, .q (.len false (.t 37))⟩,
         ⟨(some 39), none, .a (.call (.fn 106) false [.io (.t 36), .lend (.t 38)])⟩,
         ⟨(some 40), none, .q (.iad 1 (.t 35) (.t 39))⟩,
         ⟨(some 41), none, .q (.load false 1 (.t 40))⟩,
         ⟨(some 4), none, .a (.asg (.t 41))⟩])
       .ret)))))

set_option maxHeartbeats 1000000 in
set_option maxRecDepth 100000 in
theorem p94 (c : Cur) (n : Int) (l : List Ty) (hc : c.ok n) (hn : n ≤ 115292150460) (hl : l.length ≤ 9) : Draws 94 [.fsl 6 (l.map Ty.z)] c n 10 fun r => ∃ x : Int, r = .v (.int .i64 x) ∧ 0 ≤ x ∧ x ≤ 10 := by
  refine doesE_intro (mc := m94) (N := 42) (rs := [4]) (fx := [0]) 2 rfl (by decide +kernel) ?_
  simp only [m94, EV, Nat.reduceEqDiff, Nat.reduceBEq, Nat.reduceLT, Nat.reduceLeDiff, Nat.reduceAdd, Nat.reduceSub, reduceIte]
  refine awp_loop (fun p : List Int × Nat => p.2 ≤ l.length ∧ p.1.length ≤ p.2 ∧ ∀ k ∈ p.1, 0 ≤ k ∧ k ≤ 10) (fun p => stl [(0, .box 115 c.z), (1, .fsl 6 (l.map Ty.z)), (5, .usl 3 1 (p.1.map iv)), (8, .fsl 6 (l.map Ty.z)), (9, .v (.int .i64 (l.length : Int))), (10, .v (.int .i64 (p.2 : Int))), (21, .dead)]) (fun p => l.length - p.2) ([], 0) ⟨Nat.zero_le _, Nat.le_refl _, by simp⟩ ?_ ?_
  · simp only [EV, Nat.reduceEqDiff, Nat.reduceBEq, Nat.reduceLT, Nat.reduceLeDiff, Nat.reduceAdd, Nat.reduceSub, reduceIte]
    rfl
  · rintro ⟨ks, i⟩ ⟨g1, g2, g3⟩
    simp only at g1 g2 g3
    simp only [EV, Nat.reduceEqDiff, Nat.reduceBEq, Nat.reduceLT, Nat.reduceLeDiff, Nat.reduceAdd, Nat.reduceSub, reduceIte]
    refine cK_cut (fun h => ?_) (fun h => ?_)
    · have h1 : i < l.length := by simpa using h
      have h2 : (i : Int) < (l.length : Int) := by omega
      clear h
      refine awp_join (fun ks : List Int => ks.length ≤ i + 1 ∧ ∀ k ∈ ks, 0 ≤ k ∧ k ≤ 10) (fun ks => stl [(0, .box 115 c.z), (1, .fsl 6 (l.map Ty.z)), (5, .usl 3 1 (ks.map iv)), (8, .fsl 6 (l.map Ty.z)), (9, .v (.int .i64 (l.length : Int))), (10, .v (.int .i64 (i : Int))), (21, .dead)]) ?_ ?_
      · simp only [nth_map h1, h1, h2, TyE, Ty.z, EV, Nat.reduceEqDiff, Nat.reduceBEq, Nat.reduceLT, Nat.reduceLeDiff, Nat.reduceAdd, Nat.reduceSub, reduceIte]
        rcases e : (l[i].kind == 5) with _ | _
        · simp only [EV, Nat.reduceEqDiff, Nat.reduceBEq, Nat.reduceLT, Nat.reduceLeDiff, Nat.reduceAdd, Nat.reduceSub, reduceIte]
          exact ⟨ks, ⟨by omega, g3⟩, rfl⟩
        · simp only [EV, Nat.reduceEqDiff, Nat.reduceBEq, Nat.reduceLT, Nat.reduceLeDiff, Nat.reduceAdd, Nat.reduceSub, reduceIte]
          refine ⟨by omega, by omega, ks ++ [(i : Int)], ⟨by simp; omega, ?_⟩, by rw [List.map_append]; rfl⟩
          intro k hk
          rcases List.mem_append.1 hk with hk | hk
          · exact g3 k hk
          · rw [List.mem_singleton] at hk; omega
      · rintro ks ⟨g4, g5⟩
        simp only [EV, Nat.reduceEqDiff, Nat.reduceBEq, Nat.reduceLT, Nat.reduceLeDiff, Nat.reduceAdd, Nat.reduceSub, reduceIte]
        rw [w64 _ (by omega)]
        exact ⟨(ks, i + 1), ⟨h1, g4, g5⟩, by simp only; omega, rfl⟩
    · have last : ∀ (c : Cur), c.ok (n + 2) → callK2 Go.Proofs.Try.prog 106 [.box 115 c.z, .v (.int .i64 (max 1 (l.length : Int)))] false (fun out => [out, .dead]) (.box 115 c.z) (fun _ _ => True) → True := fun _ _ _ => trivial
      simp only [EV, Nat.reduceEqDiff, Nat.reduceBEq, Nat.reduceLT, Nat.reduceLeDiff, Nat.reduceAdd, Nat.reduceSub, reduceIte]
      rcases e0 : ((ks.length : Int) == 0) with _ | _
      rotate_left
      · simp only [EV, Nat.reduceEqDiff, Nat.reduceBEq, Nat.reduceLT, Nat.reduceLeDiff, Nat.reduceAdd, Nat.reduceSub, reduceIte]
        refine callK_i (d107 1 (l.length : Int)) ?_
        simp only [EV, Nat.reduceEqDiff, Nat.reduceBEq, Nat.reduceLT, Nat.reduceLeDiff, Nat.reduceAdd, Nat.reduceSub, reduceIte]
        refine (p106 c _ (max 1 (l.length : Int)) hc (by omega) (by omega)).call (fun _ => rfl) ?_
        rintro _ c1 hc1 ⟨u, rfl, u0, u1, u2⟩
        simp only [EV, Nat.reduceEqDiff, Nat.reduceBEq, Nat.reduceLT, Nat.reduceLeDiff, Nat.reduceAdd, Nat.reduceSub, reduceIte]
        simp only [EV, Nat.reduceEqDiff, Nat.reduceBEq, Nat.reduceLT, Nat.reduceLeDiff, Nat.reduceAdd, Nat.reduceSub, reduceIte, evRE, retVC, cellV', evR, nfz, nfzs, nfzss, List.contains_nil, List.contains_cons, Bool.or_false, or_true]
        refine ⟨c1, rfl, hc1.up (by omega), u, rfl, u0, ?_⟩
        by_cases h : 1 < max 1 (l.length : Int)
        · have := u1 h; omega
        · have := u2 (by omega); omega
      · have k0 : 0 < ks.length := by
          have : ¬ (ks.length : Int) = 0 := by simpa using e0
          omega
        simp only [EV, Nat.reduceEqDiff, Nat.reduceBEq, Nat.reduceLT, Nat.reduceLeDiff, Nat.reduceAdd, Nat.reduceSub, reduceIte]
        refine (p96 c _ 10 hc (by omega) (by omega)).call (fun _ => rfl) ?_
        rintro _ c1 hc1 ⟨b, rfl⟩
        simp only [EV, Nat.reduceEqDiff, Nat.reduceBEq, Nat.reduceLT, Nat.reduceLeDiff, Nat.reduceAdd, Nat.reduceSub, reduceIte]
        cases b
        · simp only [EV, Nat.reduceEqDiff, Nat.reduceBEq, Nat.reduceLT, Nat.reduceLeDiff, Nat.reduceAdd, Nat.reduceSub, reduceIte]
          refine (p106 c1 _ ks.length hc1 (by omega) (by omega)).call (fun _ => rfl) ?_
          rintro _ c2 hc2 ⟨u, rfl, u0, u1, u2⟩
          have hu : u < (ks.length : Int) := by
            by_cases h : 1 < (ks.length : Int)
            · exact u1 h
            · have := u2 (by omega); omega
          have hun : u.toNat < ks.length := by omega
          simp only [u0, hu, hun, nth_map hun, iv, EV, Nat.reduceEqDiff, Nat.reduceBEq, Nat.reduceLT, Nat.reduceLeDiff, Nat.reduceAdd, Nat.reduceSub, reduceIte]
          simp only [EV, Nat.reduceEqDiff, Nat.reduceBEq, Nat.reduceLT, Nat.reduceLeDiff, Nat.reduceAdd, Nat.reduceSub, reduceIte, evRE, retVC, cellV', evR, nfz, nfzs, nfzss, List.contains_nil, List.contains_cons, Bool.or_false, or_true]
          have := g3 _ (List.getElem_mem hun)
          exact ⟨c2, rfl, hc2.up (by omega), _, rfl, this.1, this.2⟩
        · simp only [EV, Nat.reduceEqDiff, Nat.reduceBEq, Nat.reduceLT, Nat.reduceLeDiff, Nat.reduceAdd, Nat.reduceSub, reduceIte]
          refine callK_i (d107 1 (l.length : Int)) ?_
          simp only [EV, Nat.reduceEqDiff, Nat.reduceBEq, Nat.reduceLT, Nat.reduceLeDiff, Nat.reduceAdd, Nat.reduceSub, reduceIte]
          refine (p106 c1 _ (max 1 (l.length : Int)) hc1 (by omega) (by omega)).call (fun _ => rfl) ?_
          rintro _ c2 hc2 ⟨u, rfl, u0, u1, u2⟩
          simp only [EV, Nat.reduceEqDiff, Nat.reduceBEq, Nat.reduceLT, Nat.reduceLeDiff, Nat.reduceAdd, Nat.reduceSub, reduceIte]
          simp only [EV, Nat.reduceEqDiff, Nat.reduceBEq, Nat.reduceLT, Nat.reduceLeDiff, Nat.reduceAdd, Nat.reduceSub, reduceIte, evRE, retVC, cellV', evR, nfz, nfzs, nfzss, List.contains_nil, List.contains_cons, Bool.or_false, or_true]
          refine ⟨c2, rfl, hc2.up (by omega), u, rfl, u0, ?_⟩
          by_cases h : 1 < max 1 (l.length : Int)
          · have := u1 h; omega
          · have := u2 (by omega); omega

/-- loop.example/g00837/spec.DrawReachedOf -/
def m42 : MC :=
  (.seq
   (.reg [⟨(some 2), none, .a (.asg (.nils 59 6))⟩,
     ⟨(some 3), none, .a (.asg (.nils 3 1))⟩])
   (.seq
    (.reg [⟨(some 7), none, .q (.mov (.t 0))⟩,
      ⟨(some 8), none, .a (.build [0] [0] [1] [.s 5 1, .v (.int .i64 0), .v (.int .u64 0)] [.t 7])⟩,
      ⟨(some 9), none, .a (.box 115 (.t 8))⟩,
      ⟨(some 4), none, .a (.asg (.t 9))⟩])
    (.seq
     (.reg [⟨(some 11), none, .q (.mov (.t 4))⟩,
       ⟨(some 12), none, .a (.call (.fn 95) false [.io (.t 11)])⟩,
       ⟨(some 10), none, .a (.asg (.t 12))⟩,
       ⟨(some 13), none, .q (.ext 10 0)⟩,
       ⟨(some 14), none, .q (.ext 10 1)⟩,
       ⟨(some 5), none, .a (.asg (.t 13))⟩,
       ⟨(some 6), none, .a (.asg (.t 14))⟩])
     (.seq
      (.seq
       (.reg [⟨(some 15), none, .q (.mov (.t 4))⟩,
         ⟨(some 16), none, .a (.call (.fn 96) false [.io (.t 15), .lend (.c (.int .i64 4))])⟩])
       (.cond (.t 16)
        (.seq
         (.reg [⟨(some 17), none, .q (.mov (.t 5))⟩,
           ⟨(some 18), none, .q (.mov (.t 6))⟩,
           ⟨(some 19), none, .q (.mov (.t 6))⟩,
           ⟨(some 20), none, .q (.bin false .add (.t 19) (.c (.int .i64 2)))⟩,
           ⟨(some 21), none, .a (.bsl 3 1 [.t 18, .t 20])⟩,
           ⟨(some 2), none, .a (.asg (.t 17))⟩,
           ⟨(some 3), none, .a (.asg (.t 21))⟩])
         .ret)
        .skip))
      (.seq
       (.reg [⟨(some 22), none, .q (.mov (.t 5))⟩,
         ⟨(some 23), none, .q (.mov (.t 6))⟩,
         ⟨(some 24), none, .a (.bsl 3 1 [.t 23])⟩,
         ⟨(some 2), none, .a (.asg (.t 22))⟩,
         ⟨(some 3), none, .a (.asg (.t 24))⟩])
       .ret)))))

set_option maxRecDepth 100000 in
theorem p42 (code : List Int) (hl : (code.length : Int) ≤ 1048576) (hb : ∀ b ∈ code, 0 ≤ b ∧ b ≤ 255) :
    DoesE Go.Proofs.Try.prog 42 [.fsl 1 (code.map bv)] true fun r o => o = [.dead] ∧ ∃ (l : List Ty) (n : List Int), r = .tup [.usl 59 6 (l.map Ty.o), .usl 3 1 (n.map iv)] ∧ l.length ≤ 9 ∧ (∀ t ∈ l, t.sm) ∧ n.length ≤ 2 := by
  have hc : Cur.ok ⟨code, 0, 0⟩ 0 := ⟨hl, hb, Int.le_refl _, Int.le_refl _⟩
  have hz : Cur.z ⟨code, 0, 0⟩ = [.fsl 1 (code.map bv), .v (.int .i64 0), .v (.int .u64 0)] := rfl
  have pc := p95 ⟨code, 0, 0⟩ 0 hc (by omega)
  refine doesE_intro (mc := m42) (N := 25) (rs := [2, 3]) (fx := []) 1 rfl (by decide +kernel) ?_
  simp only [m42, EV, Nat.reduceEqDiff, Nat.reduceBEq, Nat.reduceLT, Nat.reduceLeDiff, Nat.reduceAdd, Nat.reduceSub, reduceIte]
  refine pc.call (fun _ => rfl) ?_
  rintro _ c1 hc1 ⟨l, x, rfl, l9, hs, x0, x1⟩
  simp only [EV, Nat.reduceEqDiff, Nat.reduceBEq, Nat.reduceLT, Nat.reduceLeDiff, Nat.reduceAdd, Nat.reduceSub, reduceIte]
  refine (p96 c1 _ 4 hc1 (by omega) (by omega)).call (fun _ => rfl) ?_
  rintro _ c2 hc2 ⟨b, rfl⟩
  simp only [EV, Nat.reduceEqDiff, Nat.reduceBEq, Nat.reduceLT, Nat.reduceLeDiff, Nat.reduceAdd, Nat.reduceSub, reduceIte]
  cases b
  · simp only [EV, Nat.reduceEqDiff, Nat.reduceBEq, Nat.reduceLT, Nat.reduceLeDiff, Nat.reduceAdd, Nat.reduceSub, reduceIte]
    simp only [Ty.nfz, EV, Nat.reduceEqDiff, Nat.reduceBEq, Nat.reduceLT, Nat.reduceLeDiff, Nat.reduceAdd, Nat.reduceSub, reduceIte, evRE, retVC, cellV', evR, nfz, nfzs, nfzss, List.contains_nil, List.contains_cons, Bool.or_false, or_true]
    exact ⟨l, [x], rfl, l9, hs, by simp⟩
  · simp only [EV, Nat.reduceEqDiff, Nat.reduceBEq, Nat.reduceLT, Nat.reduceLeDiff, Nat.reduceAdd, Nat.reduceSub, reduceIte]
    simp only [Ty.nfz, EV, Nat.reduceEqDiff, Nat.reduceBEq, Nat.reduceLT, Nat.reduceLeDiff, Nat.reduceAdd, Nat.reduceSub, reduceIte, evRE, retVC, cellV', evR, nfz, nfzs, nfzss, List.contains_nil, List.contains_cons, Bool.or_false, or_true]
    exact ⟨l, [x, _], rfl, l9, hs, by simp⟩

/-- loop.example/g00837/spec.DrawFieldOf -/
def m46 : MC :=
  (.seq
   (.reg [⟨(some 2), none, .a (.asg (.nils 59 6))⟩,
     ⟨(some 3), none, .a (.asg (.c (.int .i64 0)))⟩,
     ⟨(some 4), none, .a (.asg (.c (.string ({ data := #[] }))))⟩])
   (.seq
    (.reg [⟨(some 7), none, .q (.mov (.t 0))⟩,
      ⟨(some 8), none, .a (.build [0] [0] [1] [.s 5 1, .v (.int .i64 0), .v (.int .u64 0)] [.t 7])⟩,
      ⟨(some 9), none, .a (.box 115 (.t 8))⟩,
      ⟨(some 5), none, .a (.asg (.t 9))⟩])
    (.seq
     (.reg [⟨(some 10), none, .q (.mov (.t 5))⟩,
       ⟨(some 11), none, .a (.call (.fn 93) false [.io (.t 10)])⟩,
       ⟨(some 6), none, .a (.asgf (.t 11))⟩])
     (.seq
      (.reg [⟨(some 12), none, .q (.mov (.t 6))⟩,
        ⟨(some 13), none, .q (.mov (.t 5))⟩,
        ⟨(some 14), none, .q (.mov (.t 6))⟩,
        ⟨(some 15), none, .a (.call (.fn 94) false [.io (.t 13), .lend (.t 14)])⟩,
        ⟨(some 16), none, .q (.mov (.t 5))⟩,
        ⟨(some 17), none, .a (.bsl 9 1 [.c (.string ({ data := #[102, 49] })), .c (.string ({ data := #[102, 50] })), .c (.string ({ data := #[102, 51] })), .c (.string ({ data := #[103] })), .c (.string ({ data := #[] }))])⟩,
        ⟨(some 18), none, .a (.call (.fn 97) false [.io (.t 16), .give (.t 17)])⟩,
        ⟨(some 2), none, .a (.asg (.t 12))⟩,
        ⟨(some 3), none, .a (.asg (.t 15))⟩,
        ⟨(some 4), none, .a (.asg (.t 18))⟩])
      .ret))))

set_option maxRecDepth 100000 in
theorem p46 (code : List Int) (hl : (code.length : Int) ≤ 1048576) (hb : ∀ b ∈ code, 0 ≤ b ∧ b ≤ 255) :
    DoesE Go.Proofs.Try.prog 46 [.fsl 1 (code.map bv)] true fun r o => o = [.dead] ∧ ∃ (l : List Ty) (n : Int) (s : ByteArray), r = .tup [.fsl 6 (l.map Ty.z), .v (.int .i64 n), .v (.string s)] ∧ l.length ≤ 9 ∧ (∀ t ∈ l, t.sm) ∧ (s.size : Int) ≤ 10 := by
  have hc : Cur.ok ⟨code, 0, 0⟩ 0 := ⟨hl, hb, Int.le_refl _, Int.le_refl _⟩
  have pc := p93 ⟨code, 0, 0⟩ 0 hc (by omega)
  refine doesE_intro (mc := m46) (N := 19) (rs := [2, 3, 4]) (fx := []) 1 rfl (by decide +kernel) ?_
  simp only [m46, EV, Nat.reduceEqDiff, Nat.reduceBEq, Nat.reduceLT, Nat.reduceLeDiff, Nat.reduceAdd, Nat.reduceSub, reduceIte]
  refine pc.call (fun _ => rfl) ?_
  rintro _ c1 hc1 ⟨l, rfl, l9, hs⟩
  simp only [Ty.frz, EV, Nat.reduceEqDiff, Nat.reduceBEq, Nat.reduceLT, Nat.reduceLeDiff, Nat.reduceAdd, Nat.reduceSub, reduceIte]
  refine (p94 c1 _ l hc1 (by omega) l9).call (fun _ => rfl) ?_
  rintro _ c2 hc2 ⟨x, rfl, _⟩
  simp only [EV, Nat.reduceEqDiff, Nat.reduceBEq, Nat.reduceLT, Nat.reduceLeDiff, Nat.reduceAdd, Nat.reduceSub, reduceIte]
  refine (p97 c2 _ [⟨#[102, 49]⟩, ⟨#[102, 50]⟩, ⟨#[102, 51]⟩, ⟨#[103]⟩, ⟨#[]⟩] hc2 (by omega) (by decide) (by decide)).call (fun _ => rfl) ?_
  rintro _ c3 hc3 ⟨s, hs', rfl⟩
  have hs1 : (s.size : Int) ≤ 10 := by
    simp only [List.mem_cons, List.not_mem_nil, or_false] at hs'
    rcases hs' with rfl | rfl | rfl | rfl | rfl <;> decide
  simp only [EV, Nat.reduceEqDiff, Nat.reduceBEq, Nat.reduceLT, Nat.reduceLeDiff, Nat.reduceAdd, Nat.reduceSub, reduceIte]
  simp only [EV, Nat.reduceEqDiff, Nat.reduceBEq, Nat.reduceLT, Nat.reduceLeDiff, Nat.reduceAdd, Nat.reduceSub, reduceIte, evRE, retVC, cellV', evR, nfz, nfzs, nfzss, List.contains_nil, List.contains_cons, Bool.or_false, or_true]
  exact ⟨⟨l, x, s, rfl, l9, hs, hs1⟩, Or.inl trivial⟩

end Go.AM
namespace Go.AM
set_option linter.unusedVariables false
set_option linter.unusedSimpArgs false
/-- loop.example/g00837/laws.big -/
def m39 : MC :=
  (.seq
   (.reg [⟨(some 4), none, .a (.asg (.c (.bool false)))⟩])
   (.seq
    (.reg [⟨(some 5), none, .q (.mov (.t 0))⟩,
      ⟨(some 6), none, .q (.len false (.t 5))⟩,
      ⟨(some 7), none, .q (.bin false .gtr (.t 6) (.c (.int .i64 1048576)))⟩,
      ⟨(some 8), none, .q (.mov (.t 7))⟩,
      ⟨(some 9), (some (8, false)), .q (.mov (.t 1))⟩,
      ⟨(some 10), (some (8, false)), .q (.len false (.t 9))⟩,
      ⟨(some 11), (some (8, false)), .q (.mov (.t 0))⟩,
      ⟨(some 12), (some (8, false)), .q (.len false (.t 11))⟩,
      ⟨(some 13), (some (8, false)), .q (.bin false .sub (.c (.int .i64 1048576)) (.t 12))⟩,
      ⟨(some 14), (some (8, false)), .q (.bin false .gtr (.t 10) (.t 13))⟩,
      ⟨(some 15), none, .q (.pick (.t 8) (.c (.bool true)) (.t 14))⟩,
      ⟨(some 4), none, .a (.asg (.t 15))⟩])
    .ret))

theorem d39 (a b : List Int) (ha : (a.length : Int) ≤ 9223372036854775807) (hb : (b.length : Int) ≤ 9223372036854775807) : Does Go.Proofs.Try.prog 39 [.fsl 1 (a.map bv), .fsl 1 (b.map bv)] false (.v (.bool (decide (1048576 < (a.length : Int)) || decide (1048576 - (a.length : Int) < (b.length : Int))))) [.dead, .dead] := by
  refine does_intro (mc := m39) (N := 16) (rs := [4]) (fx := []) 2 rfl (by decide +kernel) ?_
  simp only [m39, EV, Nat.reduceEqDiff, Nat.reduceBEq, Nat.reduceLT, Nat.reduceLeDiff, Nat.reduceAdd, Nat.reduceSub, reduceIte]
  rcases e : decide (1048576 < (a.length : Int)) with _ | _
  · have h : ¬ 1048576 < (a.length : Int) := by simpa using e
    have w := w64 (1048576 - (a.length : Int)) (by omega)
    simp only [w, EV, Nat.reduceEqDiff, Nat.reduceBEq, Nat.reduceLT, Nat.reduceLeDiff, Nat.reduceAdd, Nat.reduceSub, reduceIte]
    simp only [Bool.false_or, EV, Nat.reduceEqDiff, Nat.reduceBEq, Nat.reduceLT, Nat.reduceLeDiff, Nat.reduceAdd, Nat.reduceSub, reduceIte, evRE, retVC, cellV', evR, nfz, nfzs, nfzss, List.contains_nil, List.contains_cons, Bool.or_false, or_true]
  · simp only [EV, Nat.reduceEqDiff, Nat.reduceBEq, Nat.reduceLT, Nat.reduceLeDiff, Nat.reduceAdd, Nat.reduceSub, reduceIte]
    simp only [Bool.true_or, EV, Nat.reduceEqDiff, Nat.reduceBEq, Nat.reduceLT, Nat.reduceLeDiff, Nat.reduceAdd, Nat.reduceSub, reduceIte, evRE, retVC, cellV', evR, nfz, nfzs, nfzss, List.contains_nil, List.contains_cons, Bool.or_false, or_true]

def sameTo (a b : List Int) (i : Nat) : Prop := ∀ j (h1 : j < a.length) (h2 : j < b.length), j < i → a[j] = b[j]

/-- loop.example/g00837/laws.sameInts -/
def m43 : MC :=
  (.seq
   (.reg [⟨(some 4), none, .a (.asg (.c (.bool false)))⟩])
   (.seq
    (.seq
     (.reg [⟨(some 6), none, .q (.mov (.t 0))⟩,
       ⟨(some 7), none, .q (.len false (.t 6))⟩,
       ⟨(some 8), none, .q (.mov (.t 1))⟩,
       ⟨(some 9), none, .q (.len false (.t 8))⟩,
       ⟨(some 10), none, .q (.bin false .neq (.t 7) (.t 9))⟩])
     (.cond (.t 10)
      (.seq
       (.reg [⟨(some 4), none, .a (.asg (.c (.bool false)))⟩])
       .ret)
      .skip))
    (.seq
     (.seq
      (.reg [⟨(some 11), none, .q (.mov (.t 0))⟩,
        ⟨(some 12), none, .q (.len false (.t 11))⟩,
        ⟨(some 13), none, .q (.mov (.c (.int .i64 0)))⟩])
      (.block 0
       (.loop [0, 1, 12, 13]
        (.seq
         (.reg [⟨(some 14), none, .q (.bin false .lss (.t 13) (.t 12))⟩])
         (.seq
          (.cond (.t 14)
           .skip
           (.exit 0))
          (.seq
           (.block 1
            (.seq
             (.reg [⟨(some 15), none, .q (.mov (.t 13))⟩,
               ⟨(some 5), none, .a (.asg (.t 15))⟩])
             (.seq
              (.dreg [⟨(some 16), none, .q (.mov (.t 0))⟩,
                ⟨(some 17), none, .q (.mov (.t 5))⟩,
                ⟨(some 18), none, .q (.iad 1 (.t 16) (.t 17))⟩,
                ⟨(some 19), none, .q (.load false 1 (.t 18))⟩,
                ⟨(some 20), none, .q (.mov (.t 1))⟩,
                ⟨(some 21), none, .q (.mov (.t 5))⟩,
                ⟨(some 22), none, .q (.iad 1 (.t 20) (.t 21))⟩,
                ⟨(some 23), none, .q (.load false 1 (.t 22))⟩,
                ⟨(some 24), none, .q (.bin false .neq (.t 19) (.t 23))⟩])
              (.cond (.t 24)
               (.seq
                (.reg [⟨(some 4), none, .a (.asg (.c (.bool false)))⟩])
                .ret)
               .skip))))
           (.reg [⟨(some 25), none, .q (.bin false .add (.t 13) (.c (.int .i64 1)))⟩,
             ⟨(some 13), none, .q (.mov (.t 25))⟩])))))))
     (.seq
      (.reg [⟨(some 4), none, .a (.asg (.c (.bool true)))⟩])
      .ret))))

set_option maxRecDepth 100000 in
theorem d43 (a b : List Int) (ha : (a.length : Int) ≤ 1048576) : Does Go.Proofs.Try.prog 43 [.fsl 1 (a.map iv), .fsl 1 (b.map iv)] false (.v (.bool (decide (a = b)))) [.dead, .dead] := by
  refine does_intro (mc := m43) (N := 26) (rs := [4]) (fx := []) 2 rfl (by decide +kernel) ?_
  simp only [m43, EV, Nat.reduceEqDiff, Nat.reduceBEq, Nat.reduceLT, Nat.reduceLeDiff, Nat.reduceAdd, Nat.reduceSub, reduceIte]
  refine cK_cut (fun h => ?_) (fun h => ?_)
  · have e : decide (a = b) = false := by
      simp only [decide_eq_false_iff_not]
      rintro rfl
      simp at h
    simp only [EV, Nat.reduceEqDiff, Nat.reduceBEq, Nat.reduceLT, Nat.reduceLeDiff, Nat.reduceAdd, Nat.reduceSub, reduceIte]
    simp only [e, EV, Nat.reduceEqDiff, Nat.reduceBEq, Nat.reduceLT, Nat.reduceLeDiff, Nat.reduceAdd, Nat.reduceSub, reduceIte, evRE, retVC, cellV', evR, nfz, nfzs, nfzss, List.contains_nil, List.contains_cons, Bool.or_false, or_true]
  have hl : a.length = b.length := by simp at h; omega
  clear h
  simp only [EV, Nat.reduceEqDiff, Nat.reduceBEq, Nat.reduceLT, Nat.reduceLeDiff, Nat.reduceAdd, Nat.reduceSub, reduceIte]
  refine awp_loop (fun i : Nat => i ≤ a.length ∧ sameTo a b i) (fun i => stl [(0, .fsl 1 (a.map iv)), (1, .fsl 1 (b.map iv)), (12, .v (.int .i64 (a.length : Int))), (13, .v (.int .i64 (i : Int)))]) (fun i => a.length - i) 0 ⟨Nat.zero_le _, fun j _ _ h => absurd h (by omega)⟩ ?_ ?_
  · simp only [EV, Nat.reduceEqDiff, Nat.reduceBEq, Nat.reduceLT, Nat.reduceLeDiff, Nat.reduceAdd, Nat.reduceSub, reduceIte]
    rfl
  · rintro i ⟨hi, hs⟩
    simp only [EV, Nat.reduceEqDiff, Nat.reduceBEq, Nat.reduceLT, Nat.reduceLeDiff, Nat.reduceAdd, Nat.reduceSub, reduceIte]
    refine cK_cut (fun h => ?_) (fun h => ?_)
    · have h1 : i < a.length := by simpa using h
      have h2 : (i : Int) < (a.length : Int) := by omega
      have h3 : i < b.length := by omega
      have h4 : (i : Int) < (b.length : Int) := by omega
      clear h
      simp only [nth_map h1, h1, h2, nth_map h3, h3, h4, iv, EV, Nat.reduceEqDiff, Nat.reduceBEq, Nat.reduceLT, Nat.reduceLeDiff, Nat.reduceAdd, Nat.reduceSub, reduceIte]
      rcases e : (a[i] == b[i]) with _ | _
      · have e1 : decide (a = b) = false := by
          simp only [decide_eq_false_iff_not]
          rintro rfl
          simp at e
        simp only [bne, e, Bool.not_false, EV, Nat.reduceEqDiff, Nat.reduceBEq, Nat.reduceLT, Nat.reduceLeDiff, Nat.reduceAdd, Nat.reduceSub, reduceIte]
        simp only [e1, EV, Nat.reduceEqDiff, Nat.reduceBEq, Nat.reduceLT, Nat.reduceLeDiff, Nat.reduceAdd, Nat.reduceSub, reduceIte, evRE, retVC, cellV', evR, nfz, nfzs, nfzss, List.contains_nil, List.contains_cons, Bool.or_false, or_true]
      · have e1 : a[i] = b[i] := by simpa using e
        simp only [bne, e, Bool.not_true, EV, Nat.reduceEqDiff, Nat.reduceBEq, Nat.reduceLT, Nat.reduceLeDiff, Nat.reduceAdd, Nat.reduceSub, reduceIte]
        rw [w64 _ (by omega)]
        refine ⟨i + 1, ⟨h1, fun j q1 q2 h => ?_⟩, by omega, rfl⟩
        by_cases ej : j = i
        · subst ej; exact e1
        · exact hs j q1 q2 (by omega)
    · have h1 : i = a.length := by have : ¬ (i : Int) < a.length := by simpa using h
                                   omega
      subst h1
      have e1 : decide (a = b) = true := by
        simp only [decide_eq_true_eq]
        exact List.ext_getElem hl fun j q1 q2 => hs j q1 q2 q1
      simp only [EV, Nat.reduceEqDiff, Nat.reduceBEq, Nat.reduceLT, Nat.reduceLeDiff, Nat.reduceAdd, Nat.reduceSub, reduceIte]
      simp only [e1, EV, Nat.reduceEqDiff, Nat.reduceBEq, Nat.reduceLT, Nat.reduceLeDiff, Nat.reduceAdd, Nat.reduceSub, reduceIte, evRE, retVC, cellV', evR, nfz, nfzs, nfzss, List.contains_nil, List.contains_cons, Bool.or_false, or_true]

/-- loop.example/g00837/laws.has -/
def m45 : MC :=
  (.seq
   (.reg [⟨(some 4), none, .a (.asg (.c (.bool false)))⟩])
   (.seq
    (.seq
     (.reg [⟨(some 7), none, .q (.mov (.t 0))⟩,
       ⟨(some 8), none, .q (.len false (.t 7))⟩,
       ⟨(some 9), none, .q (.mov (.c (.int .i64 0)))⟩])
     (.block 0
      (.loop [0, 1, 7, 8, 9]
       (.seq
        (.reg [⟨(some 10), none, .q (.bin false .lss (.t 9) (.t 8))⟩])
        (.seq
         (.cond (.t 10)
          .skip
          (.exit 0))
         (.seq
          (.block 1
           (.seq
            (.reg [⟨(some 11), none, .q (.iad 1 (.t 7) (.t 9))⟩,
              ⟨(some 12), none, .q (.load false 1 (.t 11))⟩,
              ⟨(some 6), none, .a (.asg (.t 12))⟩])
            (.seq
             (.reg [⟨(some 13), none, .q (.mov (.t 6))⟩,
               ⟨(some 14), none, .q (.mov (.t 1))⟩,
               ⟨(some 15), none, .q (.bin false .eql (.t 13) (.t 14))⟩])
             (.cond (.t 15)
              (.seq
               (.reg [⟨(some 4), none, .a (.asg (.c (.bool true)))⟩])
               .ret)
              .skip))))
          (.reg [⟨(some 16), none, .q (.bin false .add (.t 9) (.c (.int .i64 1)))⟩,
            ⟨(some 9), none, .q (.mov (.t 16))⟩])))))))
    (.seq
     (.reg [⟨(some 4), none, .a (.asg (.c (.bool false)))⟩])
     .ret)))

set_option maxRecDepth 100000 in
theorem d45 (a : List Int) (n : Int) (ha : (a.length : Int) ≤ 1048576) : Does Go.Proofs.Try.prog 45 [.fsl 1 (a.map iv), .v (.int .i64 n)] false (.v (.bool (a.contains n))) [.dead, .dead] := by
  refine does_intro (mc := m45) (N := 17) (rs := [4]) (fx := []) 2 rfl (by decide +kernel) ?_
  simp only [m45, EV, Nat.reduceEqDiff, Nat.reduceBEq, Nat.reduceLT, Nat.reduceLeDiff, Nat.reduceAdd, Nat.reduceSub, reduceIte]
  refine awp_loop (fun i : Nat => i ≤ a.length ∧ a.contains n = (a.drop i).contains n) (fun i => stl [(0, .fsl 1 (a.map iv)), (1, .v (.int .i64 n)), (7, .fsl 1 (a.map iv)), (8, .v (.int .i64 (a.length : Int))), (9, .v (.int .i64 (i : Int)))]) (fun i => a.length - i) 0 ⟨Nat.zero_le _, rfl⟩ ?_ ?_
  · simp only [EV, Nat.reduceEqDiff, Nat.reduceBEq, Nat.reduceLT, Nat.reduceLeDiff, Nat.reduceAdd, Nat.reduceSub, reduceIte]
    rfl
  · rintro i ⟨hi, hs⟩
    simp only [EV, Nat.reduceEqDiff, Nat.reduceBEq, Nat.reduceLT, Nat.reduceLeDiff, Nat.reduceAdd, Nat.reduceSub, reduceIte]
    refine cK_cut (fun h => ?_) (fun h => ?_)
    · have h1 : i < a.length := by simpa using h
      have h2 : (i : Int) < (a.length : Int) := by omega
      have hd : (a.drop i).contains n = (n == a[i] || (a.drop (i + 1)).contains n) := by
        rw [List.drop_eq_getElem_cons h1, List.contains_cons]
      clear h
      simp only [nth_map h1, h1, h2, iv, EV, Nat.reduceEqDiff, Nat.reduceBEq, Nat.reduceLT, Nat.reduceLeDiff, Nat.reduceAdd, Nat.reduceSub, reduceIte]
      rcases e : (a[i] == n) with _ | _
      · have e1 : (n == a[i]) = false := by rw [beq_eq_false_iff_ne] at e ⊢; exact fun q => e q.symm
        simp only [EV, Nat.reduceEqDiff, Nat.reduceBEq, Nat.reduceLT, Nat.reduceLeDiff, Nat.reduceAdd, Nat.reduceSub, reduceIte]
        rw [w64 _ (by omega)]
        exact ⟨i + 1, ⟨h1, by rw [hs, hd, e1, Bool.false_or]⟩, by omega, rfl⟩
      · have e1 : a.contains n = true := by rw [hs, hd, ← eq_of_beq e]; simp
        simp only [EV, Nat.reduceEqDiff, Nat.reduceBEq, Nat.reduceLT, Nat.reduceLeDiff, Nat.reduceAdd, Nat.reduceSub, reduceIte]
        simp only [e1, EV, Nat.reduceEqDiff, Nat.reduceBEq, Nat.reduceLT, Nat.reduceLeDiff, Nat.reduceAdd, Nat.reduceSub, reduceIte, evRE, retVC, cellV', evR, nfz, nfzs, nfzss, List.contains_nil, List.contains_cons, Bool.or_false, or_true]
    · have h1 : i = a.length := by have : ¬ (i : Int) < a.length := by simpa using h
                                   omega
      subst h1
      rw [List.drop_length] at hs
      simp only [EV, Nat.reduceEqDiff, Nat.reduceBEq, Nat.reduceLT, Nat.reduceLeDiff, Nat.reduceAdd, Nat.reduceSub, reduceIte]
      simp only [hs, List.contains_nil, EV, Nat.reduceEqDiff, Nat.reduceBEq, Nat.reduceLT, Nat.reduceLeDiff, Nat.reduceAdd, Nat.reduceSub, reduceIte, evRE, retVC, cellV', evR, nfz, nfzs, nfzss, List.contains_nil, List.contains_cons, Bool.or_false, or_true]

/-- loop.example/g00837/laws.within -/
def m44 : MC :=
  (.seq
   (.reg [⟨(some 4), none, .a (.asg (.c (.bool false)))⟩])
   (.seq
    (.seq
     (.reg [⟨(some 7), none, .q (.mov (.t 0))⟩,
       ⟨(some 8), none, .q (.len false (.t 7))⟩,
       ⟨(some 9), none, .q (.mov (.c (.int .i64 0)))⟩])
     (.block 0
      (.loop [0, 1, 7, 8, 9]
       (.seq
        (.reg [⟨(some 10), none, .q (.bin false .lss (.t 9) (.t 8))⟩])
        (.seq
         (.cond (.t 10)
          .skip
          (.exit 0))
         (.seq
          (.block 1
           (.seq
            (.reg [⟨(some 11), none, .q (.iad 1 (.t 7) (.t 9))⟩,
              ⟨(some 12), none, .q (.load false 1 (.t 11))⟩,
              ⟨(some 6), none, .a (.asg (.t 12))⟩])
            (.seq
             (.reg [⟨(some 13), none, .q (.mov (.t 1))⟩,
               ⟨(some 14), none, .q (.mov (.t 6))⟩,
               ⟨(some 15), none, .a (.call (.fn 45) false [.lend (.t 13), .lend (.t 14)])⟩,
               ⟨(some 16), none, .q (.un .not (.t 15))⟩])
             (.cond (.t 16)
              (.seq
               (.reg [⟨(some 4), none, .a (.asg (.c (.bool false)))⟩])
               .ret)
              .skip))))
          (.reg [⟨(some 17), none, .q (.bin false .add (.t 9) (.c (.int .i64 1)))⟩,
            ⟨(some 9), none, .q (.mov (.t 17))⟩])))))))
    (.seq
     (.reg [⟨(some 4), none, .a (.asg (.c (.bool true)))⟩])
     .ret)))

set_option maxRecDepth 100000 in
theorem d44 (a b : List Int) (ha : (a.length : Int) ≤ 1048576) (hb : (b.length : Int) ≤ 1048576) : Does Go.Proofs.Try.prog 44 [.fsl 1 (a.map iv), .fsl 1 (b.map iv)] false (.v (.bool (a.all fun n => b.contains n))) [.dead, .dead] := by
  refine does_intro (mc := m44) (N := 18) (rs := [4]) (fx := []) 2 rfl (by decide +kernel) ?_
  simp only [m44, EV, Nat.reduceEqDiff, Nat.reduceBEq, Nat.reduceLT, Nat.reduceLeDiff, Nat.reduceAdd, Nat.reduceSub, reduceIte]
  refine awp_loop (fun i : Nat => i ≤ a.length ∧ (a.all fun n => b.contains n) = ((a.drop i).all fun n => b.contains n)) (fun i => stl [(0, .fsl 1 (a.map iv)), (1, .fsl 1 (b.map iv)), (7, .fsl 1 (a.map iv)), (8, .v (.int .i64 (a.length : Int))), (9, .v (.int .i64 (i : Int)))]) (fun i => a.length - i) 0 ⟨Nat.zero_le _, rfl⟩ ?_ ?_
  · simp only [EV, Nat.reduceEqDiff, Nat.reduceBEq, Nat.reduceLT, Nat.reduceLeDiff, Nat.reduceAdd, Nat.reduceSub, reduceIte]
    rfl
  · rintro i ⟨hi, hs⟩
    simp only [EV, Nat.reduceEqDiff, Nat.reduceBEq, Nat.reduceLT, Nat.reduceLeDiff, Nat.reduceAdd, Nat.reduceSub, reduceIte]
    refine cK_cut (fun h => ?_) (fun h => ?_)
    · have h1 : i < a.length := by simpa using h
      have h2 : (i : Int) < (a.length : Int) := by omega
      have hd : ((a.drop i).all fun n => b.contains n) = (b.contains a[i] && (a.drop (i + 1)).all fun n => b.contains n) := by
        rw [List.drop_eq_getElem_cons h1, List.all_cons]
      clear h
      simp only [nth_map h1, h1, h2, iv, EV, Nat.reduceEqDiff, Nat.reduceBEq, Nat.reduceLT, Nat.reduceLeDiff, Nat.reduceAdd, Nat.reduceSub, reduceIte]
      refine callK_i (d45 b a[i] hb) ?_
      simp only [EV, Nat.reduceEqDiff, Nat.reduceBEq, Nat.reduceLT, Nat.reduceLeDiff, Nat.reduceAdd, Nat.reduceSub, reduceIte]
      rcases e : b.contains a[i] with _ | _
      · have e1 : (a.all fun n => b.contains n) = false := by rw [hs, hd, e]; rfl
        simp only [EV, Nat.reduceEqDiff, Nat.reduceBEq, Nat.reduceLT, Nat.reduceLeDiff, Nat.reduceAdd, Nat.reduceSub, reduceIte]
        simp only [e1, EV, Nat.reduceEqDiff, Nat.reduceBEq, Nat.reduceLT, Nat.reduceLeDiff, Nat.reduceAdd, Nat.reduceSub, reduceIte, evRE, retVC, cellV', evR, nfz, nfzs, nfzss, List.contains_nil, List.contains_cons, Bool.or_false, or_true]
      · simp only [EV, Nat.reduceEqDiff, Nat.reduceBEq, Nat.reduceLT, Nat.reduceLeDiff, Nat.reduceAdd, Nat.reduceSub, reduceIte]
        rw [w64 _ (by omega)]
        exact ⟨i + 1, ⟨h1, by rw [hs, hd, e, Bool.true_and]⟩, by omega, rfl⟩
    · have h1 : i = a.length := by have : ¬ (i : Int) < a.length := by simpa using h
                                   omega
      subst h1
      rw [List.drop_length] at hs
      simp only [EV, Nat.reduceEqDiff, Nat.reduceBEq, Nat.reduceLT, Nat.reduceLeDiff, Nat.reduceAdd, Nat.reduceSub, reduceIte]
      simp only [hs, List.all_nil, EV, Nat.reduceEqDiff, Nat.reduceBEq, Nat.reduceLT, Nat.reduceLeDiff, Nat.reduceAdd, Nat.reduceSub, reduceIte, evRE, retVC, cellV', evR, nfz, nfzs, nfzss, List.contains_nil, List.contains_cons, Bool.or_false, or_true]

end Go.AM
namespace Go.AM
set_option linter.unusedVariables false
set_option linter.unusedSimpArgs false
theorem reach_in {l : List Ty} {ptr : Bool} {n : List Int} : ∀ k ∈ reachL l ptr n, 0 ≤ k ∧ k < (l.length : Int) := fun k hk => (mem_reachL.1 hk).1

theorem reach_ok {l : List Ty} {n : List Int} (h : tabOk l = true) : rchOk l (reachL l true n) = true := by
  simp only [rchOk, h, Bool.true_and, upIn, decide_eq_true_eq]
  exact ⟨reachL_up _ _ _, fun k hk => by have := reach_in k hk; omega⟩

theorem reach_step {l : List Ty} {n : List Int} (h : tabOk l = true) {m k : Int} (hm : m ∈ reachL l true n) (hk : k ∈ kids l true m) : k ∈ reachL l true n := by
  have h1 := mem_reachL.1 hm
  exact mem_reachL.2 ⟨kids_ok (tabOk_tys h) h1.1.1 h1.1.2 hk, .step h1.2 hk⟩

theorem reach_again {l : List Ty} {n : List Int} (h : tabOk l = true) : reachL l true (reachL l true n) = reachL l true n :=
  (reachL_of (tysOk_kids (tabOk_tys h)) reach_in (reachL_up _ _ _) (fun _ h => h) (fun m hm k hk => reach_step h hm hk) (fun m hm => .base hm)).symm

theorem reach_from {l : List Ty} {n : List Int} (h : rchOk l n = true) : (n.all fun k => (reachL l true n).contains k) = true := by
  obtain ⟨_, _, h2⟩ := rchOk_spec h
  rw [List.all_eq_true]
  intro k hk
  rw [List.contains_iff_mem]
  exact mem_reachL.2 ⟨h2 k hk, .base hk⟩

/-- loop.example/g00837/laws.FnReached -/
def m10 : MC :=
  (.seq
   (.reg [⟨(some 4), none, .a (.asg (.c (.bool false)))⟩])
   (.keep [0, 1]
   (.seq
    (.seq
     (.reg [⟨(some 24), none, .q (.mov (.t 0))⟩,
       ⟨(some 25), none, .q (.mov (.t 1))⟩,
       ⟨(some 26), none, .a (.call (.fn 39) false [.lend (.t 24), .lend (.t 25)])⟩])
     (.keep [0, 1, 26]
     (.cond (.t 26)
      (.seq
       (.reg [⟨(some 4), none, .a (.asg (.c (.bool true)))⟩])
       .ret)
      .skip)))
    (.keep [0, 1]
    (.seq
     (.reg [⟨(some 28), none, .q (.mov (.t 0))⟩,
       ⟨(some 29), none, .a (.call (.fn 42) true [.lend (.t 28)])⟩,
       ⟨(some 27), none, .a (.asg (.t 29))⟩,
       ⟨(some 30), none, .q (.ext 27 0)⟩,
       ⟨(some 31), none, .q (.ext 27 1)⟩,
       ⟨(some 5), none, .a (.asg (.t 30))⟩,
       ⟨(some 6), none, .a (.asg (.t 31))⟩])
     (.keep [1, 5, 6, 27, 29, 30, 31]
     (.seq
      (.reg [⟨(some 33), none, .q (.mov (.t 5))⟩,
        ⟨(some 34), none, .q (.mov (.t 6))⟩,
        ⟨(some 35), none, .a (.call (.fn 29) false [.lend (.t 33), .lend (.t 34)])⟩,
        ⟨(some 32), none, .a (.asg (.t 35))⟩,
        ⟨(some 36), none, .q (.ext 32 0)⟩,
        ⟨(some 37), none, .q (.ext 32 1)⟩,
        ⟨(some 7), none, .a (.asg (.t 36))⟩,
        ⟨(some 8), none, .a (.asg (.t 37))⟩])
      (.keep [1, 5, 6, 7, 8, 27, 29, 30, 31, 32, 35, 36]
      (.seq
       (.reg [⟨(some 39), none, .q (.mov (.t 5))⟩,
         ⟨(some 40), none, .q (.mov (.t 6))⟩,
         ⟨(some 41), none, .a (.call (.fn 27) false [.lend (.t 39), .lend (.t 40)])⟩,
         ⟨(some 38), none, .a (.asg (.t 41))⟩,
         ⟨(some 42), none, .q (.ext 38 0)⟩,
         ⟨(some 43), none, .q (.ext 38 1)⟩,
         ⟨(some 9), none, .a (.asg (.t 42))⟩,
         ⟨(some 10), none, .a (.asg (.t 43))⟩])
       (.keep [1, 5, 6, 7, 8, 9, 10, 27, 29, 30, 31, 32, 35, 36, 38, 41, 42]
       (.seq
        (.seq
         (.reg [⟨(some 44), none, .q (.mov (.t 8))⟩,
           ⟨(some 45), none, .q (.mov (.t 10))⟩,
           ⟨(some 46), none, .q (.bin true .neq (.t 44) (.t 45))⟩,
           ⟨(some 47), none, .q (.mov (.t 46))⟩,
           ⟨(some 48), (some (47, false)), .q (.mov (.t 7))⟩,
           ⟨(some 49), (some (47, false)), .q (.mov (.t 9))⟩,
           ⟨(some 50), (some (47, false)), .a (.call (.fn 43) false [.lend (.t 48), .lend (.t 49)])⟩,
           ⟨(some 51), (some (47, false)), .q (.un .not (.t 50))⟩,
           ⟨(some 52), none, .q (.pick (.t 47) (.c (.bool true)) (.t 51))⟩])
         (.keep [1, 5, 6, 7, 8, 27, 29, 30, 31, 32, 35, 36, 52]
         (.cond (.t 52)
          (.seq
           (.reg [⟨(some 4), none, .a (.asg (.c (.bool false)))⟩])
           .ret)
          .skip)))
        (.keep [1, 5, 6, 7, 8, 27, 29, 30, 31, 32, 35, 36]
        (.join [1]
         (.seq
          (.reg [⟨(some 53), none, .q (.mov (.t 8))⟩])
          (.keep [1, 5, 6, 7, 27, 29, 30, 31, 32, 35, 36, 53]
          (.cond (.t 53)
           (.seq
            (.reg [⟨(some 55), none, .q (.mov (.t 5))⟩,
              ⟨(some 56), none, .q (.mov (.t 7))⟩,
              ⟨(some 57), none, .a (.call (.fn 29) false [.lend (.t 55), .lend (.t 56)])⟩,
              ⟨(some 54), none, .a (.asg (.t 57))⟩,
              ⟨(some 58), none, .q (.ext 54 0)⟩,
              ⟨(some 59), none, .q (.ext 54 1)⟩,
              ⟨(some 11), none, .a (.asg (.t 58))⟩,
              ⟨(some 12), none, .a (.asg (.t 59))⟩])
            (.keep [1, 5, 6, 7, 11, 12, 27, 29, 30, 31, 32, 35, 36, 54, 57, 58]
            (.seq
             (.seq
              (.reg [⟨(some 60), none, .q (.mov (.t 12))⟩,
                ⟨(some 61), none, .q (.un .not (.t 60))⟩,
                ⟨(some 62), none, .q (.mov (.t 61))⟩,
                ⟨(some 63), (some (62, false)), .q (.mov (.t 11))⟩,
                ⟨(some 64), (some (62, false)), .q (.mov (.t 7))⟩,
                ⟨(some 65), (some (62, false)), .a (.call (.fn 43) false [.lend (.t 63), .lend (.t 64)])⟩,
                ⟨(some 66), (some (62, false)), .q (.un .not (.t 65))⟩,
                ⟨(some 67), none, .q (.pick (.t 62) (.c (.bool true)) (.t 66))⟩,
                ⟨(some 68), none, .q (.mov (.t 67))⟩,
                ⟨(some 69), (some (68, false)), .q (.mov (.t 6))⟩,
                ⟨(some 70), (some (68, false)), .q (.mov (.t 7))⟩,
                ⟨(some 71), (some (68, false)), .a (.call (.fn 44) false [.lend (.t 69), .lend (.t 70)])⟩,
                ⟨(some 72), (some (68, false)), .q (.un .not (.t 71))⟩,
                ⟨(some 73), none, .q (.pick (.t 68) (.c (.bool true)) (.t 72))⟩])
              (.keep [1, 5, 7, 27, 29, 30, 32, 35, 36, 73]
              (.cond (.t 73)
               (.seq
                (.reg [⟨(some 4), none, .a (.asg (.c (.bool false)))⟩])
                .ret)
               .skip)))
             (.keep [1, 5, 7, 27, 29, 30, 32, 35, 36]
             (.seq
              (.reg [⟨(some 74), none, .q (.mov (.t 7))⟩,
                ⟨(some 75), none, .q (.len false (.t 74))⟩,
                ⟨(some 76), none, .q (.mov (.c (.int .i64 0)))⟩])
              (.keep [1, 5, 7, 27, 29, 30, 32, 35, 36, 74, 75, 76]
              (.block 0
               (.loop [1, 5, 7, 27, 29, 30, 32, 35, 36, 74, 75, 76]
                (.seq
                 (.reg [⟨(some 77), none, .q (.bin false .lss (.t 76) (.t 75))⟩])
                 (.keep [1, 5, 7, 27, 29, 30, 32, 35, 36, 74, 75, 76, 77]
                 (.seq
                  (.cond (.t 77)
                   .skip
                   (.exit 0))
                  (.keep [1, 5, 7, 27, 29, 30, 32, 35, 36, 74, 75, 76]
                  (.seq
                   (.block 1
                    (.seq
                     (.reg [⟨(some 78), none, .q (.iad 1 (.t 74) (.t 76))⟩,
                       ⟨(some 79), none, .q (.load false 1 (.t 78))⟩,
                       ⟨(some 14), none, .a (.asg (.t 79))⟩])
                     (.keep [1, 5, 7, 14, 27, 29, 30, 32, 35, 36, 74, 75, 76]
                     (.seq
                      (.seq
                       (.reg [⟨(some 80), none, .q (.mov (.t 14))⟩,
                         ⟨(some 81), none, .q (.bin false .lss (.t 80) (.c (.int .i64 0)))⟩,
                         ⟨(some 82), none, .q (.mov (.t 81))⟩,
                         ⟨(some 83), (some (82, false)), .q (.mov (.t 14))⟩,
                         ⟨(some 84), (some (82, false)), .q (.mov (.t 5))⟩,
                         ⟨(some 85), (some (82, false)), .q (.len false (.t 84))⟩,
                         ⟨(some 86), (some (82, false)), .q (.bin false .geq (.t 83) (.t 85))⟩,
                         ⟨(some 87), none, .q (.pick (.t 82) (.c (.bool true)) (.t 86))⟩,
                         ⟨(some 88), none, .q (.mov (.t 87))⟩,
                         ⟨(some 89), (some (88, false)), .q (.mov (.t 5))⟩,
                         ⟨(some 90), (some (88, false)), .q (.mov (.t 14))⟩,
                         ⟨(some 91), (some (88, false)), .q (.iad 6 (.t 89) (.t 90))⟩,
                         ⟨(some 92), (some (88, false)), .q (.fad 2 (.t 91))⟩,
                         ⟨(some 93), (some (88, false)), .q (.load false 1 (.t 92))⟩,
                         ⟨(some 94), (some (88, false)), .q (.bin false .geq (.t 93) (.c (.int .i64 0)))⟩,
                         ⟨(some 95), (some (88, false)), .q (.mov (.t 94))⟩,
                         ⟨(some 96), (some (95, true)), .q (.mov (.t 7))⟩,
                         ⟨(some 97), (some (95, true)), .q (.mov (.t 5))⟩,
                         ⟨(some 98), (some (95, true)), .q (.mov (.t 14))⟩,
                         ⟨(some 99), (some (95, true)), .q (.iad 6 (.t 97) (.t 98))⟩,
                         ⟨(some 100), (some (95, true)), .q (.fad 2 (.t 99))⟩,
                         ⟨(some 101), (some (95, true)), .q (.load false 1 (.t 100))⟩,
                         ⟨(some 102), (some (95, true)), .a (.call (.fn 45) false [.lend (.t 96), .lend (.t 101)])⟩,
                         ⟨(some 103), (some (95, true)), .q (.un .not (.t 102))⟩,
                         ⟨(some 104), (some (88, false)), .q (.pick (.t 95) (.t 103) (.c (.bool false)))⟩,
                         ⟨(some 105), none, .q (.pick (.t 88) (.c (.bool true)) (.t 104))⟩])
                       (.keep [1, 5, 7, 14, 27, 29, 30, 32, 35, 36, 74, 75, 76, 105]
                       (.cond (.t 105)
                        (.seq
                         (.reg [⟨(some 4), none, .a (.asg (.c (.bool false)))⟩])
                         .ret)
                        .skip)))
                      (.keep [1, 5, 7, 14, 27, 29, 30, 32, 35, 36, 74, 75, 76]
                      (.seq
                       (.reg [⟨(some 106), none, .q (.mov (.t 5))⟩,
                         ⟨(some 107), none, .q (.mov (.t 14))⟩,
                         ⟨(some 108), none, .q (.iad 6 (.t 106) (.t 107))⟩,
                         ⟨(some 109), none, .q (.fad 3 (.t 108))⟩,
                         ⟨(some 110), none, .q (.load false 1 (.t 109))⟩,
                         ⟨(some 111), none, .q (.len false (.t 110))⟩,
                         ⟨(some 112), none, .q (.mov (.c (.int .i64 0)))⟩])
                       (.keep [1, 5, 7, 27, 29, 30, 32, 35, 36, 74, 75, 76, 106, 107, 108, 109, 110, 111, 112]
                       (.block 2
                        (.loop [1, 5, 7, 27, 29, 30, 32, 35, 36, 74, 75, 76, 106, 107, 108, 109, 110, 111, 112]
                         (.seq
                          (.reg [⟨(some 113), none, .q (.bin false .lss (.t 112) (.t 111))⟩])
                          (.keep [1, 5, 7, 27, 29, 30, 32, 35, 36, 74, 75, 76, 106, 107, 108, 109, 110, 111, 112, 113]
                          (.seq
                           (.cond (.t 113)
                            .skip
                            (.exit 2))
                           (.keep [1, 5, 7, 27, 29, 30, 32, 35, 36, 74, 75, 76, 106, 107, 108, 109, 110, 111, 112]
                           (.seq
                            (.block 3
                             (.seq
                              (.reg [⟨(some 114), none, .q (.iad 3 (.t 110) (.t 112))⟩,
                                ⟨(some 115), none, .q (.load true 3 (.t 114))⟩,
                                ⟨(some 16), none, .a (.alloc 57 [.v (.string ({ data := #[] })), .v (.int .i64 0), .v (.int .i64 0)])⟩,
                                ⟨none, none, .a (.store 3 (.t 16) (.t 115))⟩])
                              (.keep [1, 5, 7, 16, 27, 29, 30, 32, 35, 36, 74, 75, 76, 106, 107, 108, 109, 110, 111, 112]
                              (.seq
                               (.reg [⟨(some 116), none, .q (.mov (.t 7))⟩,
                                 ⟨(some 117), none, .q (.fad 2 (.t 16))⟩,
                                 ⟨(some 118), none, .q (.load false 1 (.t 117))⟩,
                                 ⟨(some 119), none, .a (.call (.fn 45) false [.lend (.t 116), .lend (.t 118)])⟩,
                                 ⟨(some 120), none, .q (.un .not (.t 119))⟩])
                               (.keep [1, 5, 7, 27, 29, 30, 32, 35, 36, 74, 75, 76, 106, 107, 108, 109, 110, 111, 112, 120]
                               (.cond (.t 120)
                                (.seq
                                 (.reg [⟨(some 4), none, .a (.asg (.c (.bool false)))⟩])
                                 .ret)
                                .skip))))))
                            (.keep [1, 5, 7, 27, 29, 30, 32, 35, 36, 74, 75, 76, 106, 107, 108, 109, 110, 111, 112]
                            (.reg [⟨(some 121), none, .q (.bin false .add (.t 112) (.c (.int .i64 1)))⟩,
                              ⟨(some 112), none, .q (.mov (.t 121))⟩]))))))))))))))))
                   (.keep [1, 5, 7, 27, 29, 30, 32, 35, 36, 74, 75, 76]
                   (.reg [⟨(some 122), none, .q (.bin false .add (.t 76) (.c (.int .i64 1)))⟩,
                     ⟨(some 76), none, .q (.mov (.t 122))⟩])))))))))))))))
           .skip)))
         (.seq
          (.reg [⟨(some 124), none, .q (.mov (.t 1))⟩,
            ⟨(some 125), none, .a (.call (.fn 46) true [.lend (.t 124)])⟩,
            ⟨(some 123), none, .q (.mov (.t 125))⟩,
            ⟨(some 126), none, .q (.ext 123 0)⟩,
            ⟨(some 127), none, .q (.ext 123 1)⟩,
            ⟨(some 128), none, .q (.ext 123 2)⟩,
            ⟨(some 17), none, .q (.mov (.t 126))⟩,
            ⟨(some 18), none, .a (.asg (.t 127))⟩,
            ⟨(some 19), none, .a (.asg (.t 128))⟩])
          (.keep [17, 18, 19, 123, 125, 126]
          (.seq
           (.reg [⟨(some 130), none, .q (.mov (.t 17))⟩,
             ⟨(some 131), none, .q (.mov (.t 18))⟩,
             ⟨(some 132), none, .q (.mov (.t 19))⟩,
             ⟨(some 133), none, .a (.call (.fn 47) false [.lend (.t 130), .lend (.t 131), .lend (.t 132)])⟩,
             ⟨(some 129), none, .q (.mov (.t 133))⟩,
             ⟨(some 134), none, .q (.ext 129 0)⟩,
             ⟨(some 135), none, .q (.ext 129 1)⟩,
             ⟨(some 20), none, .a (.asg (.t 134))⟩,
             ⟨(some 21), none, .a (.asg (.t 135))⟩])
           (.keep [17, 18, 19, 20, 21, 123, 125, 126]
           (.seq
            (.reg [⟨(some 137), none, .q (.mov (.t 17))⟩,
              ⟨(some 138), none, .q (.mov (.t 18))⟩,
              ⟨(some 139), none, .q (.mov (.t 19))⟩,
              ⟨(some 140), none, .a (.call (.fn 48) false [.lend (.t 137), .lend (.t 138), .lend (.t 139)])⟩,
              ⟨(some 136), none, .q (.mov (.t 140))⟩,
              ⟨(some 141), none, .q (.ext 136 0)⟩,
              ⟨(some 142), none, .q (.ext 136 1)⟩,
              ⟨(some 22), none, .a (.asg (.t 141))⟩,
              ⟨(some 23), none, .a (.asg (.t 142))⟩])
            (.keep [20, 21, 22, 23]
            (.seq
             (.reg [⟨(some 143), none, .q (.mov (.t 21))⟩,
               ⟨(some 144), none, .q (.mov (.t 23))⟩,
               ⟨(some 145), none, .q (.bin true .eql (.t 143) (.t 144))⟩,
               ⟨(some 146), none, .q (.mov (.t 145))⟩,
               ⟨(some 147), (some (146, true)), .q (.mov (.t 20))⟩,
               ⟨(some 148), (some (146, true)), .q (.mov (.t 22))⟩,
               ⟨(some 149), (some (146, true)), .q (.bin false .eql (.t 147) (.t 148))⟩,
               ⟨(some 150), none, .q (.pick (.t 146) (.t 149) (.c (.bool false)))⟩,
               ⟨(some 4), none, .a (.asg (.t 150))⟩])
             .ret))))))))))))))))))))

set_option maxHeartbeats 1000000 in
set_option maxRecDepth 100000 in
theorem d10 (code more : List Int) (hc : (code.length : Int) ≤ 9223372036854775807) (hm : (more.length : Int) ≤ 9223372036854775807) (hcb : ∀ b ∈ code, 0 ≤ b ∧ b ≤ 255) (hmb : ∀ b ∈ more, 0 ≤ b ∧ b ≤ 255) :
    Does Go.Proofs.Try.prog 10 [.fsl 1 (code.map bv), .fsl 1 (more.map bv)] false (.v (.bool true)) [.dead, .dead] := by
  refine does_intro (mc := m10) (N := 151) (rs := [4]) (fx := []) 2 rfl (by decide +kernel) ?_
  simp only [m10, EV, Nat.reduceEqDiff, Nat.reduceBEq, Nat.reduceLT, Nat.reduceLeDiff, Nat.reduceAdd, Nat.reduceSub, reduceIte]
  refine callK_i (d39 code more hc hm) ?_
  simp only [EV, Nat.reduceEqDiff, Nat.reduceBEq, Nat.reduceLT, Nat.reduceLeDiff, Nat.reduceAdd, Nat.reduceSub, reduceIte]
  refine cK_cut (fun h => ?_) (fun h => ?_)
  · simp only [EV, Nat.reduceEqDiff, Nat.reduceBEq, Nat.reduceLT, Nat.reduceLeDiff, Nat.reduceAdd, Nat.reduceSub, reduceIte]
    simp only [EV, Nat.reduceEqDiff, Nat.reduceBEq, Nat.reduceLT, Nat.reduceLeDiff, Nat.reduceAdd, Nat.reduceSub, reduceIte, evRE, retVC, cellV', evR, nfz, nfzs, nfzss, List.contains_nil, List.contains_cons, Bool.or_false, or_true]
  have h1 : (code.length : Int) ≤ 1048576 ∧ (more.length : Int) ≤ 1048576 := by
    simp only [Bool.or_eq_false_iff, decide_eq_false_iff_not] at h
    omega
  clear h
  simp only [EV, Nat.reduceEqDiff, Nat.reduceBEq, Nat.reduceLT, Nat.reduceLeDiff, Nat.reduceAdd, Nat.reduceSub, reduceIte]
  refine callE_i (p42 code h1.1 hcb) (fun r o h => ⟨h.2, h.1⟩) ?_
  rintro _ ⟨l, n, rfl, l9, hs, n2⟩
  have hl : (l.length : Int) ≤ 1048576 := by omega
  have hn : (n.length : Int) ≤ 1048576 := by omega
  have d27' := d27 l n hl hs hn
  have d29' := d29 l n hl hs hn
  simp only [Ty.frz, iv_frz, pbeq, EV, Nat.reduceEqDiff, Nat.reduceBEq, Nat.reduceLT, Nat.reduceLeDiff, Nat.reduceAdd, Nat.reduceSub, reduceIte]
  have hRR : rchOk l n = true → ∃ R, reachL l true n = R ∧ rchOk l R = true ∧ reachL l true R = R ∧ (n.all fun k => R.contains k) = true ∧ (∀ k ∈ R, 0 ≤ k ∧ k < (l.length : Int)) ∧ ∀ m ∈ R, ∀ k ∈ kids l true m, R.contains k = true := by
    intro e
    have ht := (rchOk_spec e).1
    exact ⟨_, rfl, reach_ok ht, reach_again ht, reach_from e, reach_in, fun m hm k hk => List.contains_iff_mem.2 (reach_step ht hm hk)⟩
  have hRl : ((if rchOk l n = true then reachL l true n else []).length : Int) ≤ 1048576 := by
    split
    · have hb := nodup_le (up_nodup (reachL_up l true n)) reach_in
      omega
    · simp
  have hR0 : rchOk l n = true → (if rchOk l n = true then reachL l true n else []) = reachL l true n := fun e => if_pos e
  generalize (if rchOk l n = true then reachL l true n else []) = R at d27' d29' hRl hR0
  refine callK_i d29' ?_
  simp only [Ty.frz, iv_frz, pbeq, EV, Nat.reduceEqDiff, Nat.reduceBEq, Nat.reduceLT, Nat.reduceLeDiff, Nat.reduceAdd, Nat.reduceSub, reduceIte]
  refine callK_i d27' ?_
  simp only [Ty.frz, iv_frz, pbeq, EV, Nat.reduceEqDiff, Nat.reduceBEq, Nat.reduceLT, Nat.reduceLeDiff, Nat.reduceAdd, Nat.reduceSub, reduceIte]
  refine callK_i (d43 R R hRl) ?_
  simp only [decide_true, Ty.frz, iv_frz, pbeq, EV, Nat.reduceEqDiff, Nat.reduceBEq, Nat.reduceLT, Nat.reduceLeDiff, Nat.reduceAdd, Nat.reduceSub, reduceIte]
  refine awp_join (fun _ : Unit => True) (fun _ => stl [(1, .fsl 1 (more.map bv))]) ?_ ?_
  · simp only [EV, Nat.reduceEqDiff, Nat.reduceBEq, Nat.reduceLT, Nat.reduceLeDiff, Nat.reduceAdd, Nat.reduceSub, reduceIte]
    rcases e : rchOk l n with _ | _
    · simp only [EV, Nat.reduceEqDiff, Nat.reduceBEq, Nat.reduceLT, Nat.reduceLeDiff, Nat.reduceAdd, Nat.reduceSub, reduceIte]
      exact ⟨(), trivial⟩
    obtain ⟨R', hR, r1, r2, r3, r4, r5⟩ := hRR e
    have hRe : R' = R := by rw [← hR, hR0 e]
    subst hRe
    clear hRR d27' d29' hR0
    have d29' := d29 l R' hl hs hRl
    rw [r1, if_pos rfl, r2] at d29'
    simp only [Ty.frz, iv_frz, pbeq, EV, Nat.reduceEqDiff, Nat.reduceBEq, Nat.reduceLT, Nat.reduceLeDiff, Nat.reduceAdd, Nat.reduceSub, reduceIte]
    refine callK_i d29' ?_
    simp only [Ty.frz, iv_frz, pbeq, EV, Nat.reduceEqDiff, Nat.reduceBEq, Nat.reduceLT, Nat.reduceLeDiff, Nat.reduceAdd, Nat.reduceSub, reduceIte]
    refine callK_i (d43 R' R' hRl) ?_
    simp only [decide_true, Ty.frz, iv_frz, pbeq, EV, Nat.reduceEqDiff, Nat.reduceBEq, Nat.reduceLT, Nat.reduceLeDiff, Nat.reduceAdd, Nat.reduceSub, reduceIte]
    refine callK_i (d44 n R' hn hRl) ?_
    simp only [r3, Ty.frz, iv_frz, pbeq, EV, Nat.reduceEqDiff, Nat.reduceBEq, Nat.reduceLT, Nat.reduceLeDiff, Nat.reduceAdd, Nat.reduceSub, reduceIte]
    refine awp_loop (fun i : Nat => i ≤ R'.length) (fun i => stl [(1, .fsl 1 (more.map bv)), (5, .usl 59 6 (l.map Ty.o)), (7, .usl 3 1 (R'.map iv)), (27, .tup [.dead, .dead]), (29, .dead), (30, .dead), (32, .tup [.dead, .v (.bool true)]), (35, .dead), (36, .dead), (74, .sref 7 [] 0 R'.length), (75, .v (.int .i64 (R'.length : Int))), (76, .v (.int .i64 (i : Int)))]) (fun i => R'.length - i) 0 (Nat.zero_le _) ?_ ?_
    · simp only [EV, Nat.reduceEqDiff, Nat.reduceBEq, Nat.reduceLT, Nat.reduceLeDiff, Nat.reduceAdd, Nat.reduceSub, reduceIte]
      rfl
    · intro i hi
      simp only [EV, Nat.reduceEqDiff, Nat.reduceBEq, Nat.reduceLT, Nat.reduceLeDiff, Nat.reduceAdd, Nat.reduceSub, reduceIte]
      refine cK_cut (fun h => ?_) (fun h => ?_)
      · have h1 : i < R'.length := by simpa using h
        have h2 : (i : Int) < (R'.length : Int) := by omega
        obtain ⟨g0, g1⟩ := r4 _ (List.getElem_mem h1)
        have gn : R'[i].toNat < l.length := by omega
        have q1 : decide (R'[i] < 0) = false := by simp; omega
        have q2 : decide ((l.length : Int) ≤ R'[i]) = false := by simp; omega
        have hk := r5 _ (List.getElem_mem h1)
        rw [kids_at gn] at hk
        clear h
        have h6 := (tysOk_good (tabOk_tys (rchOk_spec e).1) gn).few
        simp only [nth_map h1, h1, h2, q1, q2, g0, g1, gn, nth_map gn, iv, Ty.o, EV, Nat.reduceEqDiff, Nat.reduceBEq, Nat.reduceLT, Nat.reduceLeDiff, Nat.reduceAdd, Nat.reduceSub, reduceIte]
        rcases e5 : decide (0 ≤ l[R'[i].toNat].base) with _ | _
        simp only [nth_map h1, h1, h2, q1, q2, g0, g1, gn, nth_map gn, iv, Ty.o, EV, Nat.reduceEqDiff, Nat.reduceBEq, Nat.reduceLT, Nat.reduceLeDiff, Nat.reduceAdd, Nat.reduceSub, reduceIte]
        rotate_left
        have hb := hk l[R'[i].toNat].base (by simp only [prt, e5, Bool.true_or, Bool.and_self, if_true, List.mem_append, List.mem_singleton, true_or])
        simp only [iv_frz, nth_map h1, h1, h2, q1, q2, g0, g1, gn, nth_map gn, iv, Ty.o, EV, Nat.reduceEqDiff, Nat.reduceBEq, Nat.reduceLT, Nat.reduceLeDiff, Nat.reduceAdd, Nat.reduceSub, reduceIte]
        refine callK_i (d45 R' l[R'[i].toNat].base hRl) ?_
        simp only [hb, iv_frz, nth_map h1, h1, h2, q1, q2, g0, g1, gn, nth_map gn, iv, Ty.o, EV, Nat.reduceEqDiff, Nat.reduceBEq, Nat.reduceLT, Nat.reduceLeDiff, Nat.reduceAdd, Nat.reduceSub, reduceIte]
        all_goals
          refine awp_loop (fun k : Nat => k ≤ l[R'[i].toNat].fields.length) (fun k => stl [(1, .fsl 1 (more.map bv)), (5, .usl 59 6 (l.map Ty.o)), (7, .usl 3 1 (R'.map iv)), (27, .tup [.dead, .dead]), (29, .dead), (30, .dead), (32, .tup [.dead, .v (.bool true)]), (35, .dead), (36, .dead), (74, .sref 7 [] 0 R'.length), (75, .v (.int .i64 (R'.length : Int))), (76, .v (.int .i64 (i : Int))), (106, .sref 5 [] 0 l.length), (107, .v (.int .i64 R'[i])), (108, .ref 5 [] R'[i].toNat 0), (109, .ref 5 [] R'[i].toNat 3), (110, .sref 5 [(R'[i].toNat, 3)] 0 l[R'[i].toNat].fields.length), (111, .v (.int .i64 (l[R'[i].toNat].fields.length : Int))), (112, .v (.int .i64 (k : Int)))]) (fun k => l[R'[i].toNat].fields.length - k) 0 (Nat.zero_le _) ?_ ?_
          · simp only [EV, Nat.reduceEqDiff, Nat.reduceBEq, Nat.reduceLT, Nat.reduceLeDiff, Nat.reduceAdd, Nat.reduceSub, reduceIte]
            rfl
          · intro k hk'
            simp only [EV, Nat.reduceEqDiff, Nat.reduceBEq, Nat.reduceLT, Nat.reduceLeDiff, Nat.reduceAdd, Nat.reduceSub, reduceIte]
            refine cK_cut (fun h => ?_) (fun h => ?_)
            · have j1 : k < l[R'[i].toNat].fields.length := by simpa using h
              have j2 : (k : Int) < (l[R'[i].toNat].fields.length : Int) := by omega
              have hf := hk l[R'[i].toNat].fields[k].typ (by simp only [prt, List.mem_append]; exact .inr (List.mem_map.2 ⟨_, List.getElem_mem j1, rfl⟩))
              clear h
              have z0 : (l.map Ty.o)[R'[i].toNat]? = some l[R'[i].toNat].o := by rw [List.getElem?_map, List.getElem?_eq_getElem gn]; rfl
              have z1 : nth ((l[R'[i].toNat].fields).map Fd.o) k = l[R'[i].toNat].fields[k].o := nth_map j1
              simp only [iv_frz, z0, z1, j1, j2, g0, g1, gn, nth_map gn, Ty.o, Fd.o, EV, Nat.reduceEqDiff, Nat.reduceBEq, Nat.reduceLT, Nat.reduceLeDiff, Nat.reduceAdd, Nat.reduceSub, reduceIte]
              refine callK_i (d45 R' l[R'[i].toNat].fields[k].typ hRl) ?_
              simp only [hf, EV, Nat.reduceEqDiff, Nat.reduceBEq, Nat.reduceLT, Nat.reduceLeDiff, Nat.reduceAdd, Nat.reduceSub, reduceIte]
              rw [w64 _ (by omega)]
              exact ⟨k + 1, j1, by omega, rfl⟩
            · simp only [EV, Nat.reduceEqDiff, Nat.reduceBEq, Nat.reduceLT, Nat.reduceLeDiff, Nat.reduceAdd, Nat.reduceSub, reduceIte]
              rw [w64 _ (by omega)]
              exact ⟨i + 1, h1, by omega, rfl⟩
      · simp only [EV, Nat.reduceEqDiff, Nat.reduceBEq, Nat.reduceLT, Nat.reduceLeDiff, Nat.reduceAdd, Nat.reduceSub, reduceIte]
        exact ⟨(), trivial⟩
  rintro _ _
  simp only [EV, Nat.reduceEqDiff, Nat.reduceBEq, Nat.reduceLT, Nat.reduceLeDiff, Nat.reduceAdd, Nat.reduceSub, reduceIte]
  refine callE_i (p46 more h1.2 hmb) (fun r o h => ⟨h.2, h.1⟩) ?_
  rintro _ ⟨l', m, s, rfl, l9', hs', s9⟩
  have hl' : (l'.length : Int) ≤ 1048576 := by omega
  simp only [pbeq, EV, Nat.reduceEqDiff, Nat.reduceBEq, Nat.reduceLT, Nat.reduceLeDiff, Nat.reduceAdd, Nat.reduceSub, reduceIte]
  refine callK_i (d47 l' m s hl' hs') ?_
  simp only [pbeq, EV, Nat.reduceEqDiff, Nat.reduceBEq, Nat.reduceLT, Nat.reduceLeDiff, Nat.reduceAdd, Nat.reduceSub, reduceIte]
  refine callK_i (d48 l' m s hl' hs') ?_
  simp only [pbeq, EV, Nat.reduceEqDiff, Nat.reduceBEq, Nat.reduceLT, Nat.reduceLeDiff, Nat.reduceAdd, Nat.reduceSub, reduceIte]
  simp only [pbeq, EV, Nat.reduceEqDiff, Nat.reduceBEq, Nat.reduceLT, Nat.reduceLeDiff, Nat.reduceAdd, Nat.reduceSub, reduceIte, evRE, retVC, cellV', evR, nfz, nfzs, nfzss, List.contains_nil, List.contains_cons, Bool.or_false, or_true]

end Go.AM
