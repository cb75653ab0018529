/- Contracts of functions of the given program, for the law FnExactSameStore: what they return and what they write, under the bounds that each theorem states. -/
import Derived.Test.YtjbmgopednpbmaaC9
import Derived.Test.YtjbmgopednpbmaaU10
namespace Go.AM
set_option linter.unusedVariables false
set_option linter.unusedSimpArgs false

/-- loop.example/g00837/spec.SameStore -/
def m14 : MC :=
  (.seq
   (.reg [⟨(some 4), none, .a (.asg (.c (.bool false)))⟩])
   (.seq
    (.seq
     (.reg [⟨(some 8), none, .q (.mov (.t 0))⟩,
       ⟨(some 9), none, .q (.len false (.t 8))⟩,
       ⟨(some 10), none, .q (.mov (.t 1))⟩,
       ⟨(some 11), none, .q (.len false (.t 10))⟩,
       ⟨(some 12), none, .q (.bin false .neq (.t 9) (.t 11))⟩])
     (.cond (.t 12)
      (.seq
       (.reg [⟨(some 4), none, .a (.asg (.c (.bool false)))⟩])
       .ret)
      .skip))
    (.seq
     (.seq
      (.reg [⟨(some 13), none, .q (.mov (.t 0))⟩,
        ⟨(some 14), none, .q (.len false (.t 13))⟩,
        ⟨(some 15), none, .q (.mov (.c (.int .i64 0)))⟩])
      (.block 0
       (.loop [0, 1, 13, 14, 15]
        (.seq
         (.reg [⟨(some 16), none, .q (.bin false .lss (.t 15) (.t 14))⟩])
         (.seq
          (.cond (.t 16)
           .skip
           (.exit 0))
          (.seq
           (.block 1
            (.seq
             (.reg [⟨(some 17), none, .q (.mov (.t 15))⟩,
               ⟨(some 18), none, .q (.iad 6 (.t 13) (.t 15))⟩,
               ⟨(some 19), none, .q (.load true 6 (.t 18))⟩,
               ⟨(some 6), none, .a (.alloc 86 [.v (.string ({ data := #[] })), .s 9 1, .s 59 6, .s 130 6, .s 132 2, .s 89 3])⟩,
               ⟨(some 5), none, .a (.asg (.t 17))⟩,
               ⟨none, none, .a (.store 6 (.t 6) (.t 19))⟩])
             (.seq
              (.seq
               (.dreg [⟨(some 20), none, .q (.fad 0 (.t 6))⟩,
                 ⟨(some 21), none, .q (.load true 5 (.t 20))⟩,
                 ⟨(some 22), none, .q (.mov (.t 1))⟩,
                 ⟨(some 23), none, .q (.mov (.t 5))⟩,
                 ⟨(some 24), none, .q (.iad 6 (.t 22) (.t 23))⟩,
                 ⟨(some 25), none, .q (.fad 0 (.t 24))⟩,
                 ⟨(some 26), none, .q (.load true 5 (.t 25))⟩,
                 ⟨(some 27), none, .a (.call (.fn 63) false [.lend (.t 21), .lend (.t 26)])⟩,
                 ⟨(some 28), none, .q (.un .not (.t 27))⟩,
                 ⟨(some 29), none, .q (.mov (.t 28))⟩,
                 ⟨(some 30), (some (29, false)), .q (.fad 5 (.t 6))⟩,
                 ⟨(some 31), (some (29, false)), .q (.load false 1 (.t 30))⟩,
                 ⟨(some 32), (some (29, false)), .q (.len false (.t 31))⟩,
                 ⟨(some 33), (some (29, false)), .q (.mov (.t 1))⟩,
                 ⟨(some 34), (some (29, false)), .q (.mov (.t 5))⟩,
                 ⟨(some 35), (some (29, false)), .q (.iad 6 (.t 33) (.t 34))⟩,
                 ⟨(some 36), (some (29, false)), .q (.fad 5 (.t 35))⟩,
                 ⟨(some 37), (some (29, false)), .q (.load false 1 (.t 36))⟩,
                 ⟨(some 38), (some (29, false)), .q (.len false (.t 37))⟩,
                 ⟨(some 39), (some (29, false)), .q (.bin false .neq (.t 32) (.t 38))⟩,
                 ⟨(some 40), none, .q (.pick (.t 29) (.c (.bool true)) (.t 39))⟩])
               (.cond (.t 40)
                (.seq
                 (.reg [⟨(some 4), none, .a (.asg (.c (.bool false)))⟩])
                 .ret)
                .skip))
              (.seq
               (.reg [⟨(some 41), none, .q (.fad 5 (.t 6))⟩,
                 ⟨(some 42), none, .q (.load false 1 (.t 41))⟩,
                 ⟨(some 43), none, .q (.len false (.t 42))⟩,
                 ⟨(some 44), none, .q (.mov (.c (.int .i64 0)))⟩])
               (.block 2
                (.loop [0, 1, 5, 6, 13, 14, 15, 43, 44]
                 (.seq
                  (.reg [⟨(some 45), none, .q (.bin false .lss (.t 44) (.t 43))⟩])
                  (.seq
                   (.cond (.t 45)
                    .skip
                    (.exit 2))
                   (.seq
                    (.block 3
                     (.seq
                      (.reg [⟨(some 46), none, .q (.mov (.t 44))⟩,
                        ⟨(some 7), none, .a (.asg (.t 46))⟩])
                      (.seq
                       (.dreg [⟨(some 47), none, .q (.fad 5 (.t 6))⟩,
                         ⟨(some 48), none, .q (.load false 1 (.t 47))⟩,
                         ⟨(some 49), none, .q (.mov (.t 7))⟩,
                         ⟨(some 50), none, .q (.iad 3 (.t 48) (.t 49))⟩,
                         ⟨(some 51), none, .q (.load true 3 (.t 50))⟩,
                         ⟨(some 52), none, .q (.mov (.t 1))⟩,
                         ⟨(some 53), none, .q (.mov (.t 5))⟩,
                         ⟨(some 54), none, .q (.iad 6 (.t 52) (.t 53))⟩,
                         ⟨(some 55), none, .q (.fad 5 (.t 54))⟩,
                         ⟨(some 56), none, .q (.load false 1 (.t 55))⟩,
                         ⟨(some 57), none, .q (.mov (.t 7))⟩,
                         ⟨(some 58), none, .q (.iad 3 (.t 56) (.t 57))⟩,
                         ⟨(some 59), none, .q (.load true 3 (.t 58))⟩,
                         ⟨(some 60), none, .q (.eqa true [1, 1, 0] (.t 51) (.t 59))⟩])
                       (.cond (.t 60)
                        (.seq
                         (.reg [⟨(some 4), none, .a (.asg (.c (.bool false)))⟩])
                         .ret)
                        .skip))))
                    (.reg [⟨(some 61), none, .q (.bin false .add (.t 44) (.c (.int .i64 1)))⟩,
                      ⟨(some 44), none, .q (.mov (.t 61))⟩]))))))))))
           (.reg [⟨(some 62), none, .q (.bin false .add (.t 15) (.c (.int .i64 1)))⟩,
             ⟨(some 15), none, .q (.mov (.t 62))⟩])))))))
     (.seq
      (.reg [⟨(some 4), none, .a (.asg (.c (.bool true)))⟩])
      .ret))))


set_option maxRecDepth 100000 in
theorem d14 (a b : List Modu) (ha : (a.length : Int) ≤ 1048576) (hb : (b.length : Int) ≤ 1048576) (hx : ∀ x ∈ a, x.sm) (hy : ∀ x ∈ b, x.sm) : Does Go.Proofs.Try.prog 14 [.fsl 6 (a.map Modu.z), .fsl 6 (b.map Modu.z)] false (.v (.bool (eqL sameMo a b))) [.dead, .dead] := by
  refine does_intro (mc := m14) (N := 63) (rs := [4]) (fx := []) 2 rfl (by decide +kernel) ?_
  simp only [m14, EV, Nat.reduceEqDiff, Nat.reduceBEq, Nat.reduceLT, Nat.reduceLeDiff, Nat.reduceAdd, Nat.reduceSub, reduceIte]
  refine cK_cut (fun h => ?_) (fun h => ?_)
  · have hn : ¬ a.length = b.length := by simp only [bne_iff_ne, ne_eq] at h; omega
    simp only [EV, Nat.reduceEqDiff, Nat.reduceBEq, Nat.reduceLT, Nat.reduceLeDiff, Nat.reduceAdd, Nat.reduceSub, reduceIte]
    simp only [eqL_ne hn, EV, Nat.reduceEqDiff, Nat.reduceBEq, Nat.reduceLT, Nat.reduceLeDiff, Nat.reduceAdd, Nat.reduceSub, reduceIte, retVC, cellV', evR, nfz, nfzs, nfzss, List.contains_nil, List.contains_cons, Bool.or_false, or_true]
  have hl : a.length = b.length := by simp only [bne_eq_false_iff_eq] at h; omega
  clear h
  simp only [EV, Nat.reduceEqDiff, Nat.reduceBEq, Nat.reduceLT, Nat.reduceLeDiff, Nat.reduceAdd, Nat.reduceSub, reduceIte]
  refine awp_loop (fun i : Nat => i ≤ a.length ∧ eqTo sameMo a b i) (fun i => stl [(0, .fsl 6 (a.map Modu.z)), (1, .fsl 6 (b.map Modu.z)), (13, .fsl 6 (a.map Modu.z)), (14, .v (.int .i64 (a.length : Int))), (15, .v (.int .i64 (i : Int)))]) (fun i => a.length - i) 0 ⟨Nat.zero_le _, fun j _ _ h => absurd h (by omega)⟩ ?_ ?_
  · simp only [EV, Nat.reduceEqDiff, Nat.reduceBEq, Nat.reduceLT, Nat.reduceLeDiff, Nat.reduceAdd, Nat.reduceSub, reduceIte]
    rfl
  · rintro i ⟨hi, hto⟩
    simp only [EV, Nat.reduceEqDiff, Nat.reduceBEq, Nat.reduceLT, Nat.reduceLeDiff, Nat.reduceAdd, Nat.reduceSub, reduceIte]
    refine cK_cut (fun h => ?_) (fun h => ?_)
    · have h1 : i < a.length := by simpa using h
      have h2 : (i : Int) < (a.length : Int) := by omega
      have g1 : i < b.length := by omega
      have g2 : (i : Int) < (b.length : Int) := by omega
      have sx := hx _ (List.getElem_mem h1)
      have sy := hy _ (List.getElem_mem g1)
      have hzx : a[i].z = [.v (.string a[i].scope.name), .fsl 1 (a[i].scope.imports.map Str.z), .fsl 6 (a[i].scope.types.map Ty.z), .fsl 6 (a[i].scope.objects.map Ob.z), .fsl 2 (a[i].scope.uses.map Us.z), .fsl 3 (a[i].seen.map Seen.z)] := rfl
      have hzy : b[i].z = [.v (.string b[i].scope.name), .fsl 1 (b[i].scope.imports.map Str.z), .fsl 6 (b[i].scope.types.map Ty.z), .fsl 6 (b[i].scope.objects.map Ob.z), .fsl 2 (b[i].scope.uses.map Us.z), .fsl 3 (b[i].seen.map Seen.z)] := rfl
      have hsx := sx.2.1
      have hsy := sy.2.1
      simp only [nth_map h1, nth_map g1, h2, g2, hzx, hzy, EV, Nat.reduceEqDiff, Nat.reduceBEq, Nat.reduceLT, Nat.reduceLeDiff, Nat.reduceAdd, Nat.reduceSub, reduceIte]
      refine callD_i (d63 a[i].scope b[i].scope sx.1 sy.1) rfl ?_
      simp only [nth_map h1, nth_map g1, h2, g2, hzx, hzy, EV, Nat.reduceEqDiff, Nat.reduceBEq, Nat.reduceLT, Nat.reduceLeDiff, Nat.reduceAdd, Nat.reduceSub, reduceIte]
      refine gK_cut (fun h => ?_) (fun h => ?_)
      · have e : sameMo a[i] b[i] = false := by
          unfold sameMo
          simp_all
        simp only [h, EV, Nat.reduceEqDiff, Nat.reduceBEq, Nat.reduceLT, Nat.reduceLeDiff, Nat.reduceAdd, Nat.reduceSub, reduceIte]
        simp only [eqL_no h1 g1 e, EV, Nat.reduceEqDiff, Nat.reduceBEq, Nat.reduceLT, Nat.reduceLeDiff, Nat.reduceAdd, Nat.reduceSub, reduceIte, retVC, cellV', evR, nfz, nfzs, nfzss, List.contains_nil, List.contains_cons, Bool.or_false, or_true]
      · have hq : sameSc a[i].scope b[i].scope = true := by simpa using h
        simp only [h, nth_map h1, nth_map g1, h2, g2, hzx, hzy, EV, Nat.reduceEqDiff, Nat.reduceBEq, Nat.reduceLT, Nat.reduceLeDiff, Nat.reduceAdd, Nat.reduceSub, reduceIte]
        clear h
        refine cK_cut (fun h => ?_) (fun h => ?_)
        · have hn : ¬ a[i].seen.length = b[i].seen.length := by simp only [bne_iff_ne, ne_eq] at h; omega
          have e : sameMo a[i] b[i] = false := by unfold sameMo; rw [eqL_ne hn, Bool.and_false]
          simp only [EV, Nat.reduceEqDiff, Nat.reduceBEq, Nat.reduceLT, Nat.reduceLeDiff, Nat.reduceAdd, Nat.reduceSub, reduceIte]
          simp only [eqL_no h1 g1 e, EV, Nat.reduceEqDiff, Nat.reduceBEq, Nat.reduceLT, Nat.reduceLeDiff, Nat.reduceAdd, Nat.reduceSub, reduceIte, retVC, cellV', evR, nfz, nfzs, nfzss, List.contains_nil, List.contains_cons, Bool.or_false, or_true]
        have hn : a[i].seen.length = b[i].seen.length := by simp only [bne_eq_false_iff_eq] at h; omega
        clear h
        simp only [nth_map h1, nth_map g1, h2, g2, hzx, hzy, EV, Nat.reduceEqDiff, Nat.reduceBEq, Nat.reduceLT, Nat.reduceLeDiff, Nat.reduceAdd, Nat.reduceSub, reduceIte]
        refine awp_loop (fun j : Nat => j ≤ a[i].seen.length ∧ eqTo qSeen a[i].seen b[i].seen j) (fun j => stl [(0, .fsl 6 (a.map Modu.z)), (1, .fsl 6 (b.map Modu.z)), (5, .v (.int .i64 (i : Int))), (6, .box 86 a[i].z), (13, .fsl 6 (a.map Modu.z)), (14, .v (.int .i64 (a.length : Int))), (15, .v (.int .i64 (i : Int))), (43, .v (.int .i64 (a[i].seen.length : Int))), (44, .v (.int .i64 (j : Int)))]) (fun j => a[i].seen.length - j) 0 ⟨Nat.zero_le _, fun j _ _ h => absurd h (by omega)⟩ ?_ ?_
        · simp only [hzx, EV, Nat.reduceEqDiff, Nat.reduceBEq, Nat.reduceLT, Nat.reduceLeDiff, Nat.reduceAdd, Nat.reduceSub, reduceIte]
          rfl
        · rintro j ⟨hj, htj⟩
          simp only [hzx, EV, Nat.reduceEqDiff, Nat.reduceBEq, Nat.reduceLT, Nat.reduceLeDiff, Nat.reduceAdd, Nat.reduceSub, reduceIte]
          refine cK_cut (fun h => ?_) (fun h => ?_)
          · have j1 : j < a[i].seen.length := by simpa using h
            have j2 : (j : Int) < (a[i].seen.length : Int) := by omega
            have k1 : j < b[i].seen.length := by omega
            have k2 : (j : Int) < (b[i].seen.length : Int) := by omega
            simp only [nth_map h1, nth_map g1, h2, g2, hzx, hzy, nth_map j1, nth_map k1, j2, k2, Seen.z, Bool.true_xor, EV, Nat.reduceEqDiff, Nat.reduceBEq, Nat.reduceLT, Nat.reduceLeDiff, Nat.reduceAdd, Nat.reduceSub, reduceIte]
            refine cK_cut (fun h => ?_) (fun h => ?_)
            · have hs : qSeen a[i].seen[j] b[i].seen[j] = false := by unfold qSeen; simp only [Bool.not_eq_true'] at h; exact h
              have e : sameMo a[i] b[i] = false := by unfold sameMo; rw [eqL_no j1 k1 hs, Bool.and_false]
              simp only [EV, Nat.reduceEqDiff, Nat.reduceBEq, Nat.reduceLT, Nat.reduceLeDiff, Nat.reduceAdd, Nat.reduceSub, reduceIte]
              simp only [eqL_no h1 g1 e, EV, Nat.reduceEqDiff, Nat.reduceBEq, Nat.reduceLT, Nat.reduceLeDiff, Nat.reduceAdd, Nat.reduceSub, reduceIte, retVC, cellV', evR, nfz, nfzs, nfzss, List.contains_nil, List.contains_cons, Bool.or_false, or_true]
            · have hs : qSeen a[i].seen[j] b[i].seen[j] = true := by unfold qSeen; simp only [Bool.not_eq_false'] at h; exact h
              simp only [EV, Nat.reduceEqDiff, Nat.reduceBEq, Nat.reduceLT, Nat.reduceLeDiff, Nat.reduceAdd, Nat.reduceSub, reduceIte]
              rw [w64 _ (by omega)]
              exact ⟨j + 1, ⟨by omega, eqTo_succ htj hs⟩, by omega, rfl⟩
          · have j0 : ¬ (j : Int) < a[i].seen.length := by simpa using h
            have j1 : j = a[i].seen.length := by omega
            subst j1
            have e : sameMo a[i] b[i] = true := by unfold sameMo; rw [eqL_yes hn htj, hq]; rfl
            simp only [EV, Nat.reduceEqDiff, Nat.reduceBEq, Nat.reduceLT, Nat.reduceLeDiff, Nat.reduceAdd, Nat.reduceSub, reduceIte]
            rw [w64 _ (by omega)]
            exact ⟨i + 1, ⟨by omega, eqTo_succ hto e⟩, by omega, rfl⟩
    · have h0 : ¬ (i : Int) < a.length := by simpa using h
      have h1 : i = a.length := by omega
      subst h1
      simp only [EV, Nat.reduceEqDiff, Nat.reduceBEq, Nat.reduceLT, Nat.reduceLeDiff, Nat.reduceAdd, Nat.reduceSub, reduceIte]
      simp only [eqL_yes hl hto, EV, Nat.reduceEqDiff, Nat.reduceBEq, Nat.reduceLT, Nat.reduceLeDiff, Nat.reduceAdd, Nat.reduceSub, reduceIte, retVC, cellV', evR, nfz, nfzs, nfzss, List.contains_nil, List.contains_cons, Bool.or_false, or_true]

end Go.AM
