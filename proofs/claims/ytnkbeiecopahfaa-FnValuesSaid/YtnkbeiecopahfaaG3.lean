/- Contracts of functions of the given program, for the law FnValues: what they return and what they write, under the bounds that each theorem states. -/
import Derived.Test.YtnkbeiecopahfaaG2
namespace Go.AM
set_option linter.unusedVariables false
set_option linter.unusedSimpArgs false
theorem stepOk_lit {n : Int} (h0 : 0 ≤ n) (h1 : n ≤ 1000000000) : stepOk (numStep n) = true := by
  simp [stepOk, numStep, h0, h1, emp]
theorem stepOk_neg : stepOk negStep = true := by simp [stepOk, negStep, emp]
theorem exprOk_lit {n : Int} (h0 : 0 ≤ n) (h1 : n ≤ 1000000000) : exprOk [numStep n] = true := by
  have e : exStep 0 (numStep n) = some 1 := by rw [exS5 (stepOk_lit h0 h1) (by simp [numStep]) (by simp [numStep])]; rfl
  simp [exprOk, exRun, e]
theorem exprOk_litneg {n : Int} (h0 : 0 ≤ n) (h1 : n ≤ 1000000000) : exprOk [numStep n, negStep] = true := by
  have e : exStep 0 (numStep n) = some 1 := by rw [exS5 (stepOk_lit h0 h1) (by simp [numStep]) (by simp [numStep])]; rfl
  have e2 : exStep 1 negStep = some 1 := exS4 stepOk_neg rfl (by decide)
  simp [exprOk, exRun, e, e2]
theorem ev_lit {K : List Known} {n : Int} (h : whole n = true) : evalOf K [numStep n] = (n, 0) := by
  have e : evTop (evPre K [] (numStep n)) = .inr [n] := by simp [evPre, numStep, evTop, h]
  unfold evalOf
  rw [evRun_go e]
  rfl
theorem ev_litneg {K : List Known} {n : Int} (h : whole n = true) (h2 : whole (-n) = true) : evalOf K [numStep n, negStep] = (-n, 0) := by
  have e : evTop (evPre K [] (numStep n)) = .inr [n] := by simp [evPre, numStep, evTop, h]
  have e2 : evTop (evPre K [n] negStep) = .inr [-n] := by simp [evPre, negStep, evTop, h2]
  unfold evalOf
  rw [evRun_go e, evRun_go e2]
  rfl
theorem fold_law {K : List Known} {l : List Step} (h : foldB K l = true) :
    exprOk (foldL K l) = true ∧ ((evalOf K l).2 = 0 → evalOf [] (foldL K l) = ((evalOf K l).1, 0) ∧ (foldL K l).length ≤ 2) ∧ foldB K (foldL K l) = true ∧ foldL K (foldL K l) = foldL K l := by
  have hb := h
  simp only [foldB, Bool.and_eq_true] at h
  obtain ⟨hl, hK⟩ := h
  have ho := evalOf_ok K l
  have hw := whole_iff.1 ho.2
  have e1 : (exprOk l && knOk K) = true := by rw [hl, hK]; rfl
  by_cases c : 0 < (evalOf K l).2
  · have e : foldL K l = l := by simp only [foldL, e1, if_pos c, Bool.true_eq_false, if_false]
    rw [e]
    exact ⟨hl, fun h0 => by omega, hb, e⟩
  by_cases n : (evalOf K l).1 < 0
  · have e : foldL K l = [numStep (-(evalOf K l).1), negStep] := by simp only [foldL, e1, if_neg c, if_pos n, Bool.true_eq_false, if_false]
    have w1 : whole (-(evalOf K l).1) = true := whole_iff.2 (by omega)
    have w2 : whole (- -(evalOf K l).1) = true := by rw [Int.neg_neg]; exact ho.2
    have g := exprOk_litneg (n := -(evalOf K l).1) (by omega) (by omega)
    have v : ∀ K', evalOf K' [numStep (-(evalOf K l).1), negStep] = ((evalOf K l).1, 0) := fun K' => by rw [ev_litneg w1 w2, Int.neg_neg]
    have e3 : (exprOk [numStep (-(evalOf K l).1), negStep] && knOk K) = true := by rw [g, hK]; rfl
    refine ⟨by rw [e]; exact g, fun _ => ⟨by rw [e]; exact v _, by rw [e]; simp⟩, by rw [e]; simp only [foldB, e3], ?_⟩
    rw [e]
    have vK := v K
    simp only [foldL, e3, vK, Bool.true_eq_false, if_false, Int.lt_irrefl, if_pos n]
  · have e : foldL K l = [numStep (evalOf K l).1] := by simp only [foldL, e1, if_neg c, if_neg n, Bool.true_eq_false, if_false]
    have g := exprOk_lit (n := (evalOf K l).1) (by omega) (by omega)
    have v : ∀ K', evalOf K' [numStep (evalOf K l).1] = ((evalOf K l).1, 0) := fun K' => ev_lit ho.2
    have e3 : (exprOk [numStep (evalOf K l).1] && knOk K) = true := by rw [g, hK]; rfl
    refine ⟨by rw [e]; exact g, fun _ => ⟨by rw [e]; exact v _, by rw [e]; simp⟩, by rw [e]; simp only [foldB, e3], ?_⟩
    rw [e]
    have vK := v K
    simp only [foldL, e3, vK, Bool.true_eq_false, if_false, Int.lt_irrefl, if_neg n]
def kOf (u : Use) (k : Known) : Bool := u.mod.toList == k.mod.toList && u.name.toList == k.name.toList
def someOf (K : List Known) (us : List Use) : List Known := K.flatMap fun k => (us.filter (fun u => kOf u k)).map fun _ => k
theorem ev_some {K K' : List Known} : ∀ (l : List Step) (r : List Int), (∀ s ∈ l, s.kind = 2 → K'.find? (isOf s) = K.find? (isOf s)) → evRun K' r l = evRun K r l
  | [], r, _ => rfl
  | s :: l, r, h => by
    have hp : evPre K' r s = evPre K r s := by
      unfold evPre
      by_cases h1 : s.kind = 1
      · simp only [h1, if_true]
      by_cases h8 : s.kind = 8
      · simp only [h1, h8, if_true, if_false]
      by_cases h2 : s.kind = 2
      · simp only [h1, h8, h2, if_true, if_false, h s (by simp) h2]
      · simp only [h1, h8, h2, if_false]
    simp only [evRun, hp]
    cases evTop (evPre K r s) with
    | inl c => rfl
    | inr r' => exact ev_some l r' fun s' hs => h s' (by simp [hs])
theorem nm_mem : ∀ (l : List Step) (out : List Use), (∀ u ∈ out, u ∈ l.foldl nmStep out) ∧ ∀ s ∈ l, s.kind = 2 → (l.foldl nmStep out).any (useEq ⟨s.mod, s.name⟩) = true
  | [], out => ⟨fun u h => h, fun s h => by cases h⟩
  | s :: l, out => by
    obtain ⟨ih1, ih2⟩ := nm_mem l (nmStep out s)
    have hsub : ∀ u ∈ out, u ∈ nmStep out s := by
      intro u hu; unfold nmStep; split
      · simp [hu]
      · exact hu
    refine ⟨fun u hu => ih1 u (hsub u hu), fun s' hs' h2 => ?_⟩
    rcases List.mem_cons.1 hs' with rfl | hs'
    · have : (nmStep out s').any (useEq ⟨s'.mod, s'.name⟩) = true := by
        unfold nmStep; split
        · simp [useEq]
        · rename_i hn
          rcases e : out.any (useEq ⟨s'.mod, s'.name⟩) with _ | _
          · exact absurd ⟨h2, e⟩ hn
          · rfl
      obtain ⟨u, hu, hq⟩ := List.any_eq_true.1 this
      exact List.any_eq_true.2 ⟨u, ih1 u hu, hq⟩
    · exact ih2 s' hs' h2
theorem nm_uniq : ∀ (l : List Step) (out : List Use), out.Pairwise (fun u x => useEq u x = false) → (l.foldl nmStep out).Pairwise fun u x => useEq u x = false
  | [], out, h => h
  | s :: l, out, h => by
    refine nm_uniq l (nmStep out s) ?_
    unfold nmStep; split
    · rename_i hn
      rw [List.pairwise_append]
      refine ⟨h, by simp, fun a ha b hb => ?_⟩
      simp only [List.mem_singleton] at hb
      subst hb
      have := hn.2
      rw [List.any_eq_false] at this
      rw [useEq_comm]
      simpa using this a ha
    · exact h
theorem filt_one {us : List Use} (h : us.Pairwise fun u x => useEq u x = false) (k : Known) : (us.filter (fun u => kOf u k)).length ≤ 1 := by
  have h2 := h.filter (fun u => kOf u k)
  rcases e : us.filter (fun u => kOf u k) with _ | ⟨a, _ | ⟨b, r⟩⟩
  · simp
  · simp
  · rw [e] at h2
    have h3 := (List.pairwise_cons.1 h2).1 b (by simp)
    have ha : kOf a k = true := by have : a ∈ us.filter (fun u => kOf u k) := by rw [e]; simp
                                   exact (List.mem_filter.1 this).2
    have hb : kOf b k = true := by have : b ∈ us.filter (fun u => kOf u k) := by rw [e]; simp
                                   exact (List.mem_filter.1 this).2
    simp only [kOf, Bool.and_eq_true, beq_iff_eq] at ha hb
    simp [useEq, ha.1, ha.2, hb.1, hb.2] at h3
theorem some_find {us : List Use} {q : Known → Bool} : ∀ {K : List Known}, (∀ k ∈ K, q k = true → us.any (fun u => kOf u k) = true) → (someOf K us).find? q = K.find? q
  | [], _ => rfl
  | k :: K, h => by
    have ih := some_find (K := K) fun k' hk => h k' (by simp [hk])
    have hd : someOf (k :: K) us = ((us.filter (fun u => kOf u k)).map fun _ => k) ++ someOf K us := by simp [someOf]
    rw [hd, List.find?_append, ih]
    rcases e : q k with _ | _
    · have : ((us.filter (fun u => kOf u k)).map fun _ => k).find? q = none := by
        rw [List.find?_eq_none]
        intro x hx
        obtain ⟨_, _, rfl⟩ := List.mem_map.1 hx
        simp [e]
      rw [this]; simp [e]
    · have ha := h k (by simp) e
      obtain ⟨u, hu, hq⟩ := List.any_eq_true.1 ha
      have hm : u ∈ us.filter (fun u => kOf u k) := List.mem_filter.2 ⟨hu, hq⟩
      rcases ef : us.filter (fun u => kOf u k) with _ | ⟨a, r⟩
      · rw [ef] at hm; cases hm
      · simp [e]
theorem some_len {us : List Use} (hu : us.Pairwise fun u x => useEq u x = false) : ∀ K : List Known, (someOf K us).length ≤ K.length
  | [] => by simp [someOf]
  | k :: K => by
    have ih := some_len hu K
    have h1 := filt_one hu k
    have hd : someOf (k :: K) us = ((us.filter (fun u => kOf u k)).map fun _ => k) ++ someOf K us := by simp [someOf]
    rw [hd, List.length_append, List.length_map, List.length_cons]
    omega
theorem some_mem {us : List Use} {K : List Known} {k : Known} (h : k ∈ someOf K us) : k ∈ K := by
  unfold someOf at h
  obtain ⟨k', hk', hk⟩ := List.mem_flatMap.1 h
  obtain ⟨_, _, rfl⟩ := List.mem_map.1 hk
  exact hk'
theorem values_law {K : List Known} {l : List Step} (hK : knOk K = true) : knOk (someOf K (namesOf l)) = true ∧ evalOf (someOf K (namesOf l)) l = evalOf K l := by
  have hu : (namesOf l).Pairwise fun u x => useEq u x = false := nm_uniq l [] List.Pairwise.nil
  have hm := (nm_mem l []).2
  simp only [knOk, Bool.and_eq_true, decide_eq_true_eq, List.all_eq_true] at hK
  refine ⟨?_, ?_⟩
  · simp only [knOk, Bool.and_eq_true, decide_eq_true_eq, List.all_eq_true]
    have := some_len hu K
    exact ⟨by omega, fun k hk => hK.2 k (some_mem hk)⟩
  · unfold evalOf
    rw [ev_some l []]
    intro s hs h2
    refine some_find fun k _ hq => ?_
    obtain ⟨u, hu', he⟩ := List.any_eq_true.1 (hm s hs h2)
    refine List.any_eq_true.2 ⟨u, hu', ?_⟩
    simp only [useEq, isOf, kOf, Bool.and_eq_true, beq_iff_eq] at he hq ⊢
    exact ⟨by rw [← he.1, hq.1], by rw [← he.2, hq.2]⟩
end Go.AM
namespace Go.AM
set_option linter.unusedVariables false
set_option linter.unusedSimpArgs false
def m7 : MC :=
 (.seq (.reg [Xb 4 (.asg (.i 0)), Xb 5 (.asg (.i 0)), Xb 6 (.asg .fb)]) (.seq (.seq (.reg [Xm 9 0, Xb 10 (.call (.fn 20) false [.lend (.t 9)]), Xq 11 (.un .not (.t 10)), Xm 12 11, Xu 13 12 (.mov (.t 1)), XU 14 12 (.call (.fn 21) false [.lend (.t 13)]), Xu 15 12 (.un .not (.t 14)), Xq 16 (.pick (.t 12) .tb (.t 15))]) (.cond (.t 16) (.seq (.reg [Xb 4 (.asg (.i 0)), Xb 5 (.asg (.i 0)), Xb 6 (.asg
 .fb)]) .ret) .skip)) (.seq (.reg [Xm 18 0, Xm 19 1, Xb 20 (.call (.fn 22) false [.lend (.t 18), .lend (.t 19)]), Xm 17 20, Xq 21 (.ext 17 0), Xq 22 (.ext 17 1), Xa 7 21, Xa 8 22]) (.seq (.reg [Xm 23 7, Xm 24 8, Xa 4 23, Xa 5 24, Xb 6 (.asg .tb)]) .ret))))
theorem d7 (l : List Step) (K : List Known) (hl : (l.length : Int) ≤ 1048576) (hs : ∀ s ∈ l, s.ok) (hK : K.length < 9223372036854775807) :
    Does Go.Proofs.Try.prog 7 [.fsl 4 (l.map Step.c), .fsl 3 (K.map Known.c)] false (.tup (if (exprOk l && knOk K) = true then [.v (.int .i64 (evalOf K l).1), .v (.int .i64 (evalOf K l).2), .v (.bool true)] else [.v (.int .i64 0), .v (.int .i64 0), .v (.bool false)])) [.dead, .dead] := by
  refine does_intro (mc := m7) (N := 25) (rs := [4, 5, 6]) (fx := []) 2 rfl (by decide +kernel) ?_
  simp only [m7, EV, Nat.reduceEqDiff, Nat.reduceBEq, Nat.reduceLT, Nat.reduceLeDiff, Nat.reduceAdd, Nat.reduceSub, reduceIte]
  refine callK_i (d20 l hl hs) ?_
  simp only [EV, Nat.reduceEqDiff, Nat.reduceBEq, Nat.reduceLT, Nat.reduceLeDiff, Nat.reduceAdd, Nat.reduceSub, reduceIte]
  rcases e1 : exprOk l with _ | _
  · simp only [Bool.not_false, EV, Nat.reduceEqDiff, Nat.reduceBEq, Nat.reduceLT, Nat.reduceLeDiff, Nat.reduceAdd, Nat.reduceSub, reduceIte]
    simp only [e1, Bool.false_and, Bool.false_eq_true, if_false, EV, Nat.reduceEqDiff, Nat.reduceBEq, Nat.reduceLT, Nat.reduceLeDiff, Nat.reduceAdd, Nat.reduceSub, reduceIte, evRE, retVC, cellV', evR, nfz, nfzs, nfzss, List.contains_nil, List.contains_cons, Bool.or_false, or_true]
  simp only [Bool.not_true, EV, Nat.reduceEqDiff, Nat.reduceBEq, Nat.reduceLT, Nat.reduceLeDiff, Nat.reduceAdd, Nat.reduceSub, reduceIte]
  refine callK_i (d21 K hK) ?_
  simp only [EV, Nat.reduceEqDiff, Nat.reduceBEq, Nat.reduceLT, Nat.reduceLeDiff, Nat.reduceAdd, Nat.reduceSub, reduceIte]
  rcases e2 : knOk K with _ | _
  · simp only [Bool.not_false, EV, Nat.reduceEqDiff, Nat.reduceBEq, Nat.reduceLT, Nat.reduceLeDiff, Nat.reduceAdd, Nat.reduceSub, reduceIte]
    simp only [e1, e2, Bool.and_false, Bool.false_eq_true, if_false, EV, Nat.reduceEqDiff, Nat.reduceBEq, Nat.reduceLT, Nat.reduceLeDiff, Nat.reduceAdd, Nat.reduceSub, reduceIte, evRE, retVC, cellV', evR, nfz, nfzs, nfzss, List.contains_nil, List.contains_cons, Bool.or_false, or_true]
  simp only [Bool.not_true, EV, Nat.reduceEqDiff, Nat.reduceBEq, Nat.reduceLT, Nat.reduceLeDiff, Nat.reduceAdd, Nat.reduceSub, reduceIte]
  refine callK_i (d22 l K e1 e2) ?_
  simp only [EV, Nat.reduceEqDiff, Nat.reduceBEq, Nat.reduceLT, Nat.reduceLeDiff, Nat.reduceAdd, Nat.reduceSub, reduceIte]
  simp only [e1, e2, Bool.and_self, if_true, EV, Nat.reduceEqDiff, Nat.reduceBEq, Nat.reduceLT, Nat.reduceLeDiff, Nat.reduceAdd, Nat.reduceSub, reduceIte, evRE, retVC, cellV', evR, nfz, nfzs, nfzss, List.contains_nil, List.contains_cons, Bool.or_false, or_true]
def m16 : MC :=
 (.seq (.reg [Xb 2 (.asg .fb)]) (.seq (.reg [Xm 3 0, Xb 4 (.call (.fn 20) false [.lend (.t 3)]), Xa 2 4]) .ret))
theorem d16 (l : List Step) (hl : (l.length : Int) ≤ 1048576) (hs : ∀ s ∈ l, s.ok) : Does Go.Proofs.Try.prog 16 [.fsl 4 (l.map Step.c)] false (.v (.bool (exprOk l))) [.dead] := by
  refine does_intro (mc := m16) (N := 5) (rs := [2]) (fx := []) 1 rfl (by decide +kernel) ?_
  simp only [m16, EV, Nat.reduceEqDiff, Nat.reduceBEq, Nat.reduceLT, Nat.reduceLeDiff, Nat.reduceAdd, Nat.reduceSub, reduceIte]
  refine callK_i (d20 l hl hs) ?_
  simp only [EV, Nat.reduceEqDiff, Nat.reduceBEq, Nat.reduceLT, Nat.reduceLeDiff, Nat.reduceAdd, Nat.reduceSub, reduceIte]
  simp only [EV, Nat.reduceEqDiff, Nat.reduceBEq, Nat.reduceLT, Nat.reduceLeDiff, Nat.reduceAdd, Nat.reduceSub, reduceIte, evRE, retVC, cellV', evR, nfz, nfzs, nfzss, List.contains_nil, List.contains_cons, Bool.or_false, or_true]
end Go.AM
namespace Go.AM
set_option linter.unusedVariables false
set_option linter.unusedSimpArgs false
def m27 : MC :=
 (.seq (.reg [Xb 2 (.asg (.nils 54 4))]) (.seq (.reg [Xm 4 0, Xb 5 (.build [0] [0] [1] [.s 5 1, .i, .v (.int .u64 0)] [.t 4]), Xb 6 (.box 45 (.t 5)), Xa 3 6]) (.seq (.reg [Xm 7 3, Xb 8 (.call (.fn 17) false [.io (.t 7)]), Xa 2 8]) .ret)))
theorem p27 (code : List Int) (hl : (code.length : Int) ≤ 1048576) (hb : ∀ b ∈ code, 0 ≤ b ∧ b ≤ 255) :
    DoesE Go.Proofs.Try.prog 27 [.fsl 1 (code.map bv)] true fun r o => o = [.dead] ∧ ∃ e : List Step, r = .usl 54 4 (e.map Step.c) ∧ e.length ≤ 301 ∧ ∀ s ∈ e, s.ok := by
  have hc : Cur.ok ⟨code, 0, 0⟩ 0 := ⟨hl, hb, Int.le_refl _, Int.le_refl _⟩
  have pc := p17 ⟨code, 0, 0⟩ 0 hc (by omega)
  refine doesE_intro (mc := m27) (N := 9) (rs := [2]) (fx := []) 1 rfl (by decide +kernel) ?_
  simp only [m27, EV, Nat.reduceEqDiff, Nat.reduceBEq, Nat.reduceLT, Nat.reduceLeDiff, Nat.reduceAdd, Nat.reduceSub, reduceIte]
  refine pc.call (fun _ => rfl) ?_
  rintro _ c1 hc1 ⟨e, rfl, he, hs⟩
  simp only [EV, Nat.reduceEqDiff, Nat.reduceBEq, Nat.reduceLT, Nat.reduceLeDiff, Nat.reduceAdd, Nat.reduceSub, reduceIte]
  simp only [Step.nfz, EV, Nat.reduceEqDiff, Nat.reduceBEq, Nat.reduceLT, Nat.reduceLeDiff, Nat.reduceAdd, Nat.reduceSub, reduceIte, evRE, retVC, cellV', evR, nfz, nfzs, nfzss, List.contains_nil, List.contains_cons, Bool.or_false, or_true]
  first
    | exact ⟨⟨e, rfl, he, hs⟩, Or.inl trivial⟩
    | exact ⟨e, rfl, he, hs⟩
def m11 : MC :=
 (.seq (.reg [Xb 2 (.asg (.nils 54 4))]) (.seq (.reg [Xm 3 0, Xb 4 (.call (.fn 27) true [.lend (.t 3)]), Xa 2 4]) .ret))
theorem p11 (code : List Int) (hl : (code.length : Int) ≤ 1048576) (hb : ∀ b ∈ code, 0 ≤ b ∧ b ≤ 255) :
    DoesE Go.Proofs.Try.prog 11 [.fsl 1 (code.map bv)] true fun r o => o = [.dead] ∧ ∃ e : List Step, r = .usl 54 4 (e.map Step.c) ∧ e.length ≤ 301 ∧ ∀ s ∈ e, s.ok := by
  refine doesE_intro (mc := m11) (N := 5) (rs := [2]) (fx := []) 1 rfl (by decide +kernel) ?_
  simp only [m11, EV, Nat.reduceEqDiff, Nat.reduceBEq, Nat.reduceLT, Nat.reduceLeDiff, Nat.reduceAdd, Nat.reduceSub, reduceIte]
  refine callE_i (p27 code hl hb) (fun r o h => ⟨h.2, h.1⟩) ?_
  rintro _ ⟨e, rfl, he, hs⟩
  simp only [EV, Nat.reduceEqDiff, Nat.reduceBEq, Nat.reduceLT, Nat.reduceLeDiff, Nat.reduceAdd, Nat.reduceSub, reduceIte]
  simp only [Step.nfz, EV, Nat.reduceEqDiff, Nat.reduceBEq, Nat.reduceLT, Nat.reduceLeDiff, Nat.reduceAdd, Nat.reduceSub, reduceIte, evRE, retVC, cellV', evR, nfz, nfzs, nfzss, List.contains_nil, List.contains_cons, Bool.or_false, or_true]
  first
    | exact ⟨⟨e, rfl, he, hs⟩, Or.inl trivial⟩
    | exact ⟨e, rfl, he, hs⟩
def m6 : MC :=
 (.seq (.reg [Xb 2 (.asg (.nils 54 4)), Xb 3 (.asg (.nils 34 3))]) (.seq (.reg [Xm 7 0, Xb 8 (.build [0] [0] [1] [.s 5 1, .i, .v (.int .u64 0)] [.t 7]), Xb 9 (.box 45 (.t 8)), Xa 4 9]) (.seq (.reg [Xm 10 4, Xb 11 (.call (.fn 17) false [.io (.t 10)]), Xa 5 11]) (.seq (.reg [Xb 6 (.asg (.nils 34 3))]) (.join [4, 5, 6, 9, 11, 20, 29, 35] (.seq (.reg [Xm 12 4, Xb 13 (.call (.fn 18) false [.io (.t 12),
 .lend (.i 4)]), Xq 14 (.un .not (.t 13))]) (.cond (.t 14) (.reg [Xm 15 6, Xm 16 4, Xb 17 (.call (.fn 19) false [.io (.t 16)]), Xb 18 (.build [1, 2] [1, 2] [1, 1] [.z, .z, .i] [.z #[110], .t 17]), Xb 19 (.bsl 34 3 [.t 18]), Xb 20 (.app true 34 3 40 (.t 15) (.t 19)), Xa 6 20]) .skip)) (.join [4, 5, 6, 9, 11, 20, 29, 35] (.seq (.reg [Xm 21 4, Xb 22 (.call (.fn 18) false [.io (.t 21), .lend (.i 4)]),
 Xq 23 (.un .not (.t 22))]) (.cond (.t 23) (.reg [Xm 24 6, Xm 25 4, Xb 26 (.call (.fn 19) false [.io (.t 25)]), Xb 27 (.build [0, 1, 2] [0, 1, 2] [1, 1, 1] [.z, .z, .i] [.z #[66], .z #[107], .t 26]), Xb 28 (.bsl 34 3 [.t 27]), Xb 29 (.app true 34 3 40 (.t 24) (.t 28)), Xa 6 29]) .skip)) (.join [5, 6, 11, 20, 29, 35] (.seq (.reg [Xm 30 4, Xb 31 (.call (.fn 18) false [.io (.t 30), .lend (.i 20)])])
 (.cond (.t 31) (.reg [Xm 32 6, Xb 33 (.build [2] [2] [1] [.z, .z, .i] [.i 1000000001]), Xb 34 (.bsl 34 3 [.t 33]), Xb 35 (.app true 34 3 40 (.t 32) (.t 34)), Xa 6 35]) .skip)) (.seq (.reg [Xm 36 5, Xm 37 6, Xa 2 36, Xa 3 37]) .ret))))))))
set_option maxHeartbeats 4000000 in
set_option maxRecDepth 100000 in
theorem p6 (code : List Int) (hl : (code.length : Int) ≤ 1048576) (hb : ∀ b ∈ code, 0 ≤ b ∧ b ≤ 255) :
    DoesE Go.Proofs.Try.prog 6 [.fsl 1 (code.map bv)] true fun r o => o = [.dead] ∧ ∃ (e : List Step) (K : List Known), r = .tup [.usl 54 4 (e.map Step.c), .usl 34 3 (K.map Known.c)] ∧ (e.length ≤ 301 ∧ ∀ s ∈ e, s.ok) ∧ K.length ≤ 3 := by
  have hc : Cur.ok ⟨code, 0, 0⟩ 0 := ⟨hl, hb, Int.le_refl _, Int.le_refl _⟩
  have pc := p17 ⟨code, 0, 0⟩ 0 hc (by omega)
  refine doesE_intro (mc := m6) (N := 38) (rs := [2, 3]) (fx := []) 1 rfl (by decide +kernel) ?_
  simp only [m6, EV, Nat.reduceEqDiff, Nat.reduceBEq, Nat.reduceLT, Nat.reduceLeDiff, Nat.reduceAdd, Nat.reduceSub, reduceIte]
  refine pc.call (fun _ => rfl) ?_
  rintro _ c1 hc1 ⟨e, rfl, he, hs⟩
  simp only [EV, Nat.reduceEqDiff, Nat.reduceBEq, Nat.reduceLT, Nat.reduceLeDiff, Nat.reduceAdd, Nat.reduceSub, reduceIte]
  refine awp_join (fun p : List Known × Cur => p.1.length ≤ 1 ∧ p.2.ok 300) (fun p => stl [(4, .box 45 p.2.z), (5, .usl 54 4 (e.map Step.c)), (6, .usl 34 3 (p.1.map Known.c)), (9, .dead), (11, .dead), (20, .dead), (29, .dead), (35, .dead)]) ?_ ?_
  · simp only [EV, Nat.reduceEqDiff, Nat.reduceBEq, Nat.reduceLT, Nat.reduceLeDiff, Nat.reduceAdd, Nat.reduceSub, reduceIte]
    refine (p18 c1 _ 4 hc1 (by omega) (by omega)).call (fun _ => rfl) ?_
    rintro _ c2 hc2 ⟨b, rfl⟩
    cases b
    rotate_left
    · simp only [Bool.not_true, EV, Nat.reduceEqDiff, Nat.reduceBEq, Nat.reduceLT, Nat.reduceLeDiff, Nat.reduceAdd, Nat.reduceSub, reduceIte]
      exact ⟨([], c2), ⟨by simp, hc2.up (by omega)⟩, rfl⟩
    simp only [Bool.not_false, EV, Nat.reduceEqDiff, Nat.reduceBEq, Nat.reduceLT, Nat.reduceLeDiff, Nat.reduceAdd, Nat.reduceSub, reduceIte]
    refine (p19 c2 _ hc2 (by omega)).call (fun _ => rfl) ?_
    rintro _ c3 hc3 ⟨v, _, _, rfl⟩
    simp only [EV, Nat.reduceEqDiff, Nat.reduceBEq, Nat.reduceLT, Nat.reduceLeDiff, Nat.reduceAdd, Nat.reduceSub, reduceIte]
    exact ⟨by decide, ([⟨⟨#[]⟩, ⟨#[110]⟩, v⟩], c3), ⟨by simp, hc3.up (by omega)⟩, rfl⟩
  rintro ⟨K, c2⟩ ⟨hK, hc2⟩
  simp only at hK hc2
  simp only [EV, Nat.reduceEqDiff, Nat.reduceBEq, Nat.reduceLT, Nat.reduceLeDiff, Nat.reduceAdd, Nat.reduceSub, reduceIte]
  refine awp_join (fun p : List Known × Cur => p.1.length ≤ 2 ∧ p.2.ok 310) (fun p => stl [(4, .box 45 p.2.z), (5, .usl 54 4 (e.map Step.c)), (6, .usl 34 3 (p.1.map Known.c)), (9, .dead), (11, .dead), (20, .dead), (29, .dead), (35, .dead)]) ?_ ?_
  · simp only [EV, Nat.reduceEqDiff, Nat.reduceBEq, Nat.reduceLT, Nat.reduceLeDiff, Nat.reduceAdd, Nat.reduceSub, reduceIte]
    refine (p18 c2 _ 4 hc2 (by omega) (by omega)).call (fun _ => rfl) ?_
    rintro _ c3 hc3 ⟨b, rfl⟩
    cases b
    rotate_left
    · simp only [Bool.not_true, EV, Nat.reduceEqDiff, Nat.reduceBEq, Nat.reduceLT, Nat.reduceLeDiff, Nat.reduceAdd, Nat.reduceSub, reduceIte]
      exact ⟨(K, c3), ⟨by simp only; omega, hc3.up (by omega)⟩, rfl⟩
    simp only [Bool.not_false, EV, Nat.reduceEqDiff, Nat.reduceBEq, Nat.reduceLT, Nat.reduceLeDiff, Nat.reduceAdd, Nat.reduceSub, reduceIte]
    refine (p19 c3 _ hc3 (by omega)).call (fun _ => rfl) ?_
    rintro _ c4 hc4 ⟨v, _, _, rfl⟩
    simp only [EV, Nat.reduceEqDiff, Nat.reduceBEq, Nat.reduceLT, Nat.reduceLeDiff, Nat.reduceAdd, Nat.reduceSub, reduceIte]
    refine ⟨by omega, by omega, (K ++ [⟨⟨#[66]⟩, ⟨#[107]⟩, v⟩], c4), ⟨by simp only [List.length_append, List.length_singleton]; omega, hc4.up (by omega)⟩, ?_⟩
    simp only [List.map_append, List.map_cons, List.map_nil, Known.c]
  rintro ⟨K, c3⟩ ⟨hK, hc3⟩
  simp only at hK hc3
  simp only [EV, Nat.reduceEqDiff, Nat.reduceBEq, Nat.reduceLT, Nat.reduceLeDiff, Nat.reduceAdd, Nat.reduceSub, reduceIte]
  refine awp_join (fun p : List Known => p.length ≤ 3) (fun p => stl [(5, .usl 54 4 (e.map Step.c)), (6, .usl 34 3 (p.map Known.c)), (11, .dead), (20, .dead), (29, .dead), (35, .dead)]) ?_ ?_
  · simp only [EV, Nat.reduceEqDiff, Nat.reduceBEq, Nat.reduceLT, Nat.reduceLeDiff, Nat.reduceAdd, Nat.reduceSub, reduceIte]
    refine (p18 c3 _ 20 hc3 (by omega) (by omega)).call (fun _ => rfl) ?_
    rintro _ c4 hc4 ⟨b, rfl⟩
    cases b
    · simp only [EV, Nat.reduceEqDiff, Nat.reduceBEq, Nat.reduceLT, Nat.reduceLeDiff, Nat.reduceAdd, Nat.reduceSub, reduceIte]
      exact ⟨K, by omega, rfl⟩
    simp only [EV, Nat.reduceEqDiff, Nat.reduceBEq, Nat.reduceLT, Nat.reduceLeDiff, Nat.reduceAdd, Nat.reduceSub, reduceIte]
    refine ⟨by omega, by omega, K ++ [⟨⟨#[]⟩, ⟨#[]⟩, 1000000001⟩], by simp only [List.length_append, List.length_singleton]; omega, ?_⟩
    simp only [List.map_append, List.map_cons, List.map_nil, Known.c]
  rintro K hK
  simp only [EV, Nat.reduceEqDiff, Nat.reduceBEq, Nat.reduceLT, Nat.reduceLeDiff, Nat.reduceAdd, Nat.reduceSub, reduceIte]
  simp only [Step.nfz, Known.nfz, EV, Nat.reduceEqDiff, Nat.reduceBEq, Nat.reduceLT, Nat.reduceLeDiff, Nat.reduceAdd, Nat.reduceSub, reduceIte, evRE, retVC, cellV', evR, nfz, nfzs, nfzss, List.contains_nil, List.contains_cons, Bool.or_false, or_true]
  first
    | exact ⟨⟨e, K, rfl, ⟨he, hs⟩, hK⟩, Or.inl trivial⟩
    | exact ⟨e, K, rfl, ⟨he, hs⟩, hK⟩
def m12 : MC :=
 (.seq (.reg [Xb 2 (.asg (.nils 54 4)), Xb 3 (.asg (.nils 34 3))]) (.seq (.reg [Xm 4 0, Xb 5 (.call (.fn 6) true [.lend (.t 4)]), Xq 6 (.ext 5 0), Xq 7 (.ext 5 1), Xa 2 6, Xa 3 7]) .ret))
theorem p12 (code : List Int) (hl : (code.length : Int) ≤ 1048576) (hb : ∀ b ∈ code, 0 ≤ b ∧ b ≤ 255) :
    DoesE Go.Proofs.Try.prog 12 [.fsl 1 (code.map bv)] true fun r o => o = [.dead] ∧ ∃ (e : List Step) (K : List Known), r = .tup [.usl 54 4 (e.map Step.c), .usl 34 3 (K.map Known.c)] ∧ (e.length ≤ 301 ∧ ∀ s ∈ e, s.ok) ∧ K.length ≤ 3 := by
  refine doesE_intro (mc := m12) (N := 8) (rs := [2, 3]) (fx := []) 1 rfl (by decide +kernel) ?_
  simp only [m12, EV, Nat.reduceEqDiff, Nat.reduceBEq, Nat.reduceLT, Nat.reduceLeDiff, Nat.reduceAdd, Nat.reduceSub, reduceIte]
  refine callE_i (p6 code hl hb) (fun r o h => ⟨h.2, h.1⟩) ?_
  rintro _ ⟨e, K, rfl, he, hK⟩
  simp only [pbeq, EV, Nat.reduceEqDiff, Nat.reduceBEq, Nat.reduceLT, Nat.reduceLeDiff, Nat.reduceAdd, Nat.reduceSub, reduceIte]
  simp only [Step.nfz, Known.nfz, pbeq, EV, Nat.reduceEqDiff, Nat.reduceBEq, Nat.reduceLT, Nat.reduceLeDiff, Nat.reduceAdd, Nat.reduceSub, reduceIte, evRE, retVC, cellV', evR, nfz, nfzs, nfzss, List.contains_nil, List.contains_cons, Bool.or_false, or_true]
  first
    | exact ⟨⟨e, K, rfl, he, hK⟩, Or.inl trivial⟩
    | exact ⟨e, K, rfl, he, hK⟩
def m15 : MC :=
 (.seq (.reg [Xb 4 (.asg .fb)]) (.seq (.seq (.reg [Xm 6 0, Xn 7 6, Xm 8 1, Xn 9 8, Xq 10 (.bin false .neq (.t 7) (.t 9))]) (.cond (.t 10) (.seq (.reg [Xb 4 (.asg .fb)]) .ret) .skip)) (.seq (.seq (.reg [Xm 11 0, Xn 12 11, Xq 13 (.mov (.i 0))]) (.block 0 (.loop [0, 1, 12, 13] (.seq (.reg [Xq 14 (.bin false .lss (.t 13) (.t 12))]) (.seq (.cond (.t 14) .skip (.exit 0)) (.seq (.block 1 (.seq (.reg [Xm
 15 13, Xa 5 15]) (.seq (.dreg [Xm 16 0, Xm 17 5, Xi 18 4 16 17, XL 19 4 18, Xm 20 1, Xm 21 5, Xi 22 4 20 21, XL 23 4 22, Xq 24 (.eqa true [0, 0, 1, 1] (.t 19) (.t 23))]) (.cond (.t 24) (.seq (.reg [Xb 4 (.asg .fb)]) .ret) .skip)))) (.reg [Xq 25 (.bin false .add (.t 13) (.i 1)), Xm 13 25]))))))) (.seq (.reg [Xb 4 (.asg .tb)]) .ret))))
theorem d15 (l : List Step) (hl : (l.length : Int) ≤ 1048576) : Does Go.Proofs.Try.prog 15 [.fsl 4 (l.map Step.c), .fsl 4 (l.map Step.c)] false (.v (.bool true)) [.dead, .dead] := by
  refine does_intro (mc := m15) (N := 26) (rs := [4]) (fx := []) 2 rfl (by decide +kernel) ?_
  simp only [m15, EV, Nat.reduceEqDiff, Nat.reduceBEq, Nat.reduceLT, Nat.reduceLeDiff, Nat.reduceAdd, Nat.reduceSub, reduceIte]
  refine awp_loop (fun i : Nat => i ≤ l.length) (fun i => stl [(0, .fsl 4 (l.map Step.c)), (1, .fsl 4 (l.map Step.c)), (12, .v (.int .i64 (l.length : Int))), (13, .v (.int .i64 (i : Int)))]) (fun i => l.length - i) 0 (Nat.zero_le _) ?_ ?_
  · simp only [EV, Nat.reduceEqDiff, Nat.reduceBEq, Nat.reduceLT, Nat.reduceLeDiff, Nat.reduceAdd, Nat.reduceSub, reduceIte]
    rfl
  intro i hi
  simp only [EV, Nat.reduceEqDiff, Nat.reduceBEq, Nat.reduceLT, Nat.reduceLeDiff, Nat.reduceAdd, Nat.reduceSub, reduceIte]
  refine cK_cut (fun h => ?_) (fun h => ?_)
  · have i2 : (i : Int) < (l.length : Int) := by simpa using h
    have i1 : i < l.length := by omega
    clear h
    have wi := w64 ((i : Int) + 1) (by omega)
    simp only [i1, i2, nth_map i1, Step.c, wi, EV, Nat.reduceEqDiff, Nat.reduceBEq, Nat.reduceLT, Nat.reduceLeDiff, Nat.reduceAdd, Nat.reduceSub, reduceIte]
    exact ⟨i + 1, i1, by omega, rfl⟩
  · simp only [EV, Nat.reduceEqDiff, Nat.reduceBEq, Nat.reduceLT, Nat.reduceLeDiff, Nat.reduceAdd, Nat.reduceSub, reduceIte]
    simp only [EV, Nat.reduceEqDiff, Nat.reduceBEq, Nat.reduceLT, Nat.reduceLeDiff, Nat.reduceAdd, Nat.reduceSub, reduceIte, evRE, retVC, cellV', evR, nfz, nfzs, nfzss, List.contains_nil, List.contains_cons, Bool.or_false, or_true]
end Go.AM
namespace Go.AM
set_option linter.unusedVariables false
set_option linter.unusedSimpArgs false
theorem foldL_ok {K : List Known} {e : List Step} (he : e.length ≤ 301) (hs : ∀ s ∈ e, s.ok) : (foldL K e).length ≤ 301 ∧ ∀ s ∈ foldL K e, s.ok := by
  have hw := whole_iff.1 (evalOf_ok K e).2
  unfold foldL
  split
  · exact ⟨by simp, by simp⟩
  split
  · exact ⟨he, hs⟩
  split
  · refine ⟨by simp, fun s h => ?_⟩
    simp only [List.mem_cons, List.not_mem_nil, or_false] at h
    rcases h with rfl | rfl
    · exact step_ok (by decide) (by decide) (by omega) (by omega) emp_le emp_le
    · exact step_ok (by decide) (by decide) (by decide) (by decide) emp_le emp_le
  · refine ⟨by simp, fun s h => ?_⟩
    simp only [List.mem_cons, List.not_mem_nil, or_false] at h
    rw [h]
    exact step_ok (by decide) (by decide) (by omega) (by omega) emp_le emp_le
theorem eval_eq (b : Bool) (x y : Int) : (if b = true then [AV.v (.int .i64 x), .v (.int .i64 y), .v (.bool true)] else [.v (.int .i64 0), .v (.int .i64 0), .v (.bool false)]) = [AV.v (.int .i64 (if b = true then x else 0)), .v (.int .i64 (if b = true then y else 0)), .v (.bool b)] := by
  cases b <;> rfl
def m5 : MC :=
 (.seq (.reg [Xb 4 (.asg .fb)]) (.seq (.reg [Xm 5 0, Xn 6 5, Xq 7 (.bin false .gtr (.t 6) (.i 1048576)), Xm 8 7, Xu 9 8 (.mov (.t 1)), Xu 10 8 (.len false (.t 9)), Xu 11 8 (.mov (.t 0)), Xu 12 8 (.len false (.t 11)), Xu 13 8 (.bin false .sub (.i 1048576) (.t 12)), Xu 14 8 (.bin false .gtr (.t 10) (.t 13)), Xq 15 (.pick (.t 8) .tb (.t 14)), Xa 4 15]) .ret))
theorem d5 (a b : List Int) (ha : (a.length : Int) ≤ 9223372036854775807) (hb : (b.length : Int) ≤ 9223372036854775807) : Does Go.Proofs.Try.prog 5 [.fsl 1 (a.map bv), .fsl 1 (b.map bv)] false (.v (.bool (decide (1048576 < (a.length : Int)) || decide (1048576 - (a.length : Int) < (b.length : Int))))) [.dead, .dead] := by
  refine does_intro (mc := m5) (N := 16) (rs := [4]) (fx := []) 2 rfl (by decide +kernel) ?_
  simp only [m5, EV, Nat.reduceEqDiff, Nat.reduceBEq, Nat.reduceLT, Nat.reduceLeDiff, Nat.reduceAdd, Nat.reduceSub, reduceIte]
  rcases e : decide (1048576 < (a.length : Int)) with _ | _
  · have h : ¬ 1048576 < (a.length : Int) := by simpa using e
    have w := w64 (1048576 - (a.length : Int)) (by omega)
    simp only [w, EV, Nat.reduceEqDiff, Nat.reduceBEq, Nat.reduceLT, Nat.reduceLeDiff, Nat.reduceAdd, Nat.reduceSub, reduceIte]
    simp only [Bool.false_or, EV, Nat.reduceEqDiff, Nat.reduceBEq, Nat.reduceLT, Nat.reduceLeDiff, Nat.reduceAdd, Nat.reduceSub, reduceIte, evRE, retVC, cellV', evR, nfz, nfzs, nfzss, List.contains_nil, List.contains_cons, Bool.or_false, or_true]
  · simp only [EV, Nat.reduceEqDiff, Nat.reduceBEq, Nat.reduceLT, Nat.reduceLeDiff, Nat.reduceAdd, Nat.reduceSub, reduceIte]
    simp only [Bool.true_or, EV, Nat.reduceEqDiff, Nat.reduceBEq, Nat.reduceLT, Nat.reduceLeDiff, Nat.reduceAdd, Nat.reduceSub, reduceIte, evRE, retVC, cellV', evR, nfz, nfzs, nfzss, List.contains_nil, List.contains_cons, Bool.or_false, or_true]
def m4 : MC :=
 (.seq (.reg [Xb 4 (.asg .fb)]) (.keep [0, 1] (.seq (.seq (.reg [Xm 27 0, Xm 28 1, Xb 29 (.call (.fn 5) false [.lend (.t 27), .lend (.t 28)])]) (.keep [0, 1, 29] (.cond (.t 29) (.seq (.reg [Xb 4 (.asg .tb)]) .ret) .skip))) (.keep [0, 1] (.seq (.reg [Xm 31 0, Xb 32 (.call (.fn 12) true [.lend (.t 31)]), Xa 30 32, Xq 33 (.ext 30 0), Xq 34 (.ext 30 1), Xa 5 33, Xa 6 34]) (.keep [1, 5, 6, 30, 32, 33,
 34] (.seq (.reg [Xm 36 5, Xm 37 6, Xb 38 (.call (.fn 13) false [.lend (.t 36), .lend (.t 37)]), Xa 35 38, Xq 39 (.ext 35 0), Xq 40 (.ext 35 1), Xa 7 39, Xa 8 40]) (.keep [1, 5, 6, 7, 8, 30, 32, 33, 34, 35, 38, 39] (.seq (.reg [Xm 42 5, Xm 43 6, Xb 44 (.call (.fn 14) false [.lend (.t 42), .lend (.t 43)]), Xa 41 44, Xq 45 (.ext 41 0), Xq 46 (.ext 41 1), Xa 9 45, Xa 10 46]) (.keep [1, 5, 6, 7, 8, 9,
 10, 30, 32, 33, 34, 35, 38, 39, 41, 44, 45] (.seq (.seq (.reg [Xm 47 8, Xm 48 10, Xq 49 (.bin true .neq (.t 47) (.t 48)), Xm 50 49, Xu 51 50 (.mov (.t 7)), Xu 52 50 (.mov (.t 9)), XU 53 50 (.call (.fn 15) false [.lend (.t 51), .lend (.t 52)]), Xu 54 50 (.un .not (.t 53)), Xq 55 (.pick (.t 50) .tb (.t 54))]) (.keep [1, 5, 6, 7, 8, 30, 32, 33, 34, 35, 38, 39, 55] (.cond (.t 55) (.seq (.reg [Xb 4
 (.asg .fb)]) .ret) .skip))) (.keep [1, 5, 6, 7, 8, 30, 32, 33, 34, 35, 38, 39] (.join [1] (.seq (.reg [Xm 56 8]) (.keep [1, 5, 6, 7, 30, 32, 33, 34, 35, 38, 39, 56] (.cond (.t 56) (.seq (.reg [Xm 58 5, Xm 59 6, Xb 60 (.call (.fn 7) false [.lend (.t 58), .lend (.t 59)]), Xm 57 60, Xq 61 (.ext 57 0), Xq 62 (.ext 57 1), Xq 63 (.ext 57 2), Xa 11 61, Xa 12 62, Xa 13 63]) (.keep [1, 6, 7, 11, 12, 13,
 30, 32, 34, 35, 38, 39] (.seq (.reg [Xm 65 7, Xb 66 (.call (.fn 7) false [.lend (.t 65), .lend (.nils 34 3)]), Xm 64 66, Xq 67 (.ext 64 0), Xq 68 (.ext 64 1), Xq 69 (.ext 64 2), Xa 14 67, Xa 15 68, Xa 16 69]) (.keep [1, 6, 7, 11, 12, 13, 14, 15, 16, 30, 32, 34, 35, 38, 39] (.seq (.reg [Xm 71 7, Xm 72 6, Xb 73 (.call (.fn 13) false [.lend (.t 71), .lend (.t 72)]), Xa 70 73, Xq 74 (.ext 70 0), Xq 75
 (.ext 70 1), Xa 17 74, Xa 18 75]) (.keep [1, 7, 11, 12, 13, 14, 15, 16, 17, 18, 35, 38, 39, 70, 73, 74] (.seq (.reg [Xm 76 7, Xb 77 (.call (.fn 16) false [.lend (.t 76)]), Xq 78 (.un .not (.t 77)), Xm 79 78, Xu 80 79 (.mov (.t 13)), Xu 81 79 (.un .not (.t 80)), Xq 82 (.pick (.t 79) .tb (.t 81)), Xm 83 82, Xu 84 83 (.mov (.t 16)), Xu 85 83 (.un .not (.t 84)), Xq 86 (.pick (.t 83) .tb (.t 85)), Xm
 87 86, Xu 88 87 (.mov (.t 12)), Xu 89 87 (.bin false .eql (.t 88) (.i 0)), Xu 90 87 (.mov (.t 89)), Xt 91 90 (.mov (.t 15)), Xt 92 90 (.bin false .neq (.t 91) (.i 0)), Xt 93 90 (.mov (.t 92)), Xu 94 93 (.mov (.t 11)), Xu 95 93 (.mov (.t 14)), Xu 96 93 (.bin false .neq (.t 94) (.t 95)), Xt 97 90 (.pick (.t 93) .tb (.t 96)), Xt 98 90 (.mov (.t 97)), Xu 99 98 (.mov (.t 7)), Xu 100 98 (.len false (.t
 99)), Xu 101 98 (.bin false .gtr (.t 100) (.i 2)), Xt 102 90 (.pick (.t 98) .tb (.t 101)), Xu 103 87 (.pick (.t 90) (.t 102) .fb), Xq 104 (.pick (.t 87) .tb (.t 103)), Xm 105 104, Xu 106 105 (.mov (.t 18)), Xu 107 105 (.un .not (.t 106)), Xq 108 (.pick (.t 105) .tb (.t 107)), Xm 109 108, Xu 110 109 (.mov (.t 17)), Xu 111 109 (.mov (.t 7)), XU 112 109 (.call (.fn 15) false [.lend (.t 110), .lend
 (.t 111)]), Xu 113 109 (.un .not (.t 112)), Xq 114 (.pick (.t 109) .tb (.t 113))]) (.keep [1, 114] (.cond (.t 114) (.seq (.reg [Xb 4 (.asg .fb)]) .ret) .skip))))))))) .skip))) (.seq (.reg [Xm 116 1, Xb 117 (.call (.fn 6) true [.lend (.t 116)]), Xa 115 117, Xq 118 (.ext 115 0), Xq 119 (.ext 115 1), Xa 19 118, Xa 20 119]) (.keep [19, 20, 115, 117, 118, 119] (.seq (.reg [Xm 121 19, Xm 122 20, Xb 123
 (.call (.fn 7) false [.lend (.t 121), .lend (.t 122)]), Xm 120 123, Xq 124 (.ext 120 0), Xq 125 (.ext 120 1), Xq 126 (.ext 120 2), Xa 21 124, Xa 22 125, Xa 23 126]) (.keep [19, 20, 21, 22, 23, 115, 117, 118, 119] (.seq (.reg [Xm 128 19, Xm 129 20, Xb 130 (.call (.fn 8) false [.lend (.t 128), .lend (.t 129)]), Xm 127 130, Xq 131 (.ext 127 0), Xq 132 (.ext 127 1), Xq 133 (.ext 127 2), Xa 24 131, Xa
 25 132, Xa 26 133]) (.keep [21, 22, 23, 24, 25, 26] (.seq (.reg [Xm 134 23, Xm 135 26, Xq 136 (.bin true .eql (.t 134) (.t 135)), Xm 137 136, Xt 138 137 (.mov (.t 21)), Xt 139 137 (.mov (.t 24)), Xt 140 137 (.bin false .eql (.t 138) (.t 139)), Xq 141 (.pick (.t 137) (.t 140) .fb), Xm 142 141, Xt 143 142 (.mov (.t 22)), Xt 144 142 (.mov (.t 25)), Xt 145 142 (.bin false .eql (.t 143) (.t 144)), Xq
 146 (.pick (.t 142) (.t 145) .fb), Xa 4 146]) .ret))))))))))))))))))))
set_option maxHeartbeats 8000000 in
set_option maxRecDepth 100000 in
theorem d4 (code more : List Int) (hc : (code.length : Int) ≤ 9223372036854775807) (hm : (more.length : Int) ≤ 9223372036854775807) (hcb : ∀ b ∈ code, 0 ≤ b ∧ b ≤ 255) (hmb : ∀ b ∈ more, 0 ≤ b ∧ b ≤ 255) :
    Does Go.Proofs.Try.prog 4 [.fsl 1 (code.map bv), .fsl 1 (more.map bv)] false (.v (.bool true)) [.dead, .dead] := by
  have bs : ∀ b : Bool, (b != b) = false := fun b => by cases b <;> rfl
  have be : ∀ b : Bool, (b == b) = true := fun b => by cases b <;> rfl
  refine does_intro (mc := m4) (N := 147) (rs := [4]) (fx := []) 2 rfl (by decide +kernel) ?_
  simp only [m4, EV, Nat.reduceEqDiff, Nat.reduceBEq, Nat.reduceLT, Nat.reduceLeDiff, Nat.reduceAdd, Nat.reduceSub, reduceIte]
  refine callK_i (d5 code more hc hm) ?_
  simp only [EV, Nat.reduceEqDiff, Nat.reduceBEq, Nat.reduceLT, Nat.reduceLeDiff, Nat.reduceAdd, Nat.reduceSub, reduceIte]
  refine cK_cut (fun h => ?_) (fun h => ?_)
  · simp only [EV, Nat.reduceEqDiff, Nat.reduceBEq, Nat.reduceLT, Nat.reduceLeDiff, Nat.reduceAdd, Nat.reduceSub, reduceIte]
    simp only [EV, Nat.reduceEqDiff, Nat.reduceBEq, Nat.reduceLT, Nat.reduceLeDiff, Nat.reduceAdd, Nat.reduceSub, reduceIte, evRE, retVC, cellV', evR, nfz, nfzs, nfzss, List.contains_nil, List.contains_cons, Bool.or_false, or_true]
  have h1 : (code.length : Int) ≤ 1048576 ∧ (more.length : Int) ≤ 1048576 := by
    simp only [Bool.or_eq_false_iff, decide_eq_false_iff_not] at h
    omega
  clear h
  simp only [EV, Nat.reduceEqDiff, Nat.reduceBEq, Nat.reduceLT, Nat.reduceLeDiff, Nat.reduceAdd, Nat.reduceSub, reduceIte]
  refine callE_i (p12 code h1.1 hcb) (fun r o h => ⟨h.2, h.1⟩) ?_
  rintro _ ⟨e, K, rfl, ⟨he, hs⟩, hK⟩
  have dI := d13 e K (by omega) hs (by omega)
  have dS := d14 e K (by omega) hs (by omega)
  obtain ⟨fl, fo⟩ := foldL_ok (K := K) he hs
  have dT := d15 (foldL K e) (by omega)
  simp only [Step.frz, Known.frz, pbeq, EV, Nat.reduceEqDiff, Nat.reduceBEq, Nat.reduceLT, Nat.reduceLeDiff, Nat.reduceAdd, Nat.reduceSub, reduceIte]
  refine callK_i dI ?_
  simp only [Step.frz, Known.frz, pbeq, EV, Nat.reduceEqDiff, Nat.reduceBEq, Nat.reduceLT, Nat.reduceLeDiff, Nat.reduceAdd, Nat.reduceSub, reduceIte]
  refine callK_i dS ?_
  simp only [bs, Step.frz, Known.frz, pbeq, EV, Nat.reduceEqDiff, Nat.reduceBEq, Nat.reduceLT, Nat.reduceLeDiff, Nat.reduceAdd, Nat.reduceSub, reduceIte]
  refine callK_i dT ?_
  simp only [Bool.not_true, pbeq, EV, Nat.reduceEqDiff, Nat.reduceBEq, Nat.reduceLT, Nat.reduceLeDiff, Nat.reduceAdd, Nat.reduceSub, reduceIte]
  refine awp_join (fun _ : Unit => True) (fun _ => stl [(1, .fsl 1 (more.map bv))]) ?_ ?_
  · simp only [EV, Nat.reduceEqDiff, Nat.reduceBEq, Nat.reduceLT, Nat.reduceLeDiff, Nat.reduceAdd, Nat.reduceSub, reduceIte]
    rcases eb : foldB K e with _ | _
    · simp only [EV, Nat.reduceEqDiff, Nat.reduceBEq, Nat.reduceLT, Nat.reduceLeDiff, Nat.reduceAdd, Nat.reduceSub, reduceIte]
      exact ⟨(), trivial⟩
    obtain ⟨g1, g2, g3, g4⟩ := fold_law eb
    have eb' : (exprOk e && knOk K) = true := eb
    have dE := d7 e K (by omega) hs (by omega)
    have dF := d7 (foldL K e) [] (by omega) fo (by simp)
    have dA := d13 (foldL K e) K (by omega) fo (by omega)
    have dG := d16 (foldL K e) (by omega) fo
    have ef : (exprOk (foldL K e) && knOk []) = true := by rw [g1]; rfl
    rw [if_pos eb'] at dE
    rw [if_pos ef, List.map_nil] at dF
    rw [g3, g4] at dA
    rw [g1] at dG
    generalize foldL K e = f at *
    simp only [Step.frz, Known.frz, pbeq, EV, Nat.reduceEqDiff, Nat.reduceBEq, Nat.reduceLT, Nat.reduceLeDiff, Nat.reduceAdd, Nat.reduceSub, reduceIte]
    refine callK_i dE ?_
    simp only [Step.frz, Known.frz, pbeq, EV, Nat.reduceEqDiff, Nat.reduceBEq, Nat.reduceLT, Nat.reduceLeDiff, Nat.reduceAdd, Nat.reduceSub, reduceIte]
    refine callK_i dF ?_
    simp only [Step.frz, Known.frz, pbeq, EV, Nat.reduceEqDiff, Nat.reduceBEq, Nat.reduceLT, Nat.reduceLeDiff, Nat.reduceAdd, Nat.reduceSub, reduceIte]
    refine callK_i dA ?_
    simp only [Step.frz, Known.frz, pbeq, EV, Nat.reduceEqDiff, Nat.reduceBEq, Nat.reduceLT, Nat.reduceLeDiff, Nat.reduceAdd, Nat.reduceSub, reduceIte]
    refine callK_i dG ?_
    simp only [Bool.not_true, Step.frz, Known.frz, pbeq, EV, Nat.reduceEqDiff, Nat.reduceBEq, Nat.reduceLT, Nat.reduceLeDiff, Nat.reduceAdd, Nat.reduceSub, reduceIte]
    have bn : ∀ x : Int, (x != x) = false := fun x => by simp
    rcases e0 : ((evalOf K e).2 == 0) with _ | _
    · simp only [e0, Step.frz, pbeq, EV, Nat.reduceEqDiff, Nat.reduceBEq, Nat.reduceLT, Nat.reduceLeDiff, Nat.reduceAdd, Nat.reduceSub, reduceIte]
      refine callK_i dT ?_
      simp only [Bool.not_true, EV, Nat.reduceEqDiff, Nat.reduceBEq, Nat.reduceLT, Nat.reduceLeDiff, Nat.reduceAdd, Nat.reduceSub, reduceIte]
      exact ⟨(), trivial⟩
    · obtain ⟨v, l2⟩ := g2 (by simpa using e0)
      have l3 : decide ((2 : Int) < (f.length : Int)) = false := by simp; omega
      simp only [e0, v, bn, l3, Step.frz, pbeq, EV, Nat.reduceEqDiff, Nat.reduceBEq, Nat.reduceLT, Nat.reduceLeDiff, Nat.reduceAdd, Nat.reduceSub, reduceIte]
      refine callK_i dT ?_
      simp only [Bool.not_true, EV, Nat.reduceEqDiff, Nat.reduceBEq, Nat.reduceLT, Nat.reduceLeDiff, Nat.reduceAdd, Nat.reduceSub, reduceIte]
      exact ⟨(), trivial⟩
  rintro _ _
  simp only [EV, Nat.reduceEqDiff, Nat.reduceBEq, Nat.reduceLT, Nat.reduceLeDiff, Nat.reduceAdd, Nat.reduceSub, reduceIte]
  refine callE_i (p6 more h1.2 hmb) (fun r o h => ⟨h.2, h.1⟩) ?_
  rintro _ ⟨d, k, rfl, ⟨hd, hds⟩, hk⟩
  have d1 := d7 d k (by omega) hds (by omega)
  have d2 := d8 d k (by omega) hds (by omega)
  rw [eval_eq] at d1 d2
  simp only [Step.frz, Known.frz, pbeq, EV, Nat.reduceEqDiff, Nat.reduceBEq, Nat.reduceLT, Nat.reduceLeDiff, Nat.reduceAdd, Nat.reduceSub, reduceIte]
  refine callK_i d1 ?_
  simp only [Step.frz, Known.frz, pbeq, EV, Nat.reduceEqDiff, Nat.reduceBEq, Nat.reduceLT, Nat.reduceLeDiff, Nat.reduceAdd, Nat.reduceSub, reduceIte]
  refine callK_i d2 ?_
  have bi : ∀ x : Int, (x == x) = true := fun x => by simp
  simp only [be, bi, pbeq, EV, Nat.reduceEqDiff, Nat.reduceBEq, Nat.reduceLT, Nat.reduceLeDiff, Nat.reduceAdd, Nat.reduceSub, reduceIte]
  simp only [EV, Nat.reduceEqDiff, Nat.reduceBEq, Nat.reduceLT, Nat.reduceLeDiff, Nat.reduceAdd, Nat.reduceSub, reduceIte, evRE, retVC, cellV', evR, nfz, nfzs, nfzss, List.contains_nil, List.contains_cons, Bool.or_false, or_true]
end Go.AM
namespace Go.AM
set_option linter.unusedVariables false
set_option linter.unusedSimpArgs false
theorem namesOf_len (e : List Step) : (namesOf e).length ≤ e.length := by
  have := nm_len e []
  simpa [namesOf] using this
theorem someOf_succ {K : List Known} {us : List Use} {i : Nat} (h : i < K.length) : someOf (K.take (i + 1)) us = someOf (K.take i) us ++ (us.filter (fun u => kOf u K[i])).map fun _ => K[i] := by
  unfold someOf; rw [List.take_succ_eq_append_getElem h, List.flatMap_append]; simp
theorem rep_succ {k : Known} {us : List Use} {j : Nat} (h : j < us.length) : (((us.take (j + 1)).filter (fun u => kOf u k)).map fun _ => k) = (((us.take j).filter (fun u => kOf u k)).map fun _ => k) ++ (if kOf us[j] k = true then [k] else []) := by
  rw [List.take_succ_eq_append_getElem h, List.filter_append, List.map_append]
  rcases e : kOf us[j] k with _ | _ <;> simp [e]
theorem Use.zfrz (l : List Use) : frzRows (l.map Use.c) = l.map Use.c := Use.frz l
def m3 : MC :=
 (.seq (.reg [Xb 4 (.asg .fb)]) (.keep [0, 1] (.seq (.seq (.reg [Xm 31 0, Xm 32 1, Xb 33 (.call (.fn 5) false [.lend (.t 31), .lend (.t 32)])]) (.keep [0, 1, 33] (.cond (.t 33) (.seq (.reg [Xb 4 (.asg .tb)]) .ret) .skip))) (.keep [0, 1] (.seq (.reg [Xm 35 0, Xb 36 (.call (.fn 6) true [.lend (.t 35)]), Xa 34 36, Xq 37 (.ext 34 0), Xq 38 (.ext 34 1), Xa 5 37, Xa 6 38]) (.keep [1, 5, 6, 34, 36, 37,
 38] (.seq (.reg [Xm 40 5, Xm 41 6, Xb 42 (.call (.fn 7) false [.lend (.t 40), .lend (.t 41)]), Xm 39 42, Xq 43 (.ext 39 0), Xq 44 (.ext 39 1), Xq 45 (.ext 39 2), Xa 7 43, Xa 8 44, Xa 9 45]) (.keep [1, 5, 6, 7, 8, 9, 34, 36, 37, 38] (.seq (.reg [Xm 47 5, Xm 48 6, Xb 49 (.call (.fn 8) false [.lend (.t 47), .lend (.t 48)]), Xm 46 49, Xq 50 (.ext 46 0), Xq 51 (.ext 46 1), Xq 52 (.ext 46 2), Xa 10 50,
 Xa 11 51, Xa 12 52]) (.keep [1, 5, 6, 7, 8, 9, 10, 11, 12, 34, 36, 37, 38] (.seq (.reg [Xm 54 5, Xb 55 (.call (.fn 9) false [.lend (.t 54)]), Xa 53 55, Xq 56 (.ext 53 0), Xq 57 (.ext 53 1), Xa 13 56, Xa 14 57]) (.keep [1, 5, 6, 7, 8, 9, 10, 11, 12, 13, 14, 34, 36, 37, 38, 53, 55, 56] (.seq (.reg [Xm 59 5, Xb 60 (.call (.fn 10) false [.lend (.t 59)]), Xa 58 60, Xq 61 (.ext 58 0), Xq 62 (.ext 58 1),
 Xa 15 61, Xa 16 62]) (.keep [1, 5, 6, 7, 8, 9, 10, 11, 12, 13, 14, 15, 16, 34, 36, 37, 38, 53, 55, 56, 58, 60, 61] (.seq (.seq (.reg [Xm 63 9, Xm 64 12, Xq 65 (.bin true .neq (.t 63) (.t 64)), Xm 66 65, Xu 67 66 (.mov (.t 7)), Xu 68 66 (.mov (.t 10)), Xu 69 66 (.bin false .neq (.t 67) (.t 68)), Xq 70 (.pick (.t 66) .tb (.t 69)), Xm 71 70, Xu 72 71 (.mov (.t 8)), Xu 73 71 (.mov (.t 11)), Xu 74 71
 (.bin false .neq (.t 72) (.t 73)), Xq 75 (.pick (.t 71) .tb (.t 74)), Xm 76 75, Xu 77 76 (.mov (.t 14)), Xu 78 76 (.mov (.t 16)), Xu 79 76 (.bin true .neq (.t 77) (.t 78)), Xq 80 (.pick (.t 76) .tb (.t 79)), Xm 81 80, Xu 82 81 (.mov (.t 13)), Xu 83 81 (.len false (.t 82)), Xu 84 81 (.mov (.t 15)), Xu 85 81 (.len false (.t 84)), Xu 86 81 (.bin false .neq (.t 83) (.t 85)), Xq 87 (.pick (.t 81) .tb
 (.t 86)), Xm 88 87, Xu 89 88 (.mov (.t 9)), Xu 90 88 (.mov (.t 89)), Xt 91 90 (.mov (.t 14)), Xt 92 90 (.un .not (.t 91)), Xu 93 88 (.pick (.t 90) (.t 92) .fb), Xq 94 (.pick (.t 88) .tb (.t 93))]) (.keep [1, 5, 6, 7, 8, 9, 13, 34, 36, 37, 38, 53, 55, 56, 94] (.cond (.t 94) (.seq (.reg [Xb 4 (.asg .fb)]) .ret) .skip))) (.keep [1, 5, 6, 7, 8, 9, 13, 34, 36, 37, 38, 53, 55, 56] (.join [1] (.seq (.reg
 [Xm 95 9, Xm 96 95, Xt 97 96 (.mov (.t 8)), Xt 98 96 (.bin false .eql (.t 97) (.i 0)), Xq 99 (.pick (.t 96) (.t 98) .fb)]) (.keep [1, 5, 6, 7, 13, 34, 36, 37, 38, 53, 55, 56, 99] (.cond (.t 99) (.seq (.reg [Xb 17 (.asg (.nils 34 3))]) (.keep [1, 5, 6, 7, 13, 17, 34, 36, 37, 38, 53, 55, 56, 127] (.seq (.seq (.reg [Xm 100 6, Xn 101 100, Xq 102 (.mov (.i 0))]) (.keep [1, 5, 6, 7, 13, 17, 34, 36, 37,
 38, 53, 55, 56, 100, 101, 102, 127] (.block 0 (.loop [1, 5, 6, 7, 13, 17, 34, 36, 37, 38, 53, 55, 56, 100, 101, 102, 127] (.seq (.reg [Xq 103 (.bin false .lss (.t 102) (.t 101))]) (.keep [1, 5, 6, 7, 13, 17, 34, 36, 37, 38, 53, 55, 56, 100, 101, 102, 103, 127] (.seq (.cond (.t 103) .skip (.exit 0)) (.keep [1, 5, 6, 7, 13, 17, 34, 36, 37, 38, 53, 55, 56, 100, 101, 102, 127] (.seq (.block 1 (.seq
 (.reg [Xi 104 3 100 102, XL 105 3 104, Xb 19 (.alloc 34 [.z, .z, .i]), Xz (.store 3 (.t 19) (.t 105))]) (.keep [1, 5, 6, 7, 13, 17, 19, 34, 36, 37, 38, 53, 55, 56, 100, 101, 102, 127] (.seq (.reg [Xm 106 13, Xn 107 106, Xq 108 (.mov (.i 0))]) (.keep [1, 5, 6, 7, 13, 17, 19, 34, 36, 37, 38, 53, 55, 56, 100, 101, 102, 106, 107, 108, 127] (.block 2 (.loop [1, 5, 6, 7, 13, 17, 19, 34, 36, 37, 38, 53,
 55, 56, 100, 101, 102, 106, 107, 108, 127] (.seq (.reg [Xq 109 (.bin false .lss (.t 108) (.t 107))]) (.keep [1, 5, 6, 7, 13, 17, 19, 34, 36, 37, 38, 53, 55, 56, 100, 101, 102, 106, 107, 108, 109, 127] (.seq (.cond (.t 109) .skip (.exit 2)) (.keep [1, 5, 6, 7, 13, 17, 19, 34, 36, 37, 38, 53, 55, 56, 100, 101, 102, 106, 107, 108, 127] (.join [1, 5, 6, 7, 13, 17, 19, 34, 36, 37, 38, 53, 55, 56, 100,
 101, 102, 106, 107, 108, 127] (.block 3 (.seq (.reg [Xi 110 2 106 108, XL 111 2 110, Xb 21 (.alloc 36 [.z, .z]), Xz (.store 2 (.t 21) (.t 111))]) (.keep [1, 5, 6, 7, 13, 17, 19, 21, 34, 36, 37, 38, 53, 55, 56, 100, 101, 102, 106, 107, 108, 127] (.seq (.reg [Xf 112 0 21, Xl 113 1 112, Xf 114 0 19, Xl 115 1 114, Xq 116 (.bin false .eql (.t 113) (.t 115)), Xm 117 116, Xt 118 117 (.fad 1 (.t 21)), Xt
 119 117 (.load false 1 (.t 118)), Xt 120 117 (.fad 1 (.t 19)), Xt 121 117 (.load false 1 (.t 120)), Xt 122 117 (.bin false .eql (.t 119) (.t 121)), Xq 123 (.pick (.t 117) (.t 122) .fb)]) (.keep [1, 5, 6, 7, 13, 17, 19, 34, 36, 37, 38, 53, 55, 56, 100, 101, 102, 106, 107, 108, 123, 127] (.cond (.t 123) (.reg [Xm 124 17, XL 125 3 19, Xb 126 (.bsl 34 3 [.t 125]), Xb 127 (.app true 34 3 40 (.t 124)
 (.t 126)), Xa 17 127]) .skip)))))) (.reg [Xq 128 (.bin false .add (.t 108) (.i 1)), Xm 108 128]))))))))))))) (.keep [1, 5, 6, 7, 13, 17, 34, 36, 37, 38, 53, 55, 56, 100, 101, 102, 127] (.reg [Xq 129 (.bin false .add (.t 102) (.i 1)), Xm 102 129]))))))))))) (.keep [1, 5, 7, 17, 34, 36, 37, 127] (.seq (.reg [Xm 131 5, Xm 132 17, Xb 133 (.call (.fn 7) false [.lend (.t 131), .lend (.t 132)]), Xm 130
 133, Xq 134 (.ext 130 0), Xq 135 (.ext 130 1), Xq 136 (.ext 130 2), Xa 22 134, Xa 23 135, Xa 24 136]) (.keep [1, 7, 22, 23, 24] (.seq (.reg [Xm 137 24, Xq 138 (.un .not (.t 137)), Xm 139 138, Xu 140 139 (.mov (.t 23)), Xu 141 139 (.bin false .neq (.t 140) (.i 0)), Xq 142 (.pick (.t 139) .tb (.t 141)), Xm 143 142, Xu 144 143 (.mov (.t 22)), Xu 145 143 (.mov (.t 7)), Xu 146 143 (.bin false .neq (.t
 144) (.t 145)), Xq 147 (.pick (.t 143) .tb (.t 146))]) (.keep [1, 147] (.cond (.t 147) (.seq (.reg [Xb 4 (.asg .fb)]) .ret) .skip))))))))) .skip))) (.seq (.reg [Xm 148 1, Xb 149 (.call (.fn 11) true [.lend (.t 148)]), Xa 25 149]) (.keep [25, 149] (.seq (.reg [Xm 151 25, Xb 152 (.call (.fn 9) false [.lend (.t 151)]), Xa 150 152, Xq 153 (.ext 150 0), Xq 154 (.ext 150 1), Xa 26 153, Xa 27 154])
 (.keep [25, 26, 27, 149, 150, 152, 153] (.seq (.reg [Xm 156 25, Xb 157 (.call (.fn 10) false [.lend (.t 156)]), Xa 155 157, Xq 158 (.ext 155 0), Xq 159 (.ext 155 1), Xa 28 158, Xa 29 159]) (.keep [26, 27, 28, 29, 150, 152, 153, 155, 157, 158] (.seq (.seq (.reg [Xm 160 27, Xm 161 29, Xq 162 (.bin true .neq (.t 160) (.t 161)), Xm 163 162, Xu 164 163 (.mov (.t 26)), Xu 165 163 (.len false (.t 164)),
 Xu 166 163 (.mov (.t 28)), Xu 167 163 (.len false (.t 166)), Xu 168 163 (.bin false .neq (.t 165) (.t 167)), Xq 169 (.pick (.t 163) .tb (.t 168))]) (.keep [26, 28, 150, 152, 153, 155, 157, 158, 169] (.cond (.t 169) (.seq (.reg [Xb 4 (.asg .fb)]) .ret) .skip))) (.keep [26, 28, 150, 152, 153, 155, 157, 158] (.seq (.seq (.reg [Xm 170 26, Xn 171 170, Xq 172 (.mov (.i 0))]) (.keep [26, 28, 150, 152,
 153, 155, 157, 158, 171, 172] (.block 4 (.loop [26, 28, 150, 152, 153, 155, 157, 158, 171, 172] (.seq (.reg [Xq 173 (.bin false .lss (.t 172) (.t 171))]) (.keep [26, 28, 150, 152, 153, 155, 157, 158, 171, 172, 173] (.seq (.cond (.t 173) .skip (.exit 4)) (.keep [26, 28, 150, 152, 153, 155, 157, 158, 171, 172] (.seq (.block 5 (.seq (.reg [Xm 174 172, Xa 30 174]) (.keep [26, 28, 30, 150, 152, 153,
 155, 157, 158, 171, 172] (.seq (.dreg [Xm 175 26, Xm 176 30, Xi 177 2 175 176, XL 178 2 177, Xm 179 28, Xm 180 30, Xi 181 2 179 180, XL 182 2 181, Xq 183 (.eqa true [1, 1] (.t 178) (.t 182))]) (.keep [26, 28, 150, 152, 153, 155, 157, 158, 171, 172, 183] (.cond (.t 183) (.seq (.reg [Xb 4 (.asg .fb)]) .ret) .skip)))))) (.keep [26, 28, 150, 152, 153, 155, 157, 158, 171, 172] (.reg [Xq 184 (.bin false
 .add (.t 172) (.i 1)), Xm 172 184]))))))))))) (.keep [] (.seq (.reg [Xb 4 (.asg .tb)]) .ret))))))))))))))))))))))))))))
set_option maxHeartbeats 16000000 in
set_option maxRecDepth 100000 in
theorem d3 (code more : List Int) (hc : (code.length : Int) ≤ 9223372036854775807) (hm : (more.length : Int) ≤ 9223372036854775807) (hcb : ∀ b ∈ code, 0 ≤ b ∧ b ≤ 255) (hmb : ∀ b ∈ more, 0 ≤ b ∧ b ≤ 255) :
    Does Go.Proofs.Try.prog 3 [.fsl 1 (code.map bv), .fsl 1 (more.map bv)] false (.v (.bool true)) [.dead, .dead] := by
  have bs : ∀ b : Bool, (b != b) = false := fun b => by cases b <;> rfl
  have be : ∀ b : Bool, (b == b) = true := fun b => by cases b <;> rfl
  have bn : ∀ x : Int, (x != x) = false := fun x => by simp
  refine does_intro (mc := m3) (N := 185) (rs := [4]) (fx := []) 2 rfl (by decide +kernel) ?_
  simp only [m3, EV, Nat.reduceEqDiff, Nat.reduceBEq, Nat.reduceLT, Nat.reduceLeDiff, Nat.reduceAdd, Nat.reduceSub, reduceIte]
  refine callK_i (d5 code more hc hm) ?_
  simp only [EV, Nat.reduceEqDiff, Nat.reduceBEq, Nat.reduceLT, Nat.reduceLeDiff, Nat.reduceAdd, Nat.reduceSub, reduceIte]
  refine cK_cut (fun h => ?_) (fun h => ?_)
  · simp only [EV, Nat.reduceEqDiff, Nat.reduceBEq, Nat.reduceLT, Nat.reduceLeDiff, Nat.reduceAdd, Nat.reduceSub, reduceIte]
    simp only [EV, Nat.reduceEqDiff, Nat.reduceBEq, Nat.reduceLT, Nat.reduceLeDiff, Nat.reduceAdd, Nat.reduceSub, reduceIte, evRE, retVC, cellV', evR, nfz, nfzs, nfzss, List.contains_nil, List.contains_cons, Bool.or_false, or_true]
  have h1 : (code.length : Int) ≤ 1048576 ∧ (more.length : Int) ≤ 1048576 := by
    simp only [Bool.or_eq_false_iff, decide_eq_false_iff_not] at h
    omega
  clear h
  simp only [EV, Nat.reduceEqDiff, Nat.reduceBEq, Nat.reduceLT, Nat.reduceLeDiff, Nat.reduceAdd, Nat.reduceSub, reduceIte]
  refine callE_i (p6 code h1.1 hcb) (fun r o h => ⟨h.2, h.1⟩) ?_
  rintro _ ⟨e, K, rfl, ⟨he, hs⟩, hK⟩
  have d1 := d7 e K (by omega) hs (by omega)
  have d2 := d8 e K (by omega) hs (by omega)
  have d3 := d9 e (by omega) hs
  have d4 := d10 e (by omega) hs
  rw [eval_eq] at d1 d2
  have hlu : (if exprOk e = true then namesOf e else []).length ≤ 301 := by
    split
    · exact Nat.le_trans (namesOf_len e) he
    · simp
  generalize hus : (if exprOk e = true then namesOf e else []) = us at d3 d4 hlu
  simp only [Step.frz, Known.frz, pbeq, EV, Nat.reduceEqDiff, Nat.reduceBEq, Nat.reduceLT, Nat.reduceLeDiff, Nat.reduceAdd, Nat.reduceSub, reduceIte]
  refine callK_i d1 ?_
  simp only [Step.frz, Known.frz, pbeq, EV, Nat.reduceEqDiff, Nat.reduceBEq, Nat.reduceLT, Nat.reduceLeDiff, Nat.reduceAdd, Nat.reduceSub, reduceIte]
  refine callK_i d2 ?_
  simp only [Step.frz, Known.frz, pbeq, EV, Nat.reduceEqDiff, Nat.reduceBEq, Nat.reduceLT, Nat.reduceLeDiff, Nat.reduceAdd, Nat.reduceSub, reduceIte]
  refine callK_i d3 ?_
  simp only [Step.frz, Known.frz, Use.zfrz, pbeq, EV, Nat.reduceEqDiff, Nat.reduceBEq, Nat.reduceLT, Nat.reduceLeDiff, Nat.reduceAdd, Nat.reduceSub, reduceIte]
  refine callK_i d4 ?_
  simp only [bs, bn, Step.frz, Known.frz, Use.zfrz, pbeq, EV, Nat.reduceEqDiff, Nat.reduceBEq, Nat.reduceLT, Nat.reduceLeDiff, Nat.reduceAdd, Nat.reduceSub, reduceIte]
  clear d1 d2 d3 d4
  rcases eb : (exprOk e && knOk K) with _ | _
  · simp only [eb, pbeq, EV, Nat.reduceEqDiff, Nat.reduceBEq, Nat.reduceLT, Nat.reduceLeDiff, Nat.reduceAdd, Nat.reduceSub, reduceIte]
    refine awp_join (fun _ : Unit => True) (fun _ => stl [(1, .fsl 1 (more.map bv))]) ?_ ?_
    · simp only [eb, pbeq, EV, Nat.reduceEqDiff, Nat.reduceBEq, Nat.reduceLT, Nat.reduceLeDiff, Nat.reduceAdd, Nat.reduceSub, reduceIte]
      exact ⟨(), trivial⟩
    rintro _ _
    simp only [EV, Nat.reduceEqDiff, Nat.reduceBEq, Nat.reduceLT, Nat.reduceLeDiff, Nat.reduceAdd, Nat.reduceSub, reduceIte]
    refine callE_i (p11 more h1.2 hmb) (fun r o h => ⟨h.2, h.1⟩) ?_
    rintro _ ⟨d, rfl, hd, hds⟩
    have d6 := d9 d (by omega) hds
    have d7 := d10 d (by omega) hds
    have hlw : (if exprOk d = true then namesOf d else []).length ≤ 301 := by
      split
      · exact Nat.le_trans (namesOf_len d) hd
      · simp
    generalize (if exprOk d = true then namesOf d else []) = ws at d6 d7 hlw
    simp only [Step.frz, pbeq, EV, Nat.reduceEqDiff, Nat.reduceBEq, Nat.reduceLT, Nat.reduceLeDiff, Nat.reduceAdd, Nat.reduceSub, reduceIte]
    refine callK_i d6 ?_
    simp only [Step.frz, Use.zfrz, pbeq, EV, Nat.reduceEqDiff, Nat.reduceBEq, Nat.reduceLT, Nat.reduceLeDiff, Nat.reduceAdd, Nat.reduceSub, reduceIte]
    refine callK_i d7 ?_
    simp only [bs, bn, Step.frz, Use.zfrz, pbeq, EV, Nat.reduceEqDiff, Nat.reduceBEq, Nat.reduceLT, Nat.reduceLeDiff, Nat.reduceAdd, Nat.reduceSub, reduceIte]
    refine awp_loop (fun i : Nat => i ≤ ws.length) (fun i => stl [(26, .usl 36 2 (ws.map Use.c)), (28, .usl 36 2 (ws.map Use.c)), (150, .tup [.dead, .v (.bool (exprOk d))]), (152, .dead), (153, .dead), (155, .tup [.dead, .v (.bool (exprOk d))]), (157, .dead), (158, .dead), (171, .v (.int .i64 (ws.length : Int))), (172, .v (.int .i64 (i : Int)))]) (fun i => ws.length - i) 0 (Nat.zero_le _) ?_ ?_
    · simp only [EV, Nat.reduceEqDiff, Nat.reduceBEq, Nat.reduceLT, Nat.reduceLeDiff, Nat.reduceAdd, Nat.reduceSub, reduceIte]
      rfl
    intro i hi
    simp only [EV, Nat.reduceEqDiff, Nat.reduceBEq, Nat.reduceLT, Nat.reduceLeDiff, Nat.reduceAdd, Nat.reduceSub, reduceIte]
    refine cK_cut (fun h => ?_) (fun h => ?_)
    · have i2 : (i : Int) < (ws.length : Int) := by simpa using h
      have i1 : i < ws.length := by omega
      clear h
      have wi := w64 ((i : Int) + 1) (by omega)
      simp only [i1, i2, nth_map i1, Use.c, wi, EV, Nat.reduceEqDiff, Nat.reduceBEq, Nat.reduceLT, Nat.reduceLeDiff, Nat.reduceAdd, Nat.reduceSub, reduceIte]
      exact ⟨i + 1, i1, by omega, rfl⟩
    · simp only [EV, Nat.reduceEqDiff, Nat.reduceBEq, Nat.reduceLT, Nat.reduceLeDiff, Nat.reduceAdd, Nat.reduceSub, reduceIte]
      simp only [EV, Nat.reduceEqDiff, Nat.reduceBEq, Nat.reduceLT, Nat.reduceLeDiff, Nat.reduceAdd, Nat.reduceSub, reduceIte, evRE, retVC, cellV', evR, nfz, nfzs, nfzss, List.contains_nil, List.contains_cons, Bool.or_false, or_true]
  have eb2 := eb
  simp only [Bool.and_eq_true] at eb2
  obtain ⟨ex, ek⟩ := eb2
  rw [if_pos ex] at hus
  subst hus
  simp only [eb, ex, Bool.not_true, pbeq, EV, Nat.reduceEqDiff, Nat.reduceBEq, Nat.reduceLT, Nat.reduceLeDiff, Nat.reduceAdd, Nat.reduceSub, reduceIte]
  refine awp_join (fun _ : Unit => True) (fun _ => stl [(1, .fsl 1 (more.map bv))]) ?_ ?_
  · simp only [eb, if_true, pbeq, EV, Nat.reduceEqDiff, Nat.reduceBEq, Nat.reduceLT, Nat.reduceLeDiff, Nat.reduceAdd, Nat.reduceSub, reduceIte]
    refine cK_cut (fun h => ?_) (fun h => ?_)
    rotate_left
    · simp only [EV, Nat.reduceEqDiff, Nat.reduceBEq, Nat.reduceLT, Nat.reduceLeDiff, Nat.reduceAdd, Nat.reduceSub, reduceIte]
      exact ⟨(), trivial⟩
    have e0 : (evalOf K e).2 = 0 := by simpa using h
    clear h
    simp only [EV, Nat.reduceEqDiff, Nat.reduceBEq, Nat.reduceLT, Nat.reduceLeDiff, Nat.reduceAdd, Nat.reduceSub, reduceIte]
    refine awp_loop (fun i : Nat => i ≤ K.length) (fun i => stl [(1, .fsl 1 (more.map bv)), (5, .usl 54 4 (e.map Step.c)), (6, .usl 34 3 (K.map Known.c)), (7, .v (.int .i64 (evalOf K e).1)), (13, .usl 36 2 ((namesOf e).map Use.c)), (17, .usl 34 3 ((someOf (K.take i) (namesOf e)).map Known.c)), (34, .tup [.dead, .dead]), (36, .dead), (37, .dead), (38, .dead), (53, .tup [.dead, .v (.bool true)]), (55, .dead), (56, .dead), (100, .sref 6 [] 0 K.length), (101, .v (.int .i64 (K.length : Int))), (102, .v (.int .i64 (i : Int))), (127, .dead)]) (fun i => K.length - i) 0 (Nat.zero_le _) ?_ ?_
    · simp only [List.take_zero, someOf, List.flatMap_nil, List.map_nil, EV, Nat.reduceEqDiff, Nat.reduceBEq, Nat.reduceLT, Nat.reduceLeDiff, Nat.reduceAdd, Nat.reduceSub, reduceIte]
      rfl
    intro i hi
    simp only [EV, Nat.reduceEqDiff, Nat.reduceBEq, Nat.reduceLT, Nat.reduceLeDiff, Nat.reduceAdd, Nat.reduceSub, reduceIte]
    refine cK_cut (fun h => ?_) (fun h => ?_)
    · have i2 : (i : Int) < (K.length : Int) := by simpa using h
      have i1 : i < K.length := by omega
      clear h
      have wi := w64 ((i : Int) + 1) (by omega)
      have hsl : (someOf (K.take i) (namesOf e)).length ≤ 3 := by
        have := some_len (nm_uniq e [] List.Pairwise.nil) (K.take i)
        simp only [List.length_take] at this
        have e2 : someOf (K.take i) (namesOf e) = someOf (K.take i) (e.foldl nmStep []) := rfl
        rw [e2]; omega
      simp only [KnownE, i1, i2, nth_map i1, EV, Nat.reduceEqDiff, Nat.reduceBEq, Nat.reduceLT, Nat.reduceLeDiff, Nat.reduceAdd, Nat.reduceSub, reduceIte]
      refine awp_loop (fun j : Nat => j ≤ (namesOf e).length) (fun j => stl [(1, .fsl 1 (more.map bv)), (5, .usl 54 4 (e.map Step.c)), (6, .usl 34 3 (K.map Known.c)), (7, .v (.int .i64 (evalOf K e).1)), (13, .usl 36 2 ((namesOf e).map Use.c)), (17, .usl 34 3 ((someOf (K.take i) (namesOf e) ++ (((namesOf e).take (j)).filter (fun u => kOf u K[i])).map fun _ => K[i]).map Known.c)), (19, .box 34 (Known.c K[i])), (34, .tup [.dead, .dead]), (36, .dead), (37, .dead), (38, .dead), (53, .tup [.dead, .v (.bool true)]), (55, .dead), (56, .dead), (100, .sref 6 [] 0 K.length), (101, .v (.int .i64 (K.length : Int))), (102, .v (.int .i64 (i : Int))), (106, .sref 13 [] 0 (namesOf e).length), (107, .v (.int .i64 ((namesOf e).length : Int))), (108, .v (.int .i64 (j : Int))), (127, .dead)]) (fun j => (namesOf e).length - j) 0 (Nat.zero_le _) ?_ ?_
      · simp only [List.take_zero, List.filter_nil, List.map_nil, List.append_nil, EV, Nat.reduceEqDiff, Nat.reduceBEq, Nat.reduceLT, Nat.reduceLeDiff, Nat.reduceAdd, Nat.reduceSub, reduceIte]
        rfl
      intro j hj
      simp only [Known.c, EV, Nat.reduceEqDiff, Nat.reduceBEq, Nat.reduceLT, Nat.reduceLeDiff, Nat.reduceAdd, Nat.reduceSub, reduceIte]
      refine cK_cut (fun h => ?_) (fun h => ?_)
      · have j2 : (j : Int) < ((namesOf e).length : Int) := by simpa using h
        have j1 : j < (namesOf e).length := by omega
        clear h
        have wj := w64 ((j : Int) + 1) (by omega)
        have hrl : ((((namesOf e).take j).filter (fun u => kOf u K[i])).map fun _ => K[i]).length ≤ 301 := by
          rw [List.length_map]
          have := List.length_filter_le (fun u => kOf u K[i]) ((namesOf e).take j)
          rw [List.length_take] at this; omega
        have hrs := rep_succ (k := K[i]) j1
        refine awp_join (fun _ : Unit => True) (fun _ => stl [(1, .fsl 1 (more.map bv)), (5, .usl 54 4 (e.map Step.c)), (6, .usl 34 3 (K.map Known.c)), (7, .v (.int .i64 (evalOf K e).1)), (13, .usl 36 2 ((namesOf e).map Use.c)), (17, .usl 34 3 ((someOf (K.take i) (namesOf e) ++ (((namesOf e).take (j + 1)).filter (fun u => kOf u K[i])).map fun _ => K[i]).map Known.c)), (19, .box 34 (Known.c K[i])), (34, .tup [.dead, .dead]), (36, .dead), (37, .dead), (38, .dead), (53, .tup [.dead, .v (.bool true)]), (55, .dead), (56, .dead), (100, .sref 6 [] 0 K.length), (101, .v (.int .i64 (K.length : Int))), (102, .v (.int .i64 (i : Int))), (106, .sref 13 [] 0 (namesOf e).length), (107, .v (.int .i64 ((namesOf e).length : Int))), (108, .v (.int .i64 (j : Int))), (127, .dead)]) ?_ ?_
        · simp only [UseE, j1, j2, nth_map j1, Use.c, Known.c, EV, Nat.reduceEqDiff, Nat.reduceBEq, Nat.reduceLT, Nat.reduceLeDiff, Nat.reduceAdd, Nat.reduceSub, reduceIte]
          rcases ea : ((namesOf e)[j].mod.toList == K[i].mod.toList) with _ | _
          · have hk : kOf (namesOf e)[j] K[i] = false := by simp [kOf, ea]
            rw [hk] at hrs
            simp only [ea, Known.c, EV, Nat.reduceEqDiff, Nat.reduceBEq, Nat.reduceLT, Nat.reduceLeDiff, Nat.reduceAdd, Nat.reduceSub, reduceIte]
            refine ⟨(), ?_⟩
            rw [hrs]
            simp
          rcases eb : ((namesOf e)[j].name.toList == K[i].name.toList) with _ | _
          · have hk : kOf (namesOf e)[j] K[i] = false := by simp [kOf, ea, eb]
            rw [hk] at hrs
            simp only [ea, eb, Known.c, EV, Nat.reduceEqDiff, Nat.reduceBEq, Nat.reduceLT, Nat.reduceLeDiff, Nat.reduceAdd, Nat.reduceSub, reduceIte]
            refine ⟨(), ?_⟩
            rw [hrs]
            simp
          · have hk : kOf (namesOf e)[j] K[i] = true := by simp [kOf, ea, eb]
            rw [hk] at hrs
            simp only [ea, eb, Known.c, EV, Nat.reduceEqDiff, Nat.reduceBEq, Nat.reduceLT, Nat.reduceLeDiff, Nat.reduceAdd, Nat.reduceSub, reduceIte]
            refine ⟨by rw [List.length_append]; omega, by rw [List.length_append]; omega, (), ?_⟩
            rw [hrs, ← List.append_assoc, List.map_append (l₁ := someOf (List.take i K) (namesOf e) ++ _)]
            rfl
        rintro _ _
        simp only [wj, Known.c, EV, Nat.reduceEqDiff, Nat.reduceBEq, Nat.reduceLT, Nat.reduceLeDiff, Nat.reduceAdd, Nat.reduceSub, reduceIte]
        exact ⟨j + 1, j1, by omega, rfl⟩
      · have j1 : j = (namesOf e).length := by have : ¬ (j : Int) < ((namesOf e).length : Int) := by simpa using h
                                               omega
        subst j1
        clear h
        simp only [wi, Known.c, EV, Nat.reduceEqDiff, Nat.reduceBEq, Nat.reduceLT, Nat.reduceLeDiff, Nat.reduceAdd, Nat.reduceSub, reduceIte]
        refine ⟨i + 1, i1, by omega, ?_⟩
        rw [someOf_succ i1]
        rfl
    · have i1 : i = K.length := by have : ¬ (i : Int) < (K.length : Int) := by simpa using h
                                   omega
      subst i1
      clear h
      obtain ⟨v1, v2⟩ := values_law (l := e) ek
      have hsl : (someOf K (namesOf e)).length ≤ 3 := by
        have := some_len (nm_uniq e [] List.Pairwise.nil) K
        have e2 : someOf K (namesOf e) = someOf K (e.foldl nmStep []) := rfl
        rw [e2]; omega
      have d5 := d7 e (someOf K (namesOf e)) (by omega) hs (by omega)
      have eg : (exprOk e && knOk (someOf K (namesOf e))) = true := by rw [ex, v1]; rfl
      rw [if_pos eg, v2, e0] at d5
      simp only [List.take_length, Step.frz, Known.frz, EV, Nat.reduceEqDiff, Nat.reduceBEq, Nat.reduceLT, Nat.reduceLeDiff, Nat.reduceAdd, Nat.reduceSub, reduceIte]
      refine callK_i d5 ?_
      simp only [Bool.not_true, bn, EV, Nat.reduceEqDiff, Nat.reduceBEq, Nat.reduceLT, Nat.reduceLeDiff, Nat.reduceAdd, Nat.reduceSub, reduceIte]
      exact ⟨(), trivial⟩
  rintro _ _
  simp only [EV, Nat.reduceEqDiff, Nat.reduceBEq, Nat.reduceLT, Nat.reduceLeDiff, Nat.reduceAdd, Nat.reduceSub, reduceIte]
  refine callE_i (p11 more h1.2 hmb) (fun r o h => ⟨h.2, h.1⟩) ?_
  rintro _ ⟨d, rfl, hd, hds⟩
  have d6 := d9 d (by omega) hds
  have d7 := d10 d (by omega) hds
  have hlw : (if exprOk d = true then namesOf d else []).length ≤ 301 := by
    split
    · exact Nat.le_trans (namesOf_len d) hd
    · simp
  generalize (if exprOk d = true then namesOf d else []) = ws at d6 d7 hlw
  simp only [Step.frz, pbeq, EV, Nat.reduceEqDiff, Nat.reduceBEq, Nat.reduceLT, Nat.reduceLeDiff, Nat.reduceAdd, Nat.reduceSub, reduceIte]
  refine callK_i d6 ?_
  simp only [Step.frz, Use.zfrz, pbeq, EV, Nat.reduceEqDiff, Nat.reduceBEq, Nat.reduceLT, Nat.reduceLeDiff, Nat.reduceAdd, Nat.reduceSub, reduceIte]
  refine callK_i d7 ?_
  simp only [bs, bn, Step.frz, Use.zfrz, pbeq, EV, Nat.reduceEqDiff, Nat.reduceBEq, Nat.reduceLT, Nat.reduceLeDiff, Nat.reduceAdd, Nat.reduceSub, reduceIte]
  refine awp_loop (fun i : Nat => i ≤ ws.length) (fun i => stl [(26, .usl 36 2 (ws.map Use.c)), (28, .usl 36 2 (ws.map Use.c)), (150, .tup [.dead, .v (.bool (exprOk d))]), (152, .dead), (153, .dead), (155, .tup [.dead, .v (.bool (exprOk d))]), (157, .dead), (158, .dead), (171, .v (.int .i64 (ws.length : Int))), (172, .v (.int .i64 (i : Int)))]) (fun i => ws.length - i) 0 (Nat.zero_le _) ?_ ?_
  · simp only [EV, Nat.reduceEqDiff, Nat.reduceBEq, Nat.reduceLT, Nat.reduceLeDiff, Nat.reduceAdd, Nat.reduceSub, reduceIte]
    rfl
  intro i hi
  simp only [EV, Nat.reduceEqDiff, Nat.reduceBEq, Nat.reduceLT, Nat.reduceLeDiff, Nat.reduceAdd, Nat.reduceSub, reduceIte]
  refine cK_cut (fun h => ?_) (fun h => ?_)
  · have i2 : (i : Int) < (ws.length : Int) := by simpa using h
    have i1 : i < ws.length := by omega
    clear h
    have wi := w64 ((i : Int) + 1) (by omega)
    simp only [i1, i2, nth_map i1, Use.c, wi, EV, Nat.reduceEqDiff, Nat.reduceBEq, Nat.reduceLT, Nat.reduceLeDiff, Nat.reduceAdd, Nat.reduceSub, reduceIte]
    exact ⟨i + 1, i1, by omega, rfl⟩
  · simp only [EV, Nat.reduceEqDiff, Nat.reduceBEq, Nat.reduceLT, Nat.reduceLeDiff, Nat.reduceAdd, Nat.reduceSub, reduceIte]
    simp only [EV, Nat.reduceEqDiff, Nat.reduceBEq, Nat.reduceLT, Nat.reduceLeDiff, Nat.reduceAdd, Nat.reduceSub, reduceIte, evRE, retVC, cellV', evR, nfz, nfzs, nfzss, List.contains_nil, List.contains_cons, Bool.or_false, or_true]
end Go.AM
