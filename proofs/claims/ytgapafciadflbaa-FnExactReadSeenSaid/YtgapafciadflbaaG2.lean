/- Contracts of functions of the given program, for the law FnExactReadSeen: what they return and what they write, under the bounds that each theorem states. -/
import Derived.Test.YtgapafciadflbaaG1
namespace Go.AM
set_option linter.unusedVariables false
set_option linter.unusedSimpArgs false
def byRel (b : ByteArray) (a : Nat) (bad : Bool) (x : Int) (a' : Nat) (bad' : Bool) : Prop := (bad = false ∧ bad' = false ∧ a < b.size ∧ x = sAt b (a : Nat) ∧ a' = a + 1) ∨ (bad' = true ∧ x = 0 ∧ (bad = false → b.size ≤ a))
def nmRel (b : ByteArray) (a : Nat) (bad : Bool) (nm : ByteArray) (a' : Nat) (bad' : Bool) : Prop := (bad = false ∧ bad' = false ∧ pName b a = some (nm, a')) ∨ (bad' = true ∧ nm = ⟨#[]⟩ ∧ (bad = false → pName b a = none))
theorem Does.e' {P : Program} {f : FuncId} {args outs : List AV} {al : Bool} {res : AV} (h : Does P f args al res outs) {R : AV → List AV → Prop} (hR : R res outs) : DoesE P f args al R := ⟨h.1, h.2.e hR⟩
theorem rdB_call {f : Nat} {b : ByteArray} {a : Nat} {bad : Bool} {R : AV → Nat → Bool → Prop} (h : DoesE Go.Proofs.Try.prog f [.box 30 (zB b a bad)] false fun r o => ∃ a' bad', o = [.box 30 (zB b a' bad')] ∧ R r a' bad') {O : AV → List AV} (hO : ∀ out, O out = [out]) {S : AV → AV → Prop}
    (k : ∀ r a' bad', R r a' bad' → S (.box 30 (zB b a' bad')) r) : callK2 Go.Proofs.Try.prog f [.box 30 (zB b a bad)] false O (.box 30 (zB b a bad)) S := by
  refine callE2_i (T := fun r out => ∃ a' bad', out = .box 30 (zB b a' bad') ∧ R r a' bad') h ?_ ?_
  · rintro r o ⟨a', bad', rfl, h1⟩
    exact ⟨_, ⟨a', bad', rfl, h1⟩, (hO _).symm⟩
  · rintro r out ⟨a', bad', rfl, h1⟩
    exact ⟨rfl, rfl, k r a' bad' h1⟩
theorem r11 (b : ByteArray) (a : Nat) (bad : Bool) (hz : b.size ≤ 3000) : DoesE Go.Proofs.Try.prog 11 [.box 30 (zB b a bad)] false fun r o => ∃ a' bad', o = [.box 30 (zB b a' bad')] ∧ ∃ x, r = .v (.int .i64 x) ∧ byRel b a bad x a' bad' := by
  rcases h : (bad || decide ((b.size : Int) ≤ (a : Int))) with _ | _
  · simp only [Bool.or_eq_false_iff, decide_eq_false_iff_not] at h
    obtain ⟨rfl, h⟩ := h
    exact (g11 b a hz (by omega)).e' ⟨_, _, rfl, _, rfl, .inl ⟨rfl, rfl, by omega, rfl, rfl⟩⟩
  · exact (b11 b a bad h).e' ⟨_, _, rfl, _, rfl, .inr ⟨rfl, rfl, fun e => by subst e; simp at h; omega⟩⟩
theorem r10 (b : ByteArray) (a : Nat) (bad : Bool) (hz : b.size ≤ 3000) : DoesE Go.Proofs.Try.prog 10 [.box 30 (zB b a bad)] false fun r o => ∃ a' bad', o = [.box 30 (zB b a' bad')] ∧ ∃ nm, r = .v (.string nm) ∧ nmRel b a bad nm a' bad' := by
  cases bad with
  | true => exact (b10 b a true hz rfl).e' ⟨_, _, rfl, _, rfl, .inr ⟨rfl, rfl, fun h => by cases h⟩⟩
  | false =>
    cases hp : pName b a with
    | some p =>
      obtain ⟨nm, to⟩ := p
      exact (g10 b a hz hp).e' ⟨_, _, rfl, _, rfl, .inl ⟨rfl, rfl, hp⟩⟩
    | none =>
      obtain ⟨a', _, h⟩ := n10 b a hz hp
      exact h.e' ⟨_, _, rfl, _, rfl, .inr ⟨rfl, rfl, fun _ => hp⟩⟩
theorem oct_small {b : ByteArray} {a j : Nat} (h : j < 8) : oct b a j < 256 ^ 7 := by
  have h1 := oct_lt b a j
  have h8 : j = 0 ∨ j = 1 ∨ j = 2 ∨ j = 3 ∨ j = 4 ∨ j = 5 ∨ j = 6 ∨ j = 7 := by omega
  rcases h8 with rfl | rfl | rfl | rfl | rfl | rfl | rfl | rfl <;> omega
theorem or_oct {b : ByteArray} {a j : Nat} (h : j < 8) : bits .or .i64 (IntKind.i64.wrap (IntKind.i64.wrap (oct b a j) * 2 ^ 8)) (sAt b ((a + j : Nat) : Nat)) = IntKind.i64.wrap (oct b a (j + 1)) := by
  have h0 := oct_nn b a j
  have h1 := oct_small (b := b) (a := a) h
  have hi := sAt_in b ((a + j : Nat) : Nat)
  rw [wraps_i64 (oct b a j) h0 (by omega), or_byte h0 h1 hi.1 hi.2]
  rfl
def inRel (b : ByteArray) (a2 : Nat) (bad2 : Bool) (p : Nat × Nat × Bool × Int) : Prop := p.1 ≤ 8 ∧ ((p.2.2.1 = false ∧ bad2 = false ∧ p.2.1 = a2 + p.1 ∧ p.2.1 ≤ b.size ∧ p.2.2.2 = IntKind.i64.wrap (oct b a2 p.1)) ∨ (p.2.2.1 = true ∧ (bad2 = false → b.size < a2 + 8)))
theorem entry_in {b : ByteArray} {a a1 a2 a3 : Nat} {bad1 bad2 bad3 : Bool} {m nm : ByteArray} {s : Int} (h1 : nmRel b a false m a1 bad1) (h2 : nmRel b a1 bad1 nm a2 bad2) (h3 : inRel b a2 bad2 (8, a3, bad3, s)) :
    (bad3 = false ∧ pEntry b a = some (⟨m, nm, s⟩, a3)) ∨ (bad3 = true ∧ pEntry b a = none) := by
  obtain ⟨_, ⟨e1, rfl, e3, e4, e5⟩ | ⟨e1, e2⟩⟩ := h3
  · simp only at e1 e3 e4 e5
    obtain ⟨rfl, _, h2⟩ : bad1 = false ∧ True ∧ pName b a1 = some (nm, a2) := by
      rcases h2 with ⟨x, _, z⟩ | ⟨x, _⟩
      · exact ⟨x, trivial, z⟩
      · cases x
    have h1 : pName b a = some (m, a1) := by
      rcases h1 with ⟨_, _, z⟩ | ⟨x, _⟩
      · exact z
      · cases x
    refine .inl ⟨e1, ?_⟩
    unfold pEntry
    rw [h1]; simp only
    rw [h2]; simp only
    rw [if_pos (by omega), ← e5, e3]
  · simp only at e1
    refine .inr ⟨e1, ?_⟩
    unfold pEntry
    rcases h1 with ⟨_, rfl, z1⟩ | ⟨_, _, z1⟩
    · rw [z1]; simp only
      rcases h2 with ⟨_, rfl, z2⟩ | ⟨_, _, z2⟩
      · rw [z2]; simp only
        rw [if_neg (by have := e2 rfl; omega)]
      · rw [z2 rfl]
    · rw [z1 rfl]
theorem DoesE.mono' {P : Program} {f : FuncId} {args : List AV} {al : Bool} {R R' : AV → List AV → Prop} (h : DoesE P f args al R) (hR : ∀ r o, R r o → R' r o) : DoesE P f args al R' := by
  refine ⟨h.1, fun w Fz xs os h1 h2 h3 h4 => (h.2 w Fz xs os h1 h2 h3 h4).mono ?_⟩
  rintro e w' ⟨res, outs, g, hh⟩
  exact ⟨_, _, hR _ _ g, hh⟩
theorem r9 (b : ByteArray) (hz : b.size ≤ 3000) : DoesE Go.Proofs.Try.prog 9 [.box 30 (zB b 0 false)] false fun r o => ∃ a' bad', o = [.box 30 (zB b a' bad')] ∧ ∃ v, r = .v (.int .i64 v) ∧ ((bad' = false ∧ pNum b = some (v, a')) ∨ (bad' = true ∧ v = 0 ∧ pNum b = none)) := by
  refine (q9 b hz).mono' ?_
  rintro r o (⟨v, to, h1, h2, h3⟩ | ⟨h1, h2, a, _, h3⟩)
  · exact ⟨to, false, h3, v, h2, .inl ⟨rfl, h1⟩⟩
  · exact ⟨a, true, h3, 0, h2, .inr ⟨rfl, rfl, h1⟩⟩
def m4 : MC :=
 (.seq (.reg [Xb 2 (.asg (.nils 34 3)), Xb 3 (.asg .fb)]) (.seq (.seq (.reg [Xm 9 0, Xq 10 (.len true (.t 9)), Xq 11 (.bin false .gtr (.t 10) (.i 3000))]) (.cond (.t 11) (.seq (.reg [Xb 2 (.asg (.nils 34 3)), Xb 3 (.asg .fb)]) .ret) .skip)) (.seq (.reg [Xm 12 0, Xb 13 (.build [0] [0] [1] [.z, .i, .b] [.t 12]), Xb 14 (.box 30 (.t 13)), Xa 4 14]) (.seq (.reg [Xb 5 (.asg (.nils 34 3))]) (.seq (.seq
 (.reg [Xm 15 4, Xb 16 (.call (.fn 9) false [.io (.t 15)]), Xa 6 16]) (.block 0 (.loop [0, 4, 5, 6, 14, 52] (.seq (.seq (.reg [Xm 17 6, Xq 18 (.bin false .gtr (.t 17) (.i 0)), Xm 19 18, Xt 20 19 (.mov (.t 4)), Xt 21 19 (.nilchk (.t 20)), Xt 22 19 (.fad 2 (.t 21)), Xt 23 19 (.load false 1 (.t 22)), Xt 24 19 (.un .not (.t 23)), Xq 25 (.pick (.t 19) (.t 24) .fb), Xm 26 25, Xt 27 26 (.mov (.t 5)), Xt
 28 26 (.len false (.t 27)), Xt 29 26 (.bin false .leq (.t 28) (.i 40)), Xq 30 (.pick (.t 26) (.t 29) .fb)]) (.cond (.t 30) .skip (.exit 0))) (.seq (.block 1 (.seq (.reg [Xm 33 4, Xb 34 (.call (.fn 10) false [.io (.t 33)]), Xm 35 4, Xb 36 (.call (.fn 10) false [.io (.t 35)]), Xb 37 (.build [0, 1] [0, 1] [1, 1] [.z, .z, .i] [.t 34, .t 36]), Xb 7 (.alloc 34 [.z, .z, .i]), Xz (.store 3 (.t 7) (.t
 37))]) (.seq (.seq (.reg [Xb 8 (.asg (.i 0))]) (.block 2 (.loop [0, 4, 5, 6, 7, 8, 14, 52] (.seq (.seq (.reg [Xm 38 8, Xq 39 (.bin false .lss (.t 38) (.i 8))]) (.cond (.t 39) .skip (.exit 2))) (.seq (.block 3 (.mixt [] [0, 4, 5, 6, 7, 8, 14, 52] [] [] [] [] (.step 0 (Xf 42 2 7) (.step 3 (Xm 45 4) (.alt (.step 1 (Xl 43 1 42) (.step 2 (Xq 44 (.bin false .shl (.t 43) (.c (.int .u64 8)))) (.step 4 (Xb
 46 (.call (.fn 11) false [.io (.t 45)])) (.step 5 (Xq 47 (.bin false .or (.t 44) (.t 46))) (.step 6 (Xf 48 2 7) (.step 7 (Xz (.store 1 (.t 48) (.t 47))) .nil)))))) (.step 4 (Xb 46 (.call (.fn 11) false [.io (.t 45)])) (.step 1 (Xl 43 1 42) (.step 2 (Xq 44 (.bin false .shl (.t 43) (.c (.int .u64 8)))) (.step 5 (Xq 47 (.bin false .or (.t 44) (.t 46))) (.step 6 (Xf 48 2 7) (.step 7 (Xz (.store 1 (.t
 48) (.t 47))) .nil))))))))))) (.reg [Xm 40 8, Xq 41 (.bin false .add (.t 40) (.i 1)), Xa 8 41])))))) (.reg [Xm 49 5, XL 50 3 7, Xb 51 (.bsl 34 3 [.t 50]), Xb 52 (.app true 34 3 40 (.t 49) (.t 51)), Xa 5 52])))) (.reg [Xm 31 6, Xq 32 (.bin false .sub (.t 31) (.i 1)), Xa 6 32])))))) (.seq (.seq (.reg [Xm 53 4, Xq 54 (.nilchk (.t 53)), Xf 55 2 54, Xl 56 1 55, Xm 57 56, Xu 58 57 (.mov (.t 5)), XU 59
 57 (.call (.fn 12) false [.lend (.t 58)]), Xu 60 57 (.un .not (.t 59)), Xq 61 (.pick (.t 57) .tb (.t 60)), Xm 62 61, Xu 63 62 (.mov (.t 5)), XU 64 62 (.call (.fn 13) false [.lend (.t 63)]), Xu 65 62 (.mov (.t 0)), Xu 66 62 (.bin false .neq (.t 64) (.t 65)), Xq 67 (.pick (.t 62) .tb (.t 66))]) (.cond (.t 67) (.seq (.reg [Xb 2 (.asg (.nils 34 3)), Xb 3 (.asg .fb)]) .ret) .skip)) (.seq (.reg [Xm 68
 5, Xa 2 68, Xb 3 (.asg .tb)]) .ret)))))))
def rdInv (b : ByteArray) (p : List Seen × Nat × Bool × Int) : Prop := p.1.length ≤ 41 ∧ -3000000000 ≤ p.2.2.2 ∧ p.2.2.2 ≤ 3000000000 ∧
  ((p.2.2.1 = false ∧ ∃ v a0, pNum b = some (v, a0) ∧ p.2.2.2 = v - (p.1.length : Int) ∧ (0 ≤ p.2.2.2 ∨ p.1 = []) ∧ ents b a0 p.1.length = some (p.1, p.2.1)) ∨ (p.2.2.1 = true ∧ fin b = none))
def finRel (b : ByteArray) (out : List Seen) (bad : Bool) : Prop := (bad = true ∧ fin b = none) ∨ (bad = false ∧ (∀ s ∈ out, s.rd) ∧ out.length ≤ 41 ∧ ((seenOk out = false ∧ fin b = none) ∨ (seenOk out = true ∧ ((seenB out).toList == b.toList) = false ∧ fin b = none) ∨ (seenOk out = true ∧ ((seenB out).toList == b.toList) = true ∧ fin b = some out)))
theorem seenOk_len {l : List Seen} (h : seenOk l = true) : l.length ≤ 40 := by
  simp only [seenOk, decide_eq_true_eq] at h
  exact h.2
theorem rd_fin {b : ByteArray} {out : List Seen} {a : Nat} {bad : Bool} {n : Int} (h : rdInv b (out, a, bad, n)) (hc : ¬ (0 < n ∧ bad = false ∧ out.length ≤ 40)) : finRel b out bad := by
  obtain ⟨h1, _, _, ⟨rfl, v, a0, g1, g2, g3, g4⟩ | ⟨rfl, hf⟩⟩ := h
  rotate_left
  · exact .inl ⟨rfl, hf⟩
  simp only at h1 g2 g3 g4 hc
  obtain ⟨p1, p2, p3, p4, p5⟩ := pNum_some g1
  obtain ⟨_, e2, e3, e4, _⟩ := ents_some p2 g4
  refine .inr ⟨rfl, e4, h1, ?_⟩
  rcases ho : seenOk out with _ | _
  · left
    refine ⟨rfl, ?_⟩
    unfold fin
    rw [g1]
    simp only
    split
    · rename_i hv
      by_cases hn : v.toNat = out.length
      · rw [hn, g4]
        simp only
        rw [if_neg (by rw [ho]; simp)]
      · have : out.length ≤ 40 := by
          rcases g3 with g | rfl
          · omega
          · simp
        have h0 : n ≤ 0 := by
          rcases Int.lt_or_le 0 n with h | h
          · exact absurd ⟨h, trivial, this⟩ hc
          · exact h
        have : n = 0 ∨ out = [] := by
          rcases g3 with g | g
          · left; omega
          · exact .inr g
        rcases this with rfl | rfl
        · omega
        · simp only [List.length_nil] at g2 hn; omega
    · rfl
  · have hl := seenOk_len ho
    have h0 : n ≤ 0 := by
      rcases Int.lt_or_le 0 n with h | h
      · exact absurd ⟨h, trivial, hl⟩ hc
      · exact h
    by_cases hv : 0 ≤ v
    · have hn : v.toNat = out.length := by
        rcases g3 with g | rfl
        · omega
        · simp only [List.length_nil] at g2 ⊢; omega
      have hb := seenB_ents g1 hv (by rw [hn]; exact g4) (seenOk_sum ho)
      rcases ha : decide (a = b.size) with _ | _
      · right; left
        rw [ha] at hb
        refine ⟨rfl, hb, ?_⟩
        have ha' : ¬ a = b.size := by simpa using ha
        unfold fin
        rw [g1]
        simp only
        rw [if_pos ⟨hv, by omega⟩, hn, g4]
        simp only
        rw [if_neg (fun h => ha' h.1)]
      · right; right
        rw [ha] at hb
        refine ⟨rfl, hb, ?_⟩
        have ha' : a = b.size := by simpa using ha
        unfold fin
        rw [g1]
        simp only
        rw [if_pos ⟨hv, by omega⟩, hn, g4]
        simp only
        rw [if_pos ⟨ha', ho⟩]
    · right; left
      have : out = [] := by
        rcases g3 with g | g
        · omega
        · exact g
      subst this
      refine ⟨rfl, seenB_neg g1 (by omega), ?_⟩
      unfold fin
      rw [g1]
      simp only
      rw [if_neg (fun h => hv h.1)]
set_option maxHeartbeats 4000000 in
set_option maxRecDepth 100000 in
theorem d4 (b : ByteArray) : Does Go.Proofs.Try.prog 4 [.v (.string b)] false (.tup [.usl 34 3 (((if b.size ≤ 3000 then fin b else none).getD []).map Seen.c), .v (.bool (if b.size ≤ 3000 then fin b else none).isSome)]) [.dead] := by
  refine does_intro (mc := m4) (N := 69) (rs := [2, 3]) (fx := []) 1 rfl (by decide +kernel) ?_
  simp only [m4, EV, Nat.reduceEqDiff, Nat.reduceBEq, Nat.reduceLT, Nat.reduceLeDiff, Nat.reduceAdd, Nat.reduceSub, reduceIte]
  rcases cz : decide (3000 < (b.size : Int)) with _ | _
  rotate_left
  · have hz : ¬ b.size ≤ 3000 := by have : 3000 < (b.size : Int) := by simpa using cz
                                    omega
    rw [if_neg hz]
    simp only [EV, Nat.reduceEqDiff, Nat.reduceBEq, Nat.reduceLT, Nat.reduceLeDiff, Nat.reduceAdd, Nat.reduceSub, reduceIte]
    simp only [Option.getD_none, Option.isSome_none, List.map_nil, EV, Nat.reduceEqDiff, Nat.reduceBEq, Nat.reduceLT, Nat.reduceLeDiff, Nat.reduceAdd, Nat.reduceSub, reduceIte, evRE, retVC, cellV', evR, nfz, nfzs, nfzss, List.contains_nil, List.contains_cons, Bool.or_false, or_true]
  have hz : b.size ≤ 3000 := by have : ¬ 3000 < (b.size : Int) := by simpa using cz
                                omega
  rw [if_pos hz]
  simp only [EV, Nat.reduceEqDiff, Nat.reduceBEq, Nat.reduceLT, Nat.reduceLeDiff, Nat.reduceAdd, Nat.reduceSub, reduceIte]
  refine rdB_call (r9 b hz) (fun _ => rfl) ?_
  rintro _ a bad ⟨v, rfl, hv⟩
  have hst : rdInv b ([], a, bad, v) := by
    rcases hv with ⟨rfl, hv⟩ | ⟨rfl, rfl, hv⟩
    · have := pNum_some hv
      exact ⟨by simp, by simp only; omega, by simp only; omega, .inl ⟨rfl, v, a, hv, by simp, .inr rfl, rfl⟩⟩
    · exact ⟨by simp, by simp only; omega, by simp only; omega, .inr ⟨rfl, by unfold fin; rw [hv]⟩⟩
  simp only [zB, EV, Nat.reduceEqDiff, Nat.reduceBEq, Nat.reduceLT, Nat.reduceLeDiff, Nat.reduceAdd, Nat.reduceSub, reduceIte]
  refine awp_loop (rdInv b) (fun p => stl [(0, .v (.string b)), (4, .box 30 (zB b p.2.1 p.2.2.1)), (5, .usl 34 3 (p.1.map Seen.c)), (6, .v (.int .i64 p.2.2.2)), (14, .dead), (52, .dead)]) (fun p => 42 - p.1.length) ([], a, bad, v) hst ?_ ?_
  · simp only [zB, EV, Nat.reduceEqDiff, Nat.reduceBEq, Nat.reduceLT, Nat.reduceLeDiff, Nat.reduceAdd, Nat.reduceSub, reduceIte]
    try rfl
  · clear hst hv
    rintro ⟨out, a, bad, n⟩ hst
    have h41 := hst.1
    have hn1 := hst.2.1
    have hn2 := hst.2.2.1
    simp only at h41 hn1 hn2
    simp only [zB, evNr, EV, Nat.reduceEqDiff, Nat.reduceBEq, Nat.reduceLT, Nat.reduceLeDiff, Nat.reduceAdd, Nat.reduceSub, reduceIte]
    have hfin := rd_fin hst
    rcases c1 : decide (0 < n) with _ | _
    rotate_left
    rcases bad with _ | _
    rcases c3 : decide ((out.length : Int) ≤ 40) with _ | _
    rotate_left
    · simp only [zB, c3, evNr, EV, Nat.reduceEqDiff, Nat.reduceBEq, Nat.reduceLT, Nat.reduceLeDiff, Nat.reduceAdd, Nat.reduceSub, reduceIte]
      refine rdB_call (r10 b a false hz) (fun _ => rfl) ?_
      rintro _ a1 bad1 ⟨m, rfl, h1⟩
      simp only [zB, evNr, EV, Nat.reduceEqDiff, Nat.reduceBEq, Nat.reduceLT, Nat.reduceLeDiff, Nat.reduceAdd, Nat.reduceSub, reduceIte]
      refine rdB_call (r10 b a1 bad1 hz) (fun _ => rfl) ?_
      rintro _ a2 bad2 ⟨nm, rfl, h2⟩
      have h0 : inRel b a2 bad2 (0, a2, bad2, 0) := by
        refine ⟨by simp, ?_⟩
        rcases h2 with ⟨_, rfl, h2⟩ | ⟨rfl, _⟩
        · have := pName_some h2
          exact .inl ⟨rfl, rfl, rfl, this.2.1, rfl⟩
        · exact .inr ⟨rfl, fun h => by cases h⟩
      simp only [zB, evNr, EV, Nat.reduceEqDiff, Nat.reduceBEq, Nat.reduceLT, Nat.reduceLeDiff, Nat.reduceAdd, Nat.reduceSub, reduceIte]
      refine awp_loop (inRel b a2 bad2) (fun p => stl [(0, .v (.string b)), (4, .box 30 (zB b p.2.1 p.2.2.1)), (5, .usl 34 3 (out.map Seen.c)), (6, .v (.int .i64 n)), (7, .box 34 (Seen.c ⟨m, nm, p.2.2.2⟩)), (8, .v (.int .i64 (p.1 : Int))), (14, .dead), (52, .dead)]) (fun p => 8 - p.1) (0, a2, bad2, 0) h0 ?_ ?_
      · simp only [zB, Seen.c, evNr, EV, Nat.reduceEqDiff, Nat.reduceBEq, Nat.reduceLT, Nat.reduceLeDiff, Nat.reduceAdd, Nat.reduceSub, reduceIte]
        try rfl
      · clear h0
        rintro ⟨j, a3, bad3, s⟩ h3
        have hj := h3.1
        simp only at hj
        simp only [zB, Seen.c, evNr, EV, Nat.reduceEqDiff, Nat.reduceBEq, Nat.reduceLT, Nat.reduceLeDiff, Nat.reduceAdd, Nat.reduceSub, reduceIte]
        refine cK_cut (fun h => ?_) (fun h => ?_)
        · have j8 : j < 8 := by have : (j : Int) < 8 := by simpa using h
                                omega
          have wj := w64 ((j : Int) + 1) (by omega)
          have em : min (Int.toNat 8) IntKind.i64.bits = 8 := rfl
          have leaf : ∀ a4 bad4 x, byRel b a3 bad3 x a4 bad4 → inRel b a2 bad2 (j + 1, a4, bad4, bits .or .i64 (IntKind.i64.wrap (s * 2 ^ 8)) x) := by
            intro a4 bad4 x hx
            refine ⟨by simp only; omega, ?_⟩
            obtain ⟨_, ⟨e1, e2, e3, e4, e5⟩ | ⟨e1, e2⟩⟩ := h3
            · simp only at e1 e2 e3 e4 e5
              rcases hx with ⟨_, rfl, x3, rfl, rfl⟩ | ⟨rfl, _, x3⟩
              · refine .inl ⟨rfl, e2, by simp only; omega, by simp only; omega, ?_⟩
                simp only
                rw [e5, e3, or_oct j8]
              · exact .inr ⟨rfl, fun _ => by have := x3 e1; omega⟩
            · simp only at e1
              rcases hx with ⟨x1, _⟩ | ⟨rfl, _⟩
              · rw [e1] at x1; cases x1
              · exact .inr ⟨rfl, e2⟩
          clear h
          simp only [evW, em, zB, evNr, EV, Nat.reduceEqDiff, Nat.reduceBEq, Nat.reduceLT, Nat.reduceLeDiff, Nat.reduceAdd, Nat.reduceSub, reduceIte]
          refine ⟨⟨by decide, ?_⟩, ?_⟩
          · refine rdB_call (r11 b a3 bad3 hz) (fun _ => rfl) ?_
            rintro _ a4 bad4 ⟨x, rfl, hx⟩
            simp only [evW, em, wj, zB, evNr, EV, Nat.reduceEqDiff, Nat.reduceBEq, Nat.reduceLT, Nat.reduceLeDiff, Nat.reduceAdd, Nat.reduceSub, reduceIte]
            exact ⟨(j + 1, a4, bad4, _), leaf a4 bad4 x hx, by simp only; omega, rfl⟩
          · refine rdB_call (r11 b a3 bad3 hz) (fun _ => rfl) ?_
            rintro _ a4 bad4 ⟨x, rfl, hx⟩
            simp only [evW, em, wj, zB, evNr, EV, Nat.reduceEqDiff, Nat.reduceBEq, Nat.reduceLT, Nat.reduceLeDiff, Nat.reduceAdd, Nat.reduceSub, reduceIte]
            exact ⟨by decide, (j + 1, a4, bad4, _), leaf a4 bad4 x hx, by simp only; omega, rfl⟩
        · have j8 : j = 8 := by have : ¬ (j : Int) < 8 := by simpa using h
                                omega
          subst j8
          have he := entry_in h1 h2 h3
          simp only [zB, Seen.c, evNr, EV, Nat.reduceEqDiff, Nat.reduceBEq, Nat.reduceLT, Nat.reduceLeDiff, Nat.reduceAdd, Nat.reduceSub, reduceIte]
          have wn := w64 (n - 1) (by omega)
          have hl40 : out.length ≤ 40 := by have : (out.length : Int) ≤ 40 := by simpa using c3
                                            omega
          have hn0 : 0 < n := by simpa using c1
          rw [wn]
          refine ⟨by omega, by omega, (out ++ [⟨m, nm, s⟩], a3, bad3, n - 1), ?_, by simp; omega, by rw [List.map_append]; rfl⟩
          obtain ⟨_, _, _, ⟨_, v, a0, g1, g2, g3, g4⟩ | ⟨hb, _⟩⟩ := hst
          rotate_left
          · cases hb
          simp only at g2 g3 g4
          refine ⟨by simp; omega, by simp only; omega, by simp only; omega, ?_⟩
          rcases he with ⟨rfl, he⟩ | ⟨rfl, he⟩
          · have hent : ents b a0 (out.length + 1) = some (out ++ [⟨m, nm, s⟩], a3) := by rw [ents, g4]; simp only [he]
            refine .inl ⟨rfl, v, a0, g1, by simp; omega, .inl (by simp only; omega), ?_⟩
            simp only [List.length_append, List.length_singleton]
            exact hent
          · have hent : ents b a0 (out.length + 1) = none := by rw [ents, g4]; simp only [he]
            refine .inr ⟨rfl, ?_⟩
            unfold fin
            rw [g1]
            simp only
            split
            · rename_i hv
              have hmm : out.length + 1 ≤ v.toNat := by omega
              rw [ents_up hent hmm]
            · rfl
    all_goals
      have hf := hfin (by rintro ⟨x1, x2, x3⟩; first | (exact absurd x2 (by decide)) | (simp at c1; omega) | (simp at c3; omega))
      first | simp only [zB, c3, evNr, EV, Nat.reduceEqDiff, Nat.reduceBEq, Nat.reduceLT, Nat.reduceLeDiff, Nat.reduceAdd, Nat.reduceSub, reduceIte] | simp only [zB, evNr, EV, Nat.reduceEqDiff, Nat.reduceBEq, Nat.reduceLT, Nat.reduceLeDiff, Nat.reduceAdd, Nat.reduceSub, reduceIte]
      rcases hf with ⟨hb, hf⟩ | ⟨hb, g1, g2, hf⟩
    all_goals cases hb
    all_goals try (simp only [hf, Option.getD_none, Option.isSome_none, List.map_nil, evNr, EV, Nat.reduceEqDiff, Nat.reduceBEq, Nat.reduceLT, Nat.reduceLeDiff, Nat.reduceAdd, Nat.reduceSub, reduceIte, evRE, retVC, cellV', evR, nfz, nfzs, nfzss, List.contains_nil, List.contains_cons, Bool.or_false, or_true]; done)
    all_goals
      have d1 := d12 out (by omega) (fun s hs => (g1 s hs).sm.1)
      have d2 := d13 out (by omega) (fun s hs => (g1 s hs).sm)
      try simp only [evNr, EV, Nat.reduceEqDiff, Nat.reduceBEq, Nat.reduceLT, Nat.reduceLeDiff, Nat.reduceAdd, Nat.reduceSub, reduceIte]
      rw [Seen.frz]
      rcases hf with ⟨ho, hf⟩ | ⟨ho, he, hf⟩ | ⟨ho, he, hf⟩ <;> rw [ho] at d1 <;> refine callK_i d1 ?_
    all_goals simp only [Bool.not_false, Bool.not_true, Seen.frz, evNr, EV, Nat.reduceEqDiff, Nat.reduceBEq, Nat.reduceLT, Nat.reduceLeDiff, Nat.reduceAdd, Nat.reduceSub, reduceIte]
    all_goals try (simp only [hf, Option.getD_none, Option.isSome_none, List.map_nil, evNr, EV, Nat.reduceEqDiff, Nat.reduceBEq, Nat.reduceLT, Nat.reduceLeDiff, Nat.reduceAdd, Nat.reduceSub, reduceIte, evRE, retVC, cellV', evR, nfz, nfzs, nfzss, List.contains_nil, List.contains_cons, Bool.or_false, or_true]; done)
    all_goals
      refine callK_i d2 ?_
      simp only [he, Bool.not_false, Bool.not_true, evNr, EV, Nat.reduceEqDiff, Nat.reduceBEq, Nat.reduceLT, Nat.reduceLeDiff, Nat.reduceAdd, Nat.reduceSub, reduceIte]
      try simp only [hf, Option.getD_none, Option.isSome_none, Option.getD_some, Option.isSome_some, List.map_nil, Seen.frz, Seen.nfz, evNr, EV, Nat.reduceEqDiff, Nat.reduceBEq, Nat.reduceLT, Nat.reduceLeDiff, Nat.reduceAdd, Nat.reduceSub, reduceIte, evRE, retVC, cellV', evR, nfz, nfzs, nfzss, List.contains_nil, List.contains_cons, Bool.or_false, or_true]
end Go.AM
namespace Go.AM
set_option linter.unusedVariables false
set_option linter.unusedSimpArgs false
def stOk (bad : Int) (bd : Bool) : Prop := (bd = false ∧ bad = -1) ∨ (bd = true ∧ 0 ≤ bad)
theorem rdO_call {f : Nat} {b : ByteArray} {a : Nat} {bad : Int} {args : List AV} {R : AV → Nat → Bool → Prop} (h : DoesE Go.Proofs.Try.prog f (.box 40 (zO b a bad) :: args) false fun r o => ∃ a' bad' bd', o = .box 40 (zO b a' bad') :: args.map (fun _ => AV.dead) ∧ stOk bad' bd' ∧ R r a' bd') {O : AV → List AV} (hO : ∀ out, O out = out :: args.map fun _ => AV.dead) {S : AV → AV → Prop}
    (k : ∀ r a' bad' bd', stOk bad' bd' → R r a' bd' → S (.box 40 (zO b a' bad')) r) : callK2 Go.Proofs.Try.prog f (.box 40 (zO b a bad) :: args) false O (.box 40 (zO b a bad)) S := by
  refine callE2_i (T := fun r out => ∃ a' bad' bd', out = .box 40 (zO b a' bad') ∧ stOk bad' bd' ∧ R r a' bd') h ?_ ?_
  · rintro r o ⟨a', bad', bd', rfl, h1, h2⟩
    exact ⟨_, ⟨a', bad', bd', rfl, h1, h2⟩, (hO _).symm⟩
  · rintro r out ⟨a', bad', bd', rfl, h1, h2⟩
    exact ⟨rfl, rfl, k r a' bad' bd' h1 h2⟩
theorem r16 (b : ByteArray) (a : Nat) (bad : Int) (bd : Bool) (hz : b.size ≤ 3000) (hs : stOk bad bd) : DoesE Go.Proofs.Try.prog 16 [.box 40 (zO b a bad), .v (.int .i64 0), .v (.int .i64 255)] false fun r o => ∃ a' bad' bd', o = [.box 40 (zO b a' bad'), .dead, .dead] ∧ stOk bad' bd' ∧ ∃ x, r = .v (.int .i64 x) ∧ byRel b a bd x a' bd' := by
  rcases hs with ⟨rfl, rfl⟩ | ⟨rfl, h⟩
  · by_cases ha : a < b.size
    · exact (g16 b a hz ha).e' ⟨a + 1, -1, false, rfl, .inl ⟨rfl, rfl⟩, _, rfl, .inl ⟨rfl, rfl, ha, rfl, rfl⟩⟩
    · refine (b16 b a (-1) (by simp; omega)).e' ⟨a, _, true, rfl, .inr ⟨rfl, ?_⟩, _, rfl, .inr ⟨rfl, rfl, fun _ => by omega⟩⟩
      rw [if_pos (by decide)]; omega
  · refine (b16 b a bad (by simp; omega)).e' ⟨a, _, true, rfl, .inr ⟨rfl, ?_⟩, _, rfl, .inr ⟨rfl, rfl, fun e => by cases e⟩⟩
    rw [if_neg (by omega)]; exact h
theorem r15 (b : ByteArray) (a : Nat) (bad : Int) (bd : Bool) (hz : b.size ≤ 3000) (hs : stOk bad bd) : DoesE Go.Proofs.Try.prog 15 [.box 40 (zO b a bad), .v (.bool false)] false fun r o => ∃ a' bad' bd', o = [.box 40 (zO b a' bad'), .dead] ∧ stOk bad' bd' ∧ ∃ nm, r = .v (.string nm) ∧ nmRel b a bd nm a' bd' := by
  rcases hs with ⟨rfl, rfl⟩ | ⟨rfl, h⟩
  · cases hp : pName b a with
    | some p =>
      obtain ⟨nm, to⟩ := p
      exact (g15 b a hz hp).e' ⟨to, -1, false, rfl, .inl ⟨rfl, rfl⟩, _, rfl, .inl ⟨rfl, rfl, hp⟩⟩
    | none =>
      exact (n15 b a hz hp).e' ⟨a, _, true, rfl, .inr ⟨rfl, by omega⟩, _, rfl, .inr ⟨rfl, rfl, fun _ => hp⟩⟩
  · exact (b15 b a bad h).e' ⟨a, _, true, rfl, .inr ⟨rfl, h⟩, _, rfl, .inr ⟨rfl, rfl, fun e => by cases e⟩⟩
theorem r14 (b : ByteArray) (hz : b.size ≤ 3000) : DoesE Go.Proofs.Try.prog 14 [.box 40 (zO b 0 (-1)), .v (.int .i64 0), .v (.int .i64 40)] false fun r o => ∃ a' bad' bd', o = [.box 40 (zO b a' bad'), .dead, .dead] ∧ stOk bad' bd' ∧ ∃ v : Nat, r = .v (.int .i64 (v : Int)) ∧ v ≤ 40 ∧ ((bd' = false ∧ pNum b = some ((v : Int), a')) ∨ (bd' = true ∧ v = 0 ∧ fin b = none)) := by
  by_cases h : ∃ v to, pNum b = some (v, to) ∧ 0 ≤ v ∧ v ≤ 40
  · obtain ⟨v, to, hp, v0, v1⟩ := h
    obtain ⟨n, rfl⟩ := Int.eq_ofNat_of_zero_le v0
    exact (g14 b hz hp v0 v1).e' ⟨to, -1, false, rfl, .inl ⟨rfl, rfl⟩, n, rfl, by omega, .inl ⟨rfl, hp⟩⟩
  · have hp : ∀ v to, pNum b = some (v, to) → v < 0 ∨ 40 < v := by
      intro v to e
      rcases Int.lt_or_le v 0 with h0 | h0
      · exact .inl h0
      · rcases Int.lt_or_le 40 v with h1 | h1
        · exact .inr h1
        · exact absurd ⟨v, to, e, h0, h1⟩ h
    refine (n14 b hz hp).e' ⟨0, 0, true, rfl, .inr ⟨rfl, by omega⟩, 0, rfl, by omega, .inr ⟨rfl, rfl, ?_⟩⟩
    unfold fin
    cases hn : pNum b with
    | none => rfl
    | some p =>
      obtain ⟨v, to⟩ := p
      simp only
      rw [if_neg (by have := hp v to hn; omega)]
def m5 : MC :=
 (.seq (.reg [Xb 2 (.asg (.nils 34 3)), Xb 3 (.asg .fb)]) (.seq (.seq (.reg [Xm 7 0, Xq 8 (.len true (.t 7)), Xq 9 (.bin false .gtr (.t 8) (.i 3000))]) (.cond (.t 9) (.seq (.reg [Xb 2 (.asg (.nils 34 3)), Xb 3 (.asg .fb)]) .ret) .skip)) (.seq (.reg [Xm 10 0, Xb 11 (.build [0, 2] [0, 2] [1, 1] [.z, .i, .i] [.t 10, .i (-1)]), Xb 12 (.box 40 (.t 11)), Xb 13 (.bsl 34 3 []), Xa 4 12, Xa 5 13]) (.seq
 (.seq (.reg [Xm 14 4, Xb 15 (.call (.fn 14) false [.io (.t 14), .lend (.i 0), .lend (.i 40)]), Xq 16 (.mov (.i 0))]) (.block 0 (.loop [0, 4, 5, 12, 13, 15, 16, 37] (.seq (.reg [Xq 17 (.bin false .lss (.t 16) (.t 15))]) (.seq (.cond (.t 17) .skip (.exit 0)) (.seq (.block 1 (.seq (.reg [Xm 18 4, Xb 19 (.call (.fn 15) false [.io (.t 18), .lend .fb]), Xb 20 (.build [0] [0] [1] [.z, .z, .i] [.t 19]),
 Xb 6 (.alloc 34 [.z, .z, .i]), Xz (.store 3 (.t 6) (.t 20))]) (.seq (.reg [Xm 21 4, Xb 22 (.call (.fn 15) false [.io (.t 21), .lend .fb]), Xf 23 1 6, Xz (.store 1 (.t 23) (.t 22))]) (.seq (.seq (.reg [Xq 24 (.mov (.i 0))]) (.block 2 (.loop [0, 4, 5, 6, 12, 13, 15, 16, 24, 37] (.seq (.reg [Xq 25 (.bin false .lss (.t 24) (.i 8))]) (.seq (.cond (.t 25) .skip (.exit 2)) (.seq (.block 3 (.mixt [] [0,
 4, 5, 6, 12, 13, 15, 16, 24, 37] [] [] [] [] (.step 0 (Xf 26 2 6) (.step 3 (Xm 29 4) (.alt (.step 1 (Xl 27 1 26) (.step 2 (Xq 28 (.bin false .shl (.t 27) (.c (.int .u64 8)))) (.step 4 (Xb 30 (.call (.fn 16) false [.io (.t 29), .lend (.i 0), .lend (.i 255)])) (.step 5 (Xq 31 (.bin false .or (.t 28) (.t 30))) (.step 6 (Xf 32 2 6) (.step 7 (Xz (.store 1 (.t 32) (.t 31))) .nil)))))) (.step 4 (Xb 30
 (.call (.fn 16) false [.io (.t 29), .lend (.i 0), .lend (.i 255)])) (.step 1 (Xl 27 1 26) (.step 2 (Xq 28 (.bin false .shl (.t 27) (.c (.int .u64 8)))) (.step 5 (Xq 31 (.bin false .or (.t 28) (.t 30))) (.step 6 (Xf 32 2 6) (.step 7 (Xz (.store 1 (.t 32) (.t 31))) .nil))))))))))) (.reg [Xq 33 (.bin false .add (.t 24) (.i 1)), Xm 24 33]))))))) (.reg [Xm 34 5, XL 35 3 6, Xb 36 (.bsl 34 3 [.t 35]), Xb
 37 (.app true 34 3 40 (.t 34) (.t 36)), Xa 5 37]))))) (.reg [Xq 38 (.bin false .add (.t 16) (.i 1)), Xm 16 38]))))))) (.seq (.seq (.reg [Xm 39 4, Xq 40 (.nilchk (.t 39)), Xf 41 2 40, Xl 42 1 41, Xq 43 (.bin false .geq (.t 42) (.i 0)), Xm 44 43, Xu 45 44 (.mov (.t 4)), Xu 46 44 (.nilchk (.t 45)), Xu 47 44 (.fad 1 (.t 46)), Xu 48 44 (.load false 1 (.t 47)), Xu 49 44 (.mov (.t 0)), Xu 50 44 (.len
 true (.t 49)), Xu 51 44 (.bin false .neq (.t 48) (.t 50)), Xq 52 (.pick (.t 44) .tb (.t 51)), Xm 53 52, Xu 54 53 (.mov (.t 5)), XU 55 53 (.call (.fn 17) false [.lend (.t 54)]), Xu 56 53 (.un .not (.t 55)), Xq 57 (.pick (.t 53) .tb (.t 56))]) (.cond (.t 57) (.seq (.reg [Xb 2 (.asg (.nils 34 3)), Xb 3 (.asg .fb)]) .ret) .skip)) (.seq (.reg [Xm 58 5, Xa 2 58, Xb 3 (.asg .tb)]) .ret))))))
def roInv (b : ByteArray) (v : Nat) (p : List Seen × Nat × Int) : Prop := p.1.length ≤ v ∧ ∃ bd, stOk p.2.2 bd ∧ ((bd = false ∧ ∃ a0, pNum b = some ((v : Int), a0) ∧ ents b a0 p.1.length = some (p.1, p.2.1)) ∨ (bd = true ∧ fin b = none))
theorem ro_fin {b : ByteArray} {v : Nat} (h40 : v ≤ 40) {out : List Seen} {a : Nat} {bad : Int} (h : roInv b v (out, a, bad)) (he : out.length = v) :
    (decide (0 ≤ bad) = true ∧ fin b = none) ∨ (decide (0 ≤ bad) = false ∧ (∀ s ∈ out, s.rd) ∧ a ≤ b.size ∧ fin b = if a = b.size ∧ seenOk out = true then some out else none) := by
  obtain ⟨_, bd, hs, ⟨rfl, a0, g1, g2⟩ | ⟨rfl, hf⟩⟩ := h
  · right
    simp only at g2 hs
    rcases hs with ⟨_, rfl⟩ | ⟨x, _⟩
    · obtain ⟨p1, p2, _⟩ := pNum_some g1
      obtain ⟨_, _, e3, e4, _⟩ := ents_some p2 g2
      refine ⟨rfl, e4, e3, ?_⟩
      unfold fin
      rw [g1]
      simp only
      rw [if_pos ⟨by omega, by omega⟩, Int.toNat_natCast, ← he, g2]
    · cases x
  · left
    rcases hs with ⟨x, _⟩ | ⟨_, x⟩
    · cases x
    · exact ⟨by simpa using x, hf⟩
set_option maxHeartbeats 4000000 in
set_option maxRecDepth 100000 in
theorem d5 (b : ByteArray) : Does Go.Proofs.Try.prog 5 [.v (.string b)] false (.tup [.usl 34 3 (((if b.size ≤ 3000 then fin b else none).getD []).map Seen.c), .v (.bool (if b.size ≤ 3000 then fin b else none).isSome)]) [.dead] := by
  refine does_intro (mc := m5) (N := 59) (rs := [2, 3]) (fx := []) 1 rfl (by decide +kernel) ?_
  simp only [m5, EV, Nat.reduceEqDiff, Nat.reduceBEq, Nat.reduceLT, Nat.reduceLeDiff, Nat.reduceAdd, Nat.reduceSub, reduceIte]
  rcases cz : decide (3000 < (b.size : Int)) with _ | _
  rotate_left
  · have hz : ¬ b.size ≤ 3000 := by have : 3000 < (b.size : Int) := by simpa using cz
                                    omega
    rw [if_neg hz]
    simp only [EV, Nat.reduceEqDiff, Nat.reduceBEq, Nat.reduceLT, Nat.reduceLeDiff, Nat.reduceAdd, Nat.reduceSub, reduceIte]
    simp only [Option.getD_none, Option.isSome_none, List.map_nil, EV, Nat.reduceEqDiff, Nat.reduceBEq, Nat.reduceLT, Nat.reduceLeDiff, Nat.reduceAdd, Nat.reduceSub, reduceIte, evRE, retVC, cellV', evR, nfz, nfzs, nfzss, List.contains_nil, List.contains_cons, Bool.or_false, or_true]
  have hz : b.size ≤ 3000 := by have : ¬ 3000 < (b.size : Int) := by simpa using cz
                                omega
  rw [if_pos hz]
  simp only [EV, Nat.reduceEqDiff, Nat.reduceBEq, Nat.reduceLT, Nat.reduceLeDiff, Nat.reduceAdd, Nat.reduceSub, reduceIte]
  refine rdO_call (r14 b hz) (fun _ => rfl) ?_
  rintro _ a bad bd hs ⟨v, rfl, v40, hv⟩
  have h0 : roInv b v ([], a, bad) := by
    refine ⟨by simp, bd, hs, ?_⟩
    rcases hv with ⟨rfl, hv⟩ | ⟨rfl, _, hv⟩
    · exact .inl ⟨rfl, a, hv, rfl⟩
    · exact .inr ⟨rfl, hv⟩
  simp only [zO, EV, Nat.reduceEqDiff, Nat.reduceBEq, Nat.reduceLT, Nat.reduceLeDiff, Nat.reduceAdd, Nat.reduceSub, reduceIte]
  refine awp_loop (roInv b v) (fun p => stl [(0, .v (.string b)), (4, .box 40 (zO b p.2.1 p.2.2)), (5, .usl 34 3 (p.1.map Seen.c)), (12, .dead), (13, .dead), (15, .v (.int .i64 (v : Int))), (16, .v (.int .i64 (p.1.length : Int))), (37, .dead)]) (fun p => v - p.1.length) ([], a, bad) h0 ?_ ?_
  · simp only [zO, EV, Nat.reduceEqDiff, Nat.reduceBEq, Nat.reduceLT, Nat.reduceLeDiff, Nat.reduceAdd, Nat.reduceSub, reduceIte]
    try rfl
  · clear h0 hv hs
    rintro ⟨out, a, bad⟩ hst
    have hlv := hst.1
    simp only at hlv
    simp only [zO, evNr, EV, Nat.reduceEqDiff, Nat.reduceBEq, Nat.reduceLT, Nat.reduceLeDiff, Nat.reduceAdd, Nat.reduceSub, reduceIte]
    refine cK_cut (fun h => ?_) (fun h => ?_)
    · have hlt : out.length < v := by have : (out.length : Int) < (v : Int) := by simpa using h
                                      omega
      clear h
      obtain ⟨_, bd, hs, hin⟩ := hst
      simp only at hs hin
      simp only [evNr, EV, Nat.reduceEqDiff, Nat.reduceBEq, Nat.reduceLT, Nat.reduceLeDiff, Nat.reduceAdd, Nat.reduceSub, reduceIte]
      refine rdO_call (r15 b a bad bd hz hs) (fun _ => rfl) ?_
      rintro _ a1 bad1 bd1 hs1 ⟨m, rfl, h1⟩
      simp only [zO, evNr, EV, Nat.reduceEqDiff, Nat.reduceBEq, Nat.reduceLT, Nat.reduceLeDiff, Nat.reduceAdd, Nat.reduceSub, reduceIte]
      refine rdO_call (r15 b a1 bad1 bd1 hz hs1) (fun _ => rfl) ?_
      rintro _ a2 bad2 bd2 hs2 ⟨nm, rfl, h2⟩
      have h0 : inRel b a2 bd2 (0, a2, bd2, 0) := by
        refine ⟨by simp, ?_⟩
        rcases h2 with ⟨_, rfl, h2⟩ | ⟨rfl, _⟩
        · have := pName_some h2
          exact .inl ⟨rfl, rfl, rfl, this.2.1, rfl⟩
        · exact .inr ⟨rfl, fun h => by cases h⟩
      simp only [zO, evNr, EV, Nat.reduceEqDiff, Nat.reduceBEq, Nat.reduceLT, Nat.reduceLeDiff, Nat.reduceAdd, Nat.reduceSub, reduceIte]
      refine awp_loop (fun p : Nat × Nat × Int × Int => p.1 ≤ 8 ∧ ∃ bd3, stOk p.2.2.1 bd3 ∧ inRel b a2 bd2 (p.1, p.2.1, bd3, p.2.2.2)) (fun p => stl [(0, .v (.string b)), (4, .box 40 (zO b p.2.1 p.2.2.1)), (5, .usl 34 3 (out.map Seen.c)), (6, .box 34 (Seen.c ⟨m, nm, p.2.2.2⟩)), (12, .dead), (13, .dead), (15, .v (.int .i64 (v : Int))), (16, .v (.int .i64 (out.length : Int))), (24, .v (.int .i64 (p.1 : Int))), (37, .dead)]) (fun p => 8 - p.1) (0, a2, bad2, 0) ⟨by simp, bd2, hs2, h0⟩ ?_ ?_
      · simp only [zO, Seen.c, evNr, EV, Nat.reduceEqDiff, Nat.reduceBEq, Nat.reduceLT, Nat.reduceLeDiff, Nat.reduceAdd, Nat.reduceSub, reduceIte]
        try rfl
      · clear h0
        rintro ⟨j, a3, bad3, s⟩ ⟨hj, bd3, hs3, h3⟩
        simp only at hj hs3 h3
        simp only [zO, Seen.c, evNr, EV, Nat.reduceEqDiff, Nat.reduceBEq, Nat.reduceLT, Nat.reduceLeDiff, Nat.reduceAdd, Nat.reduceSub, reduceIte]
        refine cK_cut (fun h => ?_) (fun h => ?_)
        · have j8 : j < 8 := by have : (j : Int) < 8 := by simpa using h
                                omega
          have wj := w64 ((j : Int) + 1) (by omega)
          have em : min (Int.toNat 8) IntKind.i64.bits = 8 := rfl
          have leaf : ∀ a4 bad4 bd4 x, stOk bad4 bd4 → byRel b a3 bd3 x a4 bd4 → (j + 1, a4, bad4, bits .or .i64 (IntKind.i64.wrap (s * 2 ^ 8)) x).1 ≤ 8 ∧ ∃ bd5, stOk bad4 bd5 ∧ inRel b a2 bd2 (j + 1, a4, bd5, bits .or .i64 (IntKind.i64.wrap (s * 2 ^ 8)) x) := by
            intro a4 bad4 bd4 x hs4 hx
            refine ⟨by simp only; omega, bd4, hs4, by simp only; omega, ?_⟩
            obtain ⟨_, ⟨e1, e2, e3, e4, e5⟩ | ⟨e1, e2⟩⟩ := h3
            · simp only at e1 e2 e3 e4 e5
              rcases hx with ⟨_, rfl, x3, rfl, rfl⟩ | ⟨rfl, _, x3⟩
              · refine .inl ⟨rfl, e2, by simp only; omega, by simp only; omega, ?_⟩
                simp only
                rw [e5, e3, or_oct j8]
              · exact .inr ⟨rfl, fun _ => by have := x3 e1; omega⟩
            · simp only at e1
              rcases hx with ⟨x1, _⟩ | ⟨rfl, _⟩
              · rw [e1] at x1; cases x1
              · exact .inr ⟨rfl, e2⟩
          clear h
          simp only [evW, em, zO, evNr, EV, Nat.reduceEqDiff, Nat.reduceBEq, Nat.reduceLT, Nat.reduceLeDiff, Nat.reduceAdd, Nat.reduceSub, reduceIte]
          refine ⟨⟨by decide, ?_⟩, ?_⟩
          · refine rdO_call (r16 b a3 bad3 bd3 hz hs3) (fun _ => rfl) ?_
            rintro _ a4 bad4 bd4 hs4 ⟨x, rfl, hx⟩
            simp only [evW, em, wj, zO, evNr, EV, Nat.reduceEqDiff, Nat.reduceBEq, Nat.reduceLT, Nat.reduceLeDiff, Nat.reduceAdd, Nat.reduceSub, reduceIte]
            exact ⟨(j + 1, a4, bad4, _), leaf a4 bad4 bd4 x hs4 hx, by simp only; omega, rfl⟩
          · refine rdO_call (r16 b a3 bad3 bd3 hz hs3) (fun _ => rfl) ?_
            rintro _ a4 bad4 bd4 hs4 ⟨x, rfl, hx⟩
            simp only [evW, em, wj, zO, evNr, EV, Nat.reduceEqDiff, Nat.reduceBEq, Nat.reduceLT, Nat.reduceLeDiff, Nat.reduceAdd, Nat.reduceSub, reduceIte]
            exact ⟨by decide, (j + 1, a4, bad4, _), leaf a4 bad4 bd4 x hs4 hx, by simp only; omega, rfl⟩
        · have j8 : j = 8 := by have : ¬ (j : Int) < 8 := by simpa using h
                                omega
          subst j8
          have wi := w64 ((out.length : Int) + 1) (by omega)
          simp only [zO, Seen.c, evNr, EV, Nat.reduceEqDiff, Nat.reduceBEq, Nat.reduceLT, Nat.reduceLeDiff, Nat.reduceAdd, Nat.reduceSub, reduceIte]
          rw [wi]
          refine ⟨by omega, by omega, (out ++ [⟨m, nm, s⟩], a3, bad3), ?_, by simp; omega, ?_⟩
          rotate_left
          · simp only [List.map_append, List.length_append, List.length_singleton]
            rfl
          refine ⟨by simp; omega, bd3, hs3, ?_⟩
          rcases hin with ⟨rfl, a0, g1, g2⟩ | ⟨rfl, hf⟩
          · rcases entry_in h1 h2 h3 with ⟨rfl, he⟩ | ⟨rfl, he⟩
            · have hent : ents b a0 (out.length + 1) = some (out ++ [⟨m, nm, s⟩], a3) := by rw [ents, g2]; simp only [he]
              refine .inl ⟨rfl, a0, g1, ?_⟩
              simp only [List.length_append, List.length_singleton]
              exact hent
            · have hent : ents b a0 (out.length + 1) = none := by rw [ents, g2]; simp only [he]
              refine .inr ⟨rfl, ?_⟩
              unfold fin
              rw [g1]
              simp only
              rw [if_pos ⟨by omega, by omega⟩, Int.toNat_natCast, ents_up hent (by omega)]
          · have hb1 : bd1 = true := by
              rcases h1 with ⟨x, _⟩ | ⟨x, _⟩
              · cases x
              · exact x
            have hb2 : bd2 = true := by
              rcases h2 with ⟨x, _⟩ | ⟨x, _⟩
              · rw [hb1] at x; cases x
              · exact x
            have hb3 : bd3 = true := by
              obtain ⟨_, ⟨_, x, _⟩ | ⟨x, _⟩⟩ := h3
              · rw [hb2] at x; cases x
              · exact x
            exact .inr ⟨hb3, hf⟩
    · have he : out.length = v := by have : ¬ (out.length : Int) < (v : Int) := by simpa using h
                                     omega
      have hf := ro_fin v40 hst he
      simp only [zO, evNr, EV, Nat.reduceEqDiff, Nat.reduceBEq, Nat.reduceLT, Nat.reduceLeDiff, Nat.reduceAdd, Nat.reduceSub, reduceIte]
      rcases hf with ⟨hb, hf⟩ | ⟨hb, g1, g2, hf⟩
      · simp only [hb, evNr, EV, Nat.reduceEqDiff, Nat.reduceBEq, Nat.reduceLT, Nat.reduceLeDiff, Nat.reduceAdd, Nat.reduceSub, reduceIte]
        simp only [hf, Option.getD_none, Option.isSome_none, List.map_nil, evNr, EV, Nat.reduceEqDiff, Nat.reduceBEq, Nat.reduceLT, Nat.reduceLeDiff, Nat.reduceAdd, Nat.reduceSub, reduceIte, evRE, retVC, cellV', evR, nfz, nfzs, nfzss, List.contains_nil, List.contains_cons, Bool.or_false, or_true]
      simp only [hb, evNr, EV, Nat.reduceEqDiff, Nat.reduceBEq, Nat.reduceLT, Nat.reduceLeDiff, Nat.reduceAdd, Nat.reduceSub, reduceIte]
      have d1 := d17 out (by omega) (fun s hs => (g1 s hs).sm.1)
      rcases ca : ((a : Int) != (b.size : Int)) with _ | _
      rotate_left
      · have ha : ¬ a = b.size := by
          intro e
          subst e
          simp at ca
        rw [if_neg (fun h => ha h.1)] at hf
        simp only [evNr, EV, Nat.reduceEqDiff, Nat.reduceBEq, Nat.reduceLT, Nat.reduceLeDiff, Nat.reduceAdd, Nat.reduceSub, reduceIte]
        simp only [hf, Option.getD_none, Option.isSome_none, List.map_nil, evNr, EV, Nat.reduceEqDiff, Nat.reduceBEq, Nat.reduceLT, Nat.reduceLeDiff, Nat.reduceAdd, Nat.reduceSub, reduceIte, evRE, retVC, cellV', evR, nfz, nfzs, nfzss, List.contains_nil, List.contains_cons, Bool.or_false, or_true]
      have ha : a = b.size := by
        have : (a : Int) = (b.size : Int) := by simpa using ca
        omega
      rcases ho : seenOk out with _ | _
      · rw [if_neg (fun h => by rw [ho] at h; exact absurd h.2 (by decide))] at hf
        rw [ho] at d1
        simp only [Seen.frz, evNr, EV, Nat.reduceEqDiff, Nat.reduceBEq, Nat.reduceLT, Nat.reduceLeDiff, Nat.reduceAdd, Nat.reduceSub, reduceIte]
        refine callK_i d1 ?_
        simp only [Bool.not_false, evNr, EV, Nat.reduceEqDiff, Nat.reduceBEq, Nat.reduceLT, Nat.reduceLeDiff, Nat.reduceAdd, Nat.reduceSub, reduceIte]
        simp only [hf, Option.getD_none, Option.isSome_none, List.map_nil, evNr, EV, Nat.reduceEqDiff, Nat.reduceBEq, Nat.reduceLT, Nat.reduceLeDiff, Nat.reduceAdd, Nat.reduceSub, reduceIte, evRE, retVC, cellV', evR, nfz, nfzs, nfzss, List.contains_nil, List.contains_cons, Bool.or_false, or_true]
      · rw [if_pos ⟨ha, ho⟩] at hf
        rw [ho] at d1
        simp only [Seen.frz, evNr, EV, Nat.reduceEqDiff, Nat.reduceBEq, Nat.reduceLT, Nat.reduceLeDiff, Nat.reduceAdd, Nat.reduceSub, reduceIte]
        refine callK_i d1 ?_
        simp only [Bool.not_true, evNr, EV, Nat.reduceEqDiff, Nat.reduceBEq, Nat.reduceLT, Nat.reduceLeDiff, Nat.reduceAdd, Nat.reduceSub, reduceIte]
        simp only [hf, Option.getD_some, Option.isSome_some, Seen.frz, Seen.nfz, evNr, EV, Nat.reduceEqDiff, Nat.reduceBEq, Nat.reduceLT, Nat.reduceLeDiff, Nat.reduceAdd, Nat.reduceSub, reduceIte, evRE, retVC, cellV', evR, nfz, nfzs, nfzss, List.contains_nil, List.contains_cons, Bool.or_false, or_true]
end Go.AM
namespace Go.AM
set_option linter.unusedVariables false
set_option linter.unusedSimpArgs false
def m8 : MC :=
 (.seq (.reg [Xb 4 (.asg (.i 0))]) (.seq (.seq (.reg [Xb 5 (.asg (.i 0))]) (.block 0 (.loop [0, 1, 5] (.seq (.seq (.reg [Xm 6 5, Xm 7 0, Xn 8 7, Xq 9 (.bin false .lss (.t 6) (.t 8))]) (.cond (.t 9) .skip (.exit 0))) (.seq (.block 1 (.seq (.seq (.dreg [Xm 12 0, Xm 13 5, Xi 14 3 12 13, Xf 15 0 14, Xl 16 1 15, Xm 17 1, Xb 18 (.call (.fn 19) false [.lend (.t 17)]), Xq 19 (.bin false .neq (.t 16) (.t
 18))]) (.cond (.t 19) (.seq (.reg [Xb 4 (.asg (.i (-1)))]) .ret) .skip)) (.seq (.reg [Xm 20 1, Xq 21 (.bin false .add (.t 20) (.i 1)), Xa 1 21]) (.seq (.seq (.dreg [Xm 22 0, Xm 23 5, Xi 24 3 22 23, Xf 25 1 24, Xl 26 1 25, Xm 27 1, Xb 28 (.call (.fn 19) false [.lend (.t 27)]), Xq 29 (.bin false .neq (.t 26) (.t 28))]) (.cond (.t 29) (.seq (.reg [Xb 4 (.asg (.i (-1)))]) .ret) .skip)) (.seq (.reg [Xm
 30 1, Xq 31 (.bin false .add (.t 30) (.i 1)), Xa 1 31]) (.seq (.seq (.reg [Xm 32 0, Xm 33 5, Xi 34 3 32 33, Xf 35 2 34, Xl 36 1 35, Xm 37 1, Xq 38 (.bin false .neq (.t 36) (.t 37))]) (.cond (.t 38) (.seq (.reg [Xb 4 (.asg (.i (-1)))]) .ret) .skip)) (.reg [Xm 39 1, Xq 40 (.bin false .add (.t 39) (.i 1)), Xa 1 40]))))))) (.reg [Xm 10 5, Xq 11 (.bin false .add (.t 10) (.i 1)), Xa 5 11])))))) (.seq
 (.reg [Xm 41 1, Xa 4 41]) .ret)))
theorem d8 (l : List Seen) (k : Int) (h0 : 0 ≤ k) (h1 : k + 3 * l.length ≤ 4611686018427387904) :
    Does Go.Proofs.Try.prog 8 [.fsl 3 ((mkSeenS l k).map Seen.c), .v (.int .i64 k)] false (.v (.int .i64 (k + 3 * l.length))) [.dead, .dead] := by
  have hl : (mkSeenS l k).length = l.length := mkSeenS_len l k
  generalize hM0 : mkSeenS l k = M at hl ⊢
  refine does_intro (mc := m8) (N := 42) (rs := [4]) (fx := []) 2 rfl (by decide +kernel) ?_
  simp only [m8, EV, Nat.reduceEqDiff, Nat.reduceBEq, Nat.reduceLT, Nat.reduceLeDiff, Nat.reduceAdd, Nat.reduceSub, reduceIte]
  refine awp_loop (fun p : List Seen × List Seen × Int => M = p.1 ++ mkSeenS p.2.1 p.2.2 ∧ p.2.2 + 3 * p.2.1.length = k + 3 * l.length ∧ 0 ≤ p.2.2 ∧ p.1.length + p.2.1.length = l.length)
    (fun p => stl [(0, .fsl 3 (M.map Seen.c)), (1, .v (.int .i64 p.2.2)), (5, .v (.int .i64 (p.1.length : Int)))]) (fun p => p.2.1.length) ([], l, k) ⟨by rw [← hM0]; rfl, rfl, h0, by simp⟩ ?_ ?_
  · simp only [EV, Nat.reduceEqDiff, Nat.reduceBEq, Nat.reduceLT, Nat.reduceLeDiff, Nat.reduceAdd, Nat.reduceSub, reduceIte]
    rfl
  · rintro ⟨pre, post, n⟩ ⟨p0, p1, p2, p3⟩
    simp only at p0 p1 p2 p3
    cases post with
    | nil =>
      simp only [EV, Nat.reduceEqDiff, Nat.reduceBEq, Nat.reduceLT, Nat.reduceLeDiff, Nat.reduceAdd, Nat.reduceSub, reduceIte]
      refine cK_cut (fun h => ?_) (fun h => ?_)
      · simp at h p3; omega
      · simp only [EV, Nat.reduceEqDiff, Nat.reduceBEq, Nat.reduceLT, Nat.reduceLeDiff, Nat.reduceAdd, Nat.reduceSub, reduceIte]
        have e : n = k + 3 * l.length := by simp at p1; omega
        simp only [← e, EV, Nat.reduceEqDiff, Nat.reduceBEq, Nat.reduceLT, Nat.reduceLeDiff, Nat.reduceAdd, Nat.reduceSub, reduceIte, evRE, retVC, cellV', evR, nfz, nfzs, nfzss, List.contains_nil, List.contains_cons, Bool.or_false, or_true]
    | cons f post =>
      simp only [EV, Nat.reduceEqDiff, Nat.reduceBEq, Nat.reduceLT, Nat.reduceLeDiff, Nat.reduceAdd, Nat.reduceSub, reduceIte]
      simp only [List.length_cons] at p1 p3
      refine cK_cut (fun h => ?_) (fun h => ?_)
      rotate_left
      · simp at h; omega
      have h5 : (pre.length : Int) < (M.length : Int) := by omega
      have e1 : nth (M.map Seen.c) pre.length = Seen.c (mkSeen n) := by rw [p0]; exact nth_mid
      have w0 := w64 ((pre.length : Int) + 1) (by omega)
      have w1 := w64 (n + 1) (by omega)
      have w2 := w64 (n + 1 + 1) (by omega)
      have w3 := w64 (n + 1 + 1 + 1) (by omega)
      have q2 : n + 1 + 1 = n + 2 := by omega
      have q3 : n + 2 + 1 = n + 3 := by omega
      rw [q2] at w2 w3
      rw [q3] at w3
      simp only [h5, e1, Seen.c, mkSeen, w1, w2, w3, q2, q3, w0, EV, Nat.reduceEqDiff, Nat.reduceBEq, Nat.reduceLT, Nat.reduceLeDiff, Nat.reduceAdd, Nat.reduceSub, reduceIte]
      refine callD_i (d19 n (by omega) (by omega)) rfl ?_
      simp only [h5, e1, Seen.c, mkSeen, w1, w2, w3, q2, q3, w0, EV, Nat.reduceEqDiff, Nat.reduceBEq, Nat.reduceLT, Nat.reduceLeDiff, Nat.reduceAdd, Nat.reduceSub, reduceIte]
      refine callD_i (d19 (n + 1) (by omega) (by omega)) rfl ?_
      simp only [h5, e1, Seen.c, mkSeen, w1, w2, w3, q2, q3, w0, EV, Nat.reduceEqDiff, Nat.reduceBEq, Nat.reduceLT, Nat.reduceLeDiff, Nat.reduceAdd, Nat.reduceSub, reduceIte]
      refine ⟨(pre ++ [mkSeen n], post, n + 3), ⟨?_, ?_, ?_, ?_⟩, ?_, ?_⟩
      · rw [p0]; simp [mkSeenS]
      · simp only; omega
      · simp only; omega
      · simp only [List.length_append, List.length_cons, List.length_nil]; omega
      · simp only; omega
      · simp only [List.length_append, List.length_cons, List.length_nil]
        rfl
def m3 : MC :=
 (.seq (.reg [Xb 2 (.asg .fb)]) (.keep [0] (.seq (.seq (.reg [Xm 11 0, Xq 12 (.len true (.t 11)), Xq 13 (.bin false .gtr (.t 12) (.i 1048576))]) (.keep [0, 13] (.cond (.t 13) (.seq (.reg [Xb 2 (.asg .tb)]) .ret) .skip))) (.keep [0] (.seq (.reg [Xm 15 0, Xb 16 (.call (.fn 4) false [.lend (.t 15)]), Xa 14 16, Xq 17 (.ext 14 0), Xq 18 (.ext 14 1), Xa 3 17, Xa 4 18]) (.keep [0, 3, 4, 14, 16, 17] (.seq
 (.reg [Xm 20 0, Xb 21 (.call (.fn 5) false [.lend (.t 20)]), Xa 19 21, Xq 22 (.ext 19 0), Xq 23 (.ext 19 1), Xa 5 22, Xa 6 23]) (.keep [0, 3, 4, 5, 6, 14, 16, 17, 19, 21, 22] (.seq (.seq (.reg [Xm 24 5, Xm 25 3, Xb 26 (.call (.fn 6) false [.lend (.t 24), .lend (.t 25)]), Xq 27 (.un .not (.t 26)), Xm 28 27, Xu 29 28 (.mov (.t 6)), Xu 30 28 (.mov (.t 4)), Xu 31 28 (.bin true .neq (.t 29) (.t 30)),
 Xq 32 (.pick (.t 28) .tb (.t 31))]) (.keep [0, 3, 4, 5, 14, 16, 17, 19, 21, 22, 32] (.cond (.t 32) (.seq (.reg [Xb 2 (.asg .fb)]) .ret) .skip))) (.keep [0, 3, 4, 5, 14, 16, 17, 19, 21, 22] (.seq (.reg [Xb 7 (.asg (.i 1))]) (.keep [0, 3, 4, 5, 7, 14, 16, 17, 19, 21, 22] (.seq (.reg [Xm 33 5, Xm 34 7, Xb 35 (.call (.fn 7) false [.io (.t 33), .lend (.t 34)]), Xa 7 35]) (.keep [0, 3, 4, 5, 7, 14, 16,
 17, 19, 21, 22] (.seq (.reg [Xb 8 (.asg (.i 1))]) (.keep [0, 3, 4, 5, 7, 8, 14, 16, 17, 19, 21, 22] (.seq (.reg [Xm 36 5, Xm 37 8, Xb 38 (.call (.fn 8) false [.lend (.t 36), .lend (.t 37)]), Xa 8 38]) (.keep [0, 3, 4, 5, 7, 8, 14, 16, 17, 19, 21, 22] (.seq (.seq (.reg [Xm 39 8, Xq 40 (.bin false .lss (.t 39) (.i 0))]) (.keep [0, 3, 4, 5, 7, 8, 14, 16, 17, 19, 21, 22, 40] (.cond (.t 40) (.seq (.reg
 [Xb 2 (.asg .fb)]) .ret) .skip))) (.keep [0, 3, 4, 5, 7, 8, 14, 16, 17, 19, 21, 22] (.seq (.seq (.reg [Xm 41 8, Xm 42 7, Xq 43 (.bin false .neq (.t 41) (.t 42))]) (.keep [0, 3, 4, 5, 7, 14, 16, 17, 19, 21, 22, 43] (.cond (.t 43) (.seq (.reg [Xb 2 (.asg .fb)]) .ret) .skip))) (.keep [0, 3, 4, 5, 7, 14, 16, 17, 19, 21, 22] (.seq (.reg [Xm 45 0, Xb 46 (.call (.fn 5) false [.lend (.t 45)]), Xa 44 46,
 Xq 47 (.ext 44 0), Xq 48 (.ext 44 1), Xa 9 47, Xa 10 48]) (.keep [3, 4, 5, 7, 9, 10, 14, 16, 17, 19, 21, 22, 44, 46, 47] (.seq (.seq (.reg [Xm 49 9, Xm 50 3, Xb 51 (.call (.fn 6) false [.lend (.t 49), .lend (.t 50)]), Xq 52 (.un .not (.t 51)), Xm 53 52, Xu 54 53 (.mov (.t 10)), Xu 55 53 (.mov (.t 4)), Xu 56 53 (.bin true .neq (.t 54) (.t 55)), Xq 57 (.pick (.t 53) .tb (.t 56))]) (.keep [5, 7, 19,
 21, 22, 57] (.cond (.t 57) (.seq (.reg [Xb 2 (.asg .fb)]) .ret) .skip))) (.keep [5, 7, 19, 21, 22] (.seq (.reg [Xb 8 (.asg (.i 1))]) (.keep [5, 7, 8, 19, 21, 22] (.seq (.reg [Xm 58 5, Xm 59 8, Xb 60 (.call (.fn 8) false [.lend (.t 58), .lend (.t 59)]), Xa 8 60]) (.keep [7, 8] (.seq (.seq (.reg [Xm 61 8, Xq 62 (.bin false .lss (.t 61) (.i 0))]) (.keep [7, 8, 62] (.cond (.t 62) (.seq (.reg [Xb 2
 (.asg .fb)]) .ret) .skip))) (.keep [7, 8] (.seq (.seq (.reg [Xm 63 8, Xm 64 7, Xq 65 (.bin false .neq (.t 63) (.t 64))]) (.keep [65] (.cond (.t 65) (.seq (.reg [Xb 2 (.asg .fb)]) .ret) .skip))) (.keep [] (.seq (.reg [Xb 2 (.asg .tb)]) .ret)))))))))))))))))))))))))))))))))))
theorem fin_len (b : ByteArray) : ((fin b).getD []).length ≤ 40 := by
  unfold fin
  split
  · simp
  · split
    · split
      · simp
      · split
        · rename_i h; exact seenOk_len h.2
        · simp
    · simp
set_option maxHeartbeats 1000000 in
set_option maxRecDepth 100000 in
theorem d3 (b : ByteArray) (hb : (b.size : Int) ≤ 9223372036854775807) : Does Go.Proofs.Try.prog 3 [.v (.string b)] false (.v (.bool true)) [.dead] := by
  have ds := d4 b
  have di := d5 b
  have bs : ∀ b : Bool, (b != b) = false := fun b => by cases b <;> rfl
  have hl : ((if b.size ≤ 3000 then fin b else none).getD []).length ≤ 40 := by
    split
    · exact fin_len b
    · simp
  generalize ((if b.size ≤ 3000 then fin b else none).getD []) = R at ds di hl
  generalize (if b.size ≤ 3000 then fin b else none).isSome = ok at ds di
  have dq := d6 R (by omega)
  have dm := d7 R 1 (by omega) (by omega)
  have dh := d8 R 1 (by omega) (by omega)
  have hk2 : decide (1 + 3 * (R.length : Int) < 0) = false := by simp; omega
  refine does_intro (mc := m3) (N := 66) (rs := [2]) (fx := []) 1 rfl (by decide +kernel) ?_
  simp only [m3, EV, Nat.reduceEqDiff, Nat.reduceBEq, Nat.reduceLT, Nat.reduceLeDiff, Nat.reduceAdd, Nat.reduceSub, reduceIte]
  refine cK_cut (fun h => ?_) (fun h => ?_)
  · simp only [EV, Nat.reduceEqDiff, Nat.reduceBEq, Nat.reduceLT, Nat.reduceLeDiff, Nat.reduceAdd, Nat.reduceSub, reduceIte]
    simp only [EV, Nat.reduceEqDiff, Nat.reduceBEq, Nat.reduceLT, Nat.reduceLeDiff, Nat.reduceAdd, Nat.reduceSub, reduceIte, evRE, retVC, cellV', evR, nfz, nfzs, nfzss, List.contains_nil, List.contains_cons, Bool.or_false, or_true]
  clear h
  simp only [EV, Nat.reduceEqDiff, Nat.reduceBEq, Nat.reduceLT, Nat.reduceLeDiff, Nat.reduceAdd, Nat.reduceSub, reduceIte]
  refine callK_i ds ?_
  simp only [Seen.frz, EV, Nat.reduceEqDiff, Nat.reduceBEq, Nat.reduceLT, Nat.reduceLeDiff, Nat.reduceAdd, Nat.reduceSub, reduceIte]
  refine callK_i di ?_
  simp only [Seen.frz, EV, Nat.reduceEqDiff, Nat.reduceBEq, Nat.reduceLT, Nat.reduceLeDiff, Nat.reduceAdd, Nat.reduceSub, reduceIte]
  refine callK_i dq ?_
  simp only [Seen.frz, bs, EV, Nat.reduceEqDiff, Nat.reduceBEq, Nat.reduceLT, Nat.reduceLeDiff, Nat.reduceAdd, Nat.reduceSub, reduceIte]
  refine callK2_i dm rfl (by simp [shapeOf, mkSeenS_len]) ?_
  simp only [Seen.frz, EV, Nat.reduceEqDiff, Nat.reduceBEq, Nat.reduceLT, Nat.reduceLeDiff, Nat.reduceAdd, Nat.reduceSub, reduceIte]
  refine callK_i dh ?_
  simp only [Seen.frz, hk2, bs, EV, Nat.reduceEqDiff, Nat.reduceBEq, Nat.reduceLT, Nat.reduceLeDiff, Nat.reduceAdd, Nat.reduceSub, reduceIte]
  refine callK_i di ?_
  simp only [Seen.frz, EV, Nat.reduceEqDiff, Nat.reduceBEq, Nat.reduceLT, Nat.reduceLeDiff, Nat.reduceAdd, Nat.reduceSub, reduceIte]
  refine callK_i dq ?_
  simp only [Seen.frz, bs, EV, Nat.reduceEqDiff, Nat.reduceBEq, Nat.reduceLT, Nat.reduceLeDiff, Nat.reduceAdd, Nat.reduceSub, reduceIte]
  refine callK_i dh ?_
  simp only [Seen.frz, hk2, bs, EV, Nat.reduceEqDiff, Nat.reduceBEq, Nat.reduceLT, Nat.reduceLeDiff, Nat.reduceAdd, Nat.reduceSub, reduceIte]
  simp only [EV, Nat.reduceEqDiff, Nat.reduceBEq, Nat.reduceLT, Nat.reduceLeDiff, Nat.reduceAdd, Nat.reduceSub, reduceIte, evRE, retVC, cellV', evR, nfz, nfzs, nfzss, List.contains_nil, List.contains_cons, Bool.or_false, or_true]
end Go.AM
