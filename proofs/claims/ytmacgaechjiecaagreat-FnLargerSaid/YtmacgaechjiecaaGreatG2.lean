/- Contracts of functions of the given program, for the law FnLarger: what they return and what they write, under the bounds that each theorem states. -/
import Derived.Test.YtmacgaechjiecaaGreatG1
import Derived.Shelf.Lay
import Derived.Shelf.Sort.Plain
import Derived.Ground.Names2Prog
import Derived.Shelf.Slices.CompactI
import Derived.Shelf.Slices.In.SortNone
namespace Go.AM
set_option linter.unusedVariables false
set_option linter.unusedSimpArgs false
noncomputable def tyAt (l m : List Ty) (i : Nat) (h : i < m.length) : Bool :=
  !(!nil' m[i].name && (m.take i).any (tyNm m[i])) && tyOk l m[i]

def tyTo (l m : List Ty) (n : Nat) : Prop := ∀ i (h : i < m.length), i < n → tyAt l m i h = true

open Classical in
noncomputable def tysOk (l : List Ty) : Bool := (decide (3 ≤ (l.length : Int)) && decide ((l.length : Int) ≤ 24)) && (eqL sameTy (l.take 3) baseTs && decide (tyTo l (l.drop 3) (l.drop 3).length))

theorem tyTo_succ {l m : List Ty} {i : Nat} (h : i < m.length) (h1 : tyTo l m i) (h2 : tyAt l m i h = true) : tyTo l m (i + 1) := by
  intro j hj hji
  by_cases e : j = i
  · subst e; exact h2
  · exact h1 j hj (by omega)

theorem tysOk_no {l : List Ty} {i : Nat} (h : i < (l.drop 3).length) (h2 : tyAt l (l.drop 3) i h = false) : tysOk l = false := by
  have : ¬ tyTo l (l.drop 3) (l.drop 3).length := by
    intro h1
    have := h1 i h h
    rw [h2] at this; cases this
  simp only [tysOk, this, decide_false, Bool.and_false]

theorem tysOk_yes {l : List Ty} (h1 : (decide (3 ≤ (l.length : Int)) && decide ((l.length : Int) ≤ 24)) = true) (h2 : eqL sameTy (l.take 3) baseTs = true) (h : tyTo l (l.drop 3) (l.drop 3).length) : tysOk l = true := by
  simp only [tysOk, h1, h2, h, decide_true, Bool.and_self]

theorem base_len : baseTs.length = 3 := rfl

theorem base_sm : ∀ b ∈ baseTs, b.sm := by
  intro b hb
  have hz : ∀ x : ByteArray, x = ⟨#[]⟩ ∨ x = ⟨#[73, 78, 84]⟩ ∨ x = ⟨#[66, 79, 79, 76]⟩ ∨ x = ⟨#[67, 72, 65, 82]⟩ → (x.size : Int) ≤ 1048576 := by
    rintro x (rfl | rfl | rfl | rfl) <;> decide
  simp only [baseTs, List.mem_cons, List.not_mem_nil, or_false] at hb
  rcases hb with rfl | rfl | rfl <;> exact ⟨trivial, trivial, trivial, ⟨by simp, by simp⟩, hz _ (by simp), hz _ (by simp)⟩

/-- loop.example/g00837/impl.areTypes -/
def m125 : MC :=
  (.seq
   (.reg [⟨(some 2), none, .a (.asg (.c (.bool false)))⟩])
   (.seq
    (.reg [⟨(some 7), none, .a (.call (.fn 184) false [])⟩,
      ⟨(some 3), none, .a (.asg (.t 7))⟩])
    (.seq
     (.seq
      (.reg [⟨(some 8), none, .q (.mov (.t 0))⟩,
        ⟨(some 9), none, .q (.len false (.t 8))⟩,
        ⟨(some 10), none, .q (.mov (.t 3))⟩,
        ⟨(some 11), none, .q (.len false (.t 10))⟩,
        ⟨(some 12), none, .a (.call (.fn 78) false [.lend (.t 9), .lend (.t 11), .lend (.c (.int .i64 24))])⟩,
        ⟨(some 13), none, .q (.un .not (.t 12))⟩,
        ⟨(some 14), none, .q (.mov (.t 13))⟩,
        ⟨(some 15), (some (14, false)), .q (.mov (.t 0))⟩,
        ⟨(some 16), (some (14, false)), .q (.mov (.t 3))⟩,
        ⟨(some 17), (some (14, false)), .q (.len false (.t 16))⟩,
        ⟨(some 18), (some (14, false)), .q (.slc false 6 (.t 15) none (some (.t 17)))⟩,
        ⟨(some 19), (some (14, false)), .q (.mov (.t 3))⟩,
        ⟨(some 20), (some (14, false)), .a (.call (.fn 185) false [.lend (.t 18), .lend (.t 19), .lend (.fn 186)])⟩,
        ⟨(some 21), (some (14, false)), .q (.un .not (.t 20))⟩,
        ⟨(some 22), none, .q (.pick (.t 14) (.c (.bool true)) (.t 21))⟩])
      (.cond (.t 22)
       (.seq
        (.reg [⟨(some 2), none, .a (.asg (.c (.bool false)))⟩])
        .ret)
       .skip))
     (.seq
      (.seq
       (.reg [⟨(some 23), none, .q (.mov (.t 0))⟩,
         ⟨(some 24), none, .q (.mov (.t 3))⟩,
         ⟨(some 25), none, .q (.len false (.t 24))⟩,
         ⟨(some 26), none, .q (.slc false 6 (.t 23) (some (.t 25)) none)⟩,
         ⟨(some 27), none, .q (.len false (.t 26))⟩,
         ⟨(some 28), none, .q (.mov (.c (.int .i64 0)))⟩])
       (.block 0
        (.loop [0, 3, 7, 23, 25, 26, 27, 28]
         (.seq
          (.reg [⟨(some 29), none, .q (.bin false .lss (.t 28) (.t 27))⟩])
          (.seq
           (.cond (.t 29)
            .skip
            (.exit 0))
           (.seq
            (.block 1
             (.seq
              (.reg [⟨(some 30), none, .q (.mov (.t 28))⟩,
                ⟨(some 31), none, .q (.iad 6 (.t 26) (.t 28))⟩,
                ⟨(some 32), none, .q (.load true 6 (.t 31))⟩,
                ⟨(some 5), none, .a (.alloc 40 [.v (.int .i64 0), .v (.int .i64 0), .v (.int .i64 0), .s 97 3, .v (.string ({ data := #[] })), .v (.string ({ data := #[] }))])⟩,
                ⟨(some 4), none, .a (.asg (.t 30))⟩,
                ⟨none, none, .a (.store 6 (.t 5) (.t 32))⟩])
              (.seq
               (.reg [⟨(some 33), none, .q (.fad 5 (.t 5))⟩,
                 ⟨(some 34), none, .q (.load false 1 (.t 33))⟩,
                 ⟨(some 35), none, .q (.bin false .neq (.t 34) (.c (.string ({ data := #[] }))))⟩,
                 ⟨(some 36), none, .q (.mov (.t 35))⟩,
                 ⟨(some 37), (some (36, true)), .q (.mov (.t 0))⟩,
                 ⟨(some 38), (some (36, true)), .q (.mov (.t 3))⟩,
                 ⟨(some 39), (some (36, true)), .q (.len false (.t 38))⟩,
                 ⟨(some 40), (some (36, true)), .q (.mov (.t 3))⟩,
                 ⟨(some 41), (some (36, true)), .q (.len false (.t 40))⟩,
                 ⟨(some 42), (some (36, true)), .q (.mov (.t 4))⟩,
                 ⟨(some 43), (some (36, true)), .q (.bin false .add (.t 41) (.t 42))⟩,
                 ⟨(some 44), (some (36, true)), .q (.slc false 6 (.t 37) (some (.t 39)) (some (.t 43)))⟩,
                 ⟨(some 45), (some (36, true)), .q (.mkf 188 [.t 5])⟩,
                 ⟨(some 46), (some (36, true)), .a (.call (.fn 187) false [.lend (.t 44), .lend (.t 45)])⟩,
                 ⟨(some 47), none, .q (.pick (.t 36) (.t 46) (.c (.bool false)))⟩,
                 ⟨(some 6), none, .a (.asg (.t 47))⟩])
               (.seq
                (.reg [⟨(some 48), none, .q (.mov (.t 6))⟩,
                  ⟨(some 49), none, .q (.mov (.t 48))⟩,
                  ⟨(some 50), (some (49, false)), .q (.mov (.t 0))⟩,
                  ⟨(some 51), (some (49, false)), .q (.load true 6 (.t 5))⟩,
                  ⟨(some 52), (some (49, false)), .a (.call (.fn 189) false [.lend (.t 50), .lend (.t 51)])⟩,
                  ⟨(some 53), (some (49, false)), .q (.un .not (.t 52))⟩,
                  ⟨(some 54), none, .q (.pick (.t 49) (.c (.bool true)) (.t 53))⟩])
                (.cond (.t 54)
                 (.seq
                  (.reg [⟨(some 2), none, .a (.asg (.c (.bool false)))⟩])
                  .ret)
                 .skip)))))
            (.reg [⟨(some 55), none, .q (.bin false .add (.t 28) (.c (.int .i64 1)))⟩,
              ⟨(some 28), none, .q (.mov (.t 55))⟩])))))))
      (.seq
       (.reg [⟨(some 2), none, .a (.asg (.c (.bool true)))⟩])
       .ret)))))

set_option maxHeartbeats 1000000 in
set_option maxRecDepth 100000 in
theorem d125 (l : List Ty) (hl : (l.length : Int) ≤ 1048576) (hs : ∀ s ∈ l, s.sm) : Does Go.Proofs.Tryz.prog 125 [.fsl 6 (l.map Ty.z)] false (.v (.bool (tysOk l))) [.dead] := by
  refine does_intro (mc := m125) (N := 56) (rs := [2]) (fx := []) 1 rfl (by decide +kernel) ?_
  simp only [m125, EV, Nat.reduceEqDiff, Nat.reduceBEq, Nat.reduceLT, Nat.reduceLeDiff, Nat.reduceAdd, Nat.reduceSub, reduceIte]
  refine callK_i d184 ?_
  have h3 : ((3 : Nat) : Int) = 3 := rfl
  simp only [base_len, h3, EV, Nat.reduceEqDiff, Nat.reduceBEq, Nat.reduceLT, Nat.reduceLeDiff, Nat.reduceAdd, Nat.reduceSub, reduceIte]
  refine callK_i (d78 _ _ _) ?_
  simp only [base_len, h3, EV, Nat.reduceEqDiff, Nat.reduceBEq, Nat.reduceLT, Nat.reduceLeDiff, Nat.reduceAdd, Nat.reduceSub, reduceIte]
  rcases e1 : (decide (3 ≤ (l.length : Int)) && decide ((l.length : Int) ≤ 24)) with _ | _
  · have e : tysOk l = false := by simp only [tysOk, e1, Bool.false_and]
    simp only [EV, Nat.reduceEqDiff, Nat.reduceBEq, Nat.reduceLT, Nat.reduceLeDiff, Nat.reduceAdd, Nat.reduceSub, reduceIte]
    simp only [e, Ty.nfz, EV, Nat.reduceEqDiff, Nat.reduceBEq, Nat.reduceLT, Nat.reduceLeDiff, Nat.reduceAdd, Nat.reduceSub, reduceIte, evRE, retVC, cellV', evR, nfz, nfzs, nfzss, List.contains_nil, List.contains_cons, Bool.or_false, or_true]
  have hl3 : 3 ≤ (l.length : Int) ∧ (l.length : Int) ≤ 24 := by simpa using e1
  have ht3 : (l.take 3).length = 3 := by simp; omega
  have hd3 : (l.drop 3).length = l.length - 3 := by simp
  simp only [base_len, h3, Ty.frz, EV, Nat.reduceEqDiff, Nat.reduceBEq, Nat.reduceLT, Nat.reduceLeDiff, Nat.reduceAdd, Nat.reduceSub, reduceIte]
  refine ⟨by omega, by omega, hl3.1, ?_⟩
  have t3 : (3 : Int).toNat = 3 := rfl
  simp only [← List.map_take, t3]
  refine callK_i (d185 (l.take 3) baseTs (by omega) (by rw [base_len]; omega) 186 sameTy (fun a ha b hb => d186 a b (hs a (List.mem_of_mem_take ha)) (base_sm b hb))) ?_
  simp only [base_len, h3, EV, Nat.reduceEqDiff, Nat.reduceBEq, Nat.reduceLT, Nat.reduceLeDiff, Nat.reduceAdd, Nat.reduceSub, reduceIte]
  rcases e2 : eqL sameTy (l.take 3) baseTs with _ | _
  · have e : tysOk l = false := by simp only [tysOk, e1, e2, Bool.false_and, Bool.and_false]
    simp only [EV, Nat.reduceEqDiff, Nat.reduceBEq, Nat.reduceLT, Nat.reduceLeDiff, Nat.reduceAdd, Nat.reduceSub, reduceIte]
    simp only [e, Ty.nfz, EV, Nat.reduceEqDiff, Nat.reduceBEq, Nat.reduceLT, Nat.reduceLeDiff, Nat.reduceAdd, Nat.reduceSub, reduceIte, evRE, retVC, cellV', evR, nfz, nfzs, nfzss, List.contains_nil, List.contains_cons, Bool.or_false, or_true]
  simp only [base_len, h3, EV, Nat.reduceEqDiff, Nat.reduceBEq, Nat.reduceLT, Nat.reduceLeDiff, Nat.reduceAdd, Nat.reduceSub, reduceIte]
  refine ⟨by omega, hl3.1, by omega, ?_⟩
  simp only [← List.map_drop, ← List.map_take, t3]
  have hm : ∃ m, m = l.drop 3 := ⟨_, rfl⟩
  obtain ⟨m, hm⟩ := hm
  have hml : (m.length : Int) = (l.length : Int) - 3 := by rw [hm]; simp; omega
  have hsub : ∀ x ∈ m, x ∈ l := by rw [hm]; exact fun x hx => List.mem_of_mem_drop hx
  have p9 : ∀ i (h : i < m.length), tyAt l m i h = false → tysOk l = false := by
    subst hm; exact fun i h e => tysOk_no h e
  refine awp_loop (fun i : Nat => i ≤ m.length ∧ tyTo l m i) (fun i => stl [(0, .fsl 6 (l.map Ty.z)), (3, .usl 40 6 (baseTs.map Ty.o)), (7, .dead), (23, .fsl 6 (l.map Ty.z)), (25, .v (.int .i64 3)), (26, .fsl 6 (m.map Ty.z)), (27, .v (.int .i64 (m.length : Int))), (28, .v (.int .i64 (i : Int)))]) (fun i => m.length - i) 0 ⟨Nat.zero_le _, fun j hj h => absurd h (by omega)⟩ ?_ ?_
  · have htk : List.take (l.length - 3) m = m := List.take_of_length_le (by omega)
    simp only [← hm, htk, EV, Nat.reduceEqDiff, Nat.reduceBEq, Nat.reduceLT, Nat.reduceLeDiff, Nat.reduceAdd, Nat.reduceSub, reduceIte]
    rfl
  · rintro i ⟨hi, hok⟩
    simp only [EV, Nat.reduceEqDiff, Nat.reduceBEq, Nat.reduceLT, Nat.reduceLeDiff, Nat.reduceAdd, Nat.reduceSub, reduceIte]
    refine cK_cut (fun h => ?_) (fun h => ?_)
    · have h1 : i < m.length := by simpa using h
      have h2 : (i : Int) < (m.length : Int) := by omega
      have hso : m[i].sm := hs m[i] (hsub _ (List.getElem_mem h1))
      clear h
      simp only [TyE, nth_map h1, h2, base_len, h3, Ty.z, EV, Nat.reduceEqDiff, Nat.reduceBEq, Nat.reduceLT, Nat.reduceLeDiff, Nat.reduceAdd, Nat.reduceSub, reduceIte]
      have hw : IntKind.i64.wrap (3 + (i : Int)) = ((3 + i : Nat) : Int) := by rw [w64 _ (by omega)]; omega
      have hdt : List.take (3 + i - 3) (List.drop 3 (l.map Ty.z)) = (m.take i).map Ty.z := by
        rw [hm, Nat.add_sub_cancel_left, ← List.map_drop, ← List.map_take]
      have en : (m[i].name.toList == (⟨#[]⟩ : ByteArray).toList) = nil' m[i].name := rfl
      have hcl : Ty.z m[i] = [.v (.int .i64 m[i].kind), .v (.int .i64 m[i].long), .v (.int .i64 m[i].base), .fsl 3 (m[i].fields.map Fd.z), .v (.string m[i].owner), .v (.string m[i].name)] := rfl
      have d7 := d189 l m[i] hl hso
      have dc := d187 (m.take i) (by simp; omega) 188 [.fptr m[i].z] (tyNm m[i]) rfl rfl (fun _ => rfl) (fun _ => rfl) (fun s _ => d188 s m[i])
      rw [hcl] at d7 dc
      rw [en]
      rcases e3 : nil' m[i].name with _ | _
      · simp only [Bool.not_false, base_len, h3, hw, t3, EV, Nat.reduceEqDiff, Nat.reduceBEq, Nat.reduceLT, Nat.reduceLeDiff, Nat.reduceAdd, Nat.reduceSub, reduceIte]
        refine ⟨by omega, by omega, by omega, ?_⟩
        rw [hdt]
        refine callK_i dc ?_
        simp only [EV, Nat.reduceEqDiff, Nat.reduceBEq, Nat.reduceLT, Nat.reduceLeDiff, Nat.reduceAdd, Nat.reduceSub, reduceIte]
        rcases e4 : (m.take i).any (tyNm m[i]) with _ | _
        · simp only [EV, Nat.reduceEqDiff, Nat.reduceBEq, Nat.reduceLT, Nat.reduceLeDiff, Nat.reduceAdd, Nat.reduceSub, reduceIte]
          refine callK_i d7 ?_
          simp only [EV, Nat.reduceEqDiff, Nat.reduceBEq, Nat.reduceLT, Nat.reduceLeDiff, Nat.reduceAdd, Nat.reduceSub, reduceIte]
          rcases e5 : tyOk l m[i] with _ | _
          · have e : tysOk l = false := p9 i h1 (by simp only [tyAt, e5, Bool.and_false])
            simp only [EV, Nat.reduceEqDiff, Nat.reduceBEq, Nat.reduceLT, Nat.reduceLeDiff, Nat.reduceAdd, Nat.reduceSub, reduceIte]
            simp only [e, Ty.nfz, EV, Nat.reduceEqDiff, Nat.reduceBEq, Nat.reduceLT, Nat.reduceLeDiff, Nat.reduceAdd, Nat.reduceSub, reduceIte, evRE, retVC, cellV', evR, nfz, nfzs, nfzss, List.contains_nil, List.contains_cons, Bool.or_false, or_true]
          · simp only [EV, Nat.reduceEqDiff, Nat.reduceBEq, Nat.reduceLT, Nat.reduceLeDiff, Nat.reduceAdd, Nat.reduceSub, reduceIte]
            rw [w64 _ (by omega)]
            exact ⟨i + 1, ⟨h1, tyTo_succ h1 hok (by simp only [tyAt, e3, e4, e5, Bool.and_false, Bool.not_false, Bool.and_self])⟩, by omega, rfl⟩
        · have e : tysOk l = false := p9 i h1 (by simp only [tyAt, e3, e4, Bool.not_false, Bool.and_self, Bool.not_true, Bool.false_and])
          simp only [EV, Nat.reduceEqDiff, Nat.reduceBEq, Nat.reduceLT, Nat.reduceLeDiff, Nat.reduceAdd, Nat.reduceSub, reduceIte]
          simp only [e, Ty.nfz, EV, Nat.reduceEqDiff, Nat.reduceBEq, Nat.reduceLT, Nat.reduceLeDiff, Nat.reduceAdd, Nat.reduceSub, reduceIte, evRE, retVC, cellV', evR, nfz, nfzs, nfzss, List.contains_nil, List.contains_cons, Bool.or_false, or_true]
      · simp only [Bool.not_true, EV, Nat.reduceEqDiff, Nat.reduceBEq, Nat.reduceLT, Nat.reduceLeDiff, Nat.reduceAdd, Nat.reduceSub, reduceIte]
        refine callK_i d7 ?_
        simp only [EV, Nat.reduceEqDiff, Nat.reduceBEq, Nat.reduceLT, Nat.reduceLeDiff, Nat.reduceAdd, Nat.reduceSub, reduceIte]
        rcases e5 : tyOk l m[i] with _ | _
        · have e : tysOk l = false := p9 i h1 (by simp only [tyAt, e5, Bool.and_false])
          simp only [EV, Nat.reduceEqDiff, Nat.reduceBEq, Nat.reduceLT, Nat.reduceLeDiff, Nat.reduceAdd, Nat.reduceSub, reduceIte]
          simp only [e, Ty.nfz, EV, Nat.reduceEqDiff, Nat.reduceBEq, Nat.reduceLT, Nat.reduceLeDiff, Nat.reduceAdd, Nat.reduceSub, reduceIte, evRE, retVC, cellV', evR, nfz, nfzs, nfzss, List.contains_nil, List.contains_cons, Bool.or_false, or_true]
        · simp only [EV, Nat.reduceEqDiff, Nat.reduceBEq, Nat.reduceLT, Nat.reduceLeDiff, Nat.reduceAdd, Nat.reduceSub, reduceIte]
          rw [w64 _ (by omega)]
          exact ⟨i + 1, ⟨h1, tyTo_succ h1 hok (by simp only [tyAt, e3, e5, Bool.not_true, Bool.false_and, Bool.not_false, Bool.and_self])⟩, by omega, rfl⟩
    · have h1 : i = m.length := by have : ¬ (i : Int) < m.length := by simpa using h
                                   omega
      subst h1
      have e : tysOk l = true := tysOk_yes e1 e2 (by rw [← hm]; exact hok)
      simp only [EV, Nat.reduceEqDiff, Nat.reduceBEq, Nat.reduceLT, Nat.reduceLeDiff, Nat.reduceAdd, Nat.reduceSub, reduceIte]
      simp only [e, Ty.nfz, EV, Nat.reduceEqDiff, Nat.reduceBEq, Nat.reduceLT, Nat.reduceLeDiff, Nat.reduceAdd, Nat.reduceSub, reduceIte, evRE, retVC, cellV', evR, nfz, nfzs, nfzss, List.contains_nil, List.contains_cons, Bool.or_false, or_true]

end Go.AM
namespace Go.AM
set_option linter.unusedVariables false
set_option linter.unusedSimpArgs false
def prt (ptr : Bool) (t : Ty) : List Int := (if (decide (0 ≤ t.base) && (ptr || !(t.kind == 6))) = true then [t.base] else []) ++ t.fields.map Fd.typ

def kids (l : List Ty) (ptr : Bool) (n : Int) : List Int := match l[n.toNat]? with
  | some t => prt ptr t
  | none => []

theorem kids_at {l : List Ty} {ptr : Bool} {n : Int} (h : n.toNat < l.length) : kids l ptr n = prt ptr l[n.toNat] := by simp [kids, h]

inductive Rch (l : List Ty) (ptr : Bool) (fr : List Int) : Int → Prop where
  | base {n : Int} : n ∈ fr → Rch l ptr fr n
  | step {m n : Int} : Rch l ptr fr m → n ∈ kids l ptr m → Rch l ptr fr n

theorem Rch.mono {l : List Ty} {ptr : Bool} {fr fr' : List Int} (h : ∀ n ∈ fr, Rch l ptr fr' n) {n : Int} (hr : Rch l ptr fr n) : Rch l ptr fr' n := by
  induction hr with
  | base hm => exact h _ hm
  | step _ hk ih => exact .step ih hk

/-- All parts are numbers of types. -/
def kidsIn (l : List Ty) : Prop := ∀ n : Int, 0 ≤ n → n < l.length → ∀ k ∈ kids l true n, 0 ≤ k ∧ k < (l.length : Int)

theorem kids_sub {l : List Ty} {ptr : Bool} {n k : Int} (h : k ∈ kids l ptr n) : k ∈ kids l true n := by
  cases ptr with
  | true => exact h
  | false =>
    unfold kids at h ⊢
    split
    · rename_i t ht
      rw [ht] at h
      simp only [prt, List.mem_append] at h ⊢
      rcases h with h | h
      · left
        split at h
        · rename_i hc
          rw [if_pos (by simp only [Bool.and_eq_true] at hc ⊢; exact ⟨hc.1, rfl⟩)]
          exact h
        · simp at h
      · exact .inr h
    · rename_i ht; rw [ht] at h; exact h

theorem Rch.inr {l : List Ty} {ptr : Bool} {fr : List Int} (hk : kidsIn l) (hf : ∀ k ∈ fr, 0 ≤ k ∧ k < (l.length : Int)) {n : Int} (h : Rch l ptr fr n) : 0 ≤ n ∧ n < (l.length : Int) := by
  induction h with
  | base hm => exact hf _ hm
  | step _ hm ih => exact hk _ ih.1 ih.2 _ (kids_sub hm)

open Classical in
noncomputable def reachL (l : List Ty) (ptr : Bool) (fr : List Int) : List Int := ((List.range l.length).map Int.ofNat).filter fun n => decide (Rch l ptr fr n)

theorem mem_reachL {l : List Ty} {ptr : Bool} {fr : List Int} {n : Int} : n ∈ reachL l ptr fr ↔ (0 ≤ n ∧ n < (l.length : Int)) ∧ Rch l ptr fr n := by
  simp only [reachL, List.mem_filter, List.mem_map, List.mem_range, decide_eq_true_eq]
  constructor
  · rintro ⟨⟨k, hk, rfl⟩, h⟩
    exact ⟨⟨Int.natCast_nonneg k, by exact Int.ofNat_lt.2 hk⟩, h⟩
  · rintro ⟨⟨h0, h1⟩, h⟩
    exact ⟨⟨n.toNat, by omega, by exact Int.toNat_of_nonneg h0⟩, h⟩

theorem range_up : ∀ n : Nat, ((List.range n).map Int.ofNat).Pairwise (· < ·) := by
  intro n
  rw [List.pairwise_map]
  exact List.Pairwise.imp (fun h => Int.ofNat_lt.2 h) List.pairwise_lt_range

theorem reachL_up (l : List Ty) (ptr : Bool) (fr : List Int) : (reachL l ptr fr).Pairwise (· < ·) := List.Pairwise.filter _ (range_up _)

/-- Lists that rise and have the same members are the same. -/
theorem up_eq : ∀ {a b : List Int}, a.Pairwise (· < ·) → b.Pairwise (· < ·) → (∀ n, n ∈ a ↔ n ∈ b) → a = b
  | [], [], _, _, _ => rfl
  | [], y :: b, _, _, h => by have := (h y).2 (by simp); simp at this
  | x :: a, [], _, _, h => by have := (h x).1 (by simp); simp at this
  | x :: a, y :: b, ha, hb, h => by
    rw [List.pairwise_cons] at ha hb
    have e : x = y := by
      have h1 := (h x).1 (by simp)
      have h2 := (h y).2 (by simp)
      rcases List.mem_cons.1 h1 with h1 | h1
      · exact h1
      · rcases List.mem_cons.1 h2 with h2 | h2
        · exact h2.symm
        · have := ha.1 y h2; have := hb.1 x h1; omega
    subst e
    rw [up_eq ha.2 hb.2 (fun n => ?_)]
    have := h n
    simp only [List.mem_cons] at this
    constructor
    · intro hn
      rcases this.1 (.inr hn) with e | h3
      · have := ha.1 n hn; omega
      · exact h3
    · intro hn
      rcases this.2 (.inr hn) with e | h3
      · have := hb.1 n hn; omega
      · exact h3

theorem up_nodup {a : List Int} (h : a.Pairwise (· < ·)) : a.Nodup := h.imp fun h => by omega

theorem reachL_congr {l : List Ty} {ptr : Bool} {fr fr' : List Int} (h : ∀ n, n ∈ fr ↔ n ∈ fr') : reachL l ptr fr = reachL l ptr fr' := by
  refine up_eq (reachL_up _ _ _) (reachL_up _ _ _) fun n => ?_
  rw [mem_reachL, mem_reachL]
  constructor
  · rintro ⟨h1, h2⟩; exact ⟨h1, h2.mono fun n hn => .base ((h n).1 hn)⟩
  · rintro ⟨h1, h2⟩; exact ⟨h1, h2.mono fun n hn => .base ((h n).2 hn)⟩

/-- What rises, holds the first ones, is closed, and holds only what is reached: that is it. -/
theorem reachL_of {l : List Ty} {ptr : Bool} {fr out : List Int} (hk : kidsIn l) (hf : ∀ k ∈ fr, 0 ≤ k ∧ k < (l.length : Int)) (hu : out.Pairwise (· < ·)) (hfr : ∀ n ∈ fr, n ∈ out) (hcl : ∀ n ∈ out, ∀ k ∈ kids l ptr n, k ∈ out) (hr : ∀ n ∈ out, Rch l ptr fr n) : out = reachL l ptr fr := by
  refine up_eq hu (reachL_up _ _ _) fun n => ?_
  rw [mem_reachL]
  constructor
  · intro h; exact ⟨(hr n h).inr hk hf, hr n h⟩
  · rintro ⟨hx, h⟩
    clear hr hu hf hk hx
    induction h with
    | base hm => exact hfr _ hm
    | step _ hm ih => exact hcl _ ih _ hm

theorem sub_len : ∀ {a b : List Int}, a.Nodup → (∀ x ∈ a, x ∈ b) → a.length ≤ b.length
  | [], b, _, _ => Nat.zero_le _
  | x :: a, b, hn, h => by
    rw [List.nodup_cons] at hn
    have hx := h x (by simp)
    have ih := sub_len (b := b.erase x) hn.2 fun y hy => by
      have hne : y ≠ x := by intro e; subst e; exact hn.1 hy
      exact (List.mem_erase_of_ne hne).2 (h y (by simp [hy]))
    have he := List.length_erase_of_mem hx
    have hp : 0 < b.length := List.length_pos_of_mem hx
    simp only [List.length_cons]
    omega

theorem nodup_le {out : List Int} {n : Nat} (hn : out.Nodup) (h : ∀ k ∈ out, 0 ≤ k ∧ k < (n : Int)) : out.length ≤ n := by
  have := sub_len (b := (List.range n).map Int.ofNat) hn fun k hk => by
    obtain ⟨h0, h1⟩ := h k hk
    rw [List.mem_map]
    exact ⟨k.toNat, by rw [List.mem_range]; omega, Int.toNat_of_nonneg h0⟩
  simpa using this

noncomputable def roundAt (l : List Ty) (n : Int) : Bool := (reachL l false (kids l false n)).contains n

noncomputable def tabOk (l : List Ty) : Bool := tysOk l && (List.range l.length).all fun n => !roundAt l (n : Int)

/-- How deep a type is. -/
noncomputable def rk (l : List Ty) (n : Int) : Nat := (reachL l false (kids l false n)).length

theorem filter_lt {p q : Int → Bool} : ∀ {L : List Int} {x : Int}, (∀ y ∈ L, p y = true → q y = true) → x ∈ L → q x = true → p x = false → (L.filter p).length < (L.filter q).length
  | [], x, _, hx, _, _ => by simp at hx
  | y :: L, x, h, hx, h1, h2 => by
    have le : ∀ {L : List Int}, (∀ y ∈ L, p y = true → q y = true) → (L.filter p).length ≤ (L.filter q).length := by
      intro L h
      induction L with
      | nil => simp
      | cons z L ih =>
        have := ih fun y hy => h y (by simp [hy])
        have hz := h z (by simp)
        rw [List.filter_cons, List.filter_cons]
        cases ep : p z <;> cases eq : q z <;> simp [ep, eq] at hz ⊢ <;> omega
    rw [List.filter_cons, List.filter_cons]
    have hy := h y (by simp)
    rcases List.mem_cons.1 hx with e | hx
    · subst e
      have := le (L := L) fun z hz => h z (by simp [hz])
      simp [h1, h2]; omega
    · have ih := filter_lt (L := L) (fun z hz => h z (by simp [hz])) hx h1 h2
      cases ep : p y <;> cases eq : q y <;> simp [ep, eq] at hy ⊢ <;> omega

theorem tabOk_tys {l : List Ty} (h : tabOk l = true) : tysOk l = true := by simp only [tabOk, Bool.and_eq_true] at h; exact h.1

theorem tabOk_round {l : List Ty} (h : tabOk l = true) {n : Int} (h0 : 0 ≤ n) (h1 : n < (l.length : Int)) : roundAt l n = false := by
  simp only [tabOk, Bool.and_eq_true, List.all_eq_true, List.mem_range] at h
  have := h.2 n.toNat (by omega)
  rw [Int.toNat_of_nonneg h0] at this
  simpa using this

theorem getElem_drop3 {l : List Ty} {n : Nat} (h3 : 3 ≤ n) (h : n < l.length) : ∃ h' : n - 3 < (l.drop 3).length, (l.drop 3)[n - 3] = l[n] := by
  refine ⟨by simp; omega, ?_⟩
  rw [List.getElem_drop]
  congr 1
  omega

theorem sameTy_base {a b : Ty} (h : sameTy a b = true) : a.kind = b.kind ∧ a.long = b.long ∧ a.base = b.base ∧ a.fields.length = b.fields.length ∧ (a.name.toList == b.name.toList) = true := by
  simp only [sameTy, Bool.and_eq_true, beq_iff_eq] at h
  obtain ⟨h1, h2, h3, h4, h5, h6⟩ := h
  refine ⟨h1, h2, h3, ?_, by rw [h6]; exact beq_self_eq_true _⟩
  simp only [eqL, decide_eq_true_eq] at h4
  exact h4.1

theorem tysOk_ty {l : List Ty} (h : tysOk l = true) {n : Nat} (h3 : 3 ≤ n) (hn : n < l.length) : tyOk l l[n] = true := by
  simp only [tysOk, Bool.and_eq_true, decide_eq_true_eq] at h
  obtain ⟨h', e⟩ := getElem_drop3 h3 hn
  have := h.2.2 (n - 3) h' h'
  simp only [tyAt, Bool.and_eq_true, e] at this
  exact this.2

theorem tysOk_len {l : List Ty} (h : tysOk l = true) : 3 ≤ l.length ∧ l.length ≤ 24 := by
  simp only [tysOk, Bool.and_eq_true, decide_eq_true_eq] at h
  omega

theorem tysOk_base {l : List Ty} (h : tysOk l = true) {n : Nat} (h3 : n < 3) (hn : n < l.length) : l[n].kind = (n : Int) + 1 ∧ l[n].long = 0 ∧ l[n].base = -1 ∧ l[n].fields = [] := by
  simp only [tysOk, Bool.and_eq_true, decide_eq_true_eq, eqL] at h
  obtain ⟨_, ⟨he, ht⟩, _⟩ := h
  have h1 : n < (l.take 3).length := by simp; omega
  have h2 : n < baseTs.length := by rw [base_len]; exact h3
  have hs := ht n h1 h2 (by omega)
  rw [List.getElem_take] at hs
  obtain ⟨q1, q2, q3, q4, _⟩ := sameTy_base hs
  have : n = 0 ∨ n = 1 ∨ n = 2 := by omega
  rcases this with rfl | rfl | rfl <;> exact ⟨q1, q2, q3, List.eq_nil_of_length_eq_zero q4⟩

theorem fdsOk_at {l : List Ty} {fs : List Fd} (h : fdsOk l fs = true) : fs.length ≤ 6 ∧ ∀ f ∈ fs, isNum l f.typ = true := by
  simp only [fdsOk, decide_eq_true_eq] at h
  refine ⟨h.2, fun f hf => ?_⟩
  obtain ⟨i, hi, rfl⟩ := List.mem_iff_getElem.1 hf
  have := h.1 i hi hi
  simp only [fdAt, Bool.and_eq_true] at this
  exact this.2.1

/-- What a good type says. -/
structure TyGood (l : List Ty) (t : Ty) : Prop where
  base : t.base = -1 ∨ isNum l t.base = true
  flds : ∀ f ∈ t.fields, isNum l f.typ = true
  few : t.fields.length ≤ 6
  none : t.kind ≠ 5 → t.fields = []
  rec5 : t.kind = 5 → t.base = -1 ∨ isRec l t.base = true
  arr : t.kind = 4 → isNum l t.base = true ∧ 1 ≤ t.long ∧ t.long ≤ 1000
  ptr : t.kind = 6 → isNum l t.base = true ∧ (kd l t.base = 5 ∨ kd l t.base = 4)
  one : 1 ≤ t.kind ∧ t.kind ≤ 6
  low : t.kind ≤ 3 → t.base = -1

theorem tyOk_good {l : List Ty} {t : Ty} (h : tyOk l t = true) : TyGood l t := by
  simp only [tyOk, Bool.and_eq_true, Bool.not_eq_true', Bool.and_eq_false_iff] at h
  obtain ⟨_, h2, h3⟩ := h
  have hrec : ∀ {n : Int}, isRec l n = true → isNum l n = true := fun h => by simp only [isRec, Bool.and_eq_true] at h; exact h.1
  have hnone : t.kind ≠ 5 → t.fields = [] := by
    intro hk
    rcases h2 with h2 | h2
    · simp at h2; exact absurd h2 hk
    · have : ¬ (0 : Int) < t.fields.length := by simpa using h2
      exact List.eq_nil_of_length_eq_zero (by omega)
  by_cases k4 : t.kind = 4
  · have : (t.kind == 4) = true := by simp [k4]
    rw [if_pos this] at h3
    simp only [Bool.and_eq_true, decide_eq_true_eq] at h3
    have hf := hnone (by omega)
    exact ⟨.inr h3.2, by rw [hf]; simp, by rw [hf]; simp, hnone, by omega, fun _ => ⟨h3.2, h3.1⟩, by omega, by omega, by omega⟩
  have e4 : ¬ (t.kind == 4) = true := by simpa using k4
  rw [if_neg e4] at h3
  by_cases k5 : t.kind = 5
  · have : (t.kind == 5) = true := by simp [k5]
    rw [if_pos this] at h3
    simp only [Bool.and_eq_true, beq_iff_eq, Bool.or_eq_true] at h3
    obtain ⟨⟨_, hb⟩, hf⟩ := h3
    obtain ⟨f1, f2⟩ := fdsOk_at hf
    exact ⟨hb.imp id hrec, f2, f1, hnone, fun _ => hb, by omega, by omega, by omega, by omega⟩
  have e5 : ¬ (t.kind == 5) = true := by simpa using k5
  rw [if_neg e5] at h3
  by_cases k6 : t.kind = 6
  · have : (t.kind == 6) = true := by simp [k6]
    rw [if_pos this] at h3
    simp only [Bool.and_eq_true, beq_iff_eq, Bool.or_eq_true] at h3
    obtain ⟨_, hb⟩ := h3
    have hf := hnone (by omega)
    have hnum : isNum l t.base = true := hb.elim hrec fun h => h.1
    exact ⟨.inr hnum, by rw [hf]; simp, by rw [hf]; simp, hnone, by omega, by omega, fun _ => ⟨hnum, hb.imp (fun h => by simp only [isRec, Bool.and_eq_true, beq_iff_eq] at h; exact h.2) fun h => h.2⟩, by omega, by omega⟩
  have e6 : ¬ (t.kind == 6) = true := by simpa using k6
  rw [if_neg e6] at h3
  cases h3

theorem tysOk_good {l : List Ty} (h : tysOk l = true) {n : Nat} (hn : n < l.length) : TyGood l l[n] := by
  by_cases h3 : 3 ≤ n
  · exact tyOk_good (tysOk_ty h h3 hn)
  · obtain ⟨q1, q2, q3, q4⟩ := tysOk_base h (by omega) hn
    exact ⟨.inl q3, by rw [q4]; simp, by rw [q4]; simp, fun _ => q4, by omega, by omega, by omega, by omega, fun _ => q3⟩

theorem isNum_in {l : List Ty} {n : Int} : isNum l n = true ↔ 0 ≤ n ∧ n < (l.length : Int) := by
  simp only [isNum, Bool.and_eq_true, decide_eq_true_eq]; omega

theorem tysOk_kids {l : List Ty} (h : tysOk l = true) : kidsIn l := by
  intro n h0 h1 k hk
  have hn : n.toNat < l.length := by omega
  have G := tysOk_good h hn
  rw [kids_at hn] at hk
  simp only [prt, List.mem_append, List.mem_map] at hk
  rcases hk with hk | ⟨f, hf, rfl⟩
  · split at hk
    · rename_i hc
      simp only [Bool.and_eq_true, decide_eq_true_eq] at hc
      simp only [List.mem_singleton] at hk
      subst hk
      rcases G.base with hb | hb
      · omega
      · exact isNum_in.1 hb
    · simp at hk
  · exact isNum_in.1 (G.flds f hf)

theorem prt_len {l : List Ty} (h : tysOk l = true) (ptr : Bool) {n : Nat} (hn : n < l.length) : (prt ptr l[n]).length ≤ 7 := by
  have G := tysOk_good h hn
  have := G.few
  simp only [prt, List.length_append, List.length_map]
  split <;> simp <;> omega

theorem kids_ok {l : List Ty} (h : tysOk l = true) {n : Int} {ptr : Bool} {k : Int} (h0 : 0 ≤ n) (h1 : n < l.length) (hk : k ∈ kids l ptr n) : 0 ≤ k ∧ k < (l.length : Int) := tysOk_kids h n h0 h1 k (kids_sub hk)

theorem rk_lt {l : List Ty} (h : tabOk l = true) {n k : Int} (h0 : 0 ≤ n) (h1 : n < l.length) (hk : k ∈ kids l false n) : rk l k < rk l n := by
  have ht := tabOk_tys h
  have hki := kids_ok ht h0 h1 hk
  have hrd := tabOk_round h hki.1 hki.2
  refine filter_lt (x := k) ?_ ?_ ?_ ?_
  · intro y _ hy
    simp only [decide_eq_true_eq] at hy ⊢
    exact hy.mono fun m hm => .step (.base hk) hm
  · rw [List.mem_map]; exact ⟨k.toNat, by rw [List.mem_range]; omega, Int.toNat_of_nonneg hki.1⟩
  · simp only [decide_eq_true_eq]; exact .base hk
  · simp only [decide_eq_false_iff_not]
    intro hr
    have : k ∈ reachL l false (kids l false k) := mem_reachL.2 ⟨hki, hr⟩
    simp [roundAt] at hrd
    exact hrd this

end Go.AM
namespace Go.AM
set_option linter.unusedVariables false
set_option linter.unusedSimpArgs false
def prtB (ptr : Bool) (t : Ty) : List Int := if (decide (0 ≤ t.base) && (ptr || !(t.kind == 6))) = true then [t.base] else []

theorem prtB_len (ptr : Bool) (t : Ty) : (prtB ptr t).length ≤ 1 := by unfold prtB; split <;> simp

/-- (loop.example/g00837/impl.Type).parts -/
def m131 : MC :=
  (.seq
   (.reg [⟨(some 2), none, .a (.box 40 (.t 0))⟩,
     ⟨(some 4), none, .a (.asg (.nils 3 1))⟩])
   (.seq
    (.reg [⟨(some 8), none, .a (.bsl 3 1 [])⟩,
      ⟨(some 5), none, .a (.asg (.t 8))⟩])
    (.join [2, 5, 8, 24, 36]
     (.seq
      (.reg [⟨(some 9), none, .q (.fad 2 (.t 2))⟩,
        ⟨(some 10), none, .q (.load false 1 (.t 9))⟩,
        ⟨(some 11), none, .q (.bin false .geq (.t 10) (.c (.int .i64 0)))⟩,
        ⟨(some 12), none, .q (.mov (.t 11))⟩,
        ⟨(some 13), (some (12, true)), .q (.mov (.t 1))⟩,
        ⟨(some 14), (some (12, true)), .q (.mov (.t 13))⟩,
        ⟨(some 15), (some (14, false)), .q (.fad 0 (.t 2))⟩,
        ⟨(some 16), (some (14, false)), .q (.load false 1 (.t 15))⟩,
        ⟨(some 17), (some (14, false)), .q (.bin false .neq (.t 16) (.c (.int .i64 6)))⟩,
        ⟨(some 18), (some (12, true)), .q (.pick (.t 14) (.c (.bool true)) (.t 17))⟩,
        ⟨(some 19), none, .q (.pick (.t 12) (.t 18) (.c (.bool false)))⟩])
      (.cond (.t 19)
       (.reg [⟨(some 20), none, .q (.mov (.t 5))⟩,
         ⟨(some 21), none, .q (.fad 2 (.t 2))⟩,
         ⟨(some 22), none, .q (.load false 1 (.t 21))⟩,
         ⟨(some 23), none, .a (.bsl 3 1 [.t 22])⟩,
         ⟨(some 24), none, .a (.app true 3 1 8 (.t 20) (.t 23))⟩,
         ⟨(some 5), none, .a (.asg (.t 24))⟩])
       .skip))
     (.seq
      (.seq
       (.reg [⟨(some 25), none, .q (.fad 3 (.t 2))⟩,
         ⟨(some 26), none, .q (.load false 1 (.t 25))⟩,
         ⟨(some 27), none, .q (.len false (.t 26))⟩,
         ⟨(some 28), none, .q (.mov (.c (.int .i64 0)))⟩])
       (.block 0
        (.loop [2, 5, 8, 24, 25, 26, 27, 28, 36]
         (.seq
          (.reg [⟨(some 29), none, .q (.bin false .lss (.t 28) (.t 27))⟩])
          (.seq
           (.cond (.t 29)
            .skip
            (.exit 0))
           (.seq
            (.block 1
             (.seq
              (.reg [⟨(some 30), none, .q (.iad 3 (.t 26) (.t 28))⟩,
                ⟨(some 31), none, .q (.load true 3 (.t 30))⟩,
                ⟨(some 7), none, .a (.alloc 97 [.v (.string ({ data := #[] })), .v (.int .i64 0), .v (.int .i64 0)])⟩,
                ⟨none, none, .a (.store 3 (.t 7) (.t 31))⟩])
              (.reg [⟨(some 32), none, .q (.mov (.t 5))⟩,
                ⟨(some 33), none, .q (.fad 2 (.t 7))⟩,
                ⟨(some 34), none, .q (.load false 1 (.t 33))⟩,
                ⟨(some 35), none, .a (.bsl 3 1 [.t 34])⟩,
                ⟨(some 36), none, .a (.app true 3 1 8 (.t 32) (.t 35))⟩,
                ⟨(some 5), none, .a (.asg (.t 36))⟩])))
            (.reg [⟨(some 37), none, .q (.bin false .add (.t 28) (.c (.int .i64 1)))⟩,
              ⟨(some 28), none, .q (.mov (.t 37))⟩])))))))
      (.seq
       (.reg [⟨(some 38), none, .q (.mov (.t 5))⟩,
         ⟨(some 4), none, .a (.asg (.t 38))⟩])
       .ret)))))

set_option maxRecDepth 100000 in
theorem d131 (t : Ty) (ptr : Bool) (ht : t.sm) : Does Go.Proofs.Tryz.prog 131 [.agg t.z, .v (.bool ptr)] false (.usl 3 1 ((prt ptr t).map iv)) [.dead, .dead] := by
  unfold Ty.sm at ht
  have hf := ht.2.2.2.1.1
  refine does_intro (mc := m131) (N := 39) (rs := [4]) (fx := []) 2 rfl (by decide +kernel) ?_
  simp only [m131, Ty.z, EV, Nat.reduceEqDiff, Nat.reduceBEq, Nat.reduceLT, Nat.reduceLeDiff, Nat.reduceAdd, Nat.reduceSub, reduceIte]
  refine awp_join (fun _ : Unit => True) (fun _ => stl [(2, .box 40 t.z), (5, .usl 3 1 ((prtB ptr t).map iv)), (8, .dead), (24, .dead), (36, .dead)]) ?_ ?_
  · have no : (decide (0 ≤ t.base) && (ptr || !(t.kind == 6))) = false → prtB ptr t = [] := fun h => by unfold prtB; rw [h]; rfl
    have yes : (decide (0 ≤ t.base) && (ptr || !(t.kind == 6))) = true → prtB ptr t = [t.base] := fun h => by unfold prtB; rw [h]; rfl
    simp only [EV, Nat.reduceEqDiff, Nat.reduceBEq, Nat.reduceLT, Nat.reduceLeDiff, Nat.reduceAdd, Nat.reduceSub, reduceIte]
    rcases e1 : decide (0 ≤ t.base) with _ | _ <;> rcases ptr with _ | _ <;> rcases e2 : (t.kind == 6) with _ | _
    all_goals simp only [e1, e2, Bool.true_and, Bool.false_and, Bool.true_or, Bool.false_or, Bool.not_true, Bool.not_false, Bool.true_eq_false, Bool.false_eq_true, false_implies, forall_const] at no yes
    all_goals simp only [bne, e1, e2, yes, no, EV, Nat.reduceEqDiff, Nat.reduceBEq, Nat.reduceLT, Nat.reduceLeDiff, Nat.reduceAdd, Nat.reduceSub, reduceIte]
    all_goals first
      | exact ⟨(), trivial⟩
      | exact ⟨(), rfl⟩
      | (refine ⟨by simp only [List.length_nil]; omega, by simp only [List.length_nil]; omega, (), ?_⟩; rfl)
      | (refine ⟨by omega, (), ?_⟩; rfl)
      | trace_state
  rintro _ _
  simp only [Ty.z, EV, Nat.reduceEqDiff, Nat.reduceBEq, Nat.reduceLT, Nat.reduceLeDiff, Nat.reduceAdd, Nat.reduceSub, reduceIte]
  have hbl := prtB_len ptr t
  refine awp_loop (fun i : Nat => i ≤ t.fields.length) (fun i => stl [(2, .box 40 t.z), (5, .usl 3 1 ((prtB ptr t ++ (t.fields.take i).map Fd.typ).map iv)), (8, .dead), (24, .dead), (25, .ref 2 [] 0 3), (26, .fsl 3 (t.fields.map Fd.z)), (27, .v (.int .i64 (t.fields.length : Int))), (28, .v (.int .i64 (i : Int))), (36, .dead)]) (fun i => t.fields.length - i) 0 (Nat.zero_le _) ?_ ?_
  · simp only [List.append_nil, EV, Nat.reduceEqDiff, Nat.reduceBEq, Nat.reduceLT, Nat.reduceLeDiff, Nat.reduceAdd, Nat.reduceSub, reduceIte]
    rfl
  · intro i hi
    simp only [Ty.z, EV, Nat.reduceEqDiff, Nat.reduceBEq, Nat.reduceLT, Nat.reduceLeDiff, Nat.reduceAdd, Nat.reduceSub, reduceIte]
    refine cK_cut (fun h => ?_) (fun h => ?_)
    · have h1 : i < t.fields.length := by simpa using h
      have h2 : (i : Int) < (t.fields.length : Int) := by omega
      clear h
      simp only [FdE, nth_map h1, h1, h2, Fd.z, EV, Nat.reduceEqDiff, Nat.reduceBEq, Nat.reduceLT, Nat.reduceLeDiff, Nat.reduceAdd, Nat.reduceSub, reduceIte]
      rw [w64 _ (by omega)]
      have e : prtB ptr t ++ List.map Fd.typ (List.take (i + 1) t.fields) = (prtB ptr t ++ List.map Fd.typ (List.take i t.fields)) ++ [t.fields[i].typ] := by
        rw [List.take_succ_eq_append_getElem h1, List.map_append, List.append_assoc]; rfl
      refine ⟨by simp; omega, by simp; omega, i + 1, h1, by omega, ?_⟩
      rw [e, List.map_append (l₂ := [t.fields[i].typ])]
      rfl
    · have h1 : i = t.fields.length := by have : ¬ (i : Int) < t.fields.length := by simpa using h
                                          omega
      subst h1
      have e : prtB ptr t ++ List.map Fd.typ (List.take t.fields.length t.fields) = prt ptr t := by rw [List.take_length]; rfl
      rw [e]
      simp only [EV, Nat.reduceEqDiff, Nat.reduceBEq, Nat.reduceLT, Nat.reduceLeDiff, Nat.reduceAdd, Nat.reduceSub, reduceIte]
      simp only [iv_nfz, EV, Nat.reduceEqDiff, Nat.reduceBEq, Nat.reduceLT, Nat.reduceLeDiff, Nat.reduceAdd, Nat.reduceSub, reduceIte, evRE, retVC, cellV', evR, nfz, nfzs, nfzss, List.contains_nil, List.contains_cons, Bool.or_false, or_true]

/-- loop.example/g00837/spec.l3Parts -/
def m198 : MC :=
  (.seq
   (.reg [⟨(some 1), none, .a (.box 40 (.t 0))⟩,
     ⟨(some 2), none, .a (.asg (.nils 3 1))⟩])
   (.seq
    (.reg [⟨(some 3), none, .a (.asg (.nils 3 1))⟩])
    (.join [1, 3, 18, 30]
     (.seq
      (.reg [⟨(some 6), none, .q (.fad 2 (.t 1))⟩,
        ⟨(some 7), none, .q (.load false 1 (.t 6))⟩,
        ⟨(some 8), none, .q (.bin false .geq (.t 7) (.c (.int .i64 0)))⟩,
        ⟨(some 9), none, .q (.mov (.t 8))⟩,
        ⟨(some 10), (some (9, true)), .q (.fad 0 (.t 1))⟩,
        ⟨(some 11), (some (9, true)), .q (.load false 1 (.t 10))⟩,
        ⟨(some 12), (some (9, true)), .q (.bin false .neq (.t 11) (.c (.int .i64 6)))⟩,
        ⟨(some 13), none, .q (.pick (.t 9) (.t 12) (.c (.bool false)))⟩])
      (.cond (.t 13)
       (.reg [⟨(some 14), none, .q (.mov (.t 3))⟩,
         ⟨(some 15), none, .q (.fad 2 (.t 1))⟩,
         ⟨(some 16), none, .q (.load false 1 (.t 15))⟩,
         ⟨(some 17), none, .a (.bsl 3 1 [.t 16])⟩,
         ⟨(some 18), none, .a (.app true 3 1 8 (.t 14) (.t 17))⟩,
         ⟨(some 3), none, .a (.asg (.t 18))⟩])
       .skip))
     (.seq
      (.seq
       (.reg [⟨(some 19), none, .q (.fad 3 (.t 1))⟩,
         ⟨(some 20), none, .q (.load false 1 (.t 19))⟩,
         ⟨(some 21), none, .q (.len false (.t 20))⟩,
         ⟨(some 22), none, .q (.mov (.c (.int .i64 0)))⟩])
       (.block 0
        (.loop [1, 3, 18, 19, 20, 21, 22, 30]
         (.seq
          (.reg [⟨(some 23), none, .q (.bin false .lss (.t 22) (.t 21))⟩])
          (.seq
           (.cond (.t 23)
            .skip
            (.exit 0))
           (.seq
            (.block 1
             (.seq
              (.reg [⟨(some 24), none, .q (.iad 3 (.t 20) (.t 22))⟩,
                ⟨(some 25), none, .q (.load true 3 (.t 24))⟩,
                ⟨(some 5), none, .a (.alloc 97 [.v (.string ({ data := #[] })), .v (.int .i64 0), .v (.int .i64 0)])⟩,
                ⟨none, none, .a (.store 3 (.t 5) (.t 25))⟩])
              (.reg [⟨(some 26), none, .q (.mov (.t 3))⟩,
                ⟨(some 27), none, .q (.fad 2 (.t 5))⟩,
                ⟨(some 28), none, .q (.load false 1 (.t 27))⟩,
                ⟨(some 29), none, .a (.bsl 3 1 [.t 28])⟩,
                ⟨(some 30), none, .a (.app true 3 1 8 (.t 26) (.t 29))⟩,
                ⟨(some 3), none, .a (.asg (.t 30))⟩])))
            (.reg [⟨(some 31), none, .q (.bin false .add (.t 22) (.c (.int .i64 1)))⟩,
              ⟨(some 22), none, .q (.mov (.t 31))⟩])))))))
      (.seq
       (.reg [⟨(some 32), none, .q (.mov (.t 3))⟩,
         ⟨(some 2), none, .a (.asg (.t 32))⟩])
       .ret)))))

set_option maxRecDepth 100000 in
theorem d198 (t : Ty) (ht : t.sm) : Does Go.Proofs.Tryz.prog 198 [.agg t.z] false (.usl 3 1 ((prt false t).map iv)) [.dead] := by
  unfold Ty.sm at ht
  have hf := ht.2.2.2.1.1
  refine does_intro (mc := m198) (N := 33) (rs := [2]) (fx := []) 1 rfl (by decide +kernel) ?_
  simp only [m198, Ty.z, EV, Nat.reduceEqDiff, Nat.reduceBEq, Nat.reduceLT, Nat.reduceLeDiff, Nat.reduceAdd, Nat.reduceSub, reduceIte]
  refine awp_join (fun _ : Unit => True) (fun _ => stl [(1, .box 40 t.z), (3, .usl 3 1 ((prtB false t).map iv)), (18, .dead), (30, .dead)]) ?_ ?_
  · have no : (decide (0 ≤ t.base) && !(t.kind == 6)) = false → prtB false t = [] := fun h => by unfold prtB; rw [Bool.false_or, h]; rfl
    have yes : (decide (0 ≤ t.base) && !(t.kind == 6)) = true → prtB false t = [t.base] := fun h => by unfold prtB; rw [Bool.false_or, h]; rfl
    simp only [EV, Nat.reduceEqDiff, Nat.reduceBEq, Nat.reduceLT, Nat.reduceLeDiff, Nat.reduceAdd, Nat.reduceSub, reduceIte]
    rcases e1 : decide (0 ≤ t.base) with _ | _ <;> rcases e2 : (t.kind == 6) with _ | _
    all_goals simp only [e1, e2, Bool.true_and, Bool.false_and, Bool.true_or, Bool.false_or, Bool.not_true, Bool.not_false, Bool.true_eq_false, Bool.false_eq_true, false_implies, forall_const] at no yes
    all_goals simp only [bne, e1, e2, yes, no, EV, Nat.reduceEqDiff, Nat.reduceBEq, Nat.reduceLT, Nat.reduceLeDiff, Nat.reduceAdd, Nat.reduceSub, reduceIte]
    all_goals first
      | exact ⟨(), trivial⟩
      | exact ⟨(), rfl⟩
      | (refine ⟨by simp only [List.length_nil]; omega, by simp only [List.length_nil]; omega, (), ?_⟩; rfl)
      | (refine ⟨by omega, (), ?_⟩; rfl)
      | trace_state
  rintro _ _
  simp only [Ty.z, EV, Nat.reduceEqDiff, Nat.reduceBEq, Nat.reduceLT, Nat.reduceLeDiff, Nat.reduceAdd, Nat.reduceSub, reduceIte]
  have hbl := prtB_len false t
  refine awp_loop (fun i : Nat => i ≤ t.fields.length) (fun i => stl [(1, .box 40 t.z), (3, .usl 3 1 ((prtB false t ++ (t.fields.take i).map Fd.typ).map iv)), (18, .dead), (19, .ref 1 [] 0 3), (20, .fsl 3 (t.fields.map Fd.z)), (21, .v (.int .i64 (t.fields.length : Int))), (22, .v (.int .i64 (i : Int))), (30, .dead)]) (fun i => t.fields.length - i) 0 (Nat.zero_le _) ?_ ?_
  · simp only [List.append_nil, EV, Nat.reduceEqDiff, Nat.reduceBEq, Nat.reduceLT, Nat.reduceLeDiff, Nat.reduceAdd, Nat.reduceSub, reduceIte]
    rfl
  · intro i hi
    simp only [Ty.z, EV, Nat.reduceEqDiff, Nat.reduceBEq, Nat.reduceLT, Nat.reduceLeDiff, Nat.reduceAdd, Nat.reduceSub, reduceIte]
    refine cK_cut (fun h => ?_) (fun h => ?_)
    · have h1 : i < t.fields.length := by simpa using h
      have h2 : (i : Int) < (t.fields.length : Int) := by omega
      clear h
      simp only [FdE, nth_map h1, h1, h2, Fd.z, EV, Nat.reduceEqDiff, Nat.reduceBEq, Nat.reduceLT, Nat.reduceLeDiff, Nat.reduceAdd, Nat.reduceSub, reduceIte]
      rw [w64 _ (by omega)]
      have e : prtB false t ++ List.map Fd.typ (List.take (i + 1) t.fields) = (prtB false t ++ List.map Fd.typ (List.take i t.fields)) ++ [t.fields[i].typ] := by
        rw [List.take_succ_eq_append_getElem h1, List.map_append, List.append_assoc]; rfl
      refine ⟨by simp; omega, by simp; omega, i + 1, h1, by omega, ?_⟩
      rw [e, List.map_append (l₂ := [t.fields[i].typ])]
      rfl
    · have h1 : i = t.fields.length := by have : ¬ (i : Int) < t.fields.length := by simpa using h
                                          omega
      subst h1
      have e : prtB false t ++ List.map Fd.typ (List.take t.fields.length t.fields) = prt false t := by rw [List.take_length]; rfl
      rw [e]
      simp only [EV, Nat.reduceEqDiff, Nat.reduceBEq, Nat.reduceLT, Nat.reduceLeDiff, Nat.reduceAdd, Nat.reduceSub, reduceIte]
      simp only [iv_nfz, EV, Nat.reduceEqDiff, Nat.reduceBEq, Nat.reduceLT, Nat.reduceLeDiff, Nat.reduceAdd, Nat.reduceSub, reduceIte, evRE, retVC, cellV', evR, nfz, nfzs, nfzss, List.contains_nil, List.contains_cons, Bool.or_false, or_true]

end Go.AM
set_option linter.unusedVariables false
set_option linter.unusedSimpArgs false
namespace Go.Proofs
open Go.Shelf
shelf_lay Lays.n189 Nm 189 at Tryz as Tryz.laysSort
shelf_lay Lays2.n20 Nm2 20 at Tryz as Tryz.laysCompact
end Go.Proofs

namespace Go.AM
open Go.Sort Go.RowKit
theorem int_cells {w : World} {Fz : Nat → Prop} : ∀ {l : List Int} {xs : List Value} {o : List Nat}, RepRows w Fz 1 (l.map iv) xs o → xs = l.map (Value.int .i64) ∧ o = []
  | [], xs, o, h => by simp only [List.map_nil, RepRows] at h; exact h
  | s :: l, xs, o, h => by
    simp only [List.map_cons, RepRows] at h
    obtain ⟨x1, x2, o1, o2, rfl, rfl, hl, h1, h2⟩ := h
    simp only [iv, RepRow, RepC] at h1
    obtain ⟨x, xs', p1, p2, rfl, rfl, ⟨rfl, _, rfl⟩, rfl, rfl⟩ := h1
    obtain ⟨rfl, rfl⟩ := int_cells h2
    exact ⟨rfl, rfl⟩

theorem cells_int {w : World} {Fz : Nat → Prop} : ∀ (l : List Int), RepRows w Fz 1 (l.map iv) (l.map (Value.int .i64)) []
  | [] => by simp [RepRows]
  | s :: l => by
    simp only [List.map_cons, RepRows]
    exact ⟨[.int .i64 s], _, [], [], rfl, rfl, rfl, by simp only [iv, RepRow, RepC]; exact ⟨_, [], [], [], rfl, rfl, ⟨rfl, rfl, rfl⟩, rfl, rfl⟩, cells_int l⟩

theorem holds_of {w : World} {g h : Nat} {cur : Array Value} {e : Nat} {l : List Int} (hg : w.heap[g]? = some (.cells cur e (0, 0))) (hat : At w g h (l.map (Value.int .i64))) : Holds (Value.int .i64) w g h l.toArray := by
  intro j hj
  have hj' : j < l.length := by simpa using hj
  refine ⟨?_, ?_⟩
  · rw [hat j (Value.int .i64 l[j]) (by simp [hj'])]
    simp [hj']
  · simp [World.frozen?, hg]

/-- What the world is after a row was put, as the framework sees it. -/
theorem put_ext {w : World} {g h n : Nat} {cur : Array Value} {e : Nat} {l m : List Int} {os : Array Obj} (hg : w.heap[g]? = some (.cells cur e (0, 0))) (hat : At w g h (l.map (Value.int .i64))) (hm : m.length = l.length) :
    let w' := grow (putRow (Value.int .i64) (Sort.ahead w n) g h m.toArray) os
    Ext w w' [g] ∧ w'.heap[g]? = some (.cells (putCells (Value.int .i64) h m.toArray cur) e (0, 0)) ∧ (putCells (Value.int .i64) h m.toArray cur).size = cur.size ∧ At w' g h (m.map (Value.int .i64)) ∧ w.heap.size ≤ w'.heap.size := by
  intro w'
  have hlt : g < w.heap.size := by
    rcases Nat.lt_or_ge g w.heap.size with h | h
    · exact h
    · rw [Array.getElem?_eq_none h] at hg; cases hg
  have hb : ∀ b, b < w.heap.size → w'.heap[b]? = (w.heap.modify g (onCells (putCells (Value.int .i64) h m.toArray)))[b]? := by
    intro b hb
    simp only [w', grow, putRow, mapBlock, Sort.ahead]
    rw [Array.getElem?_append_left (by simpa using hb)]
  have hsz : w.heap.size ≤ w'.heap.size := by simp [w', grow, putRow, mapBlock, Sort.ahead]
  have hg' : w'.heap[g]? = some (.cells (putCells (Value.int .i64) h m.toArray cur) e (0, 0)) := by
    rw [hb g hlt, Array.getElem?_modify, if_pos rfl, hg]
    rfl
  refine ⟨⟨rfl, rfl, rfl, hsz, ?_⟩, hg', by simp [putCells], ?_, hsz⟩
  · intro b hb' hn
    rw [hb b hb', Array.getElem?_modify, if_neg (by intro e; exact hn (by simp [e]))]
  · intro j u hj
    have hj' : j < m.length := by
      rcases Nat.lt_or_ge j m.length with h | h
      · exact h
      · simp [h] at hj
    have hc := hat j (Value.int .i64 (l[j]'(by omega))) (by simp [show j < l.length by omega])
    simp only [World.cell?, hg] at hc
    simp only [World.cell?, hg', putCells, Array.getElem?_mapIdx]
    have hc' : cur[h + j]? = some (Value.int .i64 (l[j]'(by omega))) := by simpa using hc
    have hu : u = Value.int .i64 m[j] := by simpa [hj'] using hj.symm
    subst hu
    simp [hc', hj']

def srt (l : List Int) : List Int := l.mergeSort fun x y => decide (x ≤ y)

theorem srt_len (l : List Int) : (srt l).length = l.length := List.length_mergeSort _

theorem srt_mem {l : List Int} {n : Int} : n ∈ srt l ↔ n ∈ l := List.mem_mergeSort

theorem srt_le (l : List Int) : (srt l).Pairwise (· ≤ ·) := by
  have := List.pairwise_mergeSort (le := fun x y : Int => decide (x ≤ y)) (fun a b c h1 h2 => by simp at *; omega) (fun a b => by simp; omega) l
  exact this.imp fun h => by simpa using h

theorem d190 (l : List Int) (hl : (l.length : Int) ≤ 1152921504606846976) : Does Go.Proofs.Tryz.prog 190 [.usl 3 1 (l.map iv)] false (.tup []) [.usl 3 1 ((srt l).map iv)] := by
  refine ⟨by decide +kernel, ?_⟩
  intro w Fz xs os hrep hos hfz hlt
  simp only [RepVs, RepV, RepC] at hrep
  obtain ⟨x, xs', o1, o2, rfl, rfl, hx, rfl, rfl⟩ := hrep
  simp only [List.append_nil] at *
  rcases hx with ⟨rfl, h0, rfl⟩ | ⟨g, h, c, cur, ys, o', rfl, rfl, hg, hc, hsz, hrows, hat⟩
  · have hl0 : l = [] := by simpa using h0
    subst hl0
    refine (Go.Proofs.Any.slices_Sort_int_none Go.Proofs.Tryz.laysSort none 0 w).mono ?_
    rintro e w' ⟨rfl, rfl⟩
    refine ⟨_, [], [], rfl, Ext.refl _ _, by simp [RepV, RepVs], ?_, by simp, by simp⟩
    simp only [RepVs, RepV, RepC]
    exact ⟨_, _, [], [], rfl, rfl, .inl ⟨rfl, by simp [srt], rfl⟩, rfl, rfl⟩
  · obtain ⟨rfl, rfl⟩ := int_cells hrows
    simp only [Nat.mul_one, List.length_map] at *
    have hH := holds_of hg hat
    have hgs : g < w.heap.size := (hfz g (by simp)).2
    refine (Go.Proofs.Any.slices_Sort_int Go.Proofs.Tryz.laysSort g h c l w hH hgs (by omega)).mono ?_
    rintro e' w' ⟨rfl, n, ob, hw⟩
    obtain ⟨hE, hg', hs', hat', hle⟩ := put_ext (n := n) (os := ob) (m := srt l) hg hat (srt_len l)
    rw [show grow (putRow (Value.int .i64) (Sort.ahead w n) g h (srt l).toArray) ob = w' from hw.symm] at hE hg' hat' hle
    refine ⟨_, [], [g], rfl, hE, by simp [RepV, RepVs], ?_, by simp, ?_⟩
    · simp only [RepVs, RepV, RepC]
      refine ⟨_, _, [g], [], rfl, rfl, .inr ⟨g, h, c, _, _, [], ?_, rfl, hg', ?_, ?_, cells_int _, ?_⟩, rfl, rfl⟩
      · simp [srt_len]
      · simpa [srt_len] using hc
      · simpa [hs'] using hsz
      · simpa using hat'
    · intro b hb
      simp only [List.nil_append, List.mem_singleton] at hb
      subst hb
      exact ⟨.inl (by simp), by omega⟩

def cmpct (l : List Int) : List Int := Lib.compact l

theorem cmpct_def (l : List Int) : Lib.compact l = cmpct l := rfl

theorem cmpct_le (l : List Int) : (cmpct l).length ≤ l.length := by
  unfold cmpct Lib.compact Lib.compactUpTo
  rw [List.length_map]
  refine Nat.le_trans (List.length_filter_le _ _) ?_
  simp

theorem d193 (l : List Int) (hl : (l.length : Int) ≤ 1152921504606846976) : Does Go.Proofs.Tryz.prog 193 [.usl 3 1 (l.map iv)] false (.usl 3 1 ((cmpct l).map iv)) [.dead] := by
  refine ⟨by decide +kernel, ?_⟩
  intro w Fz xs os hrep hos hfz hlt
  simp only [RepVs, RepV, RepC] at hrep
  obtain ⟨x, xs', o1, o2, rfl, rfl, hx, rfl, rfl⟩ := hrep
  simp only [List.append_nil] at *
  rcases hx with ⟨rfl, h0, rfl⟩ | ⟨g, h, c, cur, ys, o', rfl, rfl, hg, hc, hsz, hrows, hat⟩
  · have hl0 : l = [] := by simpa using h0
    subst hl0
    refine (Go.Proofs.Any.slices_Compact_int_empty Go.Proofs.Tryz.laysCompact none 0 w).mono ?_
    rintro e w' ⟨rfl, rfl⟩
    refine ⟨_, [], [], rfl, Ext.refl _ _, ?_, ?_, by simp, by simp⟩
    · simp [RepV, RepC, cmpct, Lib.compact, Lib.compactUpTo]
    · simp only [RepVs, RepV]
      exact ⟨_, _, [], [], rfl, rfl, rfl, rfl, rfl⟩
  · obtain ⟨rfl, rfl⟩ := int_cells hrows
    simp only [Nat.mul_one, List.length_map] at *
    have hH := holds_of hg hat
    have hcl := cmpct_le l
    have key := Go.Proofs.Any.slices_Compact_int Go.Proofs.Tryz.laysCompact g h c l w hH (by omega) hc
    simp only [cmpct_def] at key
    refine key.mono ?_
    rintro e' w' ⟨rfl, n, hw⟩
    have hmm : (cmpct l ++ List.replicate (l.length - (cmpct l).length) 0).length = l.length := by simp; omega
    obtain ⟨hE, hg', hs', hat', hle⟩ := put_ext (n := n) (os := #[]) (m := cmpct l ++ List.replicate (l.length - (cmpct l).length) 0) hg hat hmm
    rw [grow_empty, ← hw] at hE hg' hat' hle
    refine ⟨_, [g], [], rfl, hE, ?_, ?_, by simp, ?_⟩
    · simp only [RepV, RepC]
      refine .inr ⟨g, h, c, _, _, [], ?_, rfl, hg', ?_, ?_, cells_int _, ?_⟩
      · simp
      · simp; omega
      · simpa [hs'] using hsz
      · intro j u hj
        simp only [Nat.mul_one]
        refine hat' j u ?_
        rw [List.map_append, List.getElem?_append_left]
        · exact hj
        · rcases Nat.lt_or_ge j ((cmpct l).map (Value.int .i64)).length with h | h
          · exact h
          · rw [List.getElem?_eq_none h] at hj; cases hj
    · simp only [RepVs, RepV]
      exact ⟨_, _, [], [], rfl, rfl, rfl, rfl, rfl⟩
    · intro b hb
      simp only [List.append_nil, List.mem_singleton] at hb
      subst hb
      have := (hfz b (by simp)).2
      exact ⟨.inl (by simp), by omega⟩

end Go.AM
namespace Go.AM
set_option linter.unusedVariables false
set_option linter.unusedSimpArgs false
/-- What holds while the types are gone through, one queue's head after another. -/
structure FromInv (l : List Ty) (ptr : Bool) (fr out q : List Int) : Prop where
  up : out.Pairwise (· < ·)
  frm : ∀ n ∈ fr, n ∈ out ∨ n ∈ q
  cl : ∀ n ∈ out, ∀ k ∈ kids l ptr n, k ∈ out ∨ k ∈ q
  ro : ∀ n ∈ out, Rch l ptr fr n
  rq : ∀ n ∈ q, Rch l ptr fr n
  len : q.length ≤ 1048576 + 8 * out.length

def addQ (ptr : Bool) (t : Ty) : List Int := if (ptr && (t.kind == 6)) = true then prt false t ++ [t.base] else prt false t

theorem addQ_mem {l : List Ty} (ht : tysOk l = true) (ptr : Bool) {n : Nat} (hn : n < l.length) (k : Int) : k ∈ addQ ptr l[n] ↔ k ∈ prt ptr l[n] := by
  have G := tysOk_good ht hn
  unfold addQ
  cases ptr with
  | false => simp
  | true =>
    by_cases h6 : l[n].kind = 6
    · have hb := (isNum_in.1 (G.ptr h6).1).1
      simp only [h6, beq_self_eq_true, Bool.and_self, if_true, prt, Bool.not_true, Bool.or_false, Bool.and_false, Bool.false_eq_true, if_false, List.nil_append, Bool.true_or, Bool.and_true, decide_eq_true_eq, hb]
      simp only [List.mem_append]
      exact Or.comm
    · have e6 : (l[n].kind == 6) = false := by simpa using h6
      simp only [e6, Bool.and_false, Bool.false_eq_true, if_false, prt, Bool.not_false, Bool.or_true, Bool.true_or]

theorem addQ_len {l : List Ty} (ht : tysOk l = true) (ptr : Bool) {n : Nat} (hn : n < l.length) : (addQ ptr l[n]).length ≤ 8 := by
  have := prt_len ht false hn
  unfold addQ
  split
  · rw [List.length_append]; simp only [List.length_singleton]; omega
  · omega

theorem FromInv.start {l : List Ty} {ptr : Bool} {fr : List Int} (h : (fr.length : Int) ≤ 1048576) : FromInv l ptr fr [] fr :=
  ⟨List.Pairwise.nil, fun n hn => .inr hn, by simp, by simp, fun n hn => .base hn, by simp; omega⟩

theorem FromInv.small {l : List Ty} {ptr : Bool} {fr out q : List Int} (I : FromInv l ptr fr out q) (ht : tysOk l = true) (hf : ∀ k ∈ fr, 0 ≤ k ∧ k < (l.length : Int)) : out.length ≤ l.length ∧ l.length ≤ 24 :=
  ⟨nodup_le (up_nodup I.up) fun k hk => (I.ro k hk).inr (tysOk_kids ht) hf, (tysOk_len ht).2⟩

theorem FromInv.skip {l : List Ty} {ptr : Bool} {fr out q : List Int} {n : Int} (I : FromInv l ptr fr out (n :: q)) (h : n ∈ out) : FromInv l ptr fr out q := by
  have w : ∀ k, k ∈ out ∨ k ∈ n :: q → k ∈ out ∨ k ∈ q := by
    rintro k (hk | hk)
    · exact .inl hk
    · rcases List.mem_cons.1 hk with rfl | hk
      · exact .inl h
      · exact .inr hk
  have hl := I.len
  simp only [List.length_cons] at hl
  exact ⟨I.up, fun k hk => w k (I.frm k hk), fun m hm k hk => w k (I.cl m hm k hk), I.ro, fun k hk => I.rq k (by simp [hk]), by omega⟩

theorem FromInv.put {l : List Ty} {ptr : Bool} {fr out q : List Int} {n : Int} (I : FromInv l ptr fr out (n :: q)) (ht : tysOk l = true) (h : n ∉ out) (hn : n.toNat < l.length) : FromInv l ptr fr (putUp out n) (q ++ addQ ptr l[n.toNat]) := by
  obtain ⟨p1, p2, p3⟩ := putUp_spec (n := n) I.up
  have hk : ∀ k, k ∈ addQ ptr l[n.toNat] ↔ k ∈ kids l ptr n := by
    intro k; rw [kids_at hn]; exact addQ_mem ht ptr hn k
  have w : ∀ k, k ∈ out ∨ k ∈ n :: q → k ∈ putUp out n ∨ k ∈ q ++ addQ ptr l[n.toNat] := by
    rintro k (hk | hk)
    · exact .inl ((p2 k).2 (.inr hk))
    · rcases List.mem_cons.1 hk with rfl | hk
      · exact .inl ((p2 _).2 (.inl rfl))
      · exact .inr (by simp [hk])
  have hl := I.len
  have ha := addQ_len ht ptr hn
  have h3 := p3 h
  simp only [List.length_cons] at hl
  refine ⟨p1, fun k hk => w k (I.frm k hk), ?_, ?_, ?_, ?_⟩
  · intro m hm k hkm
    rcases (p2 m).1 hm with rfl | hm
    · exact .inr (List.mem_append.2 (.inr ((hk k).2 hkm)))
    · exact w k (I.cl m hm k hkm)
  · intro m hm
    rcases (p2 m).1 hm with rfl | hm
    · exact I.rq _ (by simp)
    · exact I.ro m hm
  · intro m hm
    rcases List.mem_append.1 hm with hm | hm
    · exact I.rq m (by simp [hm])
    · exact .step (I.rq n (by simp)) ((hk m).1 hm)
  · rw [List.length_append, h3]; omega

theorem FromInv.fin {l : List Ty} {ptr : Bool} {fr out : List Int} (I : FromInv l ptr fr out []) (ht : tysOk l = true) (hf : ∀ k ∈ fr, 0 ≤ k ∧ k < (l.length : Int)) : out = reachL l ptr fr :=
  reachL_of (tysOk_kids ht) hf I.up (fun n hn => (I.frm n hn).elim id (by simp)) (fun n hn k hk => (I.cl n hn k hk).elim id (by simp)) I.ro

/-- loop.example/g00837/spec.l3From -/
def m197 : MC :=
  (.seq
   (.reg [⟨(some 6), none, .a (.asg (.nils 3 1))⟩])
   (.seq
    (.reg [⟨(some 7), none, .a (.asg (.nils 3 1))⟩])
    (.seq
     (.reg [⟨(some 10), none, .q (.mov (.t 1))⟩,
       ⟨(some 11), none, .a (.call (.fn 162) false [.lend (.t 10)])⟩,
       ⟨(some 8), none, .a (.asg (.t 11))⟩])
     (.seq
      (.block 0
       (.loop [0, 2, 7, 8, 11, 18, 19, 25, 32, 49]
        (.seq
         (.seq
          (.reg [⟨(some 12), none, .q (.mov (.t 8))⟩,
            ⟨(some 13), none, .q (.len false (.t 12))⟩,
            ⟨(some 14), none, .q (.bin false .gtr (.t 13) (.c (.int .i64 0)))⟩])
          (.cond (.t 14)
           .skip
           (.exit 0)))
         (.block 1
          (.seq
           (.reg [⟨(some 15), none, .q (.mov (.t 8))⟩,
             ⟨(some 16), none, .q (.iad 1 (.t 15) (.c (.int .i64 0)))⟩,
             ⟨(some 17), none, .q (.load false 1 (.t 16))⟩,
             ⟨(some 9), none, .a (.asg (.t 17))⟩])
           (.seq
            (.reg [⟨(some 18), none, .q (.mov (.t 8))⟩,
              ⟨(some 19), none, .q (.slc false 1 (.t 18) (some (.c (.int .i64 1))) none)⟩,
              ⟨(some 8), none, .a (.asg (.t 19))⟩])
            (.seq
             (.seq
              (.reg [⟨(some 20), none, .q (.mov (.t 7))⟩,
                ⟨(some 21), none, .q (.mov (.t 9))⟩,
                ⟨(some 22), none, .a (.call (.fn 196) false [.lend (.t 20), .lend (.t 21)])⟩])
              (.cond (.t 22)
               (.exit 1)
               .skip))
             (.seq
              (.reg [⟨(some 23), none, .q (.mov (.t 7))⟩,
                ⟨(some 24), none, .q (.mov (.t 9))⟩,
                ⟨(some 25), none, .a (.callm (.fn 234) (.t 23) [.lend (.t 24)])⟩,
                ⟨(some 7), none, .a (.asg (.t 25))⟩])
              (.seq
               (.reg [⟨(some 26), none, .q (.mov (.t 8))⟩,
                 ⟨(some 27), none, .q (.mov (.t 0))⟩,
                 ⟨(some 28), none, .q (.mov (.t 9))⟩,
                 ⟨(some 29), none, .q (.iad 6 (.t 27) (.t 28))⟩,
                 ⟨(some 30), none, .q (.load true 6 (.t 29))⟩,
                 ⟨(some 31), none, .a (.call (.fn 198) false [.lend (.t 30)])⟩,
                 ⟨(some 32), none, .a (.app true 3 1 8 (.t 26) (.t 31))⟩,
                 ⟨(some 8), none, .a (.asg (.t 32))⟩])
               (.seq
                (.reg [⟨(some 33), none, .q (.mov (.t 2))⟩,
                  ⟨(some 34), none, .q (.mov (.t 33))⟩,
                  ⟨(some 35), (some (34, true)), .q (.mov (.t 0))⟩,
                  ⟨(some 36), (some (34, true)), .q (.mov (.t 9))⟩,
                  ⟨(some 37), (some (34, true)), .q (.iad 6 (.t 35) (.t 36))⟩,
                  ⟨(some 38), (some (34, true)), .q (.fad 0 (.t 37))⟩,
                  ⟨(some 39), (some (34, true)), .q (.load false 1 (.t 38))⟩,
                  ⟨(some 40), (some (34, true)), .q (.bin false .eql (.t 39) (.c (.int .i64 6)))⟩,
                  ⟨(some 41), none, .q (.pick (.t 34) (.t 40) (.c (.bool false)))⟩])
                (.cond (.t 41)
                 (.reg [⟨(some 42), none, .q (.mov (.t 8))⟩,
                   ⟨(some 43), none, .q (.mov (.t 0))⟩,
                   ⟨(some 44), none, .q (.mov (.t 9))⟩,
                   ⟨(some 45), none, .q (.iad 6 (.t 43) (.t 44))⟩,
                   ⟨(some 46), none, .q (.fad 2 (.t 45))⟩,
                   ⟨(some 47), none, .q (.load false 1 (.t 46))⟩,
                   ⟨(some 48), none, .a (.bsl 3 1 [.t 47])⟩,
                   ⟨(some 49), none, .a (.app true 3 1 8 (.t 42) (.t 48))⟩,
                   ⟨(some 8), none, .a (.asg (.t 49))⟩])
                 .skip)))))))))))
      (.seq
       (.reg [⟨(some 50), none, .q (.mov (.t 7))⟩,
         ⟨(some 6), none, .a (.asg (.t 50))⟩])
       .ret)))))

set_option maxRecDepth 100000 in
theorem d197 (l : List Ty) (fr : List Int) (ptr : Bool) (hl : (l.length : Int) ≤ 1048576) (hs : ∀ s ∈ l, s.sm) (ht : tysOk l = true) (hf : ∀ k ∈ fr, 0 ≤ k ∧ k < (l.length : Int)) (hfl : (fr.length : Int) ≤ 1048576) :
    Does Go.Proofs.Tryz.prog 197 [.fsl 6 (l.map Ty.z), .fsl 1 (fr.map iv), .v (.bool ptr)] false (.usl 3 1 ((reachL l ptr fr).map iv)) [.dead, .dead, .dead] := by
  refine does_intro (mc := m197) (N := 51) (rs := [6]) (fx := []) 3 rfl (by decide +kernel) ?_
  simp only [m197, EV, Nat.reduceEqDiff, Nat.reduceBEq, Nat.reduceLT, Nat.reduceLeDiff, Nat.reduceAdd, Nat.reduceSub, reduceIte]
  refine callK_i (d162 fr hfl) ?_
  simp only [EV, Nat.reduceEqDiff, Nat.reduceBEq, Nat.reduceLT, Nat.reduceLeDiff, Nat.reduceAdd, Nat.reduceSub, reduceIte]
  refine awp_loop (fun p : List Int × List Int => FromInv l ptr fr p.1 p.2) (fun p => stl [(0, .fsl 6 (l.map Ty.z)), (2, .v (.bool ptr)), (7, .usl 3 1 (p.1.map iv)), (8, .usl 3 1 (p.2.map iv)), (11, .dead), (18, .dead), (19, .dead), (25, .dead), (32, .dead), (49, .dead)]) (fun p => 9 * (24 - p.1.length) + p.2.length) ([], fr) (FromInv.start hfl) ?_ ?_
  · simp only [EV, Nat.reduceEqDiff, Nat.reduceBEq, Nat.reduceLT, Nat.reduceLeDiff, Nat.reduceAdd, Nat.reduceSub, reduceIte]
  · rintro ⟨out, q⟩ I
    obtain ⟨ho, h24⟩ := I.small ht hf
    have hql := I.len
    simp only at I ho h24 hql
    simp only [EV, Nat.reduceEqDiff, Nat.reduceBEq, Nat.reduceLT, Nat.reduceLeDiff, Nat.reduceAdd, Nat.reduceSub, reduceIte]
    refine cK_cut (fun h => ?_) (fun h => ?_)
    · have hq0 : 0 < q.length := by have : 0 < (q.length : Int) := by simpa using h
                                    omega
      obtain ⟨n, q', rfl⟩ := List.exists_cons_of_length_pos hq0
      have hni := (I.rq n (by simp)).inr (tysOk_kids ht) hf
      have hn : n.toNat < l.length := by omega
      have nth0 : ∀ (a : List AV) (r : List (List AV)), nth (a :: r) 0 = a := fun _ _ => rfl
      have z0 : (0 : Int) = ((0 : Nat) : Int) := rfl
      clear h
      simp only [List.length_cons] at hql
      have e1 : (1 : Int).toNat = 1 := rfl
      have dl : ∀ r : List Int, List.take (r.length + 1 - 1) (List.map iv r) = List.map iv r := fun r => by rw [Nat.add_sub_cancel]; exact List.take_of_length_le (by simp)
      have hcl : Ty.z l[n.toNat] = [.v (.int .i64 l[n.toNat].kind), .v (.int .i64 l[n.toNat].long), .v (.int .i64 l[n.toNat].base), .fsl 3 (l[n.toNat].fields.map Fd.z), .v (.string l[n.toNat].owner), .v (.string l[n.toNat].name)] := rfl
      have dp := d198 l[n.toNat] (hs _ (List.getElem_mem hn))
      rw [hcl] at dp
      simp only [nth0, iv, hq0, EV, Nat.reduceEqDiff, Nat.reduceBEq, Nat.reduceLT, Nat.reduceLeDiff, Nat.reduceAdd, Nat.reduceSub, reduceIte]
      refine ⟨by omega, by omega, by omega, by omega, by omega, ?_⟩
      rw [iv_frz]
      refine callK_i (d196 out n (by omega)) ?_
      simp only [e1, dl, EV, Nat.reduceEqDiff, Nat.reduceBEq, Nat.reduceLT, Nat.reduceLeDiff, Nat.reduceAdd, Nat.reduceSub, reduceIte]
      rcases hc : out.contains n with _ | _
      · have hno : n ∉ out := fun hm => by rw [← List.contains_iff_mem] at hm; rw [hm] at hc; cases hc
        simp only [e1, dl, EV, Nat.reduceEqDiff, Nat.reduceBEq, Nat.reduceLT, Nat.reduceLeDiff, Nat.reduceAdd, Nat.reduceSub, reduceIte]
        refine callK_i (d234 out n (by omega)) ?_
        simp only [e1, dl, hni.1, hni.2, nth_map hn, Ty.z, EV, Nat.reduceEqDiff, Nat.reduceBEq, Nat.reduceLT, Nat.reduceLeDiff, Nat.reduceAdd, Nat.reduceSub, reduceIte]
        refine callK_i dp ?_
        have hpl := prt_len ht false hn
        have hal := addQ_len ht ptr hn
        have I2 := I.put ht hno hn
        have hm2 : 9 * (24 - (putUp out n).length) + (q' ++ addQ ptr l[n.toNat]).length < 9 * (24 - out.length) + (n :: q').length := by
          have h3 := (putUp_spec (n := n) I.up).2.2 hno
          have h4 := (I2.small ht hf).1
          rw [h3, List.length_append, List.length_cons]
          omega
        rcases ptr with _ | _
        · have e : addQ false l[n.toNat] = prt false l[n.toNat] := rfl
          simp only [e1, dl, hni.1, hni.2, nth_map hn, Ty.z, EV, Nat.reduceEqDiff, Nat.reduceBEq, Nat.reduceLT, Nat.reduceLeDiff, Nat.reduceAdd, Nat.reduceSub, reduceIte]
          refine ⟨by omega, by omega, (putUp out n, q' ++ addQ false l[n.toNat]), I2, hm2, ?_⟩
          rw [e, List.map_append]
        · simp only [e1, dl, hni.1, hni.2, nth_map hn, Ty.z, EV, Nat.reduceEqDiff, Nat.reduceBEq, Nat.reduceLT, Nat.reduceLeDiff, Nat.reduceAdd, Nat.reduceSub, reduceIte]
          refine ⟨by omega, by omega, ?_⟩
          rcases e6 : (l[n.toNat].kind == 6) with _ | _
          · have e : addQ true l[n.toNat] = prt false l[n.toNat] := by unfold addQ; rw [e6]; rfl
            simp only [EV, Nat.reduceEqDiff, Nat.reduceBEq, Nat.reduceLT, Nat.reduceLeDiff, Nat.reduceAdd, Nat.reduceSub, reduceIte]
            refine ⟨(putUp out n, q' ++ addQ true l[n.toNat]), I2, hm2, ?_⟩
            rw [e, List.map_append]
          · have e : addQ true l[n.toNat] = prt false l[n.toNat] ++ [l[n.toNat].base] := by unfold addQ; rw [e6]; rfl
            simp only [e1, dl, hni.1, hni.2, nth_map hn, Ty.z, EV, Nat.reduceEqDiff, Nat.reduceBEq, Nat.reduceLT, Nat.reduceLeDiff, Nat.reduceAdd, Nat.reduceSub, reduceIte]
            refine ⟨by simp; omega, by simp; omega, (putUp out n, q' ++ addQ true l[n.toNat]), I2, hm2, ?_⟩
            have e' : List.map iv (q' ++ addQ true l[n.toNat]) = List.map iv q' ++ List.map iv (prt false l[n.toNat]) ++ [[AV.v (.int .i64 l[n.toNat].base)]] := by
              rw [e, ← List.append_assoc, List.map_append, List.map_append]; rfl
            simp only [e']
      · have hm : n ∈ out := List.contains_iff_mem.1 hc
        simp only [e1, dl, EV, Nat.reduceEqDiff, Nat.reduceBEq, Nat.reduceLT, Nat.reduceLeDiff, Nat.reduceAdd, Nat.reduceSub, reduceIte]
        refine ⟨(out, q'), I.skip hm, by simp only [List.length_cons]; omega, ?_⟩
        rfl
    · have hq : q = [] := by have : ¬ 0 < (q.length : Int) := by simpa using h
                             exact List.eq_nil_of_length_eq_zero (by omega)
      subst hq
      have e := I.fin ht hf
      subst e
      simp only [EV, Nat.reduceEqDiff, Nat.reduceBEq, Nat.reduceLT, Nat.reduceLeDiff, Nat.reduceAdd, Nat.reduceSub, reduceIte]
      simp only [iv_nfz, EV, Nat.reduceEqDiff, Nat.reduceBEq, Nat.reduceLT, Nat.reduceLeDiff, Nat.reduceAdd, Nat.reduceSub, reduceIte, evRE, retVC, cellV', evR, nfz, nfzs, nfzss, List.contains_nil, List.contains_cons, Bool.or_false, or_true]

end Go.AM
namespace Go.AM
set_option linter.unusedVariables false
set_option linter.unusedSimpArgs false
def addAll (out ks : List Int) : List Int := ks.foldl (fun o k => if o.contains k = true then o else o ++ [k]) out

theorem addAll_take {out ks : List Int} {j : Nat} (h : j < ks.length) : addAll out (ks.take (j + 1)) = if (addAll out (ks.take j)).contains ks[j] = true then addAll out (ks.take j) else addAll out (ks.take j) ++ [ks[j]] := by
  unfold addAll
  rw [List.take_succ_eq_append_getElem h, List.foldl_append]; rfl

theorem addAll_spec : ∀ (ks out : List Int), out.Nodup → (addAll out ks).Nodup ∧ (∀ x, x ∈ addAll out ks ↔ x ∈ out ∨ x ∈ ks) ∧ out <+: addAll out ks ∧ (addAll out ks).length ≤ out.length + ks.length
  | [], out, h => ⟨h, by simp [addAll], by simp [addAll], by simp [addAll]⟩
  | k :: ks, out, h => by
    have e : addAll out (k :: ks) = addAll (if out.contains k = true then out else out ++ [k]) ks := rfl
    rw [e]
    rcases hc : out.contains k with _ | _
    · have hno : k ∉ out := fun hm => by rw [← List.contains_iff_mem] at hm; rw [hm] at hc; cases hc
      simp only [Bool.false_eq_true, if_false]
      obtain ⟨a1, a2, a3, a4⟩ := addAll_spec ks (out ++ [k]) (List.nodup_append.2 ⟨h, by simp, fun a ha b hb e => hno (by rw [List.mem_singleton] at hb; rw [← hb, ← e]; exact ha)⟩)
      refine ⟨a1, fun x => ?_, (List.prefix_append _ _).trans a3, by simp at a4 ⊢; omega⟩
      rw [a2]
      simp only [List.mem_append, List.mem_singleton, List.mem_cons, List.not_mem_nil, or_false]
      exact or_assoc
    · have hm : k ∈ out := List.contains_iff_mem.1 hc
      simp only [if_true]
      obtain ⟨a1, a2, a3, a4⟩ := addAll_spec ks out h
      refine ⟨a1, fun x => ?_, a3, by simp; omega⟩
      rw [a2]
      simp only [List.mem_cons]
      constructor
      · rintro (h | h)
        · exact .inl h
        · exact .inr (.inr h)
      · rintro (h | h | h)
        · exact .inl h
        · exact .inl (h ▸ hm)
        · exact .inr h

/-- What holds while the types are gone through in the order in which they were found. -/
structure GoInv (l : List Ty) (ptr : Bool) (fr out : List Int) (i : Nat) : Prop where
  nd : out.Nodup
  frm : ∀ n ∈ fr, n ∈ out
  le : i ≤ out.length
  cl : ∀ j (h : j < out.length), j < i → ∀ k ∈ kids l ptr out[j], k ∈ out
  ro : ∀ n ∈ out, Rch l ptr fr n

theorem GoInv.small {l : List Ty} {ptr : Bool} {fr out : List Int} {i : Nat} (I : GoInv l ptr fr out i) (ht : tysOk l = true) (hf : ∀ k ∈ fr, 0 ≤ k ∧ k < (l.length : Int)) : out.length ≤ l.length ∧ l.length ≤ 24 :=
  ⟨nodup_le I.nd fun k hk => (I.ro k hk).inr (tysOk_kids ht) hf, (tysOk_len ht).2⟩

theorem GoInv.step {l : List Ty} {ptr : Bool} {fr out : List Int} {i : Nat} (I : GoInv l ptr fr out i) (h : i < out.length) : GoInv l ptr fr (addAll out (kids l ptr out[i])) (i + 1) := by
  obtain ⟨a1, a2, a3, a4⟩ := addAll_spec (kids l ptr out[i]) out I.nd
  have hle := a3.length_le
  refine ⟨a1, fun n hn => (a2 n).2 (.inl (I.frm n hn)), by omega, ?_, ?_⟩
  · intro j hj hji k hk
    have hjo : j < out.length := by omega
    have e : (addAll out (kids l ptr out[i]))[j] = out[j] := (a3.getElem hjo).symm
    rw [e] at hk
    rw [a2]
    by_cases hjj : j = i
    · subst hjj; exact .inr hk
    · exact .inl (I.cl j hjo (by omega) k hk)
  · intro n hn
    rcases (a2 n).1 hn with h1 | h1
    · exact I.ro n h1
    · exact .step (I.ro _ (List.getElem_mem h)) h1

theorem GoInv.fin {l : List Ty} {ptr : Bool} {fr out : List Int} (I : GoInv l ptr fr out out.length) (ht : tysOk l = true) (hf : ∀ k ∈ fr, 0 ≤ k ∧ k < (l.length : Int)) : srt out = reachL l ptr fr := by
  refine reachL_of (tysOk_kids ht) hf ?_ (fun n hn => srt_mem.2 (I.frm n hn)) ?_ (fun n hn => I.ro n (srt_mem.1 hn))
  · have h1 := srt_le out
    have h2 : (srt out).Nodup := ((List.mergeSort_perm out _).nodup_iff).2 I.nd
    exact (h1.and h2).imp fun h => by omega
  · intro n hn k hk
    obtain ⟨j, hj, rfl⟩ := List.mem_iff_getElem.1 (srt_mem.1 hn)
    exact srt_mem.2 (I.cl j hj hj k hk)

/-- loop.example/g00837/impl.reached -/
def m192 : MC :=
  (.seq
   (.reg [⟨(some 6), none, .a (.asg (.nils 3 1))⟩])
   (.seq
    (.reg [⟨(some 11), none, .q (.mov (.t 1))⟩,
      ⟨(some 12), none, .a (.call (.fn 232) false [.lend (.t 11)])⟩,
      ⟨(some 7), none, .a (.asg (.t 12))⟩])
    (.seq
     (.seq
      (.reg [⟨(some 8), none, .a (.asg (.c (.int .i64 0)))⟩])
      (.block 0
       (.loop [0, 2, 7, 8, 12, 40]
        (.seq
         (.seq
          (.reg [⟨(some 13), none, .q (.mov (.t 8))⟩,
            ⟨(some 14), none, .q (.mov (.t 7))⟩,
            ⟨(some 15), none, .q (.len false (.t 14))⟩,
            ⟨(some 16), none, .q (.bin false .lss (.t 13) (.t 15))⟩])
          (.cond (.t 16)
           .skip
           (.exit 0)))
         (.seq
          (.block 1
           (.seq
            (.reg [⟨(some 19), none, .q (.mov (.t 0))⟩,
              ⟨(some 20), none, .q (.mov (.t 7))⟩,
              ⟨(some 21), none, .q (.mov (.t 8))⟩,
              ⟨(some 22), none, .q (.iad 1 (.t 20) (.t 21))⟩,
              ⟨(some 23), none, .q (.load false 1 (.t 22))⟩,
              ⟨(some 24), none, .q (.iad 6 (.t 19) (.t 23))⟩,
              ⟨(some 25), none, .q (.load true 6 (.t 24))⟩,
              ⟨(some 26), none, .q (.mov (.t 2))⟩,
              ⟨(some 27), none, .a (.call (.fn 131) false [.lend (.t 25), .lend (.t 26)])⟩,
              ⟨(some 28), none, .q (.len false (.t 27))⟩,
              ⟨(some 29), none, .q (.mov (.c (.int .i64 0)))⟩])
            (.block 2
             (.loop [0, 2, 7, 8, 12, 27, 28, 29, 40]
              (.seq
               (.reg [⟨(some 30), none, .q (.bin false .lss (.t 29) (.t 28))⟩])
               (.seq
                (.cond (.t 30)
                 .skip
                 (.exit 2))
                (.join [0, 2, 7, 8, 12, 27, 28, 29, 40]
                 (.block 3
                  (.seq
                   (.reg [⟨(some 31), none, .q (.iad 1 (.t 27) (.t 29))⟩,
                     ⟨(some 32), none, .q (.load false 1 (.t 31))⟩,
                     ⟨(some 10), none, .a (.asg (.t 32))⟩])
                   (.seq
                    (.reg [⟨(some 33), none, .q (.mov (.t 7))⟩,
                      ⟨(some 34), none, .q (.mov (.t 10))⟩,
                      ⟨(some 35), none, .a (.call (.fn 191) false [.lend (.t 33), .lend (.t 34)])⟩,
                      ⟨(some 36), none, .q (.un .not (.t 35))⟩])
                    (.cond (.t 36)
                     (.reg [⟨(some 37), none, .q (.mov (.t 7))⟩,
                       ⟨(some 38), none, .q (.mov (.t 10))⟩,
                       ⟨(some 39), none, .a (.bsl 3 1 [.t 38])⟩,
                       ⟨(some 40), none, .a (.app true 3 1 8 (.t 37) (.t 39))⟩,
                       ⟨(some 7), none, .a (.asg (.t 40))⟩])
                     .skip))))
                 (.reg [⟨(some 41), none, .q (.bin false .add (.t 29) (.c (.int .i64 1)))⟩,
                   ⟨(some 29), none, .q (.mov (.t 41))⟩]))))))))
          (.reg [⟨(some 17), none, .q (.mov (.t 8))⟩,
            ⟨(some 18), none, .q (.bin false .add (.t 17) (.c (.int .i64 1)))⟩,
            ⟨(some 8), none, .a (.asg (.t 18))⟩]))))))
     (.seq
      (.reg [⟨(some 42), none, .q (.mov (.t 7))⟩,
        ⟨(some 43), none, .a (.call (.fn 190) false [.io (.t 42)])⟩])
      (.seq
       (.reg [⟨(some 44), none, .q (.mov (.t 7))⟩,
         ⟨(some 6), none, .a (.asg (.t 44))⟩])
       .ret)))))

set_option maxRecDepth 100000 in
theorem d192 (l : List Ty) (fr : List Int) (ptr : Bool) (hl : (l.length : Int) ≤ 1048576) (hs : ∀ s ∈ l, s.sm) (ht : tysOk l = true) (hf : ∀ k ∈ fr, 0 ≤ k ∧ k < (l.length : Int)) (hfn : fr.Nodup) :
    Does Go.Proofs.Tryz.prog 192 [.fsl 6 (l.map Ty.z), .fsl 1 (fr.map iv), .v (.bool ptr)] false (.usl 3 1 ((reachL l ptr fr).map iv)) [.dead, .dead, .dead] := by
  have hfl : (fr.length : Int) ≤ 1048576 := by have := nodup_le hfn hf; omega
  refine does_intro (mc := m192) (N := 45) (rs := [6]) (fx := []) 3 rfl (by decide +kernel) ?_
  simp only [m192, EV, Nat.reduceEqDiff, Nat.reduceBEq, Nat.reduceLT, Nat.reduceLeDiff, Nat.reduceAdd, Nat.reduceSub, reduceIte]
  refine callK_i (d232 fr hfl) ?_
  simp only [EV, Nat.reduceEqDiff, Nat.reduceBEq, Nat.reduceLT, Nat.reduceLeDiff, Nat.reduceAdd, Nat.reduceSub, reduceIte]
  refine awp_loop (fun p : List Int × Nat => GoInv l ptr fr p.1 p.2) (fun p => stl [(0, .fsl 6 (l.map Ty.z)), (2, .v (.bool ptr)), (7, .usl 3 1 (p.1.map iv)), (8, .v (.int .i64 (p.2 : Int))), (12, .dead), (40, .dead)]) (fun p => 24 - p.2) (fr, 0) ⟨hfn, fun n hn => hn, Nat.zero_le _, fun j _ h => absurd h (by omega), fun n hn => .base hn⟩ ?_ ?_
  · simp only [EV, Nat.reduceEqDiff, Nat.reduceBEq, Nat.reduceLT, Nat.reduceLeDiff, Nat.reduceAdd, Nat.reduceSub, reduceIte]
    rfl
  · rintro ⟨out, i⟩ I
    obtain ⟨ho, h24⟩ := I.small ht hf
    have hi := I.le
    simp only at I ho h24 hi
    simp only [EV, Nat.reduceEqDiff, Nat.reduceBEq, Nat.reduceLT, Nat.reduceLeDiff, Nat.reduceAdd, Nat.reduceSub, reduceIte]
    refine cK_cut (fun h => ?_) (fun h => ?_)
    · have h1 : i < out.length := by simpa using h
      have h2 : (i : Int) < (out.length : Int) := by omega
      have hni := (I.ro _ (List.getElem_mem h1)).inr (tysOk_kids ht) hf
      have hn : out[i].toNat < l.length := by omega
      clear h
      have hcl : Ty.z l[out[i].toNat] = [.v (.int .i64 l[out[i].toNat].kind), .v (.int .i64 l[out[i].toNat].long), .v (.int .i64 l[out[i].toNat].base), .fsl 3 (l[out[i].toNat].fields.map Fd.z), .v (.string l[out[i].toNat].owner), .v (.string l[out[i].toNat].name)] := rfl
      have dp := d131 l[out[i].toNat] ptr (hs _ (List.getElem_mem hn))
      rw [hcl] at dp
      simp only [nth_map h1, h1, h2, iv, hni.1, hni.2, nth_map hn, Ty.z, EV, Nat.reduceEqDiff, Nat.reduceBEq, Nat.reduceLT, Nat.reduceLeDiff, Nat.reduceAdd, Nat.reduceSub, reduceIte]
      refine callK_i dp ?_
      have ek : prt ptr l[out[i].toNat] = kids l ptr out[i] := (kids_at hn).symm
      have hpl : (kids l ptr out[i]).length ≤ 7 := by rw [← ek]; exact prt_len ht ptr hn
      have hst := I.step h1
      have hst2 := (hst.small ht hf).1
      rw [ek]
      generalize kids l ptr out[i] = ks at hpl hst hst2 ⊢
      simp only [EV, Nat.reduceEqDiff, Nat.reduceBEq, Nat.reduceLT, Nat.reduceLeDiff, Nat.reduceAdd, Nat.reduceSub, reduceIte]
      refine awp_loop (fun j : Nat => j ≤ ks.length) (fun j => stl [(0, .fsl 6 (l.map Ty.z)), (2, .v (.bool ptr)), (7, .usl 3 1 ((addAll out (ks.take j)).map iv)), (8, .v (.int .i64 (i : Int))), (12, .dead), (27, .usl 3 1 (ks.map iv)), (28, .v (.int .i64 (ks.length : Int))), (29, .v (.int .i64 (j : Int))), (40, .dead)]) (fun j => ks.length - j) 0 (Nat.zero_le _) ?_ ?_
      · simp only [EV, Nat.reduceEqDiff, Nat.reduceBEq, Nat.reduceLT, Nat.reduceLeDiff, Nat.reduceAdd, Nat.reduceSub, reduceIte]
        rfl
      · intro j hj
        simp only [EV, Nat.reduceEqDiff, Nat.reduceBEq, Nat.reduceLT, Nat.reduceLeDiff, Nat.reduceAdd, Nat.reduceSub, reduceIte]
        refine cK_cut (fun h => ?_) (fun h => ?_)
        · have j1 : j < ks.length := by simpa using h
          have j2 : (j : Int) < (ks.length : Int) := by omega
          clear h
          have ha := (addAll_spec (ks.take j) out I.nd).2.2.2
          have hat := addAll_take (out := out) j1
          simp only [List.length_take] at ha
          generalize addAll out (ks.take j) = o1 at ha hat ⊢
          refine awp_join (fun _ : Unit => True) (fun _ => stl [(0, .fsl 6 (l.map Ty.z)), (2, .v (.bool ptr)), (7, .usl 3 1 ((addAll out (ks.take (j + 1))).map iv)), (8, .v (.int .i64 (i : Int))), (12, .dead), (27, .usl 3 1 (ks.map iv)), (28, .v (.int .i64 (ks.length : Int))), (29, .v (.int .i64 (j : Int))), (40, .dead)]) ?_ ?_
          · simp only [nth_map j1, j1, j2, iv, EV, Nat.reduceEqDiff, Nat.reduceBEq, Nat.reduceLT, Nat.reduceLeDiff, Nat.reduceAdd, Nat.reduceSub, reduceIte]
            rw [iv_frz]
            refine callK_i (d191 o1 ks[j] (by omega)) ?_
            simp only [EV, Nat.reduceEqDiff, Nat.reduceBEq, Nat.reduceLT, Nat.reduceLeDiff, Nat.reduceAdd, Nat.reduceSub, reduceIte]
            rcases hc : o1.contains ks[j] with _ | _
            · have e : addAll out (ks.take (j + 1)) = o1 ++ [ks[j]] := by rw [hat, hc]; rfl
              simp only [Bool.not_false, EV, Nat.reduceEqDiff, Nat.reduceBEq, Nat.reduceLT, Nat.reduceLeDiff, Nat.reduceAdd, Nat.reduceSub, reduceIte]
              refine ⟨by omega, by omega, (), ?_⟩
              rw [e, List.map_append]
              rfl
            · have e : addAll out (ks.take (j + 1)) = o1 := by rw [hat, hc]; rfl
              simp only [Bool.not_true, EV, Nat.reduceEqDiff, Nat.reduceBEq, Nat.reduceLT, Nat.reduceLeDiff, Nat.reduceAdd, Nat.reduceSub, reduceIte]
              rw [e]
              exact ⟨(), rfl⟩
          · rintro _ _
            simp only [EV, Nat.reduceEqDiff, Nat.reduceBEq, Nat.reduceLT, Nat.reduceLeDiff, Nat.reduceAdd, Nat.reduceSub, reduceIte]
            rw [w64 _ (by omega)]
            exact ⟨j + 1, j1, by omega, rfl⟩
        · have j1 : j = ks.length := by have : ¬ (j : Int) < ks.length := by simpa using h
                                        omega
          subst j1
          rw [List.take_length]
          simp only [EV, Nat.reduceEqDiff, Nat.reduceBEq, Nat.reduceLT, Nat.reduceLeDiff, Nat.reduceAdd, Nat.reduceSub, reduceIte]
          rw [w64 _ (by omega)]
          exact ⟨(addAll out ks, i + 1), hst, by simp only; omega, rfl⟩
    · have h1 : i = out.length := by have : ¬ (i : Int) < out.length := by simpa using h
                                     omega
      subst h1
      have e := I.fin ht hf
      simp only [EV, Nat.reduceEqDiff, Nat.reduceBEq, Nat.reduceLT, Nat.reduceLeDiff, Nat.reduceAdd, Nat.reduceSub, reduceIte]
      refine callK2_i (d190 out (by omega)) rfl ?_ ?_
      · simp only [srt_len, EV, Nat.reduceEqDiff, Nat.reduceBEq, Nat.reduceLT, Nat.reduceLeDiff, Nat.reduceAdd, Nat.reduceSub, reduceIte]
      · rw [e]
        simp only [EV, Nat.reduceEqDiff, Nat.reduceBEq, Nat.reduceLT, Nat.reduceLeDiff, Nat.reduceAdd, Nat.reduceSub, reduceIte]
        simp only [iv_nfz, EV, Nat.reduceEqDiff, Nat.reduceBEq, Nat.reduceLT, Nat.reduceLeDiff, Nat.reduceAdd, Nat.reduceSub, reduceIte, evRE, retVC, cellV', evR, nfz, nfzs, nfzss, List.contains_nil, List.contains_cons, Bool.or_false, or_true]

theorem cmpct_up {l : List Int} (h : l.Pairwise (· ≤ ·)) : (cmpct l).Pairwise (· < ·) ∧ ∀ n, n ∈ cmpct l ↔ n ∈ l := by
  have hget : ∀ j (hj : j < l.length), l.toArray[j]! = l[j] := fun j hj => by simp [hj]
  have hle : ∀ i j (hi : i < l.length) (hj : j < l.length), i ≤ j → l[i] ≤ l[j] := by
    intro i j hi hj hij
    rcases Nat.lt_or_ge i j with hlt | hge
    · exact List.pairwise_iff_getElem.1 h i j hi hj hlt
    · have : i = j := by omega
      subst this; exact Int.le_refl _
  have key : ∀ m, m ≤ l.length → (Lib.compactUpTo l.toArray m).Pairwise (· < ·) ∧ ∀ n, n ∈ Lib.compactUpTo l.toArray m ↔ ∃ j, ∃ hj : j < l.length, j < m ∧ l[j] = n := by
    intro m
    induction m with
    | zero => intro _; simp [Lib.compactUpTo]
    | succ m ih =>
      intro hm
      obtain ⟨i1, i2⟩ := ih (by omega)
      rw [Lib.compactUpTo_succ]
      by_cases hk : Lib.keeps l.toArray m = true
      · rw [if_pos hk]
        have hkk : m = 0 ∨ l[m] ≠ l[m - 1] := by
          simp only [Lib.keeps, decide_eq_true_eq] at hk
          rcases hk with hk | hk
          · exact .inl hk
          · rw [hget m (by omega), hget (m - 1) (by omega)] at hk; exact .inr hk
        refine ⟨?_, fun n => ?_⟩
        · rw [List.pairwise_append]
          refine ⟨i1, by simp, ?_⟩
          intro a ha b hb
          simp only [List.mem_singleton] at hb
          subst hb
          rw [hget m (by omega)]
          obtain ⟨j, hj, hjm, rfl⟩ := (i2 a).1 ha
          have h1 := hle j (m - 1) hj (by omega) (by omega)
          have h2 := hle (m - 1) m (by omega) (by omega) (by omega)
          rcases hkk with h0 | h0
          · omega
          · omega
        · rw [List.mem_append, i2, List.mem_singleton, hget m (by omega)]
          constructor
          · rintro (⟨j, hj, hjm, e⟩ | e)
            · exact ⟨j, hj, by omega, e⟩
            · exact ⟨m, by omega, by omega, e.symm⟩
          · rintro ⟨j, hj, hjm, e⟩
            by_cases hjj : j = m
            · subst hjj; exact .inr e.symm
            · exact .inl ⟨j, hj, by omega, e⟩
      · rw [if_neg hk, List.append_nil]
        have hkk : 0 < m ∧ l[m] = l[m - 1] := by
          simp only [Lib.keeps, decide_eq_true_eq, not_or, ne_eq, Decidable.not_not] at hk
          rw [hget m (by omega), hget (m - 1) (by omega)] at hk
          exact ⟨by omega, hk.2⟩
        refine ⟨i1, fun n => ?_⟩
        rw [i2]
        constructor
        · rintro ⟨j, hj, hjm, e⟩
          exact ⟨j, hj, by omega, e⟩
        · rintro ⟨j, hj, hjm, e⟩
          by_cases hjj : j = m
          · subst hjj; exact ⟨j - 1, by omega, by omega, by rw [← hkk.2]; exact e⟩
          · exact ⟨j, hj, by omega, e⟩
  have := key l.length (Nat.le_refl _)
  have e : cmpct l = Lib.compactUpTo l.toArray l.length := by unfold cmpct Lib.compact; rfl
  rw [e]
  refine ⟨this.1, fun n => ?_⟩
  rw [this.2]
  constructor
  · rintro ⟨j, hj, _, rfl⟩; exact List.getElem_mem hj
  · intro hn
    obtain ⟨j, hj, rfl⟩ := List.mem_iff_getElem.1 hn
    exact ⟨j, hj, hj, rfl⟩

/-- loop.example/g00837/impl.isRound -/
def m126 : MC :=
  (.seq
   (.reg [⟨(some 4), none, .a (.asg (.c (.bool false)))⟩])
   (.seq
    (.reg [⟨(some 6), none, .q (.mov (.t 0))⟩,
      ⟨(some 7), none, .q (.mov (.t 1))⟩,
      ⟨(some 8), none, .q (.iad 6 (.t 6) (.t 7))⟩,
      ⟨(some 9), none, .q (.load true 6 (.t 8))⟩,
      ⟨(some 10), none, .a (.call (.fn 131) false [.lend (.t 9), .lend (.c (.bool false))])⟩,
      ⟨(some 5), none, .a (.asg (.t 10))⟩])
    (.seq
     (.reg [⟨(some 11), none, .q (.mov (.t 5))⟩,
       ⟨(some 12), none, .a (.call (.fn 190) false [.io (.t 11)])⟩])
     (.seq
      (.reg [⟨(some 13), none, .q (.mov (.t 0))⟩,
        ⟨(some 14), none, .q (.mov (.t 5))⟩,
        ⟨(some 15), none, .a (.callm (.fn 193) (.t 14) [])⟩,
        ⟨(some 16), none, .a (.call (.fn 192) false [.lend (.t 13), .lend (.t 15), .lend (.c (.bool false))])⟩,
        ⟨(some 17), none, .q (.mov (.t 1))⟩,
        ⟨(some 18), none, .a (.call (.fn 191) false [.lend (.t 16), .lend (.t 17)])⟩,
        ⟨(some 4), none, .a (.asg (.t 18))⟩])
      .ret))))

set_option maxRecDepth 100000 in
theorem d126 (l : List Ty) (n : Int) (hl : (l.length : Int) ≤ 1048576) (hs : ∀ s ∈ l, s.sm) (ht : tysOk l = true) (h0 : 0 ≤ n) (h1 : n < l.length) :
    Does Go.Proofs.Tryz.prog 126 [.fsl 6 (l.map Ty.z), .v (.int .i64 n)] false (.v (.bool (roundAt l n))) [.dead, .dead] := by
  have hn : n.toNat < l.length := by omega
  have hcl : Ty.z l[n.toNat] = [.v (.int .i64 l[n.toNat].kind), .v (.int .i64 l[n.toNat].long), .v (.int .i64 l[n.toNat].base), .fsl 3 (l[n.toNat].fields.map Fd.z), .v (.string l[n.toNat].owner), .v (.string l[n.toNat].name)] := rfl
  have dp := d131 l[n.toNat] false (hs _ (List.getElem_mem hn))
  rw [hcl] at dp
  have ek : prt false l[n.toNat] = kids l false n := (kids_at hn).symm
  have hpl : (kids l false n).length ≤ 7 := by rw [← ek]; exact prt_len ht false hn
  have hki : ∀ k ∈ kids l false n, 0 ≤ k ∧ k < (l.length : Int) := fun k hk => kids_ok ht h0 h1 hk
  have hsl := srt_len (kids l false n)
  obtain ⟨c1, c2⟩ := cmpct_up (srt_le (kids l false n))
  have hcm : ∀ k, k ∈ cmpct (srt (kids l false n)) ↔ k ∈ kids l false n := fun k => (c2 k).trans srt_mem
  have hrl := reachL_congr (l := l) (ptr := false) hcm
  refine does_intro (mc := m126) (N := 19) (rs := [4]) (fx := []) 2 rfl (by decide +kernel) ?_
  simp only [m126, h0, h1, nth_map hn, Ty.z, EV, Nat.reduceEqDiff, Nat.reduceBEq, Nat.reduceLT, Nat.reduceLeDiff, Nat.reduceAdd, Nat.reduceSub, reduceIte]
  refine callK_i dp ?_
  rw [ek]
  simp only [EV, Nat.reduceEqDiff, Nat.reduceBEq, Nat.reduceLT, Nat.reduceLeDiff, Nat.reduceAdd, Nat.reduceSub, reduceIte]
  refine callK2_i (d190 (kids l false n) (by omega)) rfl ?_ ?_
  · simp only [srt_len, EV, Nat.reduceEqDiff, Nat.reduceBEq, Nat.reduceLT, Nat.reduceLeDiff, Nat.reduceAdd, Nat.reduceSub, reduceIte]
  simp only [EV, Nat.reduceEqDiff, Nat.reduceBEq, Nat.reduceLT, Nat.reduceLeDiff, Nat.reduceAdd, Nat.reduceSub, reduceIte]
  refine callK_i (d193 (srt (kids l false n)) (by omega)) ?_
  simp only [EV, Nat.reduceEqDiff, Nat.reduceBEq, Nat.reduceLT, Nat.reduceLeDiff, Nat.reduceAdd, Nat.reduceSub, reduceIte]
  rw [iv_frz]
  refine callK_i (d192 l (cmpct (srt (kids l false n))) false hl hs ht (fun k hk => hki k ((hcm k).1 hk)) (up_nodup c1)) ?_
  rw [hrl]
  have hrn := nodup_le (up_nodup (reachL_up l false (kids l false n))) (fun k hk => (mem_reachL.1 hk).1)
  simp only [EV, Nat.reduceEqDiff, Nat.reduceBEq, Nat.reduceLT, Nat.reduceLeDiff, Nat.reduceAdd, Nat.reduceSub, reduceIte]
  rw [iv_frz]
  refine callK_i (d191 (reachL l false (kids l false n)) n (by omega)) ?_
  simp only [EV, Nat.reduceEqDiff, Nat.reduceBEq, Nat.reduceLT, Nat.reduceLeDiff, Nat.reduceAdd, Nat.reduceSub, reduceIte]
  simp only [roundAt, EV, Nat.reduceEqDiff, Nat.reduceBEq, Nat.reduceLT, Nat.reduceLeDiff, Nat.reduceAdd, Nat.reduceSub, reduceIte, evRE, retVC, cellV', evR, nfz, nfzs, nfzss, List.contains_nil, List.contains_cons, Bool.or_false, or_true]

/-- loop.example/g00837/spec.l3Round -/
def m128 : MC :=
  (.seq
   (.reg [⟨(some 4), none, .a (.asg (.c (.bool false)))⟩])
   (.seq
    (.reg [⟨(some 5), none, .q (.mov (.t 0))⟩,
      ⟨(some 6), none, .q (.mov (.t 0))⟩,
      ⟨(some 7), none, .q (.mov (.t 1))⟩,
      ⟨(some 8), none, .q (.iad 6 (.t 6) (.t 7))⟩,
      ⟨(some 9), none, .q (.load true 6 (.t 8))⟩,
      ⟨(some 10), none, .a (.call (.fn 198) false [.lend (.t 9)])⟩,
      ⟨(some 11), none, .a (.call (.fn 197) false [.lend (.t 5), .lend (.t 10), .lend (.c (.bool false))])⟩,
      ⟨(some 12), none, .q (.mov (.t 1))⟩,
      ⟨(some 13), none, .a (.call (.fn 196) false [.lend (.t 11), .lend (.t 12)])⟩,
      ⟨(some 4), none, .a (.asg (.t 13))⟩])
    .ret))

set_option maxRecDepth 100000 in
theorem d128 (l : List Ty) (n : Int) (hl : (l.length : Int) ≤ 1048576) (hs : ∀ s ∈ l, s.sm) (ht : tysOk l = true) (h0 : 0 ≤ n) (h1 : n < l.length) :
    Does Go.Proofs.Tryz.prog 128 [.fsl 6 (l.map Ty.z), .v (.int .i64 n)] false (.v (.bool (roundAt l n))) [.dead, .dead] := by
  have hn : n.toNat < l.length := by omega
  have hcl : Ty.z l[n.toNat] = [.v (.int .i64 l[n.toNat].kind), .v (.int .i64 l[n.toNat].long), .v (.int .i64 l[n.toNat].base), .fsl 3 (l[n.toNat].fields.map Fd.z), .v (.string l[n.toNat].owner), .v (.string l[n.toNat].name)] := rfl
  have dp := d198 l[n.toNat] (hs _ (List.getElem_mem hn))
  rw [hcl] at dp
  have ek : prt false l[n.toNat] = kids l false n := (kids_at hn).symm
  have hpl : (kids l false n).length ≤ 7 := by rw [← ek]; exact prt_len ht false hn
  have hki : ∀ k ∈ kids l false n, 0 ≤ k ∧ k < (l.length : Int) := fun k hk => kids_ok ht h0 h1 hk
  refine does_intro (mc := m128) (N := 14) (rs := [4]) (fx := []) 2 rfl (by decide +kernel) ?_
  simp only [m128, h0, h1, nth_map hn, Ty.z, EV, Nat.reduceEqDiff, Nat.reduceBEq, Nat.reduceLT, Nat.reduceLeDiff, Nat.reduceAdd, Nat.reduceSub, reduceIte]
  refine callK_i dp ?_
  rw [ek]
  simp only [EV, Nat.reduceEqDiff, Nat.reduceBEq, Nat.reduceLT, Nat.reduceLeDiff, Nat.reduceAdd, Nat.reduceSub, reduceIte]
  rw [iv_frz]
  refine callK_i (d197 l (kids l false n) false hl hs ht hki (by omega)) ?_
  have hrn := nodup_le (up_nodup (reachL_up l false (kids l false n))) (fun k hk => (mem_reachL.1 hk).1)
  simp only [EV, Nat.reduceEqDiff, Nat.reduceBEq, Nat.reduceLT, Nat.reduceLeDiff, Nat.reduceAdd, Nat.reduceSub, reduceIte]
  rw [iv_frz]
  refine callK_i (d196 (reachL l false (kids l false n)) n (by omega)) ?_
  simp only [EV, Nat.reduceEqDiff, Nat.reduceBEq, Nat.reduceLT, Nat.reduceLeDiff, Nat.reduceAdd, Nat.reduceSub, reduceIte]
  simp only [roundAt, EV, Nat.reduceEqDiff, Nat.reduceBEq, Nat.reduceLT, Nat.reduceLeDiff, Nat.reduceAdd, Nat.reduceSub, reduceIte, evRE, retVC, cellV', evR, nfz, nfzs, nfzss, List.contains_nil, List.contains_cons, Bool.or_false, or_true]

end Go.AM
namespace Go.AM
set_option linter.unusedVariables false
set_option linter.unusedSimpArgs false
namespace Fz
/-- loop.example/g00837/spec.BaseTypes -/
def m182 : MC :=
  (.seq
   (.reg [⟨(some 0), none, .a (.asg (.nils 40 6))⟩])
   (.seq
    (.reg [⟨(some 1), none, .a (.build [0, 2, 5] [0, 2, 5] [1, 1, 1] [.v (.int .i64 0), .v (.int .i64 0), .v (.int .i64 0), .f 3, .v (.string ({ data := #[] })), .v (.string ({ data := #[] }))] [.c (.int .i64 1), .c (.int .i64 (-1)), .c (.string ({ data := #[73, 78, 84] }))])⟩,
      ⟨(some 2), none, .a (.build [0, 2, 5] [0, 2, 5] [1, 1, 1] [.v (.int .i64 0), .v (.int .i64 0), .v (.int .i64 0), .f 3, .v (.string ({ data := #[] })), .v (.string ({ data := #[] }))] [.c (.int .i64 2), .c (.int .i64 (-1)), .c (.string ({ data := #[66, 79, 79, 76] }))])⟩,
      ⟨(some 3), none, .a (.build [0, 2, 5] [0, 2, 5] [1, 1, 1] [.v (.int .i64 0), .v (.int .i64 0), .v (.int .i64 0), .f 3, .v (.string ({ data := #[] })), .v (.string ({ data := #[] }))] [.c (.int .i64 3), .c (.int .i64 (-1)), .c (.string ({ data := #[67, 72, 65, 82] }))])⟩,
      ⟨(some 4), none, .a (.bsl 40 6 [.t 1, .t 2, .t 3])⟩,
      ⟨(some 0), none, .a (.asg (.t 4))⟩])
    .ret))


theorem d182 : Does Go.Proofs.Tryz.prog 182 [] false (.usl 40 6 (baseTs.map Ty.z)) [] := by
  refine does_intro (mc := m182) (N := 5) (rs := [0]) (fx := []) 0 rfl (by decide +kernel) ?_
  simp only [m182, baseTs, Ty.z, EV, Nat.reduceEqDiff, Nat.reduceBEq, Nat.reduceLT, Nat.reduceLeDiff, Nat.reduceAdd, Nat.reduceSub, reduceIte]
  simp only [EV, Nat.reduceEqDiff, Nat.reduceBEq, Nat.reduceLT, Nat.reduceLeDiff, Nat.reduceAdd, Nat.reduceSub, reduceIte, evRE, retVC, cellV', evR, nfz, nfzs, nfzss, List.contains_nil, List.contains_cons, Bool.or_false, or_true]
  exact Or.inr rfl
end Fz

theorem base_at {i : Nat} (h : i < baseTs.length) : baseTs[i].long = 0 ∧ baseTs[i].base = -1 ∧ baseTs[i].fields = [] ∧ baseTs[i].owner = ⟨#[]⟩ := by
  have : i = 0 ∨ i = 1 ∨ i = 2 := by rw [base_len] at h; omega
  rcases this with rfl | rfl | rfl <;> exact ⟨rfl, rfl, rfl, rfl⟩

theorem eqL_nil {α : Type} {q : α → α → Bool} (a : List α) : eqL q a [] = !decide (0 < (a.length : Int)) := by
  cases a with
  | nil => simp [eqL, eqTo]
  | cons x a => simp [eqL]

theorem sameTy_at (t : Ty) {i : Nat} (h : i < baseTs.length) : sameTy t baseTs[i] = ((t.kind == baseTs[i].kind) && ((t.long == 0) && ((t.base == -1) && (!decide (0 < (t.fields.length : Int)) && ((t.owner.toList == (⟨#[]⟩ : ByteArray).toList) && (t.name.toList == baseTs[i].name.toList)))))) := by
  obtain ⟨h1, h2, h3, h4⟩ := base_at h
  unfold sameTy
  rw [h1, h2, h3, h4, eqL_nil]

noncomputable def baseOk (l : List Ty) : Bool := decide (3 ≤ (l.length : Int)) && eqL sameTy (l.take 3) baseTs

/-- loop.example/g00837/spec.l3Base -/
def m194 : MC :=
  (.seq
   (.reg [⟨(some 2), none, .a (.asg (.c (.bool false)))⟩])
   (.seq
    (.seq
     (.reg [⟨(some 6), none, .q (.mov (.t 0))⟩,
       ⟨(some 7), none, .q (.len false (.t 6))⟩,
       ⟨(some 8), none, .q (.bin false .lss (.t 7) (.c (.int .i64 3)))⟩])
     (.cond (.t 8)
      (.seq
       (.reg [⟨(some 2), none, .a (.asg (.c (.bool false)))⟩])
       .ret)
      .skip))
    (.seq
     (.seq
      (.reg [⟨(some 9), none, .a (.call (.fn 182) false [])⟩,
        ⟨(some 10), none, .q (.len false (.t 9))⟩,
        ⟨(some 11), none, .q (.mov (.c (.int .i64 0)))⟩])
      (.block 0
       (.loop [0, 9, 10, 11]
        (.seq
         (.reg [⟨(some 12), none, .q (.bin false .lss (.t 11) (.t 10))⟩])
         (.seq
          (.cond (.t 12)
           .skip
           (.exit 0))
          (.seq
           (.block 1
            (.seq
             (.reg [⟨(some 13), none, .q (.mov (.t 11))⟩,
               ⟨(some 14), none, .q (.iad 6 (.t 9) (.t 11))⟩,
               ⟨(some 15), none, .q (.load true 6 (.t 14))⟩,
               ⟨(some 4), none, .a (.alloc 40 [.v (.int .i64 0), .v (.int .i64 0), .v (.int .i64 0), .s 97 3, .v (.string ({ data := #[] })), .v (.string ({ data := #[] }))])⟩,
               ⟨(some 3), none, .a (.asg (.t 13))⟩,
               ⟨none, none, .a (.store 6 (.t 4) (.t 15))⟩])
             (.seq
              (.reg [⟨(some 16), none, .q (.mov (.t 0))⟩,
                ⟨(some 17), none, .q (.mov (.t 3))⟩,
                ⟨(some 18), none, .q (.iad 6 (.t 16) (.t 17))⟩,
                ⟨(some 19), none, .q (.load true 6 (.t 18))⟩,
                ⟨(some 5), none, .a (.alloc 40 [.v (.int .i64 0), .v (.int .i64 0), .v (.int .i64 0), .s 97 3, .v (.string ({ data := #[] })), .v (.string ({ data := #[] }))])⟩,
                ⟨none, none, .a (.store 6 (.t 5) (.t 19))⟩])
              (.seq
               (.reg [⟨(some 20), none, .q (.fad 0 (.t 5))⟩,
                 ⟨(some 21), none, .q (.load false 1 (.t 20))⟩,
                 ⟨(some 22), none, .q (.fad 0 (.t 4))⟩,
                 ⟨(some 23), none, .q (.load false 1 (.t 22))⟩,
                 ⟨(some 24), none, .q (.bin false .neq (.t 21) (.t 23))⟩,
                 ⟨(some 25), none, .q (.mov (.t 24))⟩,
                 ⟨(some 26), (some (25, false)), .q (.fad 1 (.t 5))⟩,
                 ⟨(some 27), (some (25, false)), .q (.load false 1 (.t 26))⟩,
                 ⟨(some 28), (some (25, false)), .q (.bin false .neq (.t 27) (.c (.int .i64 0)))⟩,
                 ⟨(some 29), none, .q (.pick (.t 25) (.c (.bool true)) (.t 28))⟩,
                 ⟨(some 30), none, .q (.mov (.t 29))⟩,
                 ⟨(some 31), (some (30, false)), .q (.fad 2 (.t 5))⟩,
                 ⟨(some 32), (some (30, false)), .q (.load false 1 (.t 31))⟩,
                 ⟨(some 33), (some (30, false)), .q (.bin false .neq (.t 32) (.c (.int .i64 (-1))))⟩,
                 ⟨(some 34), none, .q (.pick (.t 30) (.c (.bool true)) (.t 33))⟩,
                 ⟨(some 35), none, .q (.mov (.t 34))⟩,
                 ⟨(some 36), (some (35, false)), .q (.fad 3 (.t 5))⟩,
                 ⟨(some 37), (some (35, false)), .q (.load false 1 (.t 36))⟩,
                 ⟨(some 38), (some (35, false)), .q (.len false (.t 37))⟩,
                 ⟨(some 39), (some (35, false)), .q (.bin false .gtr (.t 38) (.c (.int .i64 0)))⟩,
                 ⟨(some 40), none, .q (.pick (.t 35) (.c (.bool true)) (.t 39))⟩,
                 ⟨(some 41), none, .q (.mov (.t 40))⟩,
                 ⟨(some 42), (some (41, false)), .q (.fad 4 (.t 5))⟩,
                 ⟨(some 43), (some (41, false)), .q (.load false 1 (.t 42))⟩,
                 ⟨(some 44), (some (41, false)), .q (.bin false .neq (.t 43) (.c (.string ({ data := #[] }))))⟩,
                 ⟨(some 45), none, .q (.pick (.t 41) (.c (.bool true)) (.t 44))⟩,
                 ⟨(some 46), none, .q (.mov (.t 45))⟩,
                 ⟨(some 47), (some (46, false)), .q (.fad 5 (.t 5))⟩,
                 ⟨(some 48), (some (46, false)), .q (.load false 1 (.t 47))⟩,
                 ⟨(some 49), (some (46, false)), .q (.fad 5 (.t 4))⟩,
                 ⟨(some 50), (some (46, false)), .q (.load false 1 (.t 49))⟩,
                 ⟨(some 51), (some (46, false)), .q (.bin false .neq (.t 48) (.t 50))⟩,
                 ⟨(some 52), none, .q (.pick (.t 46) (.c (.bool true)) (.t 51))⟩])
               (.cond (.t 52)
                (.seq
                 (.reg [⟨(some 2), none, .a (.asg (.c (.bool false)))⟩])
                 .ret)
                .skip)))))
           (.reg [⟨(some 53), none, .q (.bin false .add (.t 11) (.c (.int .i64 1)))⟩,
             ⟨(some 11), none, .q (.mov (.t 53))⟩])))))))
     (.seq
      (.reg [⟨(some 2), none, .a (.asg (.c (.bool true)))⟩])
      .ret))))

set_option maxHeartbeats 1000000 in
set_option maxRecDepth 100000 in
theorem d194 (l : List Ty) (hl : (l.length : Int) ≤ 1048576) : Does Go.Proofs.Tryz.prog 194 [.fsl 6 (l.map Ty.z)] false (.v (.bool (baseOk l))) [.dead] := by
  refine does_intro (mc := m194) (N := 54) (rs := [2]) (fx := []) 1 rfl (by decide +kernel) ?_
  simp only [m194, EV, Nat.reduceEqDiff, Nat.reduceBEq, Nat.reduceLT, Nat.reduceLeDiff, Nat.reduceAdd, Nat.reduceSub, reduceIte]
  refine cK_cut (fun h => ?_) (fun h => ?_)
  · have h0 : ¬ 3 ≤ (l.length : Int) := by simpa using h
    have e : baseOk l = false := by unfold baseOk; rw [decide_eq_false h0, Bool.false_and]
    simp only [EV, Nat.reduceEqDiff, Nat.reduceBEq, Nat.reduceLT, Nat.reduceLeDiff, Nat.reduceAdd, Nat.reduceSub, reduceIte]
    simp only [e, EV, Nat.reduceEqDiff, Nat.reduceBEq, Nat.reduceLT, Nat.reduceLeDiff, Nat.reduceAdd, Nat.reduceSub, reduceIte, evRE, retVC, cellV', evR, nfz, nfzs, nfzss, List.contains_nil, List.contains_cons, Bool.or_false, or_true]
  have h3 : 3 ≤ (l.length : Int) := by simpa using h
  have hb : baseOk l = eqL sameTy (l.take 3) baseTs := by unfold baseOk; rw [decide_eq_true h3, Bool.true_and]
  have ht3 : (l.take 3).length = 3 := by simp; omega
  clear h
  simp only [EV, Nat.reduceEqDiff, Nat.reduceBEq, Nat.reduceLT, Nat.reduceLeDiff, Nat.reduceAdd, Nat.reduceSub, reduceIte]
  refine callK_i Fz.d182 ?_
  have h3' : ((3 : Nat) : Int) = 3 := rfl
  simp only [base_len, h3', EV, Nat.reduceEqDiff, Nat.reduceBEq, Nat.reduceLT, Nat.reduceLeDiff, Nat.reduceAdd, Nat.reduceSub, reduceIte]
  refine awp_loop (fun i : Nat => i ≤ 3 ∧ eqTo sameTy (l.take 3) baseTs i) (fun i => stl [(0, .fsl 6 (l.map Ty.z)), (9, .usl 40 6 (baseTs.map Ty.z)), (10, .v (.int .i64 3)), (11, .v (.int .i64 (i : Int)))]) (fun i => 3 - i) 0 ⟨Nat.zero_le _, fun j _ _ hj => absurd hj (by omega)⟩ ?_ ?_
  · simp only [EV, Nat.reduceEqDiff, Nat.reduceBEq, Nat.reduceLT, Nat.reduceLeDiff, Nat.reduceAdd, Nat.reduceSub, reduceIte]
    rfl
  · rintro i ⟨hi, hok⟩
    simp only [EV, Nat.reduceEqDiff, Nat.reduceBEq, Nat.reduceLT, Nat.reduceLeDiff, Nat.reduceAdd, Nat.reduceSub, reduceIte]
    refine cK_cut (fun h => ?_) (fun h => ?_)
    · have h1 : i < 3 := by have : (i : Int) < 3 := by simpa using h
                            omega
      have hn : i < baseTs.length := by rw [base_len]; exact h1
      have hl' : i < l.length := by omega
      have h2 : (i : Int) < 3 := by omega
      have h4 : (i : Int) < (l.length : Int) := by omega
      have hto : (l.take 3)[i]'(by omega) = l[i] := by rw [List.getElem_take]
      have hs := sameTy_at l[i] hn
      have no : sameTy l[i] baseTs[i] = false → baseOk l = false := by
        intro e; rw [hb]; exact eqL_no (by omega) hn (by rw [hto]; exact e)
      clear h
      simp only [bne, TyE, nth_map hl', nth_map hn, h2, h1, h4, base_len, h3', Ty.z, EV, Nat.reduceEqDiff, Nat.reduceBEq, Nat.reduceLT, Nat.reduceLeDiff, Nat.reduceAdd, Nat.reduceSub, reduceIte]
      repeat' (first
    | (refine gK_cut (fun h => ?_) (fun h => ?_) <;> simp only [h, bne, EV, Nat.reduceEqDiff, Nat.reduceBEq, Nat.reduceLT, Nat.reduceLeDiff, Nat.reduceAdd, Nat.reduceSub, reduceIte])
    | (refine cK_cut (fun h => ?_) (fun h => ?_) <;> simp only [h, bne, EV, Nat.reduceEqDiff, Nat.reduceBEq, Nat.reduceLT, Nat.reduceLeDiff, Nat.reduceAdd, Nat.reduceSub, reduceIte]))
      all_goals simp only [Bool.not_eq_true', Bool.not_eq_false'] at *
      all_goals first
        | (have e : baseOk l = false := no (by rw [hs]; simp only [*, Bool.not_true, Bool.and_false, Bool.false_and])
           simp only [e, Ty.nfz, EV, Nat.reduceEqDiff, Nat.reduceBEq, Nat.reduceLT, Nat.reduceLeDiff, Nat.reduceAdd, Nat.reduceSub, reduceIte, evRE, retVC, cellV', evR, nfz, nfzs, nfzss, List.contains_nil, List.contains_cons, Bool.or_false, or_true]
           done)
        | (have e : sameTy l[i] baseTs[i] = true := by rw [hs]; simp only [*, Bool.not_false, Bool.and_true]
           rw [w64 _ (by omega)]
           exact ⟨i + 1, ⟨h1, eqTo_succ (h1 := by omega) (h2 := hn) hok (by rw [hto]; exact e)⟩, by omega, rfl⟩)
    · have h1 : i = 3 := by have : ¬ (i : Int) < 3 := by simpa using h
                            omega
      subst h1
      have e : baseOk l = true := by rw [hb]; exact eqL_yes (by rw [ht3, base_len]) (by rw [ht3]; exact hok)
      simp only [EV, Nat.reduceEqDiff, Nat.reduceBEq, Nat.reduceLT, Nat.reduceLeDiff, Nat.reduceAdd, Nat.reduceSub, reduceIte]
      simp only [e, EV, Nat.reduceEqDiff, Nat.reduceBEq, Nat.reduceLT, Nat.reduceLeDiff, Nat.reduceAdd, Nat.reduceSub, reduceIte, evRE, retVC, cellV', evR, nfz, nfzs, nfzss, List.contains_nil, List.contains_cons, Bool.or_false, or_true]

end Go.AM
namespace Go.AM
set_option linter.unusedVariables false
set_option linter.unusedSimpArgs false
theorem tyNm_comm (x o : Ty) : tyNm x o = ((x.name.toList == o.name.toList) && (x.owner.toList == o.owner.toList)) := by
  unfold tyNm
  rw [Bool.beq_comm, Bool.beq_comm (a := o.owner.toList)]

theorem tysOk_base' {l : List Ty} (h : baseOk l = false) : tysOk l = false := by
  unfold tysOk
  unfold baseOk at h
  rcases e : decide (3 ≤ (l.length : Int)) with _ | _
  · simp only [Bool.false_and]
  · rw [e, Bool.true_and] at h
    simp only [h, Bool.false_and, Bool.and_false]

theorem tysOk_long {l : List Ty} (h : 24 < (l.length : Int)) : tysOk l = false := by
  unfold tysOk
  have : decide ((l.length : Int) ≤ 24) = false := decide_eq_false (by omega)
  simp only [this, Bool.false_and, Bool.and_false]

/-- loop.example/g00837/spec.l3Nearly -/
def m127 : MC :=
  (.seq
   (.reg [⟨(some 2), none, .a (.asg (.c (.bool false)))⟩])
   (.seq
    (.seq
     (.reg [⟨(some 7), none, .q (.mov (.t 0))⟩,
       ⟨(some 8), none, .a (.call (.fn 194) false [.lend (.t 7)])⟩,
       ⟨(some 9), none, .q (.un .not (.t 8))⟩,
       ⟨(some 10), none, .q (.mov (.t 9))⟩,
       ⟨(some 11), (some (10, false)), .q (.mov (.t 0))⟩,
       ⟨(some 12), (some (10, false)), .q (.len false (.t 11))⟩,
       ⟨(some 13), (some (10, false)), .q (.bin false .gtr (.t 12) (.c (.int .i64 24)))⟩,
       ⟨(some 14), none, .q (.pick (.t 10) (.c (.bool true)) (.t 13))⟩])
     (.cond (.t 14)
      (.seq
       (.reg [⟨(some 2), none, .a (.asg (.c (.bool false)))⟩])
       .ret)
      .skip))
    (.seq
     (.seq
      (.reg [⟨(some 15), none, .q (.mov (.t 0))⟩,
        ⟨(some 16), none, .q (.slc false 6 (.t 15) (some (.c (.int .i64 3))) none)⟩,
        ⟨(some 17), none, .q (.len false (.t 16))⟩,
        ⟨(some 18), none, .q (.mov (.c (.int .i64 0)))⟩])
      (.block 0
       (.loop [0, 15, 16, 17, 18]
        (.seq
         (.reg [⟨(some 19), none, .q (.bin false .lss (.t 18) (.t 17))⟩])
         (.seq
          (.cond (.t 19)
           .skip
           (.exit 0))
          (.seq
           (.block 1
            (.seq
             (.reg [⟨(some 20), none, .q (.mov (.t 18))⟩,
               ⟨(some 21), none, .q (.iad 6 (.t 16) (.t 18))⟩,
               ⟨(some 22), none, .q (.load true 6 (.t 21))⟩,
               ⟨(some 4), none, .a (.alloc 40 [.v (.int .i64 0), .v (.int .i64 0), .v (.int .i64 0), .s 97 3, .v (.string ({ data := #[] })), .v (.string ({ data := #[] }))])⟩,
               ⟨(some 3), none, .a (.asg (.t 20))⟩,
               ⟨none, none, .a (.store 6 (.t 4) (.t 22))⟩])
             (.seq
              (.seq
               (.reg [⟨(some 23), none, .q (.mov (.t 0))⟩,
                 ⟨(some 24), none, .q (.load true 6 (.t 4))⟩,
                 ⟨(some 25), none, .a (.call (.fn 195) false [.lend (.t 23), .lend (.t 24)])⟩,
                 ⟨(some 26), none, .q (.un .not (.t 25))⟩])
               (.cond (.t 26)
                (.seq
                 (.reg [⟨(some 2), none, .a (.asg (.c (.bool false)))⟩])
                 .ret)
                .skip))
              (.seq
               (.reg [⟨(some 27), none, .q (.mov (.t 0))⟩,
                 ⟨(some 28), none, .q (.mov (.t 3))⟩,
                 ⟨(some 29), none, .q (.bin false .add (.c (.int .i64 3)) (.t 28))⟩,
                 ⟨(some 30), none, .q (.slc false 6 (.t 27) (some (.c (.int .i64 3))) (some (.t 29)))⟩,
                 ⟨(some 31), none, .q (.len false (.t 30))⟩,
                 ⟨(some 32), none, .q (.mov (.c (.int .i64 0)))⟩])
               (.block 2
                (.loop [0, 4, 15, 16, 17, 18, 27, 29, 30, 31, 32]
                 (.seq
                  (.reg [⟨(some 33), none, .q (.bin false .lss (.t 32) (.t 31))⟩])
                  (.seq
                   (.cond (.t 33)
                    .skip
                    (.exit 2))
                   (.seq
                    (.block 3
                     (.seq
                      (.reg [⟨(some 34), none, .q (.iad 6 (.t 30) (.t 32))⟩,
                        ⟨(some 35), none, .q (.load true 6 (.t 34))⟩,
                        ⟨(some 6), none, .a (.alloc 40 [.v (.int .i64 0), .v (.int .i64 0), .v (.int .i64 0), .s 97 3, .v (.string ({ data := #[] })), .v (.string ({ data := #[] }))])⟩,
                        ⟨none, none, .a (.store 6 (.t 6) (.t 35))⟩])
                      (.seq
                       (.reg [⟨(some 36), none, .q (.fad 5 (.t 4))⟩,
                         ⟨(some 37), none, .q (.load false 1 (.t 36))⟩,
                         ⟨(some 38), none, .q (.bin false .neq (.t 37) (.c (.string ({ data := #[] }))))⟩,
                         ⟨(some 39), none, .q (.mov (.t 38))⟩,
                         ⟨(some 40), (some (39, true)), .q (.fad 5 (.t 4))⟩,
                         ⟨(some 41), (some (39, true)), .q (.load false 1 (.t 40))⟩,
                         ⟨(some 42), (some (39, true)), .q (.fad 5 (.t 6))⟩,
                         ⟨(some 43), (some (39, true)), .q (.load false 1 (.t 42))⟩,
                         ⟨(some 44), (some (39, true)), .q (.bin false .eql (.t 41) (.t 43))⟩,
                         ⟨(some 45), none, .q (.pick (.t 39) (.t 44) (.c (.bool false)))⟩,
                         ⟨(some 46), none, .q (.mov (.t 45))⟩,
                         ⟨(some 47), (some (46, true)), .q (.fad 4 (.t 4))⟩,
                         ⟨(some 48), (some (46, true)), .q (.load false 1 (.t 47))⟩,
                         ⟨(some 49), (some (46, true)), .q (.fad 4 (.t 6))⟩,
                         ⟨(some 50), (some (46, true)), .q (.load false 1 (.t 49))⟩,
                         ⟨(some 51), (some (46, true)), .q (.bin false .eql (.t 48) (.t 50))⟩,
                         ⟨(some 52), none, .q (.pick (.t 46) (.t 51) (.c (.bool false)))⟩])
                       (.cond (.t 52)
                        (.seq
                         (.reg [⟨(some 2), none, .a (.asg (.c (.bool false)))⟩])
                         .ret)
                        .skip))))
                    (.reg [⟨(some 53), none, .q (.bin false .add (.t 32) (.c (.int .i64 1)))⟩,
                      ⟨(some 32), none, .q (.mov (.t 53))⟩]))))))))))
           (.reg [⟨(some 54), none, .q (.bin false .add (.t 18) (.c (.int .i64 1)))⟩,
             ⟨(some 18), none, .q (.mov (.t 54))⟩])))))))
     (.seq
      (.reg [⟨(some 2), none, .a (.asg (.c (.bool true)))⟩])
      .ret))))

set_option maxHeartbeats 1000000 in
set_option maxRecDepth 100000 in
theorem d127 (l : List Ty) (hl : (l.length : Int) ≤ 1048576) (hs : ∀ s ∈ l, s.sm) : Does Go.Proofs.Tryz.prog 127 [.fsl 6 (l.map Ty.z)] false (.v (.bool (tysOk l))) [.dead] := by
  refine does_intro (mc := m127) (N := 55) (rs := [2]) (fx := []) 1 rfl (by decide +kernel) ?_
  simp only [m127, EV, Nat.reduceEqDiff, Nat.reduceBEq, Nat.reduceLT, Nat.reduceLeDiff, Nat.reduceAdd, Nat.reduceSub, reduceIte]
  refine callK_i (d194 l hl) ?_
  simp only [EV, Nat.reduceEqDiff, Nat.reduceBEq, Nat.reduceLT, Nat.reduceLeDiff, Nat.reduceAdd, Nat.reduceSub, reduceIte]
  rcases hb : baseOk l with _ | _
  · have e : tysOk l = false := tysOk_base' hb
    simp only [EV, Nat.reduceEqDiff, Nat.reduceBEq, Nat.reduceLT, Nat.reduceLeDiff, Nat.reduceAdd, Nat.reduceSub, reduceIte]
    simp only [e, EV, Nat.reduceEqDiff, Nat.reduceBEq, Nat.reduceLT, Nat.reduceLeDiff, Nat.reduceAdd, Nat.reduceSub, reduceIte, evRE, retVC, cellV', evR, nfz, nfzs, nfzss, List.contains_nil, List.contains_cons, Bool.or_false, or_true]
  simp only [EV, Nat.reduceEqDiff, Nat.reduceBEq, Nat.reduceLT, Nat.reduceLeDiff, Nat.reduceAdd, Nat.reduceSub, reduceIte]
  refine cK_cut (fun h => ?_) (fun h => ?_)
  · have e : tysOk l = false := tysOk_long (by simpa using h)
    simp only [EV, Nat.reduceEqDiff, Nat.reduceBEq, Nat.reduceLT, Nat.reduceLeDiff, Nat.reduceAdd, Nat.reduceSub, reduceIte]
    simp only [e, EV, Nat.reduceEqDiff, Nat.reduceBEq, Nat.reduceLT, Nat.reduceLeDiff, Nat.reduceAdd, Nat.reduceSub, reduceIte, evRE, retVC, cellV', evR, nfz, nfzs, nfzss, List.contains_nil, List.contains_cons, Bool.or_false, or_true]
  have h24 : (l.length : Int) ≤ 24 := by have : ¬ 24 < (l.length : Int) := by simpa using h
                                         omega
  have hbo := hb
  simp only [baseOk, Bool.and_eq_true, decide_eq_true_eq] at hbo
  obtain ⟨hl3, e2⟩ := hbo
  have e1 : (decide (3 ≤ (l.length : Int)) && decide ((l.length : Int) ≤ 24)) = true := by rw [decide_eq_true hl3, decide_eq_true h24]; rfl
  clear h
  have h3 : ((3 : Nat) : Int) = 3 := rfl
  have t3 : (3 : Int).toNat = 3 := rfl
  simp only [h3, EV, Nat.reduceEqDiff, Nat.reduceBEq, Nat.reduceLT, Nat.reduceLeDiff, Nat.reduceAdd, Nat.reduceSub, reduceIte]
  refine ⟨by omega, hl3, by omega, ?_⟩
  simp only [← List.map_drop, ← List.map_take, t3]
  have hm : ∃ m, l.drop 3 = m := ⟨_, rfl⟩
  obtain ⟨m, hm⟩ := hm
  have hml : (m.length : Int) = (l.length : Int) - 3 := by rw [← hm]; simp; omega
  have hsub : ∀ x ∈ m, x ∈ l := by rw [← hm]; exact fun x hx => List.mem_of_mem_drop hx
  have p9 : ∀ i (h : i < m.length), tyAt l m i h = false → tysOk l = false := by
    subst hm; exact fun i h e => tysOk_no h e
  refine awp_loop (fun i : Nat => i ≤ m.length ∧ tyTo l m i) (fun i => stl [(0, .fsl 6 (l.map Ty.z)), (15, .fsl 6 (l.map Ty.z)), (16, .fsl 6 (m.map Ty.z)), (17, .v (.int .i64 (m.length : Int))), (18, .v (.int .i64 (i : Int)))]) (fun i => m.length - i) 0 ⟨Nat.zero_le _, fun j hj h => absurd h (by omega)⟩ ?_ ?_
  · have htk : List.take (l.length - 3) m = m := List.take_of_length_le (by omega)
    simp only [hm, htk, EV, Nat.reduceEqDiff, Nat.reduceBEq, Nat.reduceLT, Nat.reduceLeDiff, Nat.reduceAdd, Nat.reduceSub, reduceIte]
    rfl
  · rintro i ⟨hi, hok⟩
    simp only [EV, Nat.reduceEqDiff, Nat.reduceBEq, Nat.reduceLT, Nat.reduceLeDiff, Nat.reduceAdd, Nat.reduceSub, reduceIte]
    refine cK_cut (fun h => ?_) (fun h => ?_)
    · have h1 : i < m.length := by simpa using h
      have h2 : (i : Int) < (m.length : Int) := by omega
      have hso : m[i].sm := hs m[i] (hsub _ (List.getElem_mem h1))
      clear h
      have hw : IntKind.i64.wrap (3 + (i : Int)) = ((3 + i : Nat) : Int) := by rw [w64 _ (by omega)]; omega
      have hdt : List.take (3 + i - 3) (List.drop 3 (l.map Ty.z)) = (m.take i).map Ty.z := by
        rw [← hm, Nat.add_sub_cancel_left, ← List.map_drop, ← List.map_take]
      have ht : (m.take i).length = i := by simp; omega
      have hcl : Ty.z m[i] = [.v (.int .i64 m[i].kind), .v (.int .i64 m[i].long), .v (.int .i64 m[i].base), .fsl 3 (m[i].fields.map Fd.z), .v (.string m[i].owner), .v (.string m[i].name)] := rfl
      have d7 := d195 l m[i] hl hso
      rw [hcl] at d7
      have en : (m[i].name.toList == (⟨#[]⟩ : ByteArray).toList) = nil' m[i].name := rfl
      simp only [TyE, nth_map h1, h2, h3, Ty.z, EV, Nat.reduceEqDiff, Nat.reduceBEq, Nat.reduceLT, Nat.reduceLeDiff, Nat.reduceAdd, Nat.reduceSub, reduceIte]
      refine callK_i d7 ?_
      simp only [EV, Nat.reduceEqDiff, Nat.reduceBEq, Nat.reduceLT, Nat.reduceLeDiff, Nat.reduceAdd, Nat.reduceSub, reduceIte]
      rcases e5 : tyOk l m[i] with _ | _
      · have e : tysOk l = false := p9 i h1 (by simp only [tyAt, e5, Bool.and_false])
        simp only [EV, Nat.reduceEqDiff, Nat.reduceBEq, Nat.reduceLT, Nat.reduceLeDiff, Nat.reduceAdd, Nat.reduceSub, reduceIte]
        simp only [e, EV, Nat.reduceEqDiff, Nat.reduceBEq, Nat.reduceLT, Nat.reduceLeDiff, Nat.reduceAdd, Nat.reduceSub, reduceIte, evRE, retVC, cellV', evR, nfz, nfzs, nfzss, List.contains_nil, List.contains_cons, Bool.or_false, or_true]
      simp only [h3, hw, t3, EV, Nat.reduceEqDiff, Nat.reduceBEq, Nat.reduceLT, Nat.reduceLeDiff, Nat.reduceAdd, Nat.reduceSub, reduceIte]
      refine ⟨by omega, by omega, by omega, ?_⟩
      rw [hdt]
      refine awp_loop (fun k : Nat => k ≤ i ∧ (nil' m[i].name = true ∨ ((m.take i).take k).any (tyNm m[i]) = false)) (fun k => stl [(0, .fsl 6 (l.map Ty.z)), (4, .box 40 m[i].z), (15, .fsl 6 (l.map Ty.z)), (16, .fsl 6 (m.map Ty.z)), (17, .v (.int .i64 (m.length : Int))), (18, .v (.int .i64 (i : Int))), (27, .fsl 6 (l.map Ty.z)), (29, .v (.int .i64 ((3 + i : Nat) : Int))), (30, .fsl 6 ((m.take i).map Ty.z)), (31, .v (.int .i64 (i : Int))), (32, .v (.int .i64 (k : Int)))]) (fun k => i - k) 0 ⟨Nat.zero_le _, Or.inr (by simp)⟩ ?_ ?_
      · simp only [Ty.z, EV, Nat.reduceEqDiff, Nat.reduceBEq, Nat.reduceLT, Nat.reduceLeDiff, Nat.reduceAdd, Nat.reduceSub, reduceIte]
        rw [ht]
        rfl
      · rintro k ⟨hk, hno⟩
        simp only [Ty.z, EV, Nat.reduceEqDiff, Nat.reduceBEq, Nat.reduceLT, Nat.reduceLeDiff, Nat.reduceAdd, Nat.reduceSub, reduceIte]
        refine cK_cut (fun h => ?_) (fun h => ?_)
        · have k3 : k < i := by have : (k : Int) < i := by simpa using h
                                omega
          have k1 : k < (m.take i).length := by rw [ht]; exact k3
          have k2 : (k : Int) < i := by omega
          clear h
          have hnx : tyNm m[i] (m.take i)[k] = false → ∃ a, (a ≤ i ∧ (nil' m[i].name = true ∨ ((m.take i).take a).any (tyNm m[i]) = false)) ∧ i - a < i - k ∧ a = k + 1 := by
            intro e
            refine ⟨k + 1, ⟨by omega, ?_⟩, by omega, rfl⟩
            rcases hno with hno | hno
            · exact .inl hno
            · exact .inr (any_take k1 hno e)
          simp only [TyE, nth_map k1, k2, k3, ht, Ty.z, EV, Nat.reduceEqDiff, Nat.reduceBEq, Nat.reduceLT, Nat.reduceLeDiff, Nat.reduceAdd, Nat.reduceSub, reduceIte]
          rw [en]
          have hcm := tyNm_comm m[i] (m.take i)[k]
          rcases e3 : nil' m[i].name with _ | _
          · simp only [Bool.not_false, TyE, nth_map k1, k2, k3, ht, Ty.z, EV, Nat.reduceEqDiff, Nat.reduceBEq, Nat.reduceLT, Nat.reduceLeDiff, Nat.reduceAdd, Nat.reduceSub, reduceIte]
            repeat' (first
    | (refine gK_cut (fun h => ?_) (fun h => ?_) <;> simp only [h, EV, Nat.reduceEqDiff, Nat.reduceBEq, Nat.reduceLT, Nat.reduceLeDiff, Nat.reduceAdd, Nat.reduceSub, reduceIte])
    | (refine cK_cut (fun h => ?_) (fun h => ?_) <;> simp only [h, EV, Nat.reduceEqDiff, Nat.reduceBEq, Nat.reduceLT, Nat.reduceLeDiff, Nat.reduceAdd, Nat.reduceSub, reduceIte]))
            all_goals first
              | (have e4 : tyNm m[i] (m.take i)[k] = true := by rw [hcm]; simp only [*, Bool.and_self]
                 have e : tysOk l = false := p9 i h1 (by
                   have := any_at k1 e4
                   simp only [tyAt, e3, this, Bool.not_false, Bool.true_and, Bool.not_true, Bool.false_and])
                 simp only [e, EV, Nat.reduceEqDiff, Nat.reduceBEq, Nat.reduceLT, Nat.reduceLeDiff, Nat.reduceAdd, Nat.reduceSub, reduceIte, evRE, retVC, cellV', evR, nfz, nfzs, nfzss, List.contains_nil, List.contains_cons, Bool.or_false, or_true]
                 done)
              | (have e4 : tyNm m[i] (m.take i)[k] = false := by rw [hcm]; simp only [*, Bool.false_and, Bool.and_false]
                 obtain ⟨a, q1, q2, rfl⟩ := hnx e4
                 rw [w64 _ (by omega)]
                 exact ⟨k + 1, ⟨q1.1, by rcases q1.2 with q | q; exact absurd (e3.symm.trans q) Bool.false_ne_true; exact Or.inr q⟩, q2, rfl⟩)
          · simp only [Bool.not_true, EV, Nat.reduceEqDiff, Nat.reduceBEq, Nat.reduceLT, Nat.reduceLeDiff, Nat.reduceAdd, Nat.reduceSub, reduceIte]
            rw [w64 _ (by omega)]
            exact ⟨k + 1, ⟨by omega, Or.inl trivial⟩, by omega, rfl⟩
        · have k1 : k = i := by have : ¬ (k : Int) < i := by simpa using h
                                omega
          subst k1
          have hq : tyAt l m k h1 = true := by
            simp only [tyAt, e5, Bool.and_true]
            rcases hno with hno | hno
            · rw [hno]; rfl
            · rw [List.take_take, Nat.min_self] at hno
              rw [hno, Bool.and_false]; rfl
          simp only [EV, Nat.reduceEqDiff, Nat.reduceBEq, Nat.reduceLT, Nat.reduceLeDiff, Nat.reduceAdd, Nat.reduceSub, reduceIte]
          rw [w64 _ (by omega)]
          exact ⟨k + 1, ⟨h1, tyTo_succ h1 hok hq⟩, by omega, rfl⟩
    · have h1 : i = m.length := by have : ¬ (i : Int) < m.length := by simpa using h
                                   omega
      subst h1
      have e : tysOk l = true := tysOk_yes e1 e2 (by rw [hm]; exact hok)
      simp only [EV, Nat.reduceEqDiff, Nat.reduceBEq, Nat.reduceLT, Nat.reduceLeDiff, Nat.reduceAdd, Nat.reduceSub, reduceIte]
      simp only [e, EV, Nat.reduceEqDiff, Nat.reduceBEq, Nat.reduceLT, Nat.reduceLeDiff, Nat.reduceAdd, Nat.reduceSub, reduceIte, evRE, retVC, cellV', evR, nfz, nfzs, nfzss, List.contains_nil, List.contains_cons, Bool.or_false, or_true]

end Go.AM
namespace Go.AM
set_option linter.unusedVariables false
set_option linter.unusedSimpArgs false
def noRd (l : List Ty) (n : Nat) : Prop := ∀ j : Nat, j < n → roundAt l (j : Int) = false

theorem tabOk_yes {l : List Ty} (h : tysOk l = true) (h2 : noRd l l.length) : tabOk l = true := by
  simp only [tabOk, h, Bool.true_and, List.all_eq_true, List.mem_range]
  intro n hn
  rw [h2 n hn]; rfl

theorem tabOk_no {l : List Ty} {i : Nat} (h : i < l.length) (h2 : roundAt l (i : Int) = true) : tabOk l = false := by
  rcases e : tabOk l with _ | _
  · rfl
  · have := tabOk_round e (n := (i : Int)) (by omega) (by omega)
    rw [h2] at this; cases this

theorem tabOk_tno {l : List Ty} (h : tysOk l = false) : tabOk l = false := by simp only [tabOk, h, Bool.false_and]

/-- loop.example/g00837/impl.isTable -/
def m55 : MC :=
  (.seq
   (.reg [⟨(some 2), none, .a (.asg (.c (.bool false)))⟩])
   (.seq
    (.seq
     (.reg [⟨(some 4), none, .q (.mov (.t 0))⟩,
       ⟨(some 5), none, .a (.call (.fn 125) false [.lend (.t 4)])⟩,
       ⟨(some 6), none, .q (.un .not (.t 5))⟩])
     (.cond (.t 6)
      (.seq
       (.reg [⟨(some 2), none, .a (.asg (.c (.bool false)))⟩])
       .ret)
      .skip))
    (.seq
     (.seq
      (.reg [⟨(some 7), none, .q (.mov (.t 0))⟩,
        ⟨(some 8), none, .q (.len false (.t 7))⟩,
        ⟨(some 9), none, .q (.mov (.c (.int .i64 0)))⟩])
      (.block 0
       (.loop [0, 8, 9]
        (.seq
         (.reg [⟨(some 10), none, .q (.bin false .lss (.t 9) (.t 8))⟩])
         (.seq
          (.cond (.t 10)
           .skip
           (.exit 0))
          (.seq
           (.block 1
            (.seq
             (.reg [⟨(some 11), none, .q (.mov (.t 9))⟩,
               ⟨(some 3), none, .a (.asg (.t 11))⟩])
             (.seq
              (.reg [⟨(some 12), none, .q (.mov (.t 0))⟩,
                ⟨(some 13), none, .q (.mov (.t 3))⟩,
                ⟨(some 14), none, .a (.call (.fn 126) false [.lend (.t 12), .lend (.t 13)])⟩])
              (.cond (.t 14)
               (.seq
                (.reg [⟨(some 2), none, .a (.asg (.c (.bool false)))⟩])
                .ret)
               .skip))))
           (.reg [⟨(some 15), none, .q (.bin false .add (.t 9) (.c (.int .i64 1)))⟩,
             ⟨(some 9), none, .q (.mov (.t 15))⟩])))))))
     (.seq
      (.reg [⟨(some 2), none, .a (.asg (.c (.bool true)))⟩])
      .ret))))

set_option maxRecDepth 100000 in
theorem d55 (l : List Ty) (hl : (l.length : Int) ≤ 1048576) (hs : ∀ s ∈ l, s.sm) : Does Go.Proofs.Tryz.prog 55 [.fsl 6 (l.map Ty.z)] false (.v (.bool (tabOk l))) [.dead] := by
  refine does_intro (mc := m55) (N := 16) (rs := [2]) (fx := []) 1 rfl (by decide +kernel) ?_
  simp only [m55, EV, Nat.reduceEqDiff, Nat.reduceBEq, Nat.reduceLT, Nat.reduceLeDiff, Nat.reduceAdd, Nat.reduceSub, reduceIte]
  refine callK_i (d125 l hl hs) ?_
  simp only [EV, Nat.reduceEqDiff, Nat.reduceBEq, Nat.reduceLT, Nat.reduceLeDiff, Nat.reduceAdd, Nat.reduceSub, reduceIte]
  rcases ht : tysOk l with _ | _
  · have e : tabOk l = false := tabOk_tno ht
    simp only [Bool.not_false, EV, Nat.reduceEqDiff, Nat.reduceBEq, Nat.reduceLT, Nat.reduceLeDiff, Nat.reduceAdd, Nat.reduceSub, reduceIte]
    simp only [e, EV, Nat.reduceEqDiff, Nat.reduceBEq, Nat.reduceLT, Nat.reduceLeDiff, Nat.reduceAdd, Nat.reduceSub, reduceIte, evRE, retVC, cellV', evR, nfz, nfzs, nfzss, List.contains_nil, List.contains_cons, Bool.or_false, or_true]
  simp only [Bool.not_true, EV, Nat.reduceEqDiff, Nat.reduceBEq, Nat.reduceLT, Nat.reduceLeDiff, Nat.reduceAdd, Nat.reduceSub, reduceIte]
  refine awp_loop (fun i : Nat => i ≤ l.length ∧ noRd l i) (fun i => stl [(0, .fsl 6 (l.map Ty.z)), (8, .v (.int .i64 (l.length : Int))), (9, .v (.int .i64 (i : Int)))]) (fun i => l.length - i) 0 ⟨Nat.zero_le _, fun j h => absurd h (by omega)⟩ ?_ ?_
  · simp only [EV, Nat.reduceEqDiff, Nat.reduceBEq, Nat.reduceLT, Nat.reduceLeDiff, Nat.reduceAdd, Nat.reduceSub, reduceIte]
    rfl
  · rintro i ⟨hi, hno⟩
    simp only [EV, Nat.reduceEqDiff, Nat.reduceBEq, Nat.reduceLT, Nat.reduceLeDiff, Nat.reduceAdd, Nat.reduceSub, reduceIte]
    refine cK_cut (fun h => ?_) (fun h => ?_)
    · have h1 : i < l.length := by simpa using h
      simp only [EV, Nat.reduceEqDiff, Nat.reduceBEq, Nat.reduceLT, Nat.reduceLeDiff, Nat.reduceAdd, Nat.reduceSub, reduceIte]
      refine callK_i (d126 l (i : Int) hl hs ht (by omega) (by omega)) ?_
      simp only [EV, Nat.reduceEqDiff, Nat.reduceBEq, Nat.reduceLT, Nat.reduceLeDiff, Nat.reduceAdd, Nat.reduceSub, reduceIte]
      rcases e1 : roundAt l (i : Int) with _ | _
      · simp only [EV, Nat.reduceEqDiff, Nat.reduceBEq, Nat.reduceLT, Nat.reduceLeDiff, Nat.reduceAdd, Nat.reduceSub, reduceIte]
        rw [w64 _ (by omega)]
        refine ⟨i + 1, ⟨h1, fun j hj => ?_⟩, by omega, rfl⟩
        by_cases e : j = i
        · subst e; exact e1
        · exact hno j (by omega)
      · have e : tabOk l = false := tabOk_no h1 e1
        simp only [EV, Nat.reduceEqDiff, Nat.reduceBEq, Nat.reduceLT, Nat.reduceLeDiff, Nat.reduceAdd, Nat.reduceSub, reduceIte]
        simp only [e, EV, Nat.reduceEqDiff, Nat.reduceBEq, Nat.reduceLT, Nat.reduceLeDiff, Nat.reduceAdd, Nat.reduceSub, reduceIte, evRE, retVC, cellV', evR, nfz, nfzs, nfzss, List.contains_nil, List.contains_cons, Bool.or_false, or_true]
    · have h1 : i = l.length := by have : ¬ (i : Int) < l.length := by simpa using h
                                   omega
      subst h1
      have e : tabOk l = true := tabOk_yes ht hno
      simp only [EV, Nat.reduceEqDiff, Nat.reduceBEq, Nat.reduceLT, Nat.reduceLeDiff, Nat.reduceAdd, Nat.reduceSub, reduceIte]
      simp only [e, EV, Nat.reduceEqDiff, Nat.reduceBEq, Nat.reduceLT, Nat.reduceLeDiff, Nat.reduceAdd, Nat.reduceSub, reduceIte, evRE, retVC, cellV', evR, nfz, nfzs, nfzss, List.contains_nil, List.contains_cons, Bool.or_false, or_true]

/-- loop.example/g00837/spec.l3Good -/
def m58 : MC :=
  (.seq
   (.reg [⟨(some 2), none, .a (.asg (.c (.bool false)))⟩])
   (.seq
    (.seq
     (.reg [⟨(some 4), none, .q (.mov (.t 0))⟩,
       ⟨(some 5), none, .a (.call (.fn 127) false [.lend (.t 4)])⟩,
       ⟨(some 6), none, .q (.un .not (.t 5))⟩])
     (.cond (.t 6)
      (.seq
       (.reg [⟨(some 2), none, .a (.asg (.c (.bool false)))⟩])
       .ret)
      .skip))
    (.seq
     (.seq
      (.reg [⟨(some 7), none, .q (.mov (.t 0))⟩,
        ⟨(some 8), none, .q (.len false (.t 7))⟩,
        ⟨(some 9), none, .q (.mov (.c (.int .i64 0)))⟩])
      (.block 0
       (.loop [0, 8, 9]
        (.seq
         (.reg [⟨(some 10), none, .q (.bin false .lss (.t 9) (.t 8))⟩])
         (.seq
          (.cond (.t 10)
           .skip
           (.exit 0))
          (.seq
           (.block 1
            (.seq
             (.reg [⟨(some 11), none, .q (.mov (.t 9))⟩,
               ⟨(some 3), none, .a (.asg (.t 11))⟩])
             (.seq
              (.reg [⟨(some 12), none, .q (.mov (.t 0))⟩,
                ⟨(some 13), none, .q (.mov (.t 3))⟩,
                ⟨(some 14), none, .a (.call (.fn 128) false [.lend (.t 12), .lend (.t 13)])⟩])
              (.cond (.t 14)
               (.seq
                (.reg [⟨(some 2), none, .a (.asg (.c (.bool false)))⟩])
                .ret)
               .skip))))
           (.reg [⟨(some 15), none, .q (.bin false .add (.t 9) (.c (.int .i64 1)))⟩,
             ⟨(some 9), none, .q (.mov (.t 15))⟩])))))))
     (.seq
      (.reg [⟨(some 2), none, .a (.asg (.c (.bool true)))⟩])
      .ret))))

set_option maxRecDepth 100000 in
theorem d58 (l : List Ty) (hl : (l.length : Int) ≤ 1048576) (hs : ∀ s ∈ l, s.sm) : Does Go.Proofs.Tryz.prog 58 [.fsl 6 (l.map Ty.z)] false (.v (.bool (tabOk l))) [.dead] := by
  refine does_intro (mc := m58) (N := 16) (rs := [2]) (fx := []) 1 rfl (by decide +kernel) ?_
  simp only [m58, EV, Nat.reduceEqDiff, Nat.reduceBEq, Nat.reduceLT, Nat.reduceLeDiff, Nat.reduceAdd, Nat.reduceSub, reduceIte]
  refine callK_i (d127 l hl hs) ?_
  simp only [EV, Nat.reduceEqDiff, Nat.reduceBEq, Nat.reduceLT, Nat.reduceLeDiff, Nat.reduceAdd, Nat.reduceSub, reduceIte]
  rcases ht : tysOk l with _ | _
  · have e : tabOk l = false := tabOk_tno ht
    simp only [Bool.not_false, EV, Nat.reduceEqDiff, Nat.reduceBEq, Nat.reduceLT, Nat.reduceLeDiff, Nat.reduceAdd, Nat.reduceSub, reduceIte]
    simp only [e, EV, Nat.reduceEqDiff, Nat.reduceBEq, Nat.reduceLT, Nat.reduceLeDiff, Nat.reduceAdd, Nat.reduceSub, reduceIte, evRE, retVC, cellV', evR, nfz, nfzs, nfzss, List.contains_nil, List.contains_cons, Bool.or_false, or_true]
  simp only [Bool.not_true, EV, Nat.reduceEqDiff, Nat.reduceBEq, Nat.reduceLT, Nat.reduceLeDiff, Nat.reduceAdd, Nat.reduceSub, reduceIte]
  refine awp_loop (fun i : Nat => i ≤ l.length ∧ noRd l i) (fun i => stl [(0, .fsl 6 (l.map Ty.z)), (8, .v (.int .i64 (l.length : Int))), (9, .v (.int .i64 (i : Int)))]) (fun i => l.length - i) 0 ⟨Nat.zero_le _, fun j h => absurd h (by omega)⟩ ?_ ?_
  · simp only [EV, Nat.reduceEqDiff, Nat.reduceBEq, Nat.reduceLT, Nat.reduceLeDiff, Nat.reduceAdd, Nat.reduceSub, reduceIte]
    rfl
  · rintro i ⟨hi, hno⟩
    simp only [EV, Nat.reduceEqDiff, Nat.reduceBEq, Nat.reduceLT, Nat.reduceLeDiff, Nat.reduceAdd, Nat.reduceSub, reduceIte]
    refine cK_cut (fun h => ?_) (fun h => ?_)
    · have h1 : i < l.length := by simpa using h
      simp only [EV, Nat.reduceEqDiff, Nat.reduceBEq, Nat.reduceLT, Nat.reduceLeDiff, Nat.reduceAdd, Nat.reduceSub, reduceIte]
      refine callK_i (d128 l (i : Int) hl hs ht (by omega) (by omega)) ?_
      simp only [EV, Nat.reduceEqDiff, Nat.reduceBEq, Nat.reduceLT, Nat.reduceLeDiff, Nat.reduceAdd, Nat.reduceSub, reduceIte]
      rcases e1 : roundAt l (i : Int) with _ | _
      · simp only [EV, Nat.reduceEqDiff, Nat.reduceBEq, Nat.reduceLT, Nat.reduceLeDiff, Nat.reduceAdd, Nat.reduceSub, reduceIte]
        rw [w64 _ (by omega)]
        refine ⟨i + 1, ⟨h1, fun j hj => ?_⟩, by omega, rfl⟩
        by_cases e : j = i
        · subst e; exact e1
        · exact hno j (by omega)
      · have e : tabOk l = false := tabOk_no h1 e1
        simp only [EV, Nat.reduceEqDiff, Nat.reduceBEq, Nat.reduceLT, Nat.reduceLeDiff, Nat.reduceAdd, Nat.reduceSub, reduceIte]
        simp only [e, EV, Nat.reduceEqDiff, Nat.reduceBEq, Nat.reduceLT, Nat.reduceLeDiff, Nat.reduceAdd, Nat.reduceSub, reduceIte, evRE, retVC, cellV', evR, nfz, nfzs, nfzss, List.contains_nil, List.contains_cons, Bool.or_false, or_true]
    · have h1 : i = l.length := by have : ¬ (i : Int) < l.length := by simpa using h
                                   omega
      subst h1
      have e : tabOk l = true := tabOk_yes ht hno
      simp only [EV, Nat.reduceEqDiff, Nat.reduceBEq, Nat.reduceLT, Nat.reduceLeDiff, Nat.reduceAdd, Nat.reduceSub, reduceIte]
      simp only [e, EV, Nat.reduceEqDiff, Nat.reduceBEq, Nat.reduceLT, Nat.reduceLeDiff, Nat.reduceAdd, Nat.reduceSub, reduceIte, evRE, retVC, cellV', evR, nfz, nfzs, nfzss, List.contains_nil, List.contains_cons, Bool.or_false, or_true]

end Go.AM
namespace Go.AM
set_option linter.unusedVariables false
set_option linter.unusedSimpArgs false
def baseAt (l : List Ty) (n : Int) : Int := match l[n.toNat]? with
  | some t => t.base
  | none => -1

theorem baseAt_eq {l : List Ty} {n : Int} (h : n.toNat < l.length) : baseAt l n = l[n.toNat].base := by simp [baseAt, h]

def chainF (l : List Ty) : Nat → Int → List Int
  | 0, _ => []
  | f + 1, n => if n < 0 then [] else n :: chainF l f (baseAt l n)

def lineL (l : List Ty) (n : Int) : List Int := chainF l (l.length + 1) n

/-- An end or a record. -/
def isL (l : List Ty) (n : Int) : Prop := n < 0 ∨ isRec l n = true

theorem isRec_in {l : List Ty} {n : Int} (h : isRec l n = true) : 0 ≤ n ∧ n < (l.length : Int) ∧ ∃ hn : n.toNat < l.length, l[n.toNat].kind = 5 := by
  simp only [isRec, Bool.and_eq_true, beq_iff_eq] at h
  obtain ⟨h0, h1, hn, hk⟩ := isNum_lt h.1
  exact ⟨h0, h1, hn, by rw [← hk]; exact h.2⟩

theorem isRec_base {l : List Ty} (ht : tysOk l = true) {n : Int} (h : isRec l n = true) : isL l (baseAt l n) ∧ (0 ≤ baseAt l n → baseAt l n ∈ kids l false n) := by
  obtain ⟨h0, h1, hn, hk⟩ := isRec_in h
  have G := tysOk_good ht hn
  rw [baseAt_eq hn]
  refine ⟨(G.rec5 hk).elim (fun e => .inl (by omega)) .inr, fun hb => ?_⟩
  rw [kids_at hn]
  have e6 : (l[n.toNat].kind == 6) = false := by rw [hk]; rfl
  simp only [prt, e6, hb, decide_true, Bool.not_false, Bool.or_true, Bool.and_self, if_true, List.mem_append, List.mem_singleton, true_or]

theorem rk_le (l : List Ty) (n : Int) : rk l n ≤ l.length := by
  unfold rk reachL
  refine Nat.le_trans (List.length_filter_le _ _) ?_
  simp

theorem chainF_irr {l : List Ty} (ht : tabOk l = true) : ∀ (f f' : Nat) (n : Int), isL l n → rk l n < f → rk l n < f' → chainF l f n = chainF l f' n
  | 0, _, n, _, h, _ => absurd h (by omega)
  | f + 1, 0, n, _, _, h => absurd h (by omega)
  | f + 1, f' + 1, n, hn, h, h' => by
    unfold chainF
    by_cases h0 : n < 0
    · rw [if_pos h0, if_pos h0]
    · rw [if_neg h0, if_neg h0]
      have hr : isRec l n = true := hn.resolve_left h0
      obtain ⟨b1, b2⟩ := isRec_base (tabOk_tys ht) hr
      obtain ⟨g0, g1, _⟩ := isRec_in hr
      by_cases hb : baseAt l n < 0
      · have e : ∀ g, chainF l g (baseAt l n) = [] := by
          intro g; cases g with
          | zero => rfl
          | succ g => unfold chainF; rw [if_pos hb]
        rw [e, e]
      · have hlt := rk_lt ht g0 g1 (b2 (by omega))
        rw [chainF_irr ht f f' (baseAt l n) b1 (by omega) (by omega)]

theorem lineL_neg {l : List Ty} {n : Int} (h : n < 0) : lineL l n = [] := by unfold lineL chainF; rw [if_pos h]

theorem lineL_rec {l : List Ty} (ht : tabOk l = true) {n : Int} (h : isRec l n = true) : lineL l n = n :: lineL l (baseAt l n) := by
  obtain ⟨b1, b2⟩ := isRec_base (tabOk_tys ht) h
  obtain ⟨g0, g1, _⟩ := isRec_in h
  unfold lineL
  rw [chainF]
  rw [if_neg (by omega)]
  by_cases hb : baseAt l n < 0
  · have e : ∀ g, chainF l g (baseAt l n) = [] := by
      intro g; cases g with
      | zero => rfl
      | succ g => unfold chainF; rw [if_pos hb]
    rw [e, e]
  · have hlt := rk_lt ht g0 g1 (b2 (by omega))
    have := rk_le l n
    rw [chainF_irr ht l.length (l.length + 1) _ b1 (by omega) (by omega)]

theorem lineL_in {l : List Ty} (ht : tabOk l = true) : ∀ (f : Nat) (n : Int), isL l n → ∀ k ∈ chainF l f n, isRec l k = true
  | 0, n, _, k, hk => by simp [chainF] at hk
  | f + 1, n, hn, k, hk => by
    unfold chainF at hk
    by_cases h0 : n < 0
    · rw [if_pos h0] at hk; simp at hk
    · rw [if_neg h0] at hk
      have hr : isRec l n = true := hn.resolve_left h0
      rcases List.mem_cons.1 hk with rfl | hk
      · exact hr
      · exact lineL_in ht f _ (isRec_base (tabOk_tys ht) hr).1 k hk

theorem chainF_len (l : List Ty) : ∀ (f : Nat) (n : Int), (chainF l f n).length ≤ f
  | 0, n => by simp [chainF]
  | f + 1, n => by
    unfold chainF
    split
    · simp
    · have := chainF_len l f (baseAt l n)
      simp; omega

theorem lineL_len (l : List Ty) (n : Int) : (lineL l n).length ≤ l.length + 1 := chainF_len _ _ _

theorem tabOk_len {l : List Ty} (h : tabOk l = true) : l.length ≤ 24 := (tysOk_len (tabOk_tys h)).2

noncomputable def recOk (l : List Ty) (n : Int) : Bool := tabOk l && isRec l n

/-- loop.example/g00837/impl.areRecords -/
def m63 : MC :=
  (.seq
   (.reg [⟨(some 4), none, .a (.asg (.c (.bool false)))⟩])
   (.seq
    (.reg [⟨(some 5), none, .q (.mov (.t 0))⟩,
      ⟨(some 6), none, .a (.call (.fn 55) false [.lend (.t 5)])⟩,
      ⟨(some 7), none, .q (.mov (.t 6))⟩,
      ⟨(some 8), (some (7, true)), .q (.mov (.t 0))⟩,
      ⟨(some 9), (some (7, true)), .q (.mov (.t 1))⟩,
      ⟨(some 10), (some (7, true)), .a (.call (.fn 56) false [.lend (.t 8), .lend (.t 9)])⟩,
      ⟨(some 11), none, .q (.pick (.t 7) (.t 10) (.c (.bool false)))⟩,
      ⟨(some 4), none, .a (.asg (.t 11))⟩])
    .ret))

theorem d63 (l : List Ty) (n : Int) (hl : (l.length : Int) ≤ 1048576) (hs : ∀ s ∈ l, s.sm) : Does Go.Proofs.Tryz.prog 63 [.fsl 6 (l.map Ty.z), .v (.int .i64 n)] false (.v (.bool (recOk l n))) [.dead, .dead] := by
  refine does_intro (mc := m63) (N := 12) (rs := [4]) (fx := []) 2 rfl (by decide +kernel) ?_
  simp only [m63, EV, Nat.reduceEqDiff, Nat.reduceBEq, Nat.reduceLT, Nat.reduceLeDiff, Nat.reduceAdd, Nat.reduceSub, reduceIte]
  refine callK_i (d55 l hl hs) ?_
  simp only [EV, Nat.reduceEqDiff, Nat.reduceBEq, Nat.reduceLT, Nat.reduceLeDiff, Nat.reduceAdd, Nat.reduceSub, reduceIte]
  rcases e : tabOk l with _ | _
  · simp only [EV, Nat.reduceEqDiff, Nat.reduceBEq, Nat.reduceLT, Nat.reduceLeDiff, Nat.reduceAdd, Nat.reduceSub, reduceIte]
    simp only [recOk, e, Bool.false_and, EV, Nat.reduceEqDiff, Nat.reduceBEq, Nat.reduceLT, Nat.reduceLeDiff, Nat.reduceAdd, Nat.reduceSub, reduceIte, evRE, retVC, cellV', evR, nfz, nfzs, nfzss, List.contains_nil, List.contains_cons, Bool.or_false, or_true]
  · simp only [EV, Nat.reduceEqDiff, Nat.reduceBEq, Nat.reduceLT, Nat.reduceLeDiff, Nat.reduceAdd, Nat.reduceSub, reduceIte]
    refine callK_i (d56 l n hl) ?_
    simp only [EV, Nat.reduceEqDiff, Nat.reduceBEq, Nat.reduceLT, Nat.reduceLeDiff, Nat.reduceAdd, Nat.reduceSub, reduceIte]
    simp only [recOk, e, Bool.true_and, EV, Nat.reduceEqDiff, Nat.reduceBEq, Nat.reduceLT, Nat.reduceLeDiff, Nat.reduceAdd, Nat.reduceSub, reduceIte, evRE, retVC, cellV', evR, nfz, nfzs, nfzss, List.contains_nil, List.contains_cons, Bool.or_false, or_true]

/-- loop.example/g00837/spec.l10Record -/
def m68 : MC :=
  (.seq
   (.reg [⟨(some 4), none, .a (.asg (.c (.bool false)))⟩])
   (.seq
    (.reg [⟨(some 5), none, .q (.mov (.t 0))⟩,
      ⟨(some 6), none, .a (.call (.fn 58) false [.lend (.t 5)])⟩,
      ⟨(some 7), none, .q (.mov (.t 6))⟩,
      ⟨(some 8), (some (7, true)), .q (.mov (.t 0))⟩,
      ⟨(some 9), (some (7, true)), .q (.mov (.t 1))⟩,
      ⟨(some 10), (some (7, true)), .a (.call (.fn 59) false [.lend (.t 8), .lend (.t 9), .lend (.c (.int .i64 5)), .lend (.c (.int .i64 5))])⟩,
      ⟨(some 11), none, .q (.pick (.t 7) (.t 10) (.c (.bool false)))⟩,
      ⟨(some 4), none, .a (.asg (.t 11))⟩])
    .ret))

theorem d68 (l : List Ty) (n : Int) (hl : (l.length : Int) ≤ 1048576) (hs : ∀ s ∈ l, s.sm) : Does Go.Proofs.Tryz.prog 68 [.fsl 6 (l.map Ty.z), .v (.int .i64 n)] false (.v (.bool (recOk l n))) [.dead, .dead] := by
  refine does_intro (mc := m68) (N := 12) (rs := [4]) (fx := []) 2 rfl (by decide +kernel) ?_
  simp only [m68, EV, Nat.reduceEqDiff, Nat.reduceBEq, Nat.reduceLT, Nat.reduceLeDiff, Nat.reduceAdd, Nat.reduceSub, reduceIte]
  refine callK_i (d58 l hl hs) ?_
  simp only [EV, Nat.reduceEqDiff, Nat.reduceBEq, Nat.reduceLT, Nat.reduceLeDiff, Nat.reduceAdd, Nat.reduceSub, reduceIte]
  rcases e : tabOk l with _ | _
  · simp only [EV, Nat.reduceEqDiff, Nat.reduceBEq, Nat.reduceLT, Nat.reduceLeDiff, Nat.reduceAdd, Nat.reduceSub, reduceIte]
    simp only [recOk, e, Bool.false_and, EV, Nat.reduceEqDiff, Nat.reduceBEq, Nat.reduceLT, Nat.reduceLeDiff, Nat.reduceAdd, Nat.reduceSub, reduceIte, evRE, retVC, cellV', evR, nfz, nfzs, nfzss, List.contains_nil, List.contains_cons, Bool.or_false, or_true]
  · simp only [EV, Nat.reduceEqDiff, Nat.reduceBEq, Nat.reduceLT, Nat.reduceLeDiff, Nat.reduceAdd, Nat.reduceSub, reduceIte]
    refine callK_i (d59 l n 5 5 hl) ?_
    rw [kindIn_same]
    simp only [EV, Nat.reduceEqDiff, Nat.reduceBEq, Nat.reduceLT, Nat.reduceLeDiff, Nat.reduceAdd, Nat.reduceSub, reduceIte]
    have e2 : (isNum l n && kd l n == 5) = isRec l n := rfl
    simp only [recOk, e, e2, Bool.true_and, EV, Nat.reduceEqDiff, Nat.reduceBEq, Nat.reduceLT, Nat.reduceLeDiff, Nat.reduceAdd, Nat.reduceSub, reduceIte, evRE, retVC, cellV', evR, nfz, nfzs, nfzss, List.contains_nil, List.contains_cons, Bool.or_false, or_true]

/-- loop.example/g00837/impl.line -/
def m133 : MC :=
  (.seq
   (.reg [⟨(some 4), none, .a (.asg (.nils 3 1))⟩])
   (.seq
    (.reg [⟨(some 6), none, .a (.bsl 3 1 [])⟩,
      ⟨(some 5), none, .a (.asg (.t 6))⟩])
    (.seq
     (.block 0
      (.loop [0, 1, 5, 6, 17]
       (.seq
        (.seq
         (.reg [⟨(some 7), none, .q (.mov (.t 1))⟩,
           ⟨(some 8), none, .q (.bin false .geq (.t 7) (.c (.int .i64 0)))⟩])
         (.cond (.t 8)
          .skip
          (.exit 0)))
        (.seq
         (.block 1
          (.reg [⟨(some 14), none, .q (.mov (.t 5))⟩,
            ⟨(some 15), none, .q (.mov (.t 1))⟩,
            ⟨(some 16), none, .a (.bsl 3 1 [.t 15])⟩,
            ⟨(some 17), none, .a (.app true 3 1 8 (.t 14) (.t 16))⟩,
            ⟨(some 5), none, .a (.asg (.t 17))⟩]))
         (.reg [⟨(some 9), none, .q (.mov (.t 0))⟩,
           ⟨(some 10), none, .q (.mov (.t 1))⟩,
           ⟨(some 11), none, .q (.iad 6 (.t 9) (.t 10))⟩,
           ⟨(some 12), none, .q (.fad 2 (.t 11))⟩,
           ⟨(some 13), none, .q (.load false 1 (.t 12))⟩,
           ⟨(some 1), none, .a (.asg (.t 13))⟩])))))
     (.seq
      (.reg [⟨(some 18), none, .q (.mov (.t 5))⟩,
        ⟨(some 4), none, .a (.asg (.t 18))⟩])
      .ret))))

set_option maxRecDepth 100000 in
theorem d133 (l : List Ty) (n0 : Int) (hl : (l.length : Int) ≤ 1048576) (ht : tabOk l = true) (h0 : isL l n0) : Does Go.Proofs.Tryz.prog 133 [.fsl 6 (l.map Ty.z), .v (.int .i64 n0)] false (.usl 3 1 ((lineL l n0).map iv)) [.dead, .dead] := by
  refine does_intro (mc := m133) (N := 19) (rs := [4]) (fx := []) 2 rfl (by decide +kernel) ?_
  simp only [m133, EV, Nat.reduceEqDiff, Nat.reduceBEq, Nat.reduceLT, Nat.reduceLeDiff, Nat.reduceAdd, Nat.reduceSub, reduceIte]
  refine awp_loop (fun p : List Int × Int => isL l p.2 ∧ lineL l n0 = p.1 ++ lineL l p.2) (fun p => stl [(0, .fsl 6 (l.map Ty.z)), (1, .v (.int .i64 p.2)), (5, .usl 3 1 (p.1.map iv)), (6, .dead), (17, .dead)]) (fun p => (lineL l p.2).length) ([], n0) ⟨h0, rfl⟩ ?_ ?_
  · simp only [EV, Nat.reduceEqDiff, Nat.reduceBEq, Nat.reduceLT, Nat.reduceLeDiff, Nat.reduceAdd, Nat.reduceSub, reduceIte]
  · rintro ⟨out, n⟩ ⟨hn, he⟩
    simp only at hn he
    simp only [EV, Nat.reduceEqDiff, Nat.reduceBEq, Nat.reduceLT, Nat.reduceLeDiff, Nat.reduceAdd, Nat.reduceSub, reduceIte]
    refine cK_cut (fun h => ?_) (fun h => ?_)
    · have hr : isRec l n = true := hn.resolve_left (by have : 0 ≤ n := by simpa using h
                                                        omega)
      obtain ⟨g0, g1, gn, _⟩ := isRec_in hr
      have hle := lineL_len l n0
      have h24 := tabOk_len ht
      rw [he, List.length_append] at hle
      have hlr := lineL_rec ht hr
      have hb := (isRec_base (tabOk_tys ht) hr).1
      rw [hlr] at he
      clear h
      simp only [g0, g1, nth_map gn, iv, Ty.z, EV, Nat.reduceEqDiff, Nat.reduceBEq, Nat.reduceLT, Nat.reduceLeDiff, Nat.reduceAdd, Nat.reduceSub, reduceIte]
      refine ⟨by omega, by omega, (out ++ [n], baseAt l n), ⟨hb, by rw [he]; simp⟩, by simp only; rw [hlr]; simp, ?_⟩
      rw [List.map_append, baseAt_eq gn]
      rfl
    · have hneg : n < 0 := by have : ¬ 0 ≤ n := by simpa using h
                              omega
      rw [lineL_neg hneg, List.append_nil] at he
      subst he
      simp only [EV, Nat.reduceEqDiff, Nat.reduceBEq, Nat.reduceLT, Nat.reduceLeDiff, Nat.reduceAdd, Nat.reduceSub, reduceIte]
      simp only [iv_nfz, EV, Nat.reduceEqDiff, Nat.reduceBEq, Nat.reduceLT, Nat.reduceLeDiff, Nat.reduceAdd, Nat.reduceSub, reduceIte, evRE, retVC, cellV', evR, nfz, nfzs, nfzss, List.contains_nil, List.contains_cons, Bool.or_false, or_true]

end Go.AM
namespace Go.AM
set_option linter.unusedVariables false
set_option linter.unusedSimpArgs false
theorem line_contains_rec {l : List Ty} (ht : tabOk l = true) {n b : Int} (h : isRec l n = true) : (lineL l n).contains b = ((n == b) || (lineL l (baseAt l n)).contains b) := by
  rw [lineL_rec ht h, List.contains_cons, Bool.beq_comm]

/-- loop.example/g00837/impl.extends -/
def m57 : MC :=
  (.seq
   (.reg [⟨(some 6), none, .a (.asg (.c (.bool false)))⟩])
   (.seq
    (.block 0
     (.loop [0, 1, 2]
      (.seq
       (.seq
        (.reg [⟨(some 7), none, .q (.mov (.t 1))⟩,
          ⟨(some 8), none, .q (.bin false .geq (.t 7) (.c (.int .i64 0)))⟩,
          ⟨(some 9), none, .q (.mov (.t 8))⟩,
          ⟨(some 10), (some (9, true)), .q (.mov (.t 1))⟩,
          ⟨(some 11), (some (9, true)), .q (.mov (.t 2))⟩,
          ⟨(some 12), (some (9, true)), .q (.bin false .neq (.t 10) (.t 11))⟩,
          ⟨(some 13), none, .q (.pick (.t 9) (.t 12) (.c (.bool false)))⟩])
        (.cond (.t 13)
         .skip
         (.exit 0)))
       (.block 1
        (.reg [⟨(some 14), none, .q (.mov (.t 0))⟩,
          ⟨(some 15), none, .q (.mov (.t 1))⟩,
          ⟨(some 16), none, .q (.iad 6 (.t 14) (.t 15))⟩,
          ⟨(some 17), none, .q (.fad 2 (.t 16))⟩,
          ⟨(some 18), none, .q (.load false 1 (.t 17))⟩,
          ⟨(some 1), none, .a (.asg (.t 18))⟩])))))
    (.seq
     (.reg [⟨(some 19), none, .q (.mov (.t 1))⟩,
       ⟨(some 20), none, .q (.mov (.t 2))⟩,
       ⟨(some 21), none, .q (.bin false .eql (.t 19) (.t 20))⟩,
       ⟨(some 6), none, .a (.asg (.t 21))⟩])
     .ret)))

set_option maxRecDepth 100000 in
theorem d57 (l : List Ty) (a0 b : Int) (hl : (l.length : Int) ≤ 1048576) (ht : tabOk l = true) (h0 : isL l a0) (hb : 0 ≤ b) : Does Go.Proofs.Tryz.prog 57 [.fsl 6 (l.map Ty.z), .v (.int .i64 a0), .v (.int .i64 b)] false (.v (.bool ((lineL l a0).contains b))) [.dead, .dead, .dead] := by
  refine does_intro (mc := m57) (N := 22) (rs := [6]) (fx := []) 3 rfl (by decide +kernel) ?_
  simp only [m57, EV, Nat.reduceEqDiff, Nat.reduceBEq, Nat.reduceLT, Nat.reduceLeDiff, Nat.reduceAdd, Nat.reduceSub, reduceIte]
  refine awp_loop (fun a : Int => isL l a ∧ (lineL l a0).contains b = (lineL l a).contains b) (fun a => stl [(0, .fsl 6 (l.map Ty.z)), (1, .v (.int .i64 a)), (2, .v (.int .i64 b))]) (fun a => (lineL l a).length) a0 ⟨h0, rfl⟩ ?_ ?_
  · simp only [EV, Nat.reduceEqDiff, Nat.reduceBEq, Nat.reduceLT, Nat.reduceLeDiff, Nat.reduceAdd, Nat.reduceSub, reduceIte]
  · rintro a ⟨ha, he⟩
    simp only [EV, Nat.reduceEqDiff, Nat.reduceBEq, Nat.reduceLT, Nat.reduceLeDiff, Nat.reduceAdd, Nat.reduceSub, reduceIte]
    refine gK_cut (fun h => ?_) (fun h => ?_)
    · have hr : isRec l a = true := ha.resolve_left (by have : 0 ≤ a := by simpa using h
                                                        omega)
      obtain ⟨g0, g1, gn, _⟩ := isRec_in hr
      have hlr := lineL_rec ht hr
      have hbs := (isRec_base (tabOk_tys ht) hr).1
      have hc := line_contains_rec (b := b) ht hr
      simp only [h, bne, EV, Nat.reduceEqDiff, Nat.reduceBEq, Nat.reduceLT, Nat.reduceLeDiff, Nat.reduceAdd, Nat.reduceSub, reduceIte]
      rcases e : (a == b) with _ | _
      · simp only [Bool.not_false, g0, g1, nth_map gn, Ty.z, EV, Nat.reduceEqDiff, Nat.reduceBEq, Nat.reduceLT, Nat.reduceLeDiff, Nat.reduceAdd, Nat.reduceSub, reduceIte]
        refine ⟨baseAt l a, ⟨hbs, ?_⟩, by rw [hlr]; simp, ?_⟩
        · rw [he, hc, e, Bool.false_or]
        · rw [baseAt_eq gn]
      · have e2 : (lineL l a0).contains b = true := by rw [he, hc, e, Bool.true_or]
        simp only [Bool.not_true, e, EV, Nat.reduceEqDiff, Nat.reduceBEq, Nat.reduceLT, Nat.reduceLeDiff, Nat.reduceAdd, Nat.reduceSub, reduceIte]
        simp only [e2, EV, Nat.reduceEqDiff, Nat.reduceBEq, Nat.reduceLT, Nat.reduceLeDiff, Nat.reduceAdd, Nat.reduceSub, reduceIte, evRE, retVC, cellV', evR, nfz, nfzs, nfzss, List.contains_nil, List.contains_cons, Bool.or_false, or_true]
    · have hn : a < 0 := by have : ¬ 0 ≤ a := by simpa using h
                            omega
      have e1 : (a == b) = false := by simp; omega
      have e2 : (lineL l a0).contains b = false := by rw [he, lineL_neg hn]; rfl
      simp only [h, EV, Nat.reduceEqDiff, Nat.reduceBEq, Nat.reduceLT, Nat.reduceLeDiff, Nat.reduceAdd, Nat.reduceSub, reduceIte]
      simp only [e1, e2, EV, Nat.reduceEqDiff, Nat.reduceBEq, Nat.reduceLT, Nat.reduceLeDiff, Nat.reduceAdd, Nat.reduceSub, reduceIte, evRE, retVC, cellV', evR, nfz, nfzs, nfzss, List.contains_nil, List.contains_cons, Bool.or_false, or_true]

/-- loop.example/g00837/spec.l3Extends -/
def m60 : MC :=
  (.seq
   (.reg [⟨(some 6), none, .a (.asg (.c (.bool false)))⟩])
   (.seq
    (.block 0
     (.loop [0, 1, 2]
      (.seq
       (.seq
        (.reg [⟨(some 7), none, .q (.mov (.t 1))⟩,
          ⟨(some 8), none, .q (.bin false .geq (.t 7) (.c (.int .i64 0)))⟩])
        (.cond (.t 8)
         .skip
         (.exit 0)))
       (.seq
        (.block 1
         (.seq
          (.reg [⟨(some 14), none, .q (.mov (.t 1))⟩,
            ⟨(some 15), none, .q (.mov (.t 2))⟩,
            ⟨(some 16), none, .q (.bin false .eql (.t 14) (.t 15))⟩])
          (.cond (.t 16)
           (.seq
            (.reg [⟨(some 6), none, .a (.asg (.c (.bool true)))⟩])
            .ret)
           .skip)))
        (.reg [⟨(some 9), none, .q (.mov (.t 0))⟩,
          ⟨(some 10), none, .q (.mov (.t 1))⟩,
          ⟨(some 11), none, .q (.iad 6 (.t 9) (.t 10))⟩,
          ⟨(some 12), none, .q (.fad 2 (.t 11))⟩,
          ⟨(some 13), none, .q (.load false 1 (.t 12))⟩,
          ⟨(some 1), none, .a (.asg (.t 13))⟩])))))
    (.seq
     (.reg [⟨(some 6), none, .a (.asg (.c (.bool false)))⟩])
     .ret)))

set_option maxRecDepth 100000 in
theorem d60 (l : List Ty) (a0 b : Int) (hl : (l.length : Int) ≤ 1048576) (ht : tabOk l = true) (h0 : isL l a0) : Does Go.Proofs.Tryz.prog 60 [.fsl 6 (l.map Ty.z), .v (.int .i64 a0), .v (.int .i64 b)] false (.v (.bool ((lineL l a0).contains b))) [.dead, .dead, .dead] := by
  refine does_intro (mc := m60) (N := 17) (rs := [6]) (fx := []) 3 rfl (by decide +kernel) ?_
  simp only [m60, EV, Nat.reduceEqDiff, Nat.reduceBEq, Nat.reduceLT, Nat.reduceLeDiff, Nat.reduceAdd, Nat.reduceSub, reduceIte]
  refine awp_loop (fun a : Int => isL l a ∧ (lineL l a0).contains b = (lineL l a).contains b) (fun a => stl [(0, .fsl 6 (l.map Ty.z)), (1, .v (.int .i64 a)), (2, .v (.int .i64 b))]) (fun a => (lineL l a).length) a0 ⟨h0, rfl⟩ ?_ ?_
  · simp only [EV, Nat.reduceEqDiff, Nat.reduceBEq, Nat.reduceLT, Nat.reduceLeDiff, Nat.reduceAdd, Nat.reduceSub, reduceIte]
  · rintro a ⟨ha, he⟩
    simp only [EV, Nat.reduceEqDiff, Nat.reduceBEq, Nat.reduceLT, Nat.reduceLeDiff, Nat.reduceAdd, Nat.reduceSub, reduceIte]
    refine cK_cut (fun h => ?_) (fun h => ?_)
    · have hr : isRec l a = true := ha.resolve_left (by have : 0 ≤ a := by simpa using h
                                                        omega)
      obtain ⟨g0, g1, gn, _⟩ := isRec_in hr
      have hlr := lineL_rec ht hr
      have hbs := (isRec_base (tabOk_tys ht) hr).1
      have hc := line_contains_rec (b := b) ht hr
      simp only [h, EV, Nat.reduceEqDiff, Nat.reduceBEq, Nat.reduceLT, Nat.reduceLeDiff, Nat.reduceAdd, Nat.reduceSub, reduceIte]
      rcases e : (a == b) with _ | _
      · simp only [g0, g1, nth_map gn, Ty.z, EV, Nat.reduceEqDiff, Nat.reduceBEq, Nat.reduceLT, Nat.reduceLeDiff, Nat.reduceAdd, Nat.reduceSub, reduceIte]
        refine ⟨baseAt l a, ⟨hbs, ?_⟩, by rw [hlr]; simp, ?_⟩
        · rw [he, hc, e, Bool.false_or]
        · rw [baseAt_eq gn]
      · have e2 : (lineL l a0).contains b = true := by rw [he, hc, e, Bool.true_or]
        simp only [EV, Nat.reduceEqDiff, Nat.reduceBEq, Nat.reduceLT, Nat.reduceLeDiff, Nat.reduceAdd, Nat.reduceSub, reduceIte]
        simp only [e2, EV, Nat.reduceEqDiff, Nat.reduceBEq, Nat.reduceLT, Nat.reduceLeDiff, Nat.reduceAdd, Nat.reduceSub, reduceIte, evRE, retVC, cellV', evR, nfz, nfzs, nfzss, List.contains_nil, List.contains_cons, Bool.or_false, or_true]
    · have hn : a < 0 := by have : ¬ 0 ≤ a := by simpa using h
                            omega
      have e2 : (lineL l a0).contains b = false := by rw [he, lineL_neg hn]; rfl
      simp only [h, EV, Nat.reduceEqDiff, Nat.reduceBEq, Nat.reduceLT, Nat.reduceLeDiff, Nat.reduceAdd, Nat.reduceSub, reduceIte]
      simp only [e2, EV, Nat.reduceEqDiff, Nat.reduceBEq, Nat.reduceLT, Nat.reduceLeDiff, Nat.reduceAdd, Nat.reduceSub, reduceIte, evRE, retVC, cellV', evR, nfz, nfzs, nfzss, List.contains_nil, List.contains_cons, Bool.or_false, or_true]

noncomputable def mayT (l : List Ty) (x y : Int) (a b : Ty) : Bool :=
  if (x == y) = true then true else if (a.kind == b.kind) = false then false
  else if (a.kind == 5) = true then (lineL l y).contains x
  else if (a.kind == 6) = true then (a.base == b.base) || (isRec l a.base && (isRec l b.base && (lineL l b.base).contains a.base))
  else if (a.kind == 4) = true then (a.long == b.long) && (a.base == b.base) else false

noncomputable def mayL (l : List Ty) (x y : Int) : Bool := match l[x.toNat]?, l[y.toNat]? with
  | some a, some b => mayT l x y a b
  | _, _ => false

/-- loop.example/g00837/impl.mayPut -/
def m66 : MC :=
  (.seq
   (.reg [⟨(some 6), none, .a (.asg (.c (.bool false)))⟩])
   (.join [0, 1, 2, 7, 8]
    (.mixt [0, 1, 2] [0, 1, 2, 7, 8] [] [0, 1, 2] [0, 1, 2, 3, 4, 5, 6, 7]
      [⟨(some 9), none, .q (.mov (.t 0))⟩,
       ⟨(some 10), none, .q (.mov (.t 1))⟩,
       ⟨(some 11), none, .q (.iad 6 (.t 9) (.t 10))⟩,
       ⟨(some 12), none, .q (.load true 6 (.t 11))⟩,
       ⟨(some 13), none, .q (.mov (.t 0))⟩,
       ⟨(some 14), none, .q (.mov (.t 2))⟩,
       ⟨(some 15), none, .q (.iad 6 (.t 13) (.t 14))⟩,
       ⟨(some 16), none, .q (.load true 6 (.t 15))⟩]
      (.alt (.step 8 ⟨(some 7), none, .a (.alloc 40 [.v (.int .i64 0), .v (.int .i64 0), .v (.int .i64 0), .s 97 3, .v (.string ({ data := #[] })), .v (.string ({ data := #[] }))])⟩
      (.step 9 ⟨(some 8), none, .a (.alloc 40 [.v (.int .i64 0), .v (.int .i64 0), .v (.int .i64 0), .s 97 3, .v (.string ({ data := #[] })), .v (.string ({ data := #[] }))])⟩
       (.step 10 ⟨none, none, .a (.store 6 (.t 7) (.t 12))⟩
        (.step 11 ⟨none, none, .a (.store 6 (.t 8) (.t 16))⟩
         .nil))))
      (.step 9 ⟨(some 8), none, .a (.alloc 40 [.v (.int .i64 0), .v (.int .i64 0), .v (.int .i64 0), .s 97 3, .v (.string ({ data := #[] })), .v (.string ({ data := #[] }))])⟩
      (.step 8 ⟨(some 7), none, .a (.alloc 40 [.v (.int .i64 0), .v (.int .i64 0), .v (.int .i64 0), .s 97 3, .v (.string ({ data := #[] })), .v (.string ({ data := #[] }))])⟩
       (.step 10 ⟨none, none, .a (.store 6 (.t 7) (.t 12))⟩
        (.step 11 ⟨none, none, .a (.store 6 (.t 8) (.t 16))⟩
         .nil))))))
    (.seq
     (.block 0
      (.seq
       (.reg [⟨(some 18), none, .q (.mov (.t 1))⟩,
         ⟨(some 19), none, .q (.mov (.t 2))⟩,
         ⟨(some 20), none, .q (.bin false .eql (.t 18) (.t 19))⟩,
         ⟨(some 17), none, .a (.asg (.t 20))⟩])
       (.cond (.t 17)
        (.seq
         (.reg [⟨(some 6), none, .a (.asg (.c (.bool true)))⟩])
         .ret)
        (.seq
         (.reg [⟨(some 22), none, .q (.fad 0 (.t 7))⟩,
           ⟨(some 23), none, .q (.load false 1 (.t 22))⟩,
           ⟨(some 24), none, .q (.fad 0 (.t 8))⟩,
           ⟨(some 25), none, .q (.load false 1 (.t 24))⟩,
           ⟨(some 26), none, .q (.bin false .neq (.t 23) (.t 25))⟩,
           ⟨(some 21), none, .a (.asg (.t 26))⟩])
         (.cond (.t 21)
          (.seq
           (.reg [⟨(some 6), none, .a (.asg (.c (.bool false)))⟩])
           .ret)
          .skip)))))
     (.seq
      (.seq
       (.reg [⟨(some 27), none, .q (.fad 0 (.t 7))⟩,
         ⟨(some 28), none, .q (.load false 1 (.t 27))⟩])
       (.block 1
        (.seq
         (.reg [⟨(some 30), none, .q (.bin false .eql (.t 28) (.c (.int .i64 5)))⟩,
           ⟨(some 29), none, .a (.asg (.t 30))⟩])
         (.cond (.t 29)
          (.seq
           (.reg [⟨(some 31), none, .q (.mov (.t 0))⟩,
             ⟨(some 32), none, .q (.mov (.t 2))⟩,
             ⟨(some 33), none, .q (.mov (.t 1))⟩,
             ⟨(some 34), none, .a (.call (.fn 57) false [.lend (.t 31), .lend (.t 32), .lend (.t 33)])⟩,
             ⟨(some 6), none, .a (.asg (.t 34))⟩])
           .ret)
          (.seq
           (.reg [⟨(some 36), none, .q (.bin false .eql (.t 28) (.c (.int .i64 6)))⟩,
             ⟨(some 35), none, .a (.asg (.t 36))⟩])
           (.cond (.t 35)
            (.seq
             (.reg [⟨(some 37), none, .q (.fad 2 (.t 7))⟩,
               ⟨(some 38), none, .q (.load false 1 (.t 37))⟩,
               ⟨(some 39), none, .q (.fad 2 (.t 8))⟩,
               ⟨(some 40), none, .q (.load false 1 (.t 39))⟩,
               ⟨(some 41), none, .q (.bin false .eql (.t 38) (.t 40))⟩,
               ⟨(some 42), none, .q (.mov (.t 41))⟩,
               ⟨(some 43), (some (42, false)), .q (.mov (.t 0))⟩,
               ⟨(some 44), (some (42, false)), .q (.fad 2 (.t 7))⟩,
               ⟨(some 45), (some (42, false)), .q (.load false 1 (.t 44))⟩,
               ⟨(some 46), (some (42, false)), .a (.call (.fn 56) false [.lend (.t 43), .lend (.t 45)])⟩,
               ⟨(some 47), (some (42, false)), .q (.mov (.t 46))⟩,
               ⟨(some 48), (some (47, true)), .q (.mov (.t 0))⟩,
               ⟨(some 49), (some (47, true)), .q (.fad 2 (.t 8))⟩,
               ⟨(some 50), (some (47, true)), .q (.load false 1 (.t 49))⟩,
               ⟨(some 51), (some (47, true)), .a (.call (.fn 56) false [.lend (.t 48), .lend (.t 50)])⟩,
               ⟨(some 52), (some (42, false)), .q (.pick (.t 47) (.t 51) (.c (.bool false)))⟩,
               ⟨(some 53), (some (42, false)), .q (.mov (.t 52))⟩,
               ⟨(some 54), (some (53, true)), .q (.mov (.t 0))⟩,
               ⟨(some 55), (some (53, true)), .q (.fad 2 (.t 8))⟩,
               ⟨(some 56), (some (53, true)), .q (.load false 1 (.t 55))⟩,
               ⟨(some 57), (some (53, true)), .q (.fad 2 (.t 7))⟩,
               ⟨(some 58), (some (53, true)), .q (.load false 1 (.t 57))⟩,
               ⟨(some 59), (some (53, true)), .a (.call (.fn 57) false [.lend (.t 54), .lend (.t 56), .lend (.t 58)])⟩,
               ⟨(some 60), (some (42, false)), .q (.pick (.t 53) (.t 59) (.c (.bool false)))⟩,
               ⟨(some 61), none, .q (.pick (.t 42) (.c (.bool true)) (.t 60))⟩,
               ⟨(some 6), none, .a (.asg (.t 61))⟩])
             .ret)
            (.seq
             (.reg [⟨(some 63), none, .q (.bin false .eql (.t 28) (.c (.int .i64 4)))⟩,
               ⟨(some 62), none, .a (.asg (.t 63))⟩])
             (.cond (.t 62)
              (.seq
               (.reg [⟨(some 64), none, .q (.fad 1 (.t 7))⟩,
                 ⟨(some 65), none, .q (.load false 1 (.t 64))⟩,
                 ⟨(some 66), none, .q (.fad 1 (.t 8))⟩,
                 ⟨(some 67), none, .q (.load false 1 (.t 66))⟩,
                 ⟨(some 68), none, .q (.bin false .eql (.t 65) (.t 67))⟩,
                 ⟨(some 69), none, .q (.mov (.t 68))⟩,
                 ⟨(some 70), (some (69, true)), .q (.fad 2 (.t 7))⟩,
                 ⟨(some 71), (some (69, true)), .q (.load false 1 (.t 70))⟩,
                 ⟨(some 72), (some (69, true)), .q (.fad 2 (.t 8))⟩,
                 ⟨(some 73), (some (69, true)), .q (.load false 1 (.t 72))⟩,
                 ⟨(some 74), (some (69, true)), .q (.bin false .eql (.t 71) (.t 73))⟩,
                 ⟨(some 75), none, .q (.pick (.t 69) (.t 74) (.c (.bool false)))⟩,
                 ⟨(some 6), none, .a (.asg (.t 75))⟩])
               .ret)
              .skip))))))))
      (.seq
       (.reg [⟨(some 6), none, .a (.asg (.c (.bool false)))⟩])
       .ret)))))

set_option maxHeartbeats 1000000 in
set_option maxRecDepth 100000 in
theorem d66 (l : List Ty) (x y : Int) (hl : (l.length : Int) ≤ 1048576) (ht : tabOk l = true) (hx : 0 ≤ x ∧ x < (l.length : Int)) (hy : 0 ≤ y ∧ y < (l.length : Int)) :
    Does Go.Proofs.Tryz.prog 66 [.fsl 6 (l.map Ty.z), .v (.int .i64 x), .v (.int .i64 y)] false (.v (.bool (mayL l x y))) [.dead, .dead, .dead] := by
  have hxn : x.toNat < l.length := by omega
  have hyn : y.toNat < l.length := by omega
  have em : mayL l x y = mayT l x y l[x.toNat] l[y.toNat] := by simp [mayL, hxn, hyn]
  rw [em]
  refine does_intro (mc := m66) (N := 76) (rs := [6]) (fx := []) 3 rfl (by decide +kernel) ?_
  simp only [m66, EV, Nat.reduceEqDiff, Nat.reduceBEq, Nat.reduceLT, Nat.reduceLeDiff, Nat.reduceAdd, Nat.reduceSub, reduceIte]
  refine awp_join (fun _ : Unit => True) (fun _ => stl [(0, .fsl 6 (l.map Ty.z)), (1, .v (.int .i64 x)), (2, .v (.int .i64 y)), (7, .box 40 l[x.toNat].z), (8, .box 40 l[y.toNat].z)]) ?_ ?_
  · simp only [hx.1, hx.2, hy.1, hy.2, nth_map hxn, nth_map hyn, Ty.z, EV, Nat.reduceEqDiff, Nat.reduceBEq, Nat.reduceLT, Nat.reduceLeDiff, Nat.reduceAdd, Nat.reduceSub, reduceIte]
    exact ⟨(), trivial⟩
  rintro _ _
  have Gx := tysOk_good (tabOk_tys ht) hxn
  have Gy := tysOk_good (tabOk_tys ht) hyn
  have hkx : l[x.toNat].kind = kd l x := by simp [kd, hxn]
  have hky : l[y.toNat].kind = kd l y := by simp [kd, hyn]
  have hnx : isNum l x = true := isNum_in.2 hx
  have hny : isNum l y = true := isNum_in.2 hy
  rcases e1 : (x == y) with _ | _
  rotate_left
  · have e : mayT l x y l[x.toNat] l[y.toNat] = true := by unfold mayT; rw [if_pos e1]
    simp only [e1, Ty.z, EV, Nat.reduceEqDiff, Nat.reduceBEq, Nat.reduceLT, Nat.reduceLeDiff, Nat.reduceAdd, Nat.reduceSub, reduceIte]
    simp only [e, EV, Nat.reduceEqDiff, Nat.reduceBEq, Nat.reduceLT, Nat.reduceLeDiff, Nat.reduceAdd, Nat.reduceSub, reduceIte, evRE, retVC, cellV', evR, nfz, nfzs, nfzss, List.contains_nil, List.contains_cons, Bool.or_false, or_true]
  rcases e2 : (l[x.toNat].kind == l[y.toNat].kind) with _ | _
  · have e : mayT l x y l[x.toNat] l[y.toNat] = false := by unfold mayT; rw [e1, e2]; rfl
    simp only [e1, e2, bne, Bool.not_false, Ty.z, EV, Nat.reduceEqDiff, Nat.reduceBEq, Nat.reduceLT, Nat.reduceLeDiff, Nat.reduceAdd, Nat.reduceSub, reduceIte]
    simp only [e, EV, Nat.reduceEqDiff, Nat.reduceBEq, Nat.reduceLT, Nat.reduceLeDiff, Nat.reduceAdd, Nat.reduceSub, reduceIte, evRE, retVC, cellV', evR, nfz, nfzs, nfzss, List.contains_nil, List.contains_cons, Bool.or_false, or_true]
  rcases e5 : (l[x.toNat].kind == 5) with _ | _
  rotate_left
  · have e : mayT l x y l[x.toNat] l[y.toNat] = (lineL l y).contains x := by unfold mayT; rw [e1, e2, e5]; rfl
    have k5 : l[x.toNat].kind = 5 := by simpa using e5
    have k2 : l[x.toNat].kind = l[y.toNat].kind := by simpa using e2
    have hr : isRec l y = true := by
      simp only [isRec, hny, Bool.true_and, beq_iff_eq]; omega
    simp only [e1, e2, e5, bne, Bool.not_true, Ty.z, EV, Nat.reduceEqDiff, Nat.reduceBEq, Nat.reduceLT, Nat.reduceLeDiff, Nat.reduceAdd, Nat.reduceSub, reduceIte]
    refine callK_i (d57 l y x hl ht (.inr hr) hx.1) ?_
    simp only [EV, Nat.reduceEqDiff, Nat.reduceBEq, Nat.reduceLT, Nat.reduceLeDiff, Nat.reduceAdd, Nat.reduceSub, reduceIte]
    simp only [e, EV, Nat.reduceEqDiff, Nat.reduceBEq, Nat.reduceLT, Nat.reduceLeDiff, Nat.reduceAdd, Nat.reduceSub, reduceIte, evRE, retVC, cellV', evR, nfz, nfzs, nfzss, List.contains_nil, List.contains_cons, Bool.or_false, or_true]
  rcases e6 : (l[x.toNat].kind == 6) with _ | _
  rotate_left
  · have e : mayT l x y l[x.toNat] l[y.toNat] = ((l[x.toNat].base == l[y.toNat].base) || (isRec l l[x.toNat].base && (isRec l l[y.toNat].base && (lineL l l[y.toNat].base).contains l[x.toNat].base))) := by unfold mayT; rw [e1, e2, e5, e6]; rfl
    rw [e]
    simp only [e1, e2, e5, e6, bne, Bool.not_true, Ty.z, EV, Nat.reduceEqDiff, Nat.reduceBEq, Nat.reduceLT, Nat.reduceLeDiff, Nat.reduceAdd, Nat.reduceSub, reduceIte]
    rcases b1 : (l[x.toNat].base == l[y.toNat].base) with _ | _
    rotate_left
    · simp only [b1, EV, Nat.reduceEqDiff, Nat.reduceBEq, Nat.reduceLT, Nat.reduceLeDiff, Nat.reduceAdd, Nat.reduceSub, reduceIte]
      simp only [b1, Bool.true_or, EV, Nat.reduceEqDiff, Nat.reduceBEq, Nat.reduceLT, Nat.reduceLeDiff, Nat.reduceAdd, Nat.reduceSub, reduceIte, evRE, retVC, cellV', evR, nfz, nfzs, nfzss, List.contains_nil, List.contains_cons, Bool.or_false, or_true]
    simp only [b1, Ty.z, EV, Nat.reduceEqDiff, Nat.reduceBEq, Nat.reduceLT, Nat.reduceLeDiff, Nat.reduceAdd, Nat.reduceSub, reduceIte]
    refine callK_i (d56 l _ hl) ?_
    simp only [Ty.z, EV, Nat.reduceEqDiff, Nat.reduceBEq, Nat.reduceLT, Nat.reduceLeDiff, Nat.reduceAdd, Nat.reduceSub, reduceIte]
    rcases b2 : isRec l l[x.toNat].base with _ | _
    · simp only [EV, Nat.reduceEqDiff, Nat.reduceBEq, Nat.reduceLT, Nat.reduceLeDiff, Nat.reduceAdd, Nat.reduceSub, reduceIte]
      simp only [b1, b2, Bool.false_or, Bool.false_and, EV, Nat.reduceEqDiff, Nat.reduceBEq, Nat.reduceLT, Nat.reduceLeDiff, Nat.reduceAdd, Nat.reduceSub, reduceIte, evRE, retVC, cellV', evR, nfz, nfzs, nfzss, List.contains_nil, List.contains_cons, Bool.or_false, or_true]
    simp only [Ty.z, EV, Nat.reduceEqDiff, Nat.reduceBEq, Nat.reduceLT, Nat.reduceLeDiff, Nat.reduceAdd, Nat.reduceSub, reduceIte]
    refine callK_i (d56 l _ hl) ?_
    simp only [Ty.z, EV, Nat.reduceEqDiff, Nat.reduceBEq, Nat.reduceLT, Nat.reduceLeDiff, Nat.reduceAdd, Nat.reduceSub, reduceIte]
    rcases b3 : isRec l l[y.toNat].base with _ | _
    · simp only [EV, Nat.reduceEqDiff, Nat.reduceBEq, Nat.reduceLT, Nat.reduceLeDiff, Nat.reduceAdd, Nat.reduceSub, reduceIte]
      simp only [b1, b2, b3, Bool.false_or, Bool.false_and, Bool.true_and, EV, Nat.reduceEqDiff, Nat.reduceBEq, Nat.reduceLT, Nat.reduceLeDiff, Nat.reduceAdd, Nat.reduceSub, reduceIte, evRE, retVC, cellV', evR, nfz, nfzs, nfzss, List.contains_nil, List.contains_cons, Bool.or_false, or_true]
    simp only [Ty.z, EV, Nat.reduceEqDiff, Nat.reduceBEq, Nat.reduceLT, Nat.reduceLeDiff, Nat.reduceAdd, Nat.reduceSub, reduceIte]
    refine callK_i (d57 l _ _ hl ht (.inr b3) (isRec_in b2).1) ?_
    simp only [EV, Nat.reduceEqDiff, Nat.reduceBEq, Nat.reduceLT, Nat.reduceLeDiff, Nat.reduceAdd, Nat.reduceSub, reduceIte]
    simp only [b1, b2, b3, Bool.false_or, Bool.true_and, EV, Nat.reduceEqDiff, Nat.reduceBEq, Nat.reduceLT, Nat.reduceLeDiff, Nat.reduceAdd, Nat.reduceSub, reduceIte, evRE, retVC, cellV', evR, nfz, nfzs, nfzss, List.contains_nil, List.contains_cons, Bool.or_false, or_true]
  rcases e4 : (l[x.toNat].kind == 4) with _ | _
  · have e : mayT l x y l[x.toNat] l[y.toNat] = false := by unfold mayT; rw [e1, e2, e5, e6, e4]; rfl
    simp only [e1, e2, e5, e6, e4, bne, Bool.not_true, Ty.z, EV, Nat.reduceEqDiff, Nat.reduceBEq, Nat.reduceLT, Nat.reduceLeDiff, Nat.reduceAdd, Nat.reduceSub, reduceIte]
    simp only [e, EV, Nat.reduceEqDiff, Nat.reduceBEq, Nat.reduceLT, Nat.reduceLeDiff, Nat.reduceAdd, Nat.reduceSub, reduceIte, evRE, retVC, cellV', evR, nfz, nfzs, nfzss, List.contains_nil, List.contains_cons, Bool.or_false, or_true]
  · have e : mayT l x y l[x.toNat] l[y.toNat] = ((l[x.toNat].long == l[y.toNat].long) && (l[x.toNat].base == l[y.toNat].base)) := by unfold mayT; rw [e1, e2, e5, e6, e4]; rfl
    rw [e]
    simp only [e1, e2, e5, e6, e4, bne, Bool.not_true, Ty.z, EV, Nat.reduceEqDiff, Nat.reduceBEq, Nat.reduceLT, Nat.reduceLeDiff, Nat.reduceAdd, Nat.reduceSub, reduceIte]
    rcases b1 : (l[x.toNat].long == l[y.toNat].long) with _ | _
    · simp only [EV, Nat.reduceEqDiff, Nat.reduceBEq, Nat.reduceLT, Nat.reduceLeDiff, Nat.reduceAdd, Nat.reduceSub, reduceIte]
      simp only [b1, Bool.false_and, EV, Nat.reduceEqDiff, Nat.reduceBEq, Nat.reduceLT, Nat.reduceLeDiff, Nat.reduceAdd, Nat.reduceSub, reduceIte, evRE, retVC, cellV', evR, nfz, nfzs, nfzss, List.contains_nil, List.contains_cons, Bool.or_false, or_true]
    · simp only [EV, Nat.reduceEqDiff, Nat.reduceBEq, Nat.reduceLT, Nat.reduceLeDiff, Nat.reduceAdd, Nat.reduceSub, reduceIte]
      simp only [b1, Bool.true_and, EV, Nat.reduceEqDiff, Nat.reduceBEq, Nat.reduceLT, Nat.reduceLeDiff, Nat.reduceAdd, Nat.reduceSub, reduceIte, evRE, retVC, cellV', evR, nfz, nfzs, nfzss, List.contains_nil, List.contains_cons, Bool.or_false, or_true]

/-- Are these good types, and numbers of theirs? -/
noncomputable def numsOk (l : List Ty) (x y : Int) : Bool := tabOk l && (isNum l x && isNum l y)

/-- loop.example/g00837/impl.MayPut -/
def m19 : MC :=
  (.seq
   (.reg [⟨(some 6), none, .a (.asg (.c (.bool false)))⟩,
     ⟨(some 7), none, .a (.asg (.c (.bool false)))⟩])
   (.seq
    (.seq
     (.reg [⟨(some 8), none, .q (.mov (.t 0))⟩,
       ⟨(some 9), none, .a (.call (.fn 55) false [.lend (.t 8)])⟩,
       ⟨(some 10), none, .q (.un .not (.t 9))⟩,
       ⟨(some 11), none, .q (.mov (.t 10))⟩,
       ⟨(some 12), (some (11, false)), .q (.mov (.t 0))⟩,
       ⟨(some 13), (some (11, false)), .q (.mov (.t 1))⟩,
       ⟨(some 14), (some (11, false)), .a (.call (.fn 61) false [.lend (.t 12), .lend (.t 13)])⟩,
       ⟨(some 15), (some (11, false)), .q (.un .not (.t 14))⟩,
       ⟨(some 16), none, .q (.pick (.t 11) (.c (.bool true)) (.t 15))⟩,
       ⟨(some 17), none, .q (.mov (.t 16))⟩,
       ⟨(some 18), (some (17, false)), .q (.mov (.t 0))⟩,
       ⟨(some 19), (some (17, false)), .q (.mov (.t 2))⟩,
       ⟨(some 20), (some (17, false)), .a (.call (.fn 61) false [.lend (.t 18), .lend (.t 19)])⟩,
       ⟨(some 21), (some (17, false)), .q (.un .not (.t 20))⟩,
       ⟨(some 22), none, .q (.pick (.t 17) (.c (.bool true)) (.t 21))⟩])
     (.cond (.t 22)
      (.seq
       (.reg [⟨(some 6), none, .a (.asg (.c (.bool false)))⟩,
         ⟨(some 7), none, .a (.asg (.c (.bool false)))⟩])
       .ret)
      .skip))
    (.seq
     (.reg [⟨(some 23), none, .q (.mov (.t 0))⟩,
       ⟨(some 24), none, .q (.mov (.t 1))⟩,
       ⟨(some 25), none, .q (.mov (.t 2))⟩,
       ⟨(some 26), none, .a (.call (.fn 66) false [.lend (.t 23), .lend (.t 24), .lend (.t 25)])⟩,
       ⟨(some 6), none, .a (.asg (.t 26))⟩,
       ⟨(some 7), none, .a (.asg (.c (.bool true)))⟩])
     .ret)))

set_option maxRecDepth 100000 in
theorem d19 (l : List Ty) (x y : Int) (hl : (l.length : Int) ≤ 1048576) (hs : ∀ s ∈ l, s.sm) : Does Go.Proofs.Tryz.prog 19 [.fsl 6 (l.map Ty.z), .v (.int .i64 x), .v (.int .i64 y)] false (.tup [.v (.bool (numsOk l x y && mayL l x y)), .v (.bool (numsOk l x y))]) [.dead, .dead, .dead] := by
  refine does_intro (mc := m19) (N := 27) (rs := [6, 7]) (fx := []) 3 rfl (by decide +kernel) ?_
  simp only [m19, EV, Nat.reduceEqDiff, Nat.reduceBEq, Nat.reduceLT, Nat.reduceLeDiff, Nat.reduceAdd, Nat.reduceSub, reduceIte]
  refine callK_i (d55 l hl hs) ?_
  simp only [EV, Nat.reduceEqDiff, Nat.reduceBEq, Nat.reduceLT, Nat.reduceLeDiff, Nat.reduceAdd, Nat.reduceSub, reduceIte]
  rcases ht : tabOk l with _ | _
  · simp only [Bool.not_false, EV, Nat.reduceEqDiff, Nat.reduceBEq, Nat.reduceLT, Nat.reduceLeDiff, Nat.reduceAdd, Nat.reduceSub, reduceIte]
    simp only [numsOk, ht, Bool.false_and, EV, Nat.reduceEqDiff, Nat.reduceBEq, Nat.reduceLT, Nat.reduceLeDiff, Nat.reduceAdd, Nat.reduceSub, reduceIte, evRE, retVC, cellV', evR, nfz, nfzs, nfzss, List.contains_nil, List.contains_cons, Bool.or_false, or_true]
  simp only [Bool.not_true, EV, Nat.reduceEqDiff, Nat.reduceBEq, Nat.reduceLT, Nat.reduceLeDiff, Nat.reduceAdd, Nat.reduceSub, reduceIte]
  refine callK_i (d61 l x hl) ?_
  simp only [EV, Nat.reduceEqDiff, Nat.reduceBEq, Nat.reduceLT, Nat.reduceLeDiff, Nat.reduceAdd, Nat.reduceSub, reduceIte]
  rcases hx : isNum l x with _ | _
  · simp only [Bool.not_false, EV, Nat.reduceEqDiff, Nat.reduceBEq, Nat.reduceLT, Nat.reduceLeDiff, Nat.reduceAdd, Nat.reduceSub, reduceIte]
    simp only [numsOk, ht, hx, Bool.false_and, Bool.true_and, EV, Nat.reduceEqDiff, Nat.reduceBEq, Nat.reduceLT, Nat.reduceLeDiff, Nat.reduceAdd, Nat.reduceSub, reduceIte, evRE, retVC, cellV', evR, nfz, nfzs, nfzss, List.contains_nil, List.contains_cons, Bool.or_false, or_true]
  simp only [Bool.not_true, EV, Nat.reduceEqDiff, Nat.reduceBEq, Nat.reduceLT, Nat.reduceLeDiff, Nat.reduceAdd, Nat.reduceSub, reduceIte]
  refine callK_i (d61 l y hl) ?_
  simp only [EV, Nat.reduceEqDiff, Nat.reduceBEq, Nat.reduceLT, Nat.reduceLeDiff, Nat.reduceAdd, Nat.reduceSub, reduceIte]
  rcases hy : isNum l y with _ | _
  · simp only [Bool.not_false, EV, Nat.reduceEqDiff, Nat.reduceBEq, Nat.reduceLT, Nat.reduceLeDiff, Nat.reduceAdd, Nat.reduceSub, reduceIte]
    simp only [numsOk, ht, hx, hy, Bool.false_and, Bool.true_and, EV, Nat.reduceEqDiff, Nat.reduceBEq, Nat.reduceLT, Nat.reduceLeDiff, Nat.reduceAdd, Nat.reduceSub, reduceIte, evRE, retVC, cellV', evR, nfz, nfzs, nfzss, List.contains_nil, List.contains_cons, Bool.or_false, or_true]
  simp only [Bool.not_true, EV, Nat.reduceEqDiff, Nat.reduceBEq, Nat.reduceLT, Nat.reduceLeDiff, Nat.reduceAdd, Nat.reduceSub, reduceIte]
  refine callK_i (d66 l x y hl ht (isNum_in.1 hx) (isNum_in.1 hy)) ?_
  simp only [EV, Nat.reduceEqDiff, Nat.reduceBEq, Nat.reduceLT, Nat.reduceLeDiff, Nat.reduceAdd, Nat.reduceSub, reduceIte]
  simp only [numsOk, ht, hx, hy, Bool.true_and, EV, Nat.reduceEqDiff, Nat.reduceBEq, Nat.reduceLT, Nat.reduceLeDiff, Nat.reduceAdd, Nat.reduceSub, reduceIte, evRE, retVC, cellV', evR, nfz, nfzs, nfzss, List.contains_nil, List.contains_cons, Bool.or_false, or_true]

end Go.AM
