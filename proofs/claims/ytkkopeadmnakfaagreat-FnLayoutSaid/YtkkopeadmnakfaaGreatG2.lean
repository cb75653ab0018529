/- Contracts of functions of the given program, for the law FnLayout: what they return and what they write, under the bounds that each theorem states. -/
import Derived.Test.YtkkopeadmnakfaaGreatG1
import Derived.Shelf.Lay
import Derived.Shelf.Sort.Plain
import Derived.Ground.Names2Prog
import Derived.Shelf.Slices.CompactI
import Derived.Shelf.Slices.In.SortNone
import Derived.RangeFuncNested
import Derived.RangeFuncBound
import Derived.RangeFuncCalls
import Derived.RangeFuncLeaves
set_option linter.unusedVariables false
set_option linter.unusedSimpArgs false
namespace Go.Proofs
open Go.Shelf
shelf_lay Lays.n189 Nm 189 at Tryz as Tryz.laysSort
shelf_lay Lays2.n20 Nm2 20 at Tryz as Tryz.laysCompact
end Go.Proofs
namespace Go.AM
open Go.Sort Go.RowKit
theorem int_cells {w : World} {Fz : Nat → Prop} : ∀ {l : List Int} {xs : List Value} {o : List Nat}, RepRows w Fz 1 (l.map iv) xs o → xs = l.map (Value.int .i64) ∧ o = []
  | [], xs, o, h => by simp only [List.map_nil, RepRows] at h; exact h
  | s :: l, xs, o, h => by
    simp only [List.map_cons, RepRows] at h
    obtain ⟨x1, x2, o1, o2, rfl, rfl, hl, h1, h2⟩ := h
    simp only [iv, RepRow, RepC] at h1
    obtain ⟨x, xs', p1, p2, rfl, rfl, ⟨rfl, _, rfl⟩, rfl, rfl⟩ := h1
    obtain ⟨rfl, rfl⟩ := int_cells h2
    exact ⟨rfl, rfl⟩
theorem cells_int {w : World} {Fz : Nat → Prop} : ∀ (l : List Int), RepRows w Fz 1 (l.map iv) (l.map (Value.int .i64)) []
  | [] => by simp [RepRows]
  | s :: l => by
    simp only [List.map_cons, RepRows]
    exact ⟨[.int .i64 s], _, [], [], rfl, rfl, rfl, by simp only [iv, RepRow, RepC]; exact ⟨_, [], [], [], rfl, rfl, ⟨rfl, rfl, rfl⟩, rfl, rfl⟩, cells_int l⟩
theorem holds_of {w : World} {g h : Nat} {cur : Array Value} {e : Nat} {l : List Int} (hg : w.heap[g]? = some (.cells cur e (0, 0))) (hat : At w g h (l.map (Value.int .i64))) : Holds (Value.int .i64) w g h l.toArray := by
  intro j hj
  have hj' : j < l.length := by simpa using hj
  refine ⟨?_, ?_⟩
  · rw [hat j (Value.int .i64 l[j]) (by simp [hj'])]
    simp [hj']
  · simp [World.frozen?, hg]
theorem put_ext {w : World} {g h n : Nat} {cur : Array Value} {e : Nat} {l m : List Int} {os : Array Obj} (hg : w.heap[g]? = some (.cells cur e (0, 0))) (hat : At w g h (l.map (Value.int .i64))) (hm : m.length = l.length) :
    let w' := grow (putRow (Value.int .i64) (Sort.ahead w n) g h m.toArray) os
    Ext w w' [g] ∧ w'.heap[g]? = some (.cells (putCells (Value.int .i64) h m.toArray cur) e (0, 0)) ∧ (putCells (Value.int .i64) h m.toArray cur).size = cur.size ∧ At w' g h (m.map (Value.int .i64)) ∧ w.heap.size ≤ w'.heap.size := by
  intro w'
  have hlt : g < w.heap.size := by
    rcases Nat.lt_or_ge g w.heap.size with h | h
    · exact h
    · rw [Array.getElem?_eq_none h] at hg; cases hg
  have hb : ∀ b, b < w.heap.size → w'.heap[b]? = (w.heap.modify g (onCells (putCells (Value.int .i64) h m.toArray)))[b]? := by
    intro b hb
    simp only [w', grow, putRow, mapBlock, Sort.ahead]
    rw [Array.getElem?_append_left (by simpa using hb)]
  have hsz : w.heap.size ≤ w'.heap.size := by simp [w', grow, putRow, mapBlock, Sort.ahead]
  have hg' : w'.heap[g]? = some (.cells (putCells (Value.int .i64) h m.toArray cur) e (0, 0)) := by
    rw [hb g hlt, Array.getElem?_modify, if_pos rfl, hg]
    rfl
  refine ⟨⟨rfl, rfl, rfl, hsz, ?_⟩, hg', by simp [putCells], ?_, hsz⟩
  · intro b hb' hn
    rw [hb b hb', Array.getElem?_modify, if_neg (by intro e; exact hn (by simp [e]))]
  · intro j u hj
    have hj' : j < m.length := by
      rcases Nat.lt_or_ge j m.length with h | h
      · exact h
      · simp [h] at hj
    have hc := hat j (Value.int .i64 (l[j]'(by omega))) (by simp [show j < l.length by omega])
    simp only [World.cell?, hg] at hc
    simp only [World.cell?, hg', putCells, Array.getElem?_mapIdx]
    have hc' : cur[h + j]? = some (Value.int .i64 (l[j]'(by omega))) := by simpa using hc
    have hu : u = Value.int .i64 m[j] := by simpa [hj'] using hj.symm
    subst hu
    simp [hc', hj']
def srt (l : List Int) : List Int := l.mergeSort fun x y => decide (x ≤ y)
theorem srt_len (l : List Int) : (srt l).length = l.length := List.length_mergeSort _
theorem srt_mem {l : List Int} {n : Int} : n ∈ srt l ↔ n ∈ l := List.mem_mergeSort
theorem srt_le (l : List Int) : (srt l).Pairwise (· ≤ ·) := by
  have := List.pairwise_mergeSort (le := fun x y : Int => decide (x ≤ y)) (fun a b c h1 h2 => by simp at *; omega) (fun a b => by simp; omega) l
  exact this.imp fun h => by simpa using h
theorem d65 (l : List Int) (hl : (l.length : Int) ≤ 1152921504606846976) : Does Go.Proofs.Tryz.prog 65 [.usl 3 1 (l.map iv)] false (.tup []) [.usl 3 1 ((srt l).map iv)] := by
  refine ⟨by decide +kernel, ?_⟩
  intro w Fz xs os hrep hos hfz hlt
  simp only [RepVs, RepV, RepC] at hrep
  obtain ⟨x, xs', o1, o2, rfl, rfl, hx, rfl, rfl⟩ := hrep
  simp only [List.append_nil] at *
  rcases hx with ⟨rfl, h0, rfl⟩ | ⟨g, h, c, cur, ys, o', rfl, rfl, hg, hc, hsz, hrows, hat⟩
  · have hl0 : l = [] := by simpa using h0
    subst hl0
    refine (Go.Proofs.Any.slices_Sort_int_none Go.Proofs.Tryz.laysSort none 0 w).mono ?_
    rintro e w' ⟨rfl, rfl⟩
    refine ⟨_, [], [], rfl, Ext.refl _ _, by simp [RepV, RepVs], ?_, by simp, by simp⟩
    simp only [RepVs, RepV, RepC]
    exact ⟨_, _, [], [], rfl, rfl, .inl ⟨rfl, by simp [srt], rfl⟩, rfl, rfl⟩
  · obtain ⟨rfl, rfl⟩ := int_cells hrows
    simp only [Nat.mul_one, List.length_map] at *
    have hH := holds_of hg hat
    have hgs : g < w.heap.size := (hfz g (by simp)).2
    refine (Go.Proofs.Any.slices_Sort_int Go.Proofs.Tryz.laysSort g h c l w hH hgs (by omega)).mono ?_
    rintro e' w' ⟨rfl, n, ob, hw⟩
    obtain ⟨hE, hg', hs', hat', hle⟩ := put_ext (n := n) (os := ob) (m := srt l) hg hat (srt_len l)
    rw [show grow (putRow (Value.int .i64) (Sort.ahead w n) g h (srt l).toArray) ob = w' from hw.symm] at hE hg' hat' hle
    refine ⟨_, [], [g], rfl, hE, by simp [RepV, RepVs], ?_, by simp, ?_⟩
    · simp only [RepVs, RepV, RepC]
      refine ⟨_, _, [g], [], rfl, rfl, .inr ⟨g, h, c, _, _, [], ?_, rfl, hg', ?_, ?_, cells_int _, ?_⟩, rfl, rfl⟩
      · simp [srt_len]
      · simpa [srt_len] using hc
      · simpa [hs'] using hsz
      · simpa using hat'
    · intro b hb
      simp only [List.nil_append, List.mem_singleton] at hb
      subst hb
      exact ⟨.inl (by simp), by omega⟩
def cmpct (l : List Int) : List Int := Lib.compact l
theorem cmpct_def (l : List Int) : Lib.compact l = cmpct l := rfl
theorem cmpct_le (l : List Int) : (cmpct l).length ≤ l.length := by
  unfold cmpct Lib.compact Lib.compactUpTo
  rw [List.length_map]
  refine Nat.le_trans (List.length_filter_le _ _) ?_
  simp
theorem d68 (l : List Int) (hl : (l.length : Int) ≤ 1152921504606846976) : Does Go.Proofs.Tryz.prog 68 [.usl 3 1 (l.map iv)] false (.usl 3 1 ((cmpct l).map iv)) [.dead] := by
  refine ⟨by decide +kernel, ?_⟩
  intro w Fz xs os hrep hos hfz hlt
  simp only [RepVs, RepV, RepC] at hrep
  obtain ⟨x, xs', o1, o2, rfl, rfl, hx, rfl, rfl⟩ := hrep
  simp only [List.append_nil] at *
  rcases hx with ⟨rfl, h0, rfl⟩ | ⟨g, h, c, cur, ys, o', rfl, rfl, hg, hc, hsz, hrows, hat⟩
  · have hl0 : l = [] := by simpa using h0
    subst hl0
    refine (Go.Proofs.Any.slices_Compact_int_empty Go.Proofs.Tryz.laysCompact none 0 w).mono ?_
    rintro e w' ⟨rfl, rfl⟩
    refine ⟨_, [], [], rfl, Ext.refl _ _, ?_, ?_, by simp, by simp⟩
    · simp [RepV, RepC, cmpct, Lib.compact, Lib.compactUpTo]
    · simp only [RepVs, RepV]
      exact ⟨_, _, [], [], rfl, rfl, rfl, rfl, rfl⟩
  · obtain ⟨rfl, rfl⟩ := int_cells hrows
    simp only [Nat.mul_one, List.length_map] at *
    have hH := holds_of hg hat
    have hcl := cmpct_le l
    have key := Go.Proofs.Any.slices_Compact_int Go.Proofs.Tryz.laysCompact g h c l w hH (by omega) hc
    simp only [cmpct_def] at key
    refine key.mono ?_
    rintro e' w' ⟨rfl, n, hw⟩
    have hmm : (cmpct l ++ List.replicate (l.length - (cmpct l).length) 0).length = l.length := by simp; omega
    obtain ⟨hE, hg', hs', hat', hle⟩ := put_ext (n := n) (os := #[]) (m := cmpct l ++ List.replicate (l.length - (cmpct l).length) 0) hg hat hmm
    rw [grow_empty, ← hw] at hE hg' hat' hle
    refine ⟨_, [g], [], rfl, hE, ?_, ?_, by simp, ?_⟩
    · simp only [RepV, RepC]
      refine .inr ⟨g, h, c, _, _, [], ?_, rfl, hg', ?_, ?_, cells_int _, ?_⟩
      · simp
      · simp; omega
      · simpa [hs'] using hsz
      · intro j u hj
        simp only [Nat.mul_one]
        refine hat' j u ?_
        rw [List.map_append, List.getElem?_append_left]
        · exact hj
        · rcases Nat.lt_or_ge j ((cmpct l).map (Value.int .i64)).length with h | h
          · exact h
          · rw [List.getElem?_eq_none h] at hj; cases hj
    · simp only [RepVs, RepV]
      exact ⟨_, _, [], [], rfl, rfl, rfl, rfl, rfl⟩
    · intro b hb
      simp only [List.append_nil, List.mem_singleton] at hb
      subst hb
      have := (hfz b (by simp)).2
      exact ⟨.inl (by simp), by omega⟩
end Go.AM
namespace Go.AM
set_option linter.unusedVariables false
set_option linter.unusedSimpArgs false
structure FromInv (l : List Ty) (ptr : Bool) (fr out q : List Int) : Prop where
  up : out.Pairwise (· < ·)
  frm : ∀ n ∈ fr, n ∈ out ∨ n ∈ q
  cl : ∀ n ∈ out, ∀ k ∈ kids l ptr n, k ∈ out ∨ k ∈ q
  ro : ∀ n ∈ out, Rch l ptr fr n
  rq : ∀ n ∈ q, Rch l ptr fr n
  len : q.length ≤ 1048576 + 8 * out.length
def addQ (ptr : Bool) (t : Ty) : List Int := if (ptr && (t.kind == 6)) = true then prt false t ++ [t.base] else prt false t
theorem addQ_mem {l : List Ty} (ht : tysOk l = true) (ptr : Bool) {n : Nat} (hn : n < l.length) (k : Int) : k ∈ addQ ptr l[n] ↔ k ∈ prt ptr l[n] := by
  have G := tysOk_good ht hn
  unfold addQ
  cases ptr with
  | false => simp
  | true =>
    by_cases h6 : l[n].kind = 6
    · have hb := (isNum_in.1 (G.ptr h6).1).1
      simp only [h6, beq_self_eq_true, Bool.and_self, if_true, prt, Bool.not_true, Bool.or_false, Bool.and_false, Bool.false_eq_true, if_false, List.nil_append, Bool.true_or, Bool.and_true, decide_eq_true_eq, hb]
      simp only [List.mem_append]
      exact Or.comm
    · have e6 : (l[n].kind == 6) = false := by simpa using h6
      simp only [e6, Bool.and_false, Bool.false_eq_true, if_false, prt, Bool.not_false, Bool.or_true, Bool.true_or]
theorem addQ_len {l : List Ty} (ht : tysOk l = true) (ptr : Bool) {n : Nat} (hn : n < l.length) : (addQ ptr l[n]).length ≤ 8 := by
  have := prt_len ht false hn
  unfold addQ
  split
  · rw [List.length_append]; simp only [List.length_singleton]; omega
  · omega
theorem FromInv.start {l : List Ty} {ptr : Bool} {fr : List Int} (h : (fr.length : Int) ≤ 1048576) : FromInv l ptr fr [] fr :=
  ⟨List.Pairwise.nil, fun n hn => .inr hn, by simp, by simp, fun n hn => .base hn, by simp; omega⟩
theorem FromInv.small {l : List Ty} {ptr : Bool} {fr out q : List Int} (I : FromInv l ptr fr out q) (ht : tysOk l = true) (hf : ∀ k ∈ fr, 0 ≤ k ∧ k < (l.length : Int)) : out.length ≤ l.length ∧ l.length ≤ 24 :=
  ⟨nodup_le (up_nodup I.up) fun k hk => (I.ro k hk).inr (tysOk_kids ht) hf, (tysOk_len ht).2⟩
theorem FromInv.skip {l : List Ty} {ptr : Bool} {fr out q : List Int} {n : Int} (I : FromInv l ptr fr out (n :: q)) (h : n ∈ out) : FromInv l ptr fr out q := by
  have w : ∀ k, k ∈ out ∨ k ∈ n :: q → k ∈ out ∨ k ∈ q := by
    rintro k (hk | hk)
    · exact .inl hk
    · rcases List.mem_cons.1 hk with rfl | hk
      · exact .inl h
      · exact .inr hk
  have hl := I.len
  simp only [List.length_cons] at hl
  exact ⟨I.up, fun k hk => w k (I.frm k hk), fun m hm k hk => w k (I.cl m hm k hk), I.ro, fun k hk => I.rq k (by simp [hk]), by omega⟩
theorem FromInv.put {l : List Ty} {ptr : Bool} {fr out q : List Int} {n : Int} (I : FromInv l ptr fr out (n :: q)) (ht : tysOk l = true) (h : n ∉ out) (hn : n.toNat < l.length) : FromInv l ptr fr (putUp out n) (q ++ addQ ptr l[n.toNat]) := by
  obtain ⟨p1, p2, p3⟩ := putUp_spec (n := n) I.up
  have hk : ∀ k, k ∈ addQ ptr l[n.toNat] ↔ k ∈ kids l ptr n := by
    intro k; rw [kids_at hn]; exact addQ_mem ht ptr hn k
  have w : ∀ k, k ∈ out ∨ k ∈ n :: q → k ∈ putUp out n ∨ k ∈ q ++ addQ ptr l[n.toNat] := by
    rintro k (hk | hk)
    · exact .inl ((p2 k).2 (.inr hk))
    · rcases List.mem_cons.1 hk with rfl | hk
      · exact .inl ((p2 _).2 (.inl rfl))
      · exact .inr (by simp [hk])
  have hl := I.len
  have ha := addQ_len ht ptr hn
  have h3 := p3 h
  simp only [List.length_cons] at hl
  refine ⟨p1, fun k hk => w k (I.frm k hk), ?_, ?_, ?_, ?_⟩
  · intro m hm k hkm
    rcases (p2 m).1 hm with rfl | hm
    · exact .inr (List.mem_append.2 (.inr ((hk k).2 hkm)))
    · exact w k (I.cl m hm k hkm)
  · intro m hm
    rcases (p2 m).1 hm with rfl | hm
    · exact I.rq _ (by simp)
    · exact I.ro m hm
  · intro m hm
    rcases List.mem_append.1 hm with hm | hm
    · exact I.rq m (by simp [hm])
    · exact .step (I.rq n (by simp)) ((hk m).1 hm)
  · rw [List.length_append, h3]; omega
theorem FromInv.fin {l : List Ty} {ptr : Bool} {fr out : List Int} (I : FromInv l ptr fr out []) (ht : tysOk l = true) (hf : ∀ k ∈ fr, 0 ≤ k ∧ k < (l.length : Int)) : out = reachL l ptr fr :=
  reachL_of (tysOk_kids ht) hf I.up (fun n hn => (I.frm n hn).elim id (by simp)) (fun n hn k hk => (I.cl n hn k hk).elim id (by simp)) I.ro
def m74 : MC :=
 (.seq (.reg [Xb 6 (.asg (.nils 3 1))]) (.seq (.reg [Xb 7 (.asg (.nils 3 1))]) (.seq (.reg [Xm 10 1, Xb 11 (.call (.fn 85) false [.lend (.t 10)]), Xa 8 11]) (.seq (.block 0 (.loop [0, 2, 7, 8, 11, 18, 19, 25, 32, 49] (.seq (.seq (.reg [Xm 12 8, Xn 13 12, Xq 14 (.bin false .gtr (.t 13) (.i 0))]) (.cond (.t 14) .skip (.exit 0))) (.block 1 (.seq (.reg [Xm 15 8, Xq 16 (.iad 1 (.t 15) (.i 0)), Xl 17 1
 16, Xa 9 17]) (.seq (.reg [Xm 18 8, Xq 19 (.slc false 1 (.t 18) (some (.i 1)) none), Xa 8 19]) (.seq (.seq (.reg [Xm 20 7, Xm 21 9, Xb 22 (.call (.fn 73) false [.lend (.t 20), .lend (.t 21)])]) (.cond (.t 22) (.exit 1) .skip)) (.seq (.reg [Xm 23 7, Xm 24 9, Xb 25 (.callm (.fn 86) (.t 23) [.lend (.t 24)]), Xa 7 25]) (.seq (.reg [Xm 26 8, Xm 27 0, Xm 28 9, Xi 29 6 27 28, XL 30 6 29, Xb 31 (.call
 (.fn 75) false [.lend (.t 30)]), Xb 32 (.app true 3 1 8 (.t 26) (.t 31)), Xa 8 32]) (.seq (.reg [Xm 33 2, Xm 34 33, Xt 35 34 (.mov (.t 0)), Xt 36 34 (.mov (.t 9)), Xt 37 34 (.iad 6 (.t 35) (.t 36)), Xt 38 34 (.fad 0 (.t 37)), Xt 39 34 (.load false 1 (.t 38)), Xt 40 34 (.bin false .eql (.t 39) (.i 6)), Xq 41 (.pick (.t 34) (.t 40) .fb)]) (.cond (.t 41) (.reg [Xm 42 8, Xm 43 0, Xm 44 9, Xi 45 6 43
 44, Xf 46 2 45, Xl 47 1 46, Xb 48 (.bsl 3 1 [.t 47]), Xb 49 (.app true 3 1 8 (.t 42) (.t 48)), Xa 8 49]) .skip))))))))))) (.seq (.reg [Xm 50 7, Xa 6 50]) .ret)))))
set_option maxRecDepth 100000 in
theorem d74 (l : List Ty) (fr : List Int) (ptr : Bool) (hl : (l.length : Int) ≤ 1048576) (hs : ∀ s ∈ l, s.sm) (ht : tysOk l = true) (hf : ∀ k ∈ fr, 0 ≤ k ∧ k < (l.length : Int)) (hfl : (fr.length : Int) ≤ 1048576) :
    Does Go.Proofs.Tryz.prog 74 [.fsl 6 (l.map Ty.z), .fsl 1 (fr.map iv), .v (.bool ptr)] false (.usl 3 1 ((reachL l ptr fr).map iv)) [.dead, .dead, .dead] := by
  refine does_intro (mc := m74) (N := 51) (rs := [6]) (fx := []) 3 rfl (by decide +kernel) ?_
  simp only [m74, EV, Nat.reduceEqDiff, Nat.reduceBEq, Nat.reduceLT, Nat.reduceLeDiff, Nat.reduceAdd, Nat.reduceSub, reduceIte]
  refine callK_i (d85 fr hfl) ?_
  simp only [EV, Nat.reduceEqDiff, Nat.reduceBEq, Nat.reduceLT, Nat.reduceLeDiff, Nat.reduceAdd, Nat.reduceSub, reduceIte]
  refine awp_loop (fun p : List Int × List Int => FromInv l ptr fr p.1 p.2) (fun p => stl [(0, .fsl 6 (l.map Ty.z)), (2, .v (.bool ptr)), (7, .usl 3 1 (p.1.map iv)), (8, .usl 3 1 (p.2.map iv)), (11, .dead), (18, .dead), (19, .dead), (25, .dead), (32, .dead), (49, .dead)]) (fun p => 9 * (24 - p.1.length) + p.2.length) ([], fr) (FromInv.start hfl) ?_ ?_
  · simp only [EV, Nat.reduceEqDiff, Nat.reduceBEq, Nat.reduceLT, Nat.reduceLeDiff, Nat.reduceAdd, Nat.reduceSub, reduceIte]
  · rintro ⟨out, q⟩ I
    obtain ⟨ho, h24⟩ := I.small ht hf
    have hql := I.len
    simp only at I ho h24 hql
    simp only [EV, Nat.reduceEqDiff, Nat.reduceBEq, Nat.reduceLT, Nat.reduceLeDiff, Nat.reduceAdd, Nat.reduceSub, reduceIte]
    refine cK_cut (fun h => ?_) (fun h => ?_)
    · have hq0 : 0 < q.length := by have : 0 < (q.length : Int) := by simpa using h
                                    omega
      obtain ⟨n, q', rfl⟩ := List.exists_cons_of_length_pos hq0
      have hni := (I.rq n (by simp)).inr (tysOk_kids ht) hf
      have hn : n.toNat < l.length := by omega
      have nth0 : ∀ (a : List AV) (r : List (List AV)), nth (a :: r) 0 = a := fun _ _ => rfl
      have z0 : (0 : Int) = ((0 : Nat) : Int) := rfl
      clear h
      simp only [List.length_cons] at hql
      have e1 : (1 : Int).toNat = 1 := rfl
      have dl : ∀ r : List Int, List.take (r.length + 1 - 1) (List.map iv r) = List.map iv r := fun r => by rw [Nat.add_sub_cancel]; exact List.take_of_length_le (by simp)
      have hcl : Ty.z l[n.toNat] = [.v (.int .i64 l[n.toNat].kind), .v (.int .i64 l[n.toNat].long), .v (.int .i64 l[n.toNat].base), .fsl 3 (l[n.toNat].fields.map Fd.z), .v (.string l[n.toNat].owner), .v (.string l[n.toNat].name)] := rfl
      have dp := d75 l[n.toNat] (hs _ (List.getElem_mem hn))
      rw [hcl] at dp
      simp only [nth0, iv, hq0, EV, Nat.reduceEqDiff, Nat.reduceBEq, Nat.reduceLT, Nat.reduceLeDiff, Nat.reduceAdd, Nat.reduceSub, reduceIte]
      refine ⟨by omega, by omega, by omega, by omega, by omega, ?_⟩
      rw [iv_frz]
      refine callK_i (d73 out n (by omega)) ?_
      simp only [e1, dl, EV, Nat.reduceEqDiff, Nat.reduceBEq, Nat.reduceLT, Nat.reduceLeDiff, Nat.reduceAdd, Nat.reduceSub, reduceIte]
      rcases hc : out.contains n with _ | _
      · have hno : n ∉ out := fun hm => by rw [← List.contains_iff_mem] at hm; rw [hm] at hc; cases hc
        simp only [e1, dl, EV, Nat.reduceEqDiff, Nat.reduceBEq, Nat.reduceLT, Nat.reduceLeDiff, Nat.reduceAdd, Nat.reduceSub, reduceIte]
        refine callK_i (d86 out n (by omega)) ?_
        simp only [e1, dl, hni.1, hni.2, nth_map hn, Ty.z, EV, Nat.reduceEqDiff, Nat.reduceBEq, Nat.reduceLT, Nat.reduceLeDiff, Nat.reduceAdd, Nat.reduceSub, reduceIte]
        refine callK_i dp ?_
        have hpl := prt_len ht false hn
        have hal := addQ_len ht ptr hn
        have I2 := I.put ht hno hn
        have hm2 : 9 * (24 - (putUp out n).length) + (q' ++ addQ ptr l[n.toNat]).length < 9 * (24 - out.length) + (n :: q').length := by
          have h3 := (putUp_spec (n := n) I.up).2.2 hno
          have h4 := (I2.small ht hf).1
          rw [h3, List.length_append, List.length_cons]
          omega
        rcases ptr with _ | _
        · have e : addQ false l[n.toNat] = prt false l[n.toNat] := rfl
          simp only [e1, dl, hni.1, hni.2, nth_map hn, Ty.z, EV, Nat.reduceEqDiff, Nat.reduceBEq, Nat.reduceLT, Nat.reduceLeDiff, Nat.reduceAdd, Nat.reduceSub, reduceIte]
          refine ⟨by omega, by omega, (putUp out n, q' ++ addQ false l[n.toNat]), I2, hm2, ?_⟩
          rw [e, List.map_append]
        · simp only [e1, dl, hni.1, hni.2, nth_map hn, Ty.z, EV, Nat.reduceEqDiff, Nat.reduceBEq, Nat.reduceLT, Nat.reduceLeDiff, Nat.reduceAdd, Nat.reduceSub, reduceIte]
          refine ⟨by omega, by omega, ?_⟩
          rcases e6 : (l[n.toNat].kind == 6) with _ | _
          · have e : addQ true l[n.toNat] = prt false l[n.toNat] := by unfold addQ; rw [e6]; rfl
            simp only [EV, Nat.reduceEqDiff, Nat.reduceBEq, Nat.reduceLT, Nat.reduceLeDiff, Nat.reduceAdd, Nat.reduceSub, reduceIte]
            refine ⟨(putUp out n, q' ++ addQ true l[n.toNat]), I2, hm2, ?_⟩
            rw [e, List.map_append]
          · have e : addQ true l[n.toNat] = prt false l[n.toNat] ++ [l[n.toNat].base] := by unfold addQ; rw [e6]; rfl
            simp only [e1, dl, hni.1, hni.2, nth_map hn, Ty.z, EV, Nat.reduceEqDiff, Nat.reduceBEq, Nat.reduceLT, Nat.reduceLeDiff, Nat.reduceAdd, Nat.reduceSub, reduceIte]
            refine ⟨by simp; omega, by simp; omega, (putUp out n, q' ++ addQ true l[n.toNat]), I2, hm2, ?_⟩
            have e' : List.map iv (q' ++ addQ true l[n.toNat]) = List.map iv q' ++ List.map iv (prt false l[n.toNat]) ++ [[AV.v (.int .i64 l[n.toNat].base)]] := by
              rw [e, ← List.append_assoc, List.map_append, List.map_append]; rfl
            simp only [e']
      · have hm : n ∈ out := List.contains_iff_mem.1 hc
        simp only [e1, dl, EV, Nat.reduceEqDiff, Nat.reduceBEq, Nat.reduceLT, Nat.reduceLeDiff, Nat.reduceAdd, Nat.reduceSub, reduceIte]
        refine ⟨(out, q'), I.skip hm, by simp only [List.length_cons]; omega, ?_⟩
        rfl
    · have hq : q = [] := by have : ¬ 0 < (q.length : Int) := by simpa using h
                             exact List.eq_nil_of_length_eq_zero (by omega)
      subst hq
      have e := I.fin ht hf
      subst e
      simp only [EV, Nat.reduceEqDiff, Nat.reduceBEq, Nat.reduceLT, Nat.reduceLeDiff, Nat.reduceAdd, Nat.reduceSub, reduceIte]
      simp only [iv_nfz, EV, Nat.reduceEqDiff, Nat.reduceBEq, Nat.reduceLT, Nat.reduceLeDiff, Nat.reduceAdd, Nat.reduceSub, reduceIte, evRE, retVC, cellV', evR, nfz, nfzs, nfzss, List.contains_nil, List.contains_cons, Bool.or_false, or_true]
end Go.AM
namespace Go.AM
set_option linter.unusedVariables false
set_option linter.unusedSimpArgs false
def addAll (out ks : List Int) : List Int := ks.foldl (fun o k => if o.contains k = true then o else o ++ [k]) out
theorem addAll_take {out ks : List Int} {j : Nat} (h : j < ks.length) : addAll out (ks.take (j + 1)) = if (addAll out (ks.take j)).contains ks[j] = true then addAll out (ks.take j) else addAll out (ks.take j) ++ [ks[j]] := by
  unfold addAll
  rw [List.take_succ_eq_append_getElem h, List.foldl_append]; rfl
theorem addAll_spec : ∀ (ks out : List Int), out.Nodup → (addAll out ks).Nodup ∧ (∀ x, x ∈ addAll out ks ↔ x ∈ out ∨ x ∈ ks) ∧ out <+: addAll out ks ∧ (addAll out ks).length ≤ out.length + ks.length
  | [], out, h => ⟨h, by simp [addAll], by simp [addAll], by simp [addAll]⟩
  | k :: ks, out, h => by
    have e : addAll out (k :: ks) = addAll (if out.contains k = true then out else out ++ [k]) ks := rfl
    rw [e]
    rcases hc : out.contains k with _ | _
    · have hno : k ∉ out := fun hm => by rw [← List.contains_iff_mem] at hm; rw [hm] at hc; cases hc
      simp only [Bool.false_eq_true, if_false]
      obtain ⟨a1, a2, a3, a4⟩ := addAll_spec ks (out ++ [k]) (List.nodup_append.2 ⟨h, by simp, fun a ha b hb e => hno (by rw [List.mem_singleton] at hb; rw [← hb, ← e]; exact ha)⟩)
      refine ⟨a1, fun x => ?_, (List.prefix_append _ _).trans a3, by simp at a4 ⊢; omega⟩
      rw [a2]
      simp only [List.mem_append, List.mem_singleton, List.mem_cons, List.not_mem_nil, or_false]
      exact or_assoc
    · have hm : k ∈ out := List.contains_iff_mem.1 hc
      simp only [if_true]
      obtain ⟨a1, a2, a3, a4⟩ := addAll_spec ks out h
      refine ⟨a1, fun x => ?_, a3, by simp; omega⟩
      rw [a2]
      simp only [List.mem_cons]
      constructor
      · rintro (h | h)
        · exact .inl h
        · exact .inr (.inr h)
      · rintro (h | h | h)
        · exact .inl h
        · exact .inl (h ▸ hm)
        · exact .inr h
structure GoInv (l : List Ty) (ptr : Bool) (fr out : List Int) (i : Nat) : Prop where
  nd : out.Nodup
  frm : ∀ n ∈ fr, n ∈ out
  le : i ≤ out.length
  cl : ∀ j (h : j < out.length), j < i → ∀ k ∈ kids l ptr out[j], k ∈ out
  ro : ∀ n ∈ out, Rch l ptr fr n
theorem GoInv.small {l : List Ty} {ptr : Bool} {fr out : List Int} {i : Nat} (I : GoInv l ptr fr out i) (ht : tysOk l = true) (hf : ∀ k ∈ fr, 0 ≤ k ∧ k < (l.length : Int)) : out.length ≤ l.length ∧ l.length ≤ 24 :=
  ⟨nodup_le I.nd fun k hk => (I.ro k hk).inr (tysOk_kids ht) hf, (tysOk_len ht).2⟩
theorem GoInv.step {l : List Ty} {ptr : Bool} {fr out : List Int} {i : Nat} (I : GoInv l ptr fr out i) (h : i < out.length) : GoInv l ptr fr (addAll out (kids l ptr out[i])) (i + 1) := by
  obtain ⟨a1, a2, a3, a4⟩ := addAll_spec (kids l ptr out[i]) out I.nd
  have hle := a3.length_le
  refine ⟨a1, fun n hn => (a2 n).2 (.inl (I.frm n hn)), by omega, ?_, ?_⟩
  · intro j hj hji k hk
    have hjo : j < out.length := by omega
    have e : (addAll out (kids l ptr out[i]))[j] = out[j] := (a3.getElem hjo).symm
    rw [e] at hk
    rw [a2]
    by_cases hjj : j = i
    · subst hjj; exact .inr hk
    · exact .inl (I.cl j hjo (by omega) k hk)
  · intro n hn
    rcases (a2 n).1 hn with h1 | h1
    · exact I.ro n h1
    · exact .step (I.ro _ (List.getElem_mem h)) h1
theorem GoInv.fin {l : List Ty} {ptr : Bool} {fr out : List Int} (I : GoInv l ptr fr out out.length) (ht : tysOk l = true) (hf : ∀ k ∈ fr, 0 ≤ k ∧ k < (l.length : Int)) : srt out = reachL l ptr fr := by
  refine reachL_of (tysOk_kids ht) hf ?_ (fun n hn => srt_mem.2 (I.frm n hn)) ?_ (fun n hn => I.ro n (srt_mem.1 hn))
  · have h1 := srt_le out
    have h2 : (srt out).Nodup := ((List.mergeSort_perm out _).nodup_iff).2 I.nd
    exact (h1.and h2).imp fun h => by omega
  · intro n hn k hk
    obtain ⟨j, hj, rfl⟩ := List.mem_iff_getElem.1 (srt_mem.1 hn)
    exact srt_mem.2 (I.cl j hj hj k hk)
def m67 : MC :=
 (.seq (.reg [Xb 6 (.asg (.nils 3 1))]) (.seq (.reg [Xm 11 1, Xb 12 (.call (.fn 83) false [.lend (.t 11)]), Xa 7 12]) (.seq (.seq (.reg [Xb 8 (.asg (.i 0))]) (.block 0 (.loop [0, 2, 7, 8, 12, 40] (.seq (.seq (.reg [Xm 13 8, Xm 14 7, Xn 15 14, Xq 16 (.bin false .lss (.t 13) (.t 15))]) (.cond (.t 16) .skip (.exit 0))) (.seq (.block 1 (.seq (.reg [Xm 19 0, Xm 20 7, Xm 21 8, Xi 22 1 20 21, Xl 23 1 22,
 Xi 24 6 19 23, XL 25 6 24, Xm 26 2, Xb 27 (.call (.fn 35) false [.lend (.t 25), .lend (.t 26)]), Xn 28 27, Xq 29 (.mov (.i 0))]) (.block 2 (.loop [0, 2, 7, 8, 12, 27, 28, 29, 40] (.seq (.reg [Xq 30 (.bin false .lss (.t 29) (.t 28))]) (.seq (.cond (.t 30) .skip (.exit 2)) (.join [0, 2, 7, 8, 12, 27, 28, 29, 40] (.block 3 (.seq (.reg [Xi 31 1 27 29, Xl 32 1 31, Xa 10 32]) (.seq (.reg [Xm 33 7, Xm 34
 10, Xb 35 (.call (.fn 66) false [.lend (.t 33), .lend (.t 34)]), Xq 36 (.un .not (.t 35))]) (.cond (.t 36) (.reg [Xm 37 7, Xm 38 10, Xb 39 (.bsl 3 1 [.t 38]), Xb 40 (.app true 3 1 8 (.t 37) (.t 39)), Xa 7 40]) .skip)))) (.reg [Xq 41 (.bin false .add (.t 29) (.i 1)), Xm 29 41])))))))) (.reg [Xm 17 8, Xq 18 (.bin false .add (.t 17) (.i 1)), Xa 8 18])))))) (.seq (.reg [Xm 42 7, Xb 43 (.call (.fn 65)
 false [.io (.t 42)])]) (.seq (.reg [Xm 44 7, Xa 6 44]) .ret)))))
set_option maxRecDepth 100000 in
theorem d67 (l : List Ty) (fr : List Int) (ptr : Bool) (hl : (l.length : Int) ≤ 1048576) (hs : ∀ s ∈ l, s.sm) (ht : tysOk l = true) (hf : ∀ k ∈ fr, 0 ≤ k ∧ k < (l.length : Int)) (hfn : fr.Nodup) :
    Does Go.Proofs.Tryz.prog 67 [.fsl 6 (l.map Ty.z), .fsl 1 (fr.map iv), .v (.bool ptr)] false (.usl 3 1 ((reachL l ptr fr).map iv)) [.dead, .dead, .dead] := by
  have hfl : (fr.length : Int) ≤ 1048576 := by have := nodup_le hfn hf; omega
  refine does_intro (mc := m67) (N := 45) (rs := [6]) (fx := []) 3 rfl (by decide +kernel) ?_
  simp only [m67, EV, Nat.reduceEqDiff, Nat.reduceBEq, Nat.reduceLT, Nat.reduceLeDiff, Nat.reduceAdd, Nat.reduceSub, reduceIte]
  refine callK_i (d83 fr hfl) ?_
  simp only [EV, Nat.reduceEqDiff, Nat.reduceBEq, Nat.reduceLT, Nat.reduceLeDiff, Nat.reduceAdd, Nat.reduceSub, reduceIte]
  refine awp_loop (fun p : List Int × Nat => GoInv l ptr fr p.1 p.2) (fun p => stl [(0, .fsl 6 (l.map Ty.z)), (2, .v (.bool ptr)), (7, .usl 3 1 (p.1.map iv)), (8, .v (.int .i64 (p.2 : Int))), (12, .dead), (40, .dead)]) (fun p => 24 - p.2) (fr, 0) ⟨hfn, fun n hn => hn, Nat.zero_le _, fun j _ h => absurd h (by omega), fun n hn => .base hn⟩ ?_ ?_
  · simp only [EV, Nat.reduceEqDiff, Nat.reduceBEq, Nat.reduceLT, Nat.reduceLeDiff, Nat.reduceAdd, Nat.reduceSub, reduceIte]
    rfl
  · rintro ⟨out, i⟩ I
    obtain ⟨ho, h24⟩ := I.small ht hf
    have hi := I.le
    simp only at I ho h24 hi
    simp only [EV, Nat.reduceEqDiff, Nat.reduceBEq, Nat.reduceLT, Nat.reduceLeDiff, Nat.reduceAdd, Nat.reduceSub, reduceIte]
    refine cK_cut (fun h => ?_) (fun h => ?_)
    · have h1 : i < out.length := by simpa using h
      have h2 : (i : Int) < (out.length : Int) := by omega
      have hni := (I.ro _ (List.getElem_mem h1)).inr (tysOk_kids ht) hf
      have hn : out[i].toNat < l.length := by omega
      clear h
      have hcl : Ty.z l[out[i].toNat] = [.v (.int .i64 l[out[i].toNat].kind), .v (.int .i64 l[out[i].toNat].long), .v (.int .i64 l[out[i].toNat].base), .fsl 3 (l[out[i].toNat].fields.map Fd.z), .v (.string l[out[i].toNat].owner), .v (.string l[out[i].toNat].name)] := rfl
      have dp := d35 l[out[i].toNat] ptr (hs _ (List.getElem_mem hn))
      rw [hcl] at dp
      simp only [nth_map h1, h1, h2, iv, hni.1, hni.2, nth_map hn, Ty.z, EV, Nat.reduceEqDiff, Nat.reduceBEq, Nat.reduceLT, Nat.reduceLeDiff, Nat.reduceAdd, Nat.reduceSub, reduceIte]
      refine callK_i dp ?_
      have ek : prt ptr l[out[i].toNat] = kids l ptr out[i] := (kids_at hn).symm
      have hpl : (kids l ptr out[i]).length ≤ 7 := by rw [← ek]; exact prt_len ht ptr hn
      have hst := I.step h1
      have hst2 := (hst.small ht hf).1
      rw [ek]
      generalize kids l ptr out[i] = ks at hpl hst hst2 ⊢
      simp only [EV, Nat.reduceEqDiff, Nat.reduceBEq, Nat.reduceLT, Nat.reduceLeDiff, Nat.reduceAdd, Nat.reduceSub, reduceIte]
      refine awp_loop (fun j : Nat => j ≤ ks.length) (fun j => stl [(0, .fsl 6 (l.map Ty.z)), (2, .v (.bool ptr)), (7, .usl 3 1 ((addAll out (ks.take j)).map iv)), (8, .v (.int .i64 (i : Int))), (12, .dead), (27, .usl 3 1 (ks.map iv)), (28, .v (.int .i64 (ks.length : Int))), (29, .v (.int .i64 (j : Int))), (40, .dead)]) (fun j => ks.length - j) 0 (Nat.zero_le _) ?_ ?_
      · simp only [EV, Nat.reduceEqDiff, Nat.reduceBEq, Nat.reduceLT, Nat.reduceLeDiff, Nat.reduceAdd, Nat.reduceSub, reduceIte]
        rfl
      · intro j hj
        simp only [EV, Nat.reduceEqDiff, Nat.reduceBEq, Nat.reduceLT, Nat.reduceLeDiff, Nat.reduceAdd, Nat.reduceSub, reduceIte]
        refine cK_cut (fun h => ?_) (fun h => ?_)
        · have j1 : j < ks.length := by simpa using h
          have j2 : (j : Int) < (ks.length : Int) := by omega
          clear h
          have ha := (addAll_spec (ks.take j) out I.nd).2.2.2
          have hat := addAll_take (out := out) j1
          simp only [List.length_take] at ha
          generalize addAll out (ks.take j) = o1 at ha hat ⊢
          refine awp_join (fun _ : Unit => True) (fun _ => stl [(0, .fsl 6 (l.map Ty.z)), (2, .v (.bool ptr)), (7, .usl 3 1 ((addAll out (ks.take (j + 1))).map iv)), (8, .v (.int .i64 (i : Int))), (12, .dead), (27, .usl 3 1 (ks.map iv)), (28, .v (.int .i64 (ks.length : Int))), (29, .v (.int .i64 (j : Int))), (40, .dead)]) ?_ ?_
          · simp only [nth_map j1, j1, j2, iv, EV, Nat.reduceEqDiff, Nat.reduceBEq, Nat.reduceLT, Nat.reduceLeDiff, Nat.reduceAdd, Nat.reduceSub, reduceIte]
            rw [iv_frz]
            refine callK_i (d66 o1 ks[j] (by omega)) ?_
            simp only [EV, Nat.reduceEqDiff, Nat.reduceBEq, Nat.reduceLT, Nat.reduceLeDiff, Nat.reduceAdd, Nat.reduceSub, reduceIte]
            rcases hc : o1.contains ks[j] with _ | _
            · have e : addAll out (ks.take (j + 1)) = o1 ++ [ks[j]] := by rw [hat, hc]; rfl
              simp only [Bool.not_false, EV, Nat.reduceEqDiff, Nat.reduceBEq, Nat.reduceLT, Nat.reduceLeDiff, Nat.reduceAdd, Nat.reduceSub, reduceIte]
              refine ⟨by omega, by omega, (), ?_⟩
              rw [e, List.map_append]
              rfl
            · have e : addAll out (ks.take (j + 1)) = o1 := by rw [hat, hc]; rfl
              simp only [Bool.not_true, EV, Nat.reduceEqDiff, Nat.reduceBEq, Nat.reduceLT, Nat.reduceLeDiff, Nat.reduceAdd, Nat.reduceSub, reduceIte]
              rw [e]
              exact ⟨(), rfl⟩
          · rintro _ _
            simp only [EV, Nat.reduceEqDiff, Nat.reduceBEq, Nat.reduceLT, Nat.reduceLeDiff, Nat.reduceAdd, Nat.reduceSub, reduceIte]
            rw [w64 _ (by omega)]
            exact ⟨j + 1, j1, by omega, rfl⟩
        · have j1 : j = ks.length := by have : ¬ (j : Int) < ks.length := by simpa using h
                                        omega
          subst j1
          rw [List.take_length]
          simp only [EV, Nat.reduceEqDiff, Nat.reduceBEq, Nat.reduceLT, Nat.reduceLeDiff, Nat.reduceAdd, Nat.reduceSub, reduceIte]
          rw [w64 _ (by omega)]
          exact ⟨(addAll out ks, i + 1), hst, by simp only; omega, rfl⟩
    · have h1 : i = out.length := by have : ¬ (i : Int) < out.length := by simpa using h
                                     omega
      subst h1
      have e := I.fin ht hf
      simp only [EV, Nat.reduceEqDiff, Nat.reduceBEq, Nat.reduceLT, Nat.reduceLeDiff, Nat.reduceAdd, Nat.reduceSub, reduceIte]
      refine callK2_i (d65 out (by omega)) rfl ?_ ?_
      · simp only [srt_len, EV, Nat.reduceEqDiff, Nat.reduceBEq, Nat.reduceLT, Nat.reduceLeDiff, Nat.reduceAdd, Nat.reduceSub, reduceIte]
      · rw [e]
        simp only [EV, Nat.reduceEqDiff, Nat.reduceBEq, Nat.reduceLT, Nat.reduceLeDiff, Nat.reduceAdd, Nat.reduceSub, reduceIte]
        simp only [iv_nfz, EV, Nat.reduceEqDiff, Nat.reduceBEq, Nat.reduceLT, Nat.reduceLeDiff, Nat.reduceAdd, Nat.reduceSub, reduceIte, evRE, retVC, cellV', evR, nfz, nfzs, nfzss, List.contains_nil, List.contains_cons, Bool.or_false, or_true]
theorem cmpct_up {l : List Int} (h : l.Pairwise (· ≤ ·)) : (cmpct l).Pairwise (· < ·) ∧ ∀ n, n ∈ cmpct l ↔ n ∈ l := by
  have hget : ∀ j (hj : j < l.length), l.toArray[j]! = l[j] := fun j hj => by simp [hj]
  have hle : ∀ i j (hi : i < l.length) (hj : j < l.length), i ≤ j → l[i] ≤ l[j] := by
    intro i j hi hj hij
    rcases Nat.lt_or_ge i j with hlt | hge
    · exact List.pairwise_iff_getElem.1 h i j hi hj hlt
    · have : i = j := by omega
      subst this; exact Int.le_refl _
  have key : ∀ m, m ≤ l.length → (Lib.compactUpTo l.toArray m).Pairwise (· < ·) ∧ ∀ n, n ∈ Lib.compactUpTo l.toArray m ↔ ∃ j, ∃ hj : j < l.length, j < m ∧ l[j] = n := by
    intro m
    induction m with
    | zero => intro _; simp [Lib.compactUpTo]
    | succ m ih =>
      intro hm
      obtain ⟨i1, i2⟩ := ih (by omega)
      rw [Lib.compactUpTo_succ]
      by_cases hk : Lib.keeps l.toArray m = true
      · rw [if_pos hk]
        have hkk : m = 0 ∨ l[m] ≠ l[m - 1] := by
          simp only [Lib.keeps, decide_eq_true_eq] at hk
          rcases hk with hk | hk
          · exact .inl hk
          · rw [hget m (by omega), hget (m - 1) (by omega)] at hk; exact .inr hk
        refine ⟨?_, fun n => ?_⟩
        · rw [List.pairwise_append]
          refine ⟨i1, by simp, ?_⟩
          intro a ha b hb
          simp only [List.mem_singleton] at hb
          subst hb
          rw [hget m (by omega)]
          obtain ⟨j, hj, hjm, rfl⟩ := (i2 a).1 ha
          have h1 := hle j (m - 1) hj (by omega) (by omega)
          have h2 := hle (m - 1) m (by omega) (by omega) (by omega)
          rcases hkk with h0 | h0
          · omega
          · omega
        · rw [List.mem_append, i2, List.mem_singleton, hget m (by omega)]
          constructor
          · rintro (⟨j, hj, hjm, e⟩ | e)
            · exact ⟨j, hj, by omega, e⟩
            · exact ⟨m, by omega, by omega, e.symm⟩
          · rintro ⟨j, hj, hjm, e⟩
            by_cases hjj : j = m
            · subst hjj; exact .inr e.symm
            · exact .inl ⟨j, hj, by omega, e⟩
      · rw [if_neg hk, List.append_nil]
        have hkk : 0 < m ∧ l[m] = l[m - 1] := by
          simp only [Lib.keeps, decide_eq_true_eq, not_or, ne_eq, Decidable.not_not] at hk
          rw [hget m (by omega), hget (m - 1) (by omega)] at hk
          exact ⟨by omega, hk.2⟩
        refine ⟨i1, fun n => ?_⟩
        rw [i2]
        constructor
        · rintro ⟨j, hj, hjm, e⟩
          exact ⟨j, hj, by omega, e⟩
        · rintro ⟨j, hj, hjm, e⟩
          by_cases hjj : j = m
          · subst hjj; exact ⟨j - 1, by omega, by omega, by rw [← hkk.2]; exact e⟩
          · exact ⟨j, hj, by omega, e⟩
  have := key l.length (Nat.le_refl _)
  have e : cmpct l = Lib.compactUpTo l.toArray l.length := by unfold cmpct Lib.compact; rfl
  rw [e]
  refine ⟨this.1, fun n => ?_⟩
  rw [this.2]
  constructor
  · rintro ⟨j, hj, _, rfl⟩; exact List.getElem_mem hj
  · intro hn
    obtain ⟨j, hj, rfl⟩ := List.mem_iff_getElem.1 hn
    exact ⟨j, hj, hj, rfl⟩
def m50 : MC :=
 (.seq (.reg [Xb 4 (.asg .fb)]) (.seq (.reg [Xm 6 0, Xm 7 1, Xi 8 6 6 7, XL 9 6 8, Xb 10 (.call (.fn 35) false [.lend (.t 9), .lend .fb]), Xa 5 10]) (.seq (.reg [Xm 11 5, Xb 12 (.call (.fn 65) false [.io (.t 11)])]) (.seq (.reg [Xm 13 0, Xm 14 5, Xb 15 (.callm (.fn 68) (.t 14) []), Xb 16 (.call (.fn 67) false [.lend (.t 13), .lend (.t 15), .lend .fb]), Xm 17 1, Xb 18 (.call (.fn 66) false [.lend
 (.t 16), .lend (.t 17)]), Xa 4 18]) .ret))))
set_option maxRecDepth 100000 in
theorem d50 (l : List Ty) (n : Int) (hl : (l.length : Int) ≤ 1048576) (hs : ∀ s ∈ l, s.sm) (ht : tysOk l = true) (h0 : 0 ≤ n) (h1 : n < l.length) :
    Does Go.Proofs.Tryz.prog 50 [.fsl 6 (l.map Ty.z), .v (.int .i64 n)] false (.v (.bool (roundAt l n))) [.dead, .dead] := by
  have hn : n.toNat < l.length := by omega
  have hcl : Ty.z l[n.toNat] = [.v (.int .i64 l[n.toNat].kind), .v (.int .i64 l[n.toNat].long), .v (.int .i64 l[n.toNat].base), .fsl 3 (l[n.toNat].fields.map Fd.z), .v (.string l[n.toNat].owner), .v (.string l[n.toNat].name)] := rfl
  have dp := d35 l[n.toNat] false (hs _ (List.getElem_mem hn))
  rw [hcl] at dp
  have ek : prt false l[n.toNat] = kids l false n := (kids_at hn).symm
  have hpl : (kids l false n).length ≤ 7 := by rw [← ek]; exact prt_len ht false hn
  have hki : ∀ k ∈ kids l false n, 0 ≤ k ∧ k < (l.length : Int) := fun k hk => kids_ok ht h0 h1 hk
  have hsl := srt_len (kids l false n)
  obtain ⟨c1, c2⟩ := cmpct_up (srt_le (kids l false n))
  have hcm : ∀ k, k ∈ cmpct (srt (kids l false n)) ↔ k ∈ kids l false n := fun k => (c2 k).trans srt_mem
  have hrl := reachL_congr (l := l) (ptr := false) hcm
  refine does_intro (mc := m50) (N := 19) (rs := [4]) (fx := []) 2 rfl (by decide +kernel) ?_
  simp only [m50, h0, h1, nth_map hn, Ty.z, EV, Nat.reduceEqDiff, Nat.reduceBEq, Nat.reduceLT, Nat.reduceLeDiff, Nat.reduceAdd, Nat.reduceSub, reduceIte]
  refine callK_i dp ?_
  rw [ek]
  simp only [EV, Nat.reduceEqDiff, Nat.reduceBEq, Nat.reduceLT, Nat.reduceLeDiff, Nat.reduceAdd, Nat.reduceSub, reduceIte]
  refine callK2_i (d65 (kids l false n) (by omega)) rfl ?_ ?_
  · simp only [srt_len, EV, Nat.reduceEqDiff, Nat.reduceBEq, Nat.reduceLT, Nat.reduceLeDiff, Nat.reduceAdd, Nat.reduceSub, reduceIte]
  simp only [EV, Nat.reduceEqDiff, Nat.reduceBEq, Nat.reduceLT, Nat.reduceLeDiff, Nat.reduceAdd, Nat.reduceSub, reduceIte]
  refine callK_i (d68 (srt (kids l false n)) (by omega)) ?_
  simp only [EV, Nat.reduceEqDiff, Nat.reduceBEq, Nat.reduceLT, Nat.reduceLeDiff, Nat.reduceAdd, Nat.reduceSub, reduceIte]
  rw [iv_frz]
  refine callK_i (d67 l (cmpct (srt (kids l false n))) false hl hs ht (fun k hk => hki k ((hcm k).1 hk)) (up_nodup c1)) ?_
  rw [hrl]
  have hrn := nodup_le (up_nodup (reachL_up l false (kids l false n))) (fun k hk => (mem_reachL.1 hk).1)
  simp only [EV, Nat.reduceEqDiff, Nat.reduceBEq, Nat.reduceLT, Nat.reduceLeDiff, Nat.reduceAdd, Nat.reduceSub, reduceIte]
  rw [iv_frz]
  refine callK_i (d66 (reachL l false (kids l false n)) n (by omega)) ?_
  simp only [EV, Nat.reduceEqDiff, Nat.reduceBEq, Nat.reduceLT, Nat.reduceLeDiff, Nat.reduceAdd, Nat.reduceSub, reduceIte]
  simp only [roundAt, EV, Nat.reduceEqDiff, Nat.reduceBEq, Nat.reduceLT, Nat.reduceLeDiff, Nat.reduceAdd, Nat.reduceSub, reduceIte, evRE, retVC, cellV', evR, nfz, nfzs, nfzss, List.contains_nil, List.contains_cons, Bool.or_false, or_true]
def m55 : MC :=
 (.seq (.reg [Xb 4 (.asg .fb)]) (.seq (.reg [Xm 5 0, Xm 6 0, Xm 7 1, Xi 8 6 6 7, XL 9 6 8, Xb 10 (.call (.fn 75) false [.lend (.t 9)]), Xb 11 (.call (.fn 74) false [.lend (.t 5), .lend (.t 10), .lend .fb]), Xm 12 1, Xb 13 (.call (.fn 73) false [.lend (.t 11), .lend (.t 12)]), Xa 4 13]) .ret))
set_option maxRecDepth 100000 in
theorem d55 (l : List Ty) (n : Int) (hl : (l.length : Int) ≤ 1048576) (hs : ∀ s ∈ l, s.sm) (ht : tysOk l = true) (h0 : 0 ≤ n) (h1 : n < l.length) :
    Does Go.Proofs.Tryz.prog 55 [.fsl 6 (l.map Ty.z), .v (.int .i64 n)] false (.v (.bool (roundAt l n))) [.dead, .dead] := by
  have hn : n.toNat < l.length := by omega
  have hcl : Ty.z l[n.toNat] = [.v (.int .i64 l[n.toNat].kind), .v (.int .i64 l[n.toNat].long), .v (.int .i64 l[n.toNat].base), .fsl 3 (l[n.toNat].fields.map Fd.z), .v (.string l[n.toNat].owner), .v (.string l[n.toNat].name)] := rfl
  have dp := d75 l[n.toNat] (hs _ (List.getElem_mem hn))
  rw [hcl] at dp
  have ek : prt false l[n.toNat] = kids l false n := (kids_at hn).symm
  have hpl : (kids l false n).length ≤ 7 := by rw [← ek]; exact prt_len ht false hn
  have hki : ∀ k ∈ kids l false n, 0 ≤ k ∧ k < (l.length : Int) := fun k hk => kids_ok ht h0 h1 hk
  refine does_intro (mc := m55) (N := 14) (rs := [4]) (fx := []) 2 rfl (by decide +kernel) ?_
  simp only [m55, h0, h1, nth_map hn, Ty.z, EV, Nat.reduceEqDiff, Nat.reduceBEq, Nat.reduceLT, Nat.reduceLeDiff, Nat.reduceAdd, Nat.reduceSub, reduceIte]
  refine callK_i dp ?_
  rw [ek]
  simp only [EV, Nat.reduceEqDiff, Nat.reduceBEq, Nat.reduceLT, Nat.reduceLeDiff, Nat.reduceAdd, Nat.reduceSub, reduceIte]
  rw [iv_frz]
  refine callK_i (d74 l (kids l false n) false hl hs ht hki (by omega)) ?_
  have hrn := nodup_le (up_nodup (reachL_up l false (kids l false n))) (fun k hk => (mem_reachL.1 hk).1)
  simp only [EV, Nat.reduceEqDiff, Nat.reduceBEq, Nat.reduceLT, Nat.reduceLeDiff, Nat.reduceAdd, Nat.reduceSub, reduceIte]
  rw [iv_frz]
  refine callK_i (d73 (reachL l false (kids l false n)) n (by omega)) ?_
  simp only [EV, Nat.reduceEqDiff, Nat.reduceBEq, Nat.reduceLT, Nat.reduceLeDiff, Nat.reduceAdd, Nat.reduceSub, reduceIte]
  simp only [roundAt, EV, Nat.reduceEqDiff, Nat.reduceBEq, Nat.reduceLT, Nat.reduceLeDiff, Nat.reduceAdd, Nat.reduceSub, reduceIte, evRE, retVC, cellV', evR, nfz, nfzs, nfzss, List.contains_nil, List.contains_cons, Bool.or_false, or_true]
end Go.AM
namespace Go.AM
set_option linter.unusedVariables false
set_option linter.unusedSimpArgs false
namespace Fz
def m57 : MC :=
 (.seq (.reg [Xb 0 (.asg (.nils 34 6))]) (.seq (.reg [Xb 1 (.build [0, 2, 5] [0, 2, 5] [1, 1, 1] [.i, .i, .i, .f 3, .z, .z] [.i 1, .i (-1), .z #[73, 78, 84]]), Xb 2 (.build [0, 2, 5] [0, 2, 5] [1, 1, 1] [.i, .i, .i, .f 3, .z, .z] [.i 2, .i (-1), .z #[66, 79, 79, 76]]), Xb 3 (.build [0, 2, 5] [0, 2, 5] [1, 1, 1] [.i, .i, .i, .f 3, .z, .z] [.i 3, .i (-1), .z #[67, 72, 65, 82]]), Xb 4 (.bsl 34 6 [.t
 1, .t 2, .t 3]), Xa 0 4]) .ret))
theorem d57 : Does Go.Proofs.Tryz.prog 57 [] false (.usl 34 6 (baseTs.map Ty.z)) [] := by
  refine does_intro (mc := m57) (N := 5) (rs := [0]) (fx := []) 0 rfl (by decide +kernel) ?_
  simp only [m57, baseTs, Ty.z, EV, Nat.reduceEqDiff, Nat.reduceBEq, Nat.reduceLT, Nat.reduceLeDiff, Nat.reduceAdd, Nat.reduceSub, reduceIte]
  simp only [EV, Nat.reduceEqDiff, Nat.reduceBEq, Nat.reduceLT, Nat.reduceLeDiff, Nat.reduceAdd, Nat.reduceSub, reduceIte, evRE, retVC, cellV', evR, nfz, nfzs, nfzss, List.contains_nil, List.contains_cons, Bool.or_false, or_true]
  exact Or.inr rfl
end Fz
theorem base_at {i : Nat} (h : i < baseTs.length) : baseTs[i].long = 0 ∧ baseTs[i].base = -1 ∧ baseTs[i].fields = [] ∧ baseTs[i].owner = ⟨#[]⟩ := by
  have : i = 0 ∨ i = 1 ∨ i = 2 := by rw [base_len] at h; omega
  rcases this with rfl | rfl | rfl <;> exact ⟨rfl, rfl, rfl, rfl⟩
theorem eqL_nil {α : Type} {q : α → α → Bool} (a : List α) : eqL q a [] = !decide (0 < (a.length : Int)) := by
  cases a with
  | nil => simp [eqL, eqTo]
  | cons x a => simp [eqL]
theorem sameTy_at (t : Ty) {i : Nat} (h : i < baseTs.length) : sameTy t baseTs[i] = ((t.kind == baseTs[i].kind) && ((t.long == 0) && ((t.base == -1) && (!decide (0 < (t.fields.length : Int)) && ((t.owner.toList == (⟨#[]⟩ : ByteArray).toList) && (t.name.toList == baseTs[i].name.toList)))))) := by
  obtain ⟨h1, h2, h3, h4⟩ := base_at h
  unfold sameTy
  rw [h1, h2, h3, h4, eqL_nil]
noncomputable def baseOk (l : List Ty) : Bool := decide (3 ≤ (l.length : Int)) && eqL sameTy (l.take 3) baseTs
def m71 : MC :=
 (.seq (.reg [Xb 2 (.asg .fb)]) (.seq (.seq (.reg [Xm 6 0, Xn 7 6, Xq 8 (.bin false .lss (.t 7) (.i 3))]) (.cond (.t 8) (.seq (.reg [Xb 2 (.asg .fb)]) .ret) .skip)) (.seq (.seq (.reg [Xb 9 (.call (.fn 57) false []), Xn 10 9, Xq 11 (.mov (.i 0))]) (.block 0 (.loop [0, 9, 10, 11] (.seq (.reg [Xq 12 (.bin false .lss (.t 11) (.t 10))]) (.seq (.cond (.t 12) .skip (.exit 0)) (.seq (.block 1 (.seq (.reg
 [Xm 13 11, Xi 14 6 9 11, XL 15 6 14, Xb 4 (.alloc 34 [.i, .i, .i, .s 48 3, .z, .z]), Xa 3 13, Xz (.store 6 (.t 4) (.t 15))]) (.seq (.reg [Xm 16 0, Xm 17 3, Xi 18 6 16 17, XL 19 6 18, Xb 5 (.alloc 34 [.i, .i, .i, .s 48 3, .z, .z]), Xz (.store 6 (.t 5) (.t 19))]) (.seq (.reg [Xf 20 0 5, Xl 21 1 20, Xf 22 0 4, Xl 23 1 22, Xq 24 (.bin false .neq (.t 21) (.t 23)), Xm 25 24, Xu 26 25 (.fad 1 (.t 5)), Xu
 27 25 (.load false 1 (.t 26)), Xu 28 25 (.bin false .neq (.t 27) (.i 0)), Xq 29 (.pick (.t 25) .tb (.t 28)), Xm 30 29, Xu 31 30 (.fad 2 (.t 5)), Xu 32 30 (.load false 1 (.t 31)), Xu 33 30 (.bin false .neq (.t 32) (.i (-1))), Xq 34 (.pick (.t 30) .tb (.t 33)), Xm 35 34, Xu 36 35 (.fad 3 (.t 5)), Xu 37 35 (.load false 1 (.t 36)), Xu 38 35 (.len false (.t 37)), Xu 39 35 (.bin false .gtr (.t 38) (.i
 0)), Xq 40 (.pick (.t 35) .tb (.t 39)), Xm 41 40, Xu 42 41 (.fad 4 (.t 5)), Xu 43 41 (.load false 1 (.t 42)), Xu 44 41 (.bin false .neq (.t 43) (.z #[])), Xq 45 (.pick (.t 41) .tb (.t 44)), Xm 46 45, Xu 47 46 (.fad 5 (.t 5)), Xu 48 46 (.load false 1 (.t 47)), Xu 49 46 (.fad 5 (.t 4)), Xu 50 46 (.load false 1 (.t 49)), Xu 51 46 (.bin false .neq (.t 48) (.t 50)), Xq 52 (.pick (.t 46) .tb (.t 51))])
 (.cond (.t 52) (.seq (.reg [Xb 2 (.asg .fb)]) .ret) .skip))))) (.reg [Xq 53 (.bin false .add (.t 11) (.i 1)), Xm 11 53]))))))) (.seq (.reg [Xb 2 (.asg .tb)]) .ret))))
set_option maxHeartbeats 1000000 in
set_option maxRecDepth 100000 in
theorem d71 (l : List Ty) (hl : (l.length : Int) ≤ 1048576) : Does Go.Proofs.Tryz.prog 71 [.fsl 6 (l.map Ty.z)] false (.v (.bool (baseOk l))) [.dead] := by
  refine does_intro (mc := m71) (N := 54) (rs := [2]) (fx := []) 1 rfl (by decide +kernel) ?_
  simp only [m71, EV, Nat.reduceEqDiff, Nat.reduceBEq, Nat.reduceLT, Nat.reduceLeDiff, Nat.reduceAdd, Nat.reduceSub, reduceIte]
  refine cK_cut (fun h => ?_) (fun h => ?_)
  · have h0 : ¬ 3 ≤ (l.length : Int) := by simpa using h
    have e : baseOk l = false := by unfold baseOk; rw [decide_eq_false h0, Bool.false_and]
    simp only [EV, Nat.reduceEqDiff, Nat.reduceBEq, Nat.reduceLT, Nat.reduceLeDiff, Nat.reduceAdd, Nat.reduceSub, reduceIte]
    simp only [e, EV, Nat.reduceEqDiff, Nat.reduceBEq, Nat.reduceLT, Nat.reduceLeDiff, Nat.reduceAdd, Nat.reduceSub, reduceIte, evRE, retVC, cellV', evR, nfz, nfzs, nfzss, List.contains_nil, List.contains_cons, Bool.or_false, or_true]
  have h3 : 3 ≤ (l.length : Int) := by simpa using h
  have hb : baseOk l = eqL sameTy (l.take 3) baseTs := by unfold baseOk; rw [decide_eq_true h3, Bool.true_and]
  have ht3 : (l.take 3).length = 3 := by simp; omega
  clear h
  simp only [EV, Nat.reduceEqDiff, Nat.reduceBEq, Nat.reduceLT, Nat.reduceLeDiff, Nat.reduceAdd, Nat.reduceSub, reduceIte]
  refine callK_i Fz.d57 ?_
  have h3' : ((3 : Nat) : Int) = 3 := rfl
  simp only [base_len, h3', EV, Nat.reduceEqDiff, Nat.reduceBEq, Nat.reduceLT, Nat.reduceLeDiff, Nat.reduceAdd, Nat.reduceSub, reduceIte]
  refine awp_loop (fun i : Nat => i ≤ 3 ∧ eqTo sameTy (l.take 3) baseTs i) (fun i => stl [(0, .fsl 6 (l.map Ty.z)), (9, .usl 34 6 (baseTs.map Ty.z)), (10, .v (.int .i64 3)), (11, .v (.int .i64 (i : Int)))]) (fun i => 3 - i) 0 ⟨Nat.zero_le _, fun j _ _ hj => absurd hj (by omega)⟩ ?_ ?_
  · simp only [EV, Nat.reduceEqDiff, Nat.reduceBEq, Nat.reduceLT, Nat.reduceLeDiff, Nat.reduceAdd, Nat.reduceSub, reduceIte]
    rfl
  · rintro i ⟨hi, hok⟩
    simp only [EV, Nat.reduceEqDiff, Nat.reduceBEq, Nat.reduceLT, Nat.reduceLeDiff, Nat.reduceAdd, Nat.reduceSub, reduceIte]
    refine cK_cut (fun h => ?_) (fun h => ?_)
    · have h1 : i < 3 := by have : (i : Int) < 3 := by simpa using h
                            omega
      have hn : i < baseTs.length := by rw [base_len]; exact h1
      have hl' : i < l.length := by omega
      have h2 : (i : Int) < 3 := by omega
      have h4 : (i : Int) < (l.length : Int) := by omega
      have hto : (l.take 3)[i]'(by omega) = l[i] := by rw [List.getElem_take]
      have hs := sameTy_at l[i] hn
      have no : sameTy l[i] baseTs[i] = false → baseOk l = false := by
        intro e; rw [hb]; exact eqL_no (by omega) hn (by rw [hto]; exact e)
      clear h
      simp only [bne, TyE, nth_map hl', nth_map hn, h2, h1, h4, base_len, h3', Ty.z, EV, Nat.reduceEqDiff, Nat.reduceBEq, Nat.reduceLT, Nat.reduceLeDiff, Nat.reduceAdd, Nat.reduceSub, reduceIte]
      repeat' (first
    | (refine gK_cut (fun h => ?_) (fun h => ?_) <;> simp only [h, bne, EV, Nat.reduceEqDiff, Nat.reduceBEq, Nat.reduceLT, Nat.reduceLeDiff, Nat.reduceAdd, Nat.reduceSub, reduceIte])
    | (refine cK_cut (fun h => ?_) (fun h => ?_) <;> simp only [h, bne, EV, Nat.reduceEqDiff, Nat.reduceBEq, Nat.reduceLT, Nat.reduceLeDiff, Nat.reduceAdd, Nat.reduceSub, reduceIte]))
      all_goals simp only [Bool.not_eq_true', Bool.not_eq_false'] at *
      all_goals first
        | (have e : baseOk l = false := no (by rw [hs]; simp only [*, Bool.not_true, Bool.and_false, Bool.false_and])
           simp only [e, Ty.nfz, EV, Nat.reduceEqDiff, Nat.reduceBEq, Nat.reduceLT, Nat.reduceLeDiff, Nat.reduceAdd, Nat.reduceSub, reduceIte, evRE, retVC, cellV', evR, nfz, nfzs, nfzss, List.contains_nil, List.contains_cons, Bool.or_false, or_true]
           done)
        | (have e : sameTy l[i] baseTs[i] = true := by rw [hs]; simp only [*, Bool.not_false, Bool.and_true]
           rw [w64 _ (by omega)]
           exact ⟨i + 1, ⟨h1, eqTo_succ (h1 := by omega) (h2 := hn) hok (by rw [hto]; exact e)⟩, by omega, rfl⟩)
    · have h1 : i = 3 := by have : ¬ (i : Int) < 3 := by simpa using h
                            omega
      subst h1
      have e : baseOk l = true := by rw [hb]; exact eqL_yes (by rw [ht3, base_len]) (by rw [ht3]; exact hok)
      simp only [EV, Nat.reduceEqDiff, Nat.reduceBEq, Nat.reduceLT, Nat.reduceLeDiff, Nat.reduceAdd, Nat.reduceSub, reduceIte]
      simp only [e, EV, Nat.reduceEqDiff, Nat.reduceBEq, Nat.reduceLT, Nat.reduceLeDiff, Nat.reduceAdd, Nat.reduceSub, reduceIte, evRE, retVC, cellV', evR, nfz, nfzs, nfzss, List.contains_nil, List.contains_cons, Bool.or_false, or_true]
end Go.AM
namespace Go.AM
set_option linter.unusedVariables false
set_option linter.unusedSimpArgs false
theorem tyNm_comm (x o : Ty) : tyNm x o = ((x.name.toList == o.name.toList) && (x.owner.toList == o.owner.toList)) := by
  unfold tyNm
  rw [Bool.beq_comm, Bool.beq_comm (a := o.owner.toList)]
theorem tysOk_base' {l : List Ty} (h : baseOk l = false) : tysOk l = false := by
  unfold tysOk
  unfold baseOk at h
  rcases e : decide (3 ≤ (l.length : Int)) with _ | _
  · simp only [Bool.false_and]
  · rw [e, Bool.true_and] at h
    simp only [h, Bool.false_and, Bool.and_false]
theorem tysOk_long {l : List Ty} (h : 24 < (l.length : Int)) : tysOk l = false := by
  unfold tysOk
  have : decide ((l.length : Int) ≤ 24) = false := decide_eq_false (by omega)
  simp only [this, Bool.false_and, Bool.and_false]
def m54 : MC :=
 (.seq (.reg [Xb 2 (.asg .fb)]) (.seq (.seq (.reg [Xm 7 0, Xb 8 (.call (.fn 71) false [.lend (.t 7)]), Xq 9 (.un .not (.t 8)), Xm 10 9, Xu 11 10 (.mov (.t 0)), Xu 12 10 (.len false (.t 11)), Xu 13 10 (.bin false .gtr (.t 12) (.i 24)), Xq 14 (.pick (.t 10) .tb (.t 13))]) (.cond (.t 14) (.seq (.reg [Xb 2 (.asg .fb)]) .ret) .skip)) (.seq (.seq (.reg [Xm 15 0, Xq 16 (.slc false 6 (.t 15) (some (.i 3))
 none), Xn 17 16, Xq 18 (.mov (.i 0))]) (.block 0 (.loop [0, 15, 16, 17, 18] (.seq (.reg [Xq 19 (.bin false .lss (.t 18) (.t 17))]) (.seq (.cond (.t 19) .skip (.exit 0)) (.seq (.block 1 (.seq (.reg [Xm 20 18, Xi 21 6 16 18, XL 22 6 21, Xb 4 (.alloc 34 [.i, .i, .i, .s 48 3, .z, .z]), Xa 3 20, Xz (.store 6 (.t 4) (.t 22))]) (.seq (.seq (.reg [Xm 23 0, XL 24 6 4, Xb 25 (.call (.fn 72) false [.lend (.t
 23), .lend (.t 24)]), Xq 26 (.un .not (.t 25))]) (.cond (.t 26) (.seq (.reg [Xb 2 (.asg .fb)]) .ret) .skip)) (.seq (.reg [Xm 27 0, Xm 28 3, Xq 29 (.bin false .add (.i 3) (.t 28)), Xq 30 (.slc false 6 (.t 27) (some (.i 3)) (some (.t 29))), Xn 31 30, Xq 32 (.mov (.i 0))]) (.block 2 (.loop [0, 4, 15, 16, 17, 18, 27, 29, 30, 31, 32] (.seq (.reg [Xq 33 (.bin false .lss (.t 32) (.t 31))]) (.seq (.cond
 (.t 33) .skip (.exit 2)) (.seq (.block 3 (.seq (.reg [Xi 34 6 30 32, XL 35 6 34, Xb 6 (.alloc 34 [.i, .i, .i, .s 48 3, .z, .z]), Xz (.store 6 (.t 6) (.t 35))]) (.seq (.reg [Xf 36 5 4, Xl 37 1 36, Xq 38 (.bin false .neq (.t 37) (.z #[])), Xm 39 38, Xt 40 39 (.fad 5 (.t 4)), Xt 41 39 (.load false 1 (.t 40)), Xt 42 39 (.fad 5 (.t 6)), Xt 43 39 (.load false 1 (.t 42)), Xt 44 39 (.bin false .eql (.t
 41) (.t 43)), Xq 45 (.pick (.t 39) (.t 44) .fb), Xm 46 45, Xt 47 46 (.fad 4 (.t 4)), Xt 48 46 (.load false 1 (.t 47)), Xt 49 46 (.fad 4 (.t 6)), Xt 50 46 (.load false 1 (.t 49)), Xt 51 46 (.bin false .eql (.t 48) (.t 50)), Xq 52 (.pick (.t 46) (.t 51) .fb)]) (.cond (.t 52) (.seq (.reg [Xb 2 (.asg .fb)]) .ret) .skip)))) (.reg [Xq 53 (.bin false .add (.t 32) (.i 1)), Xm 32 53])))))))))) (.reg [Xq 54
 (.bin false .add (.t 18) (.i 1)), Xm 18 54]))))))) (.seq (.reg [Xb 2 (.asg .tb)]) .ret))))
set_option maxHeartbeats 1000000 in
set_option maxRecDepth 100000 in
theorem d54 (l : List Ty) (hl : (l.length : Int) ≤ 1048576) (hs : ∀ s ∈ l, s.sm) : Does Go.Proofs.Tryz.prog 54 [.fsl 6 (l.map Ty.z)] false (.v (.bool (tysOk l))) [.dead] := by
  refine does_intro (mc := m54) (N := 55) (rs := [2]) (fx := []) 1 rfl (by decide +kernel) ?_
  simp only [m54, EV, Nat.reduceEqDiff, Nat.reduceBEq, Nat.reduceLT, Nat.reduceLeDiff, Nat.reduceAdd, Nat.reduceSub, reduceIte]
  refine callK_i (d71 l hl) ?_
  simp only [EV, Nat.reduceEqDiff, Nat.reduceBEq, Nat.reduceLT, Nat.reduceLeDiff, Nat.reduceAdd, Nat.reduceSub, reduceIte]
  rcases hb : baseOk l with _ | _
  · have e : tysOk l = false := tysOk_base' hb
    simp only [EV, Nat.reduceEqDiff, Nat.reduceBEq, Nat.reduceLT, Nat.reduceLeDiff, Nat.reduceAdd, Nat.reduceSub, reduceIte]
    simp only [e, EV, Nat.reduceEqDiff, Nat.reduceBEq, Nat.reduceLT, Nat.reduceLeDiff, Nat.reduceAdd, Nat.reduceSub, reduceIte, evRE, retVC, cellV', evR, nfz, nfzs, nfzss, List.contains_nil, List.contains_cons, Bool.or_false, or_true]
  simp only [EV, Nat.reduceEqDiff, Nat.reduceBEq, Nat.reduceLT, Nat.reduceLeDiff, Nat.reduceAdd, Nat.reduceSub, reduceIte]
  refine cK_cut (fun h => ?_) (fun h => ?_)
  · have e : tysOk l = false := tysOk_long (by simpa using h)
    simp only [EV, Nat.reduceEqDiff, Nat.reduceBEq, Nat.reduceLT, Nat.reduceLeDiff, Nat.reduceAdd, Nat.reduceSub, reduceIte]
    simp only [e, EV, Nat.reduceEqDiff, Nat.reduceBEq, Nat.reduceLT, Nat.reduceLeDiff, Nat.reduceAdd, Nat.reduceSub, reduceIte, evRE, retVC, cellV', evR, nfz, nfzs, nfzss, List.contains_nil, List.contains_cons, Bool.or_false, or_true]
  have h24 : (l.length : Int) ≤ 24 := by have : ¬ 24 < (l.length : Int) := by simpa using h
                                         omega
  have hbo := hb
  simp only [baseOk, Bool.and_eq_true, decide_eq_true_eq] at hbo
  obtain ⟨hl3, e2⟩ := hbo
  have e1 : (decide (3 ≤ (l.length : Int)) && decide ((l.length : Int) ≤ 24)) = true := by rw [decide_eq_true hl3, decide_eq_true h24]; rfl
  clear h
  have h3 : ((3 : Nat) : Int) = 3 := rfl
  have t3 : (3 : Int).toNat = 3 := rfl
  simp only [h3, EV, Nat.reduceEqDiff, Nat.reduceBEq, Nat.reduceLT, Nat.reduceLeDiff, Nat.reduceAdd, Nat.reduceSub, reduceIte]
  refine ⟨by omega, hl3, by omega, ?_⟩
  simp only [← List.map_drop, ← List.map_take, t3]
  have hm : ∃ m, l.drop 3 = m := ⟨_, rfl⟩
  obtain ⟨m, hm⟩ := hm
  have hml : (m.length : Int) = (l.length : Int) - 3 := by rw [← hm]; simp; omega
  have hsub : ∀ x ∈ m, x ∈ l := by rw [← hm]; exact fun x hx => List.mem_of_mem_drop hx
  have p9 : ∀ i (h : i < m.length), tyAt l m i h = false → tysOk l = false := by
    subst hm; exact fun i h e => tysOk_no h e
  refine awp_loop (fun i : Nat => i ≤ m.length ∧ tyTo l m i) (fun i => stl [(0, .fsl 6 (l.map Ty.z)), (15, .fsl 6 (l.map Ty.z)), (16, .fsl 6 (m.map Ty.z)), (17, .v (.int .i64 (m.length : Int))), (18, .v (.int .i64 (i : Int)))]) (fun i => m.length - i) 0 ⟨Nat.zero_le _, fun j hj h => absurd h (by omega)⟩ ?_ ?_
  · have htk : List.take (l.length - 3) m = m := List.take_of_length_le (by omega)
    simp only [hm, htk, EV, Nat.reduceEqDiff, Nat.reduceBEq, Nat.reduceLT, Nat.reduceLeDiff, Nat.reduceAdd, Nat.reduceSub, reduceIte]
    rfl
  · rintro i ⟨hi, hok⟩
    simp only [EV, Nat.reduceEqDiff, Nat.reduceBEq, Nat.reduceLT, Nat.reduceLeDiff, Nat.reduceAdd, Nat.reduceSub, reduceIte]
    refine cK_cut (fun h => ?_) (fun h => ?_)
    · have h1 : i < m.length := by simpa using h
      have h2 : (i : Int) < (m.length : Int) := by omega
      have hso : m[i].sm := hs m[i] (hsub _ (List.getElem_mem h1))
      clear h
      have hw : IntKind.i64.wrap (3 + (i : Int)) = ((3 + i : Nat) : Int) := by rw [w64 _ (by omega)]; omega
      have hdt : List.take (3 + i - 3) (List.drop 3 (l.map Ty.z)) = (m.take i).map Ty.z := by
        rw [← hm, Nat.add_sub_cancel_left, ← List.map_drop, ← List.map_take]
      have ht : (m.take i).length = i := by simp; omega
      have hcl : Ty.z m[i] = [.v (.int .i64 m[i].kind), .v (.int .i64 m[i].long), .v (.int .i64 m[i].base), .fsl 3 (m[i].fields.map Fd.z), .v (.string m[i].owner), .v (.string m[i].name)] := rfl
      have d7 := d72 l m[i] hl hso
      rw [hcl] at d7
      have en : (m[i].name.toList == (⟨#[]⟩ : ByteArray).toList) = nil' m[i].name := rfl
      simp only [TyE, nth_map h1, h2, h3, Ty.z, EV, Nat.reduceEqDiff, Nat.reduceBEq, Nat.reduceLT, Nat.reduceLeDiff, Nat.reduceAdd, Nat.reduceSub, reduceIte]
      refine callK_i d7 ?_
      simp only [EV, Nat.reduceEqDiff, Nat.reduceBEq, Nat.reduceLT, Nat.reduceLeDiff, Nat.reduceAdd, Nat.reduceSub, reduceIte]
      rcases e5 : tyOk l m[i] with _ | _
      · have e : tysOk l = false := p9 i h1 (by simp only [tyAt, e5, Bool.and_false])
        simp only [EV, Nat.reduceEqDiff, Nat.reduceBEq, Nat.reduceLT, Nat.reduceLeDiff, Nat.reduceAdd, Nat.reduceSub, reduceIte]
        simp only [e, EV, Nat.reduceEqDiff, Nat.reduceBEq, Nat.reduceLT, Nat.reduceLeDiff, Nat.reduceAdd, Nat.reduceSub, reduceIte, evRE, retVC, cellV', evR, nfz, nfzs, nfzss, List.contains_nil, List.contains_cons, Bool.or_false, or_true]
      simp only [h3, hw, t3, EV, Nat.reduceEqDiff, Nat.reduceBEq, Nat.reduceLT, Nat.reduceLeDiff, Nat.reduceAdd, Nat.reduceSub, reduceIte]
      refine ⟨by omega, by omega, by omega, ?_⟩
      rw [hdt]
      refine awp_loop (fun k : Nat => k ≤ i ∧ (nil' m[i].name = true ∨ ((m.take i).take k).any (tyNm m[i]) = false)) (fun k => stl [(0, .fsl 6 (l.map Ty.z)), (4, .box 34 m[i].z), (15, .fsl 6 (l.map Ty.z)), (16, .fsl 6 (m.map Ty.z)), (17, .v (.int .i64 (m.length : Int))), (18, .v (.int .i64 (i : Int))), (27, .fsl 6 (l.map Ty.z)), (29, .v (.int .i64 ((3 + i : Nat) : Int))), (30, .fsl 6 ((m.take i).map Ty.z)), (31, .v (.int .i64 (i : Int))), (32, .v (.int .i64 (k : Int)))]) (fun k => i - k) 0 ⟨Nat.zero_le _, Or.inr (by simp)⟩ ?_ ?_
      · simp only [Ty.z, EV, Nat.reduceEqDiff, Nat.reduceBEq, Nat.reduceLT, Nat.reduceLeDiff, Nat.reduceAdd, Nat.reduceSub, reduceIte]
        rw [ht]
        rfl
      · rintro k ⟨hk, hno⟩
        simp only [Ty.z, EV, Nat.reduceEqDiff, Nat.reduceBEq, Nat.reduceLT, Nat.reduceLeDiff, Nat.reduceAdd, Nat.reduceSub, reduceIte]
        refine cK_cut (fun h => ?_) (fun h => ?_)
        · have k3 : k < i := by have : (k : Int) < i := by simpa using h
                                omega
          have k1 : k < (m.take i).length := by rw [ht]; exact k3
          have k2 : (k : Int) < i := by omega
          clear h
          have hnx : tyNm m[i] (m.take i)[k] = false → ∃ a, (a ≤ i ∧ (nil' m[i].name = true ∨ ((m.take i).take a).any (tyNm m[i]) = false)) ∧ i - a < i - k ∧ a = k + 1 := by
            intro e
            refine ⟨k + 1, ⟨by omega, ?_⟩, by omega, rfl⟩
            rcases hno with hno | hno
            · exact .inl hno
            · exact .inr (any_take k1 hno e)
          simp only [TyE, nth_map k1, k2, k3, ht, Ty.z, EV, Nat.reduceEqDiff, Nat.reduceBEq, Nat.reduceLT, Nat.reduceLeDiff, Nat.reduceAdd, Nat.reduceSub, reduceIte]
          rw [en]
          have hcm := tyNm_comm m[i] (m.take i)[k]
          rcases e3 : nil' m[i].name with _ | _
          · simp only [Bool.not_false, TyE, nth_map k1, k2, k3, ht, Ty.z, EV, Nat.reduceEqDiff, Nat.reduceBEq, Nat.reduceLT, Nat.reduceLeDiff, Nat.reduceAdd, Nat.reduceSub, reduceIte]
            repeat' (first
    | (refine gK_cut (fun h => ?_) (fun h => ?_) <;> simp only [h, EV, Nat.reduceEqDiff, Nat.reduceBEq, Nat.reduceLT, Nat.reduceLeDiff, Nat.reduceAdd, Nat.reduceSub, reduceIte])
    | (refine cK_cut (fun h => ?_) (fun h => ?_) <;> simp only [h, EV, Nat.reduceEqDiff, Nat.reduceBEq, Nat.reduceLT, Nat.reduceLeDiff, Nat.reduceAdd, Nat.reduceSub, reduceIte]))
            all_goals first
              | (have e4 : tyNm m[i] (m.take i)[k] = true := by rw [hcm]; simp only [*, Bool.and_self]
                 have e : tysOk l = false := p9 i h1 (by
                   have := any_at k1 e4
                   simp only [tyAt, e3, this, Bool.not_false, Bool.true_and, Bool.not_true, Bool.false_and])
                 simp only [e, EV, Nat.reduceEqDiff, Nat.reduceBEq, Nat.reduceLT, Nat.reduceLeDiff, Nat.reduceAdd, Nat.reduceSub, reduceIte, evRE, retVC, cellV', evR, nfz, nfzs, nfzss, List.contains_nil, List.contains_cons, Bool.or_false, or_true]
                 done)
              | (have e4 : tyNm m[i] (m.take i)[k] = false := by rw [hcm]; simp only [*, Bool.false_and, Bool.and_false]
                 obtain ⟨a, q1, q2, rfl⟩ := hnx e4
                 rw [w64 _ (by omega)]
                 exact ⟨k + 1, ⟨q1.1, by rcases q1.2 with q | q; exact absurd (e3.symm.trans q) Bool.false_ne_true; exact Or.inr q⟩, q2, rfl⟩)
          · simp only [Bool.not_true, EV, Nat.reduceEqDiff, Nat.reduceBEq, Nat.reduceLT, Nat.reduceLeDiff, Nat.reduceAdd, Nat.reduceSub, reduceIte]
            rw [w64 _ (by omega)]
            exact ⟨k + 1, ⟨by omega, Or.inl trivial⟩, by omega, rfl⟩
        · have k1 : k = i := by have : ¬ (k : Int) < i := by simpa using h
                                omega
          subst k1
          have hq : tyAt l m k h1 = true := by
            simp only [tyAt, e5, Bool.and_true]
            rcases hno with hno | hno
            · rw [hno]; rfl
            · rw [List.take_take, Nat.min_self] at hno
              rw [hno, Bool.and_false]; rfl
          simp only [EV, Nat.reduceEqDiff, Nat.reduceBEq, Nat.reduceLT, Nat.reduceLeDiff, Nat.reduceAdd, Nat.reduceSub, reduceIte]
          rw [w64 _ (by omega)]
          exact ⟨k + 1, ⟨h1, tyTo_succ h1 hok hq⟩, by omega, rfl⟩
    · have h1 : i = m.length := by have : ¬ (i : Int) < m.length := by simpa using h
                                   omega
      subst h1
      have e : tysOk l = true := tysOk_yes e1 e2 (by rw [hm]; exact hok)
      simp only [EV, Nat.reduceEqDiff, Nat.reduceBEq, Nat.reduceLT, Nat.reduceLeDiff, Nat.reduceAdd, Nat.reduceSub, reduceIte]
      simp only [e, EV, Nat.reduceEqDiff, Nat.reduceBEq, Nat.reduceLT, Nat.reduceLeDiff, Nat.reduceAdd, Nat.reduceSub, reduceIte, evRE, retVC, cellV', evR, nfz, nfzs, nfzss, List.contains_nil, List.contains_cons, Bool.or_false, or_true]
end Go.AM
namespace Go.AM
set_option linter.unusedVariables false
set_option linter.unusedSimpArgs false
def noRd (l : List Ty) (n : Nat) : Prop := ∀ j : Nat, j < n → roundAt l (j : Int) = false
theorem tabOk_yes {l : List Ty} (h : tysOk l = true) (h2 : noRd l l.length) : tabOk l = true := by
  simp only [tabOk, h, Bool.true_and, List.all_eq_true, List.mem_range]
  intro n hn
  rw [h2 n hn]; rfl
theorem tabOk_no {l : List Ty} {i : Nat} (h : i < l.length) (h2 : roundAt l (i : Int) = true) : tabOk l = false := by
  rcases e : tabOk l with _ | _
  · rfl
  · have := tabOk_round e (n := (i : Int)) (by omega) (by omega)
    rw [h2] at this; cases this
theorem tabOk_tno {l : List Ty} (h : tysOk l = false) : tabOk l = false := by simp only [tabOk, h, Bool.false_and]
def m31 : MC :=
 (.seq (.reg [Xb 2 (.asg .fb)]) (.seq (.seq (.reg [Xm 4 0, Xb 5 (.call (.fn 49) false [.lend (.t 4)]), Xq 6 (.un .not (.t 5))]) (.cond (.t 6) (.seq (.reg [Xb 2 (.asg .fb)]) .ret) .skip)) (.seq (.seq (.reg [Xm 7 0, Xn 8 7, Xq 9 (.mov (.i 0))]) (.block 0 (.loop [0, 8, 9] (.seq (.reg [Xq 10 (.bin false .lss (.t 9) (.t 8))]) (.seq (.cond (.t 10) .skip (.exit 0)) (.seq (.block 1 (.seq (.reg [Xm 11 9, Xa
 3 11]) (.seq (.reg [Xm 12 0, Xm 13 3, Xb 14 (.call (.fn 50) false [.lend (.t 12), .lend (.t 13)])]) (.cond (.t 14) (.seq (.reg [Xb 2 (.asg .fb)]) .ret) .skip)))) (.reg [Xq 15 (.bin false .add (.t 9) (.i 1)), Xm 9 15]))))))) (.seq (.reg [Xb 2 (.asg .tb)]) .ret))))
set_option maxRecDepth 100000 in
theorem d31 (l : List Ty) (hl : (l.length : Int) ≤ 1048576) (hs : ∀ s ∈ l, s.sm) : Does Go.Proofs.Tryz.prog 31 [.fsl 6 (l.map Ty.z)] false (.v (.bool (tabOk l))) [.dead] := by
  refine does_intro (mc := m31) (N := 16) (rs := [2]) (fx := []) 1 rfl (by decide +kernel) ?_
  simp only [m31, EV, Nat.reduceEqDiff, Nat.reduceBEq, Nat.reduceLT, Nat.reduceLeDiff, Nat.reduceAdd, Nat.reduceSub, reduceIte]
  refine callK_i (d49 l hl hs) ?_
  simp only [EV, Nat.reduceEqDiff, Nat.reduceBEq, Nat.reduceLT, Nat.reduceLeDiff, Nat.reduceAdd, Nat.reduceSub, reduceIte]
  rcases ht : tysOk l with _ | _
  · have e : tabOk l = false := tabOk_tno ht
    simp only [Bool.not_false, EV, Nat.reduceEqDiff, Nat.reduceBEq, Nat.reduceLT, Nat.reduceLeDiff, Nat.reduceAdd, Nat.reduceSub, reduceIte]
    simp only [e, EV, Nat.reduceEqDiff, Nat.reduceBEq, Nat.reduceLT, Nat.reduceLeDiff, Nat.reduceAdd, Nat.reduceSub, reduceIte, evRE, retVC, cellV', evR, nfz, nfzs, nfzss, List.contains_nil, List.contains_cons, Bool.or_false, or_true]
  simp only [Bool.not_true, EV, Nat.reduceEqDiff, Nat.reduceBEq, Nat.reduceLT, Nat.reduceLeDiff, Nat.reduceAdd, Nat.reduceSub, reduceIte]
  refine awp_loop (fun i : Nat => i ≤ l.length ∧ noRd l i) (fun i => stl [(0, .fsl 6 (l.map Ty.z)), (8, .v (.int .i64 (l.length : Int))), (9, .v (.int .i64 (i : Int)))]) (fun i => l.length - i) 0 ⟨Nat.zero_le _, fun j h => absurd h (by omega)⟩ ?_ ?_
  · simp only [EV, Nat.reduceEqDiff, Nat.reduceBEq, Nat.reduceLT, Nat.reduceLeDiff, Nat.reduceAdd, Nat.reduceSub, reduceIte]
    rfl
  · rintro i ⟨hi, hno⟩
    simp only [EV, Nat.reduceEqDiff, Nat.reduceBEq, Nat.reduceLT, Nat.reduceLeDiff, Nat.reduceAdd, Nat.reduceSub, reduceIte]
    refine cK_cut (fun h => ?_) (fun h => ?_)
    · have h1 : i < l.length := by simpa using h
      simp only [EV, Nat.reduceEqDiff, Nat.reduceBEq, Nat.reduceLT, Nat.reduceLeDiff, Nat.reduceAdd, Nat.reduceSub, reduceIte]
      refine callK_i (d50 l (i : Int) hl hs ht (by omega) (by omega)) ?_
      simp only [EV, Nat.reduceEqDiff, Nat.reduceBEq, Nat.reduceLT, Nat.reduceLeDiff, Nat.reduceAdd, Nat.reduceSub, reduceIte]
      rcases e1 : roundAt l (i : Int) with _ | _
      · simp only [EV, Nat.reduceEqDiff, Nat.reduceBEq, Nat.reduceLT, Nat.reduceLeDiff, Nat.reduceAdd, Nat.reduceSub, reduceIte]
        rw [w64 _ (by omega)]
        refine ⟨i + 1, ⟨h1, fun j hj => ?_⟩, by omega, rfl⟩
        by_cases e : j = i
        · subst e; exact e1
        · exact hno j (by omega)
      · have e : tabOk l = false := tabOk_no h1 e1
        simp only [EV, Nat.reduceEqDiff, Nat.reduceBEq, Nat.reduceLT, Nat.reduceLeDiff, Nat.reduceAdd, Nat.reduceSub, reduceIte]
        simp only [e, EV, Nat.reduceEqDiff, Nat.reduceBEq, Nat.reduceLT, Nat.reduceLeDiff, Nat.reduceAdd, Nat.reduceSub, reduceIte, evRE, retVC, cellV', evR, nfz, nfzs, nfzss, List.contains_nil, List.contains_cons, Bool.or_false, or_true]
    · have h1 : i = l.length := by have : ¬ (i : Int) < l.length := by simpa using h
                                   omega
      subst h1
      have e : tabOk l = true := tabOk_yes ht hno
      simp only [EV, Nat.reduceEqDiff, Nat.reduceBEq, Nat.reduceLT, Nat.reduceLeDiff, Nat.reduceAdd, Nat.reduceSub, reduceIte]
      simp only [e, EV, Nat.reduceEqDiff, Nat.reduceBEq, Nat.reduceLT, Nat.reduceLeDiff, Nat.reduceAdd, Nat.reduceSub, reduceIte, evRE, retVC, cellV', evR, nfz, nfzs, nfzss, List.contains_nil, List.contains_cons, Bool.or_false, or_true]
def m38 : MC :=
 (.seq (.reg [Xb 2 (.asg .fb)]) (.seq (.seq (.reg [Xm 4 0, Xb 5 (.call (.fn 54) false [.lend (.t 4)]), Xq 6 (.un .not (.t 5))]) (.cond (.t 6) (.seq (.reg [Xb 2 (.asg .fb)]) .ret) .skip)) (.seq (.seq (.reg [Xm 7 0, Xn 8 7, Xq 9 (.mov (.i 0))]) (.block 0 (.loop [0, 8, 9] (.seq (.reg [Xq 10 (.bin false .lss (.t 9) (.t 8))]) (.seq (.cond (.t 10) .skip (.exit 0)) (.seq (.block 1 (.seq (.reg [Xm 11 9, Xa
 3 11]) (.seq (.reg [Xm 12 0, Xm 13 3, Xb 14 (.call (.fn 55) false [.lend (.t 12), .lend (.t 13)])]) (.cond (.t 14) (.seq (.reg [Xb 2 (.asg .fb)]) .ret) .skip)))) (.reg [Xq 15 (.bin false .add (.t 9) (.i 1)), Xm 9 15]))))))) (.seq (.reg [Xb 2 (.asg .tb)]) .ret))))
set_option maxRecDepth 100000 in
theorem d38 (l : List Ty) (hl : (l.length : Int) ≤ 1048576) (hs : ∀ s ∈ l, s.sm) : Does Go.Proofs.Tryz.prog 38 [.fsl 6 (l.map Ty.z)] false (.v (.bool (tabOk l))) [.dead] := by
  refine does_intro (mc := m38) (N := 16) (rs := [2]) (fx := []) 1 rfl (by decide +kernel) ?_
  simp only [m38, EV, Nat.reduceEqDiff, Nat.reduceBEq, Nat.reduceLT, Nat.reduceLeDiff, Nat.reduceAdd, Nat.reduceSub, reduceIte]
  refine callK_i (d54 l hl hs) ?_
  simp only [EV, Nat.reduceEqDiff, Nat.reduceBEq, Nat.reduceLT, Nat.reduceLeDiff, Nat.reduceAdd, Nat.reduceSub, reduceIte]
  rcases ht : tysOk l with _ | _
  · have e : tabOk l = false := tabOk_tno ht
    simp only [Bool.not_false, EV, Nat.reduceEqDiff, Nat.reduceBEq, Nat.reduceLT, Nat.reduceLeDiff, Nat.reduceAdd, Nat.reduceSub, reduceIte]
    simp only [e, EV, Nat.reduceEqDiff, Nat.reduceBEq, Nat.reduceLT, Nat.reduceLeDiff, Nat.reduceAdd, Nat.reduceSub, reduceIte, evRE, retVC, cellV', evR, nfz, nfzs, nfzss, List.contains_nil, List.contains_cons, Bool.or_false, or_true]
  simp only [Bool.not_true, EV, Nat.reduceEqDiff, Nat.reduceBEq, Nat.reduceLT, Nat.reduceLeDiff, Nat.reduceAdd, Nat.reduceSub, reduceIte]
  refine awp_loop (fun i : Nat => i ≤ l.length ∧ noRd l i) (fun i => stl [(0, .fsl 6 (l.map Ty.z)), (8, .v (.int .i64 (l.length : Int))), (9, .v (.int .i64 (i : Int)))]) (fun i => l.length - i) 0 ⟨Nat.zero_le _, fun j h => absurd h (by omega)⟩ ?_ ?_
  · simp only [EV, Nat.reduceEqDiff, Nat.reduceBEq, Nat.reduceLT, Nat.reduceLeDiff, Nat.reduceAdd, Nat.reduceSub, reduceIte]
    rfl
  · rintro i ⟨hi, hno⟩
    simp only [EV, Nat.reduceEqDiff, Nat.reduceBEq, Nat.reduceLT, Nat.reduceLeDiff, Nat.reduceAdd, Nat.reduceSub, reduceIte]
    refine cK_cut (fun h => ?_) (fun h => ?_)
    · have h1 : i < l.length := by simpa using h
      simp only [EV, Nat.reduceEqDiff, Nat.reduceBEq, Nat.reduceLT, Nat.reduceLeDiff, Nat.reduceAdd, Nat.reduceSub, reduceIte]
      refine callK_i (d55 l (i : Int) hl hs ht (by omega) (by omega)) ?_
      simp only [EV, Nat.reduceEqDiff, Nat.reduceBEq, Nat.reduceLT, Nat.reduceLeDiff, Nat.reduceAdd, Nat.reduceSub, reduceIte]
      rcases e1 : roundAt l (i : Int) with _ | _
      · simp only [EV, Nat.reduceEqDiff, Nat.reduceBEq, Nat.reduceLT, Nat.reduceLeDiff, Nat.reduceAdd, Nat.reduceSub, reduceIte]
        rw [w64 _ (by omega)]
        refine ⟨i + 1, ⟨h1, fun j hj => ?_⟩, by omega, rfl⟩
        by_cases e : j = i
        · subst e; exact e1
        · exact hno j (by omega)
      · have e : tabOk l = false := tabOk_no h1 e1
        simp only [EV, Nat.reduceEqDiff, Nat.reduceBEq, Nat.reduceLT, Nat.reduceLeDiff, Nat.reduceAdd, Nat.reduceSub, reduceIte]
        simp only [e, EV, Nat.reduceEqDiff, Nat.reduceBEq, Nat.reduceLT, Nat.reduceLeDiff, Nat.reduceAdd, Nat.reduceSub, reduceIte, evRE, retVC, cellV', evR, nfz, nfzs, nfzss, List.contains_nil, List.contains_cons, Bool.or_false, or_true]
    · have h1 : i = l.length := by have : ¬ (i : Int) < l.length := by simpa using h
                                   omega
      subst h1
      have e : tabOk l = true := tabOk_yes ht hno
      simp only [EV, Nat.reduceEqDiff, Nat.reduceBEq, Nat.reduceLT, Nat.reduceLeDiff, Nat.reduceAdd, Nat.reduceSub, reduceIte]
      simp only [e, EV, Nat.reduceEqDiff, Nat.reduceBEq, Nat.reduceLT, Nat.reduceLeDiff, Nat.reduceAdd, Nat.reduceSub, reduceIte, evRE, retVC, cellV', evR, nfz, nfzs, nfzss, List.contains_nil, List.contains_cons, Bool.or_false, or_true]
end Go.AM
namespace Go.AM
set_option linter.unusedVariables false
set_option linter.unusedSimpArgs false
def baseAt (l : List Ty) (n : Int) : Int := match l[n.toNat]? with
  | some t => t.base
  | none => -1
theorem baseAt_eq {l : List Ty} {n : Int} (h : n.toNat < l.length) : baseAt l n = l[n.toNat].base := by simp [baseAt, h]
def chainF (l : List Ty) : Nat → Int → List Int
  | 0, _ => []
  | f + 1, n => if n < 0 then [] else n :: chainF l f (baseAt l n)
def lineL (l : List Ty) (n : Int) : List Int := chainF l (l.length + 1) n
def isL (l : List Ty) (n : Int) : Prop := n < 0 ∨ isRec l n = true
theorem isRec_in {l : List Ty} {n : Int} (h : isRec l n = true) : 0 ≤ n ∧ n < (l.length : Int) ∧ ∃ hn : n.toNat < l.length, l[n.toNat].kind = 5 := by
  simp only [isRec, Bool.and_eq_true, beq_iff_eq] at h
  obtain ⟨h0, h1, hn, hk⟩ := isNum_lt h.1
  exact ⟨h0, h1, hn, by rw [← hk]; exact h.2⟩
theorem isRec_base {l : List Ty} (ht : tysOk l = true) {n : Int} (h : isRec l n = true) : isL l (baseAt l n) ∧ (0 ≤ baseAt l n → baseAt l n ∈ kids l false n) := by
  obtain ⟨h0, h1, hn, hk⟩ := isRec_in h
  have G := tysOk_good ht hn
  rw [baseAt_eq hn]
  refine ⟨(G.rec5 hk).elim (fun e => .inl (by omega)) .inr, fun hb => ?_⟩
  rw [kids_at hn]
  have e6 : (l[n.toNat].kind == 6) = false := by rw [hk]; rfl
  simp only [prt, e6, hb, decide_true, Bool.not_false, Bool.or_true, Bool.and_self, if_true, List.mem_append, List.mem_singleton, true_or]
theorem rk_le (l : List Ty) (n : Int) : rk l n ≤ l.length := by
  unfold rk reachL
  refine Nat.le_trans (List.length_filter_le _ _) ?_
  simp
theorem chainF_irr {l : List Ty} (ht : tabOk l = true) : ∀ (f f' : Nat) (n : Int), isL l n → rk l n < f → rk l n < f' → chainF l f n = chainF l f' n
  | 0, _, n, _, h, _ => absurd h (by omega)
  | f + 1, 0, n, _, _, h => absurd h (by omega)
  | f + 1, f' + 1, n, hn, h, h' => by
    unfold chainF
    by_cases h0 : n < 0
    · rw [if_pos h0, if_pos h0]
    · rw [if_neg h0, if_neg h0]
      have hr : isRec l n = true := hn.resolve_left h0
      obtain ⟨b1, b2⟩ := isRec_base (tabOk_tys ht) hr
      obtain ⟨g0, g1, _⟩ := isRec_in hr
      by_cases hb : baseAt l n < 0
      · have e : ∀ g, chainF l g (baseAt l n) = [] := by
          intro g; cases g with
          | zero => rfl
          | succ g => unfold chainF; rw [if_pos hb]
        rw [e, e]
      · have hlt := rk_lt ht g0 g1 (b2 (by omega))
        rw [chainF_irr ht f f' (baseAt l n) b1 (by omega) (by omega)]
theorem lineL_neg {l : List Ty} {n : Int} (h : n < 0) : lineL l n = [] := by unfold lineL chainF; rw [if_pos h]
theorem lineL_rec {l : List Ty} (ht : tabOk l = true) {n : Int} (h : isRec l n = true) : lineL l n = n :: lineL l (baseAt l n) := by
  obtain ⟨b1, b2⟩ := isRec_base (tabOk_tys ht) h
  obtain ⟨g0, g1, _⟩ := isRec_in h
  unfold lineL
  rw [chainF]
  rw [if_neg (by omega)]
  by_cases hb : baseAt l n < 0
  · have e : ∀ g, chainF l g (baseAt l n) = [] := by
      intro g; cases g with
      | zero => rfl
      | succ g => unfold chainF; rw [if_pos hb]
    rw [e, e]
  · have hlt := rk_lt ht g0 g1 (b2 (by omega))
    have := rk_le l n
    rw [chainF_irr ht l.length (l.length + 1) _ b1 (by omega) (by omega)]
theorem lineL_in {l : List Ty} (ht : tabOk l = true) : ∀ (f : Nat) (n : Int), isL l n → ∀ k ∈ chainF l f n, isRec l k = true
  | 0, n, _, k, hk => by simp [chainF] at hk
  | f + 1, n, hn, k, hk => by
    unfold chainF at hk
    by_cases h0 : n < 0
    · rw [if_pos h0] at hk; simp at hk
    · rw [if_neg h0] at hk
      have hr : isRec l n = true := hn.resolve_left h0
      rcases List.mem_cons.1 hk with rfl | hk
      · exact hr
      · exact lineL_in ht f _ (isRec_base (tabOk_tys ht) hr).1 k hk
theorem chainF_len (l : List Ty) : ∀ (f : Nat) (n : Int), (chainF l f n).length ≤ f
  | 0, n => by simp [chainF]
  | f + 1, n => by
    unfold chainF
    split
    · simp
    · have := chainF_len l f (baseAt l n)
      simp; omega
theorem lineL_len (l : List Ty) (n : Int) : (lineL l n).length ≤ l.length + 1 := chainF_len _ _ _
theorem tabOk_len {l : List Ty} (h : tabOk l = true) : l.length ≤ 24 := (tysOk_len (tabOk_tys h)).2
noncomputable def recOk (l : List Ty) (n : Int) : Bool := tabOk l && isRec l n
def m15 : MC :=
 (.seq (.reg [Xb 4 (.asg .fb)]) (.seq (.reg [Xm 5 0, Xb 6 (.call (.fn 31) false [.lend (.t 5)]), Xm 7 6, Xt 8 7 (.mov (.t 0)), Xt 9 7 (.mov (.t 1)), XT 10 7 (.call (.fn 32) false [.lend (.t 8), .lend (.t 9)]), Xq 11 (.pick (.t 7) (.t 10) .fb), Xa 4 11]) .ret))
theorem d15 (l : List Ty) (n : Int) (hl : (l.length : Int) ≤ 1048576) (hs : ∀ s ∈ l, s.sm) : Does Go.Proofs.Tryz.prog 15 [.fsl 6 (l.map Ty.z), .v (.int .i64 n)] false (.v (.bool (recOk l n))) [.dead, .dead] := by
  refine does_intro (mc := m15) (N := 12) (rs := [4]) (fx := []) 2 rfl (by decide +kernel) ?_
  simp only [m15, EV, Nat.reduceEqDiff, Nat.reduceBEq, Nat.reduceLT, Nat.reduceLeDiff, Nat.reduceAdd, Nat.reduceSub, reduceIte]
  refine callK_i (d31 l hl hs) ?_
  simp only [EV, Nat.reduceEqDiff, Nat.reduceBEq, Nat.reduceLT, Nat.reduceLeDiff, Nat.reduceAdd, Nat.reduceSub, reduceIte]
  rcases e : tabOk l with _ | _
  · simp only [EV, Nat.reduceEqDiff, Nat.reduceBEq, Nat.reduceLT, Nat.reduceLeDiff, Nat.reduceAdd, Nat.reduceSub, reduceIte]
    simp only [recOk, e, Bool.false_and, EV, Nat.reduceEqDiff, Nat.reduceBEq, Nat.reduceLT, Nat.reduceLeDiff, Nat.reduceAdd, Nat.reduceSub, reduceIte, evRE, retVC, cellV', evR, nfz, nfzs, nfzss, List.contains_nil, List.contains_cons, Bool.or_false, or_true]
  · simp only [EV, Nat.reduceEqDiff, Nat.reduceBEq, Nat.reduceLT, Nat.reduceLeDiff, Nat.reduceAdd, Nat.reduceSub, reduceIte]
    refine callK_i (d32 l n hl) ?_
    simp only [EV, Nat.reduceEqDiff, Nat.reduceBEq, Nat.reduceLT, Nat.reduceLeDiff, Nat.reduceAdd, Nat.reduceSub, reduceIte]
    simp only [recOk, e, Bool.true_and, EV, Nat.reduceEqDiff, Nat.reduceBEq, Nat.reduceLT, Nat.reduceLeDiff, Nat.reduceAdd, Nat.reduceSub, reduceIte, evRE, retVC, cellV', evR, nfz, nfzs, nfzss, List.contains_nil, List.contains_cons, Bool.or_false, or_true]
def m19 : MC :=
 (.seq (.reg [Xb 4 (.asg .fb)]) (.seq (.reg [Xm 5 0, Xb 6 (.call (.fn 38) false [.lend (.t 5)]), Xm 7 6, Xt 8 7 (.mov (.t 0)), Xt 9 7 (.mov (.t 1)), XT 10 7 (.call (.fn 39) false [.lend (.t 8), .lend (.t 9), .lend (.i 5), .lend (.i 5)]), Xq 11 (.pick (.t 7) (.t 10) .fb), Xa 4 11]) .ret))
theorem d19 (l : List Ty) (n : Int) (hl : (l.length : Int) ≤ 1048576) (hs : ∀ s ∈ l, s.sm) : Does Go.Proofs.Tryz.prog 19 [.fsl 6 (l.map Ty.z), .v (.int .i64 n)] false (.v (.bool (recOk l n))) [.dead, .dead] := by
  refine does_intro (mc := m19) (N := 12) (rs := [4]) (fx := []) 2 rfl (by decide +kernel) ?_
  simp only [m19, EV, Nat.reduceEqDiff, Nat.reduceBEq, Nat.reduceLT, Nat.reduceLeDiff, Nat.reduceAdd, Nat.reduceSub, reduceIte]
  refine callK_i (d38 l hl hs) ?_
  simp only [EV, Nat.reduceEqDiff, Nat.reduceBEq, Nat.reduceLT, Nat.reduceLeDiff, Nat.reduceAdd, Nat.reduceSub, reduceIte]
  rcases e : tabOk l with _ | _
  · simp only [EV, Nat.reduceEqDiff, Nat.reduceBEq, Nat.reduceLT, Nat.reduceLeDiff, Nat.reduceAdd, Nat.reduceSub, reduceIte]
    simp only [recOk, e, Bool.false_and, EV, Nat.reduceEqDiff, Nat.reduceBEq, Nat.reduceLT, Nat.reduceLeDiff, Nat.reduceAdd, Nat.reduceSub, reduceIte, evRE, retVC, cellV', evR, nfz, nfzs, nfzss, List.contains_nil, List.contains_cons, Bool.or_false, or_true]
  · simp only [EV, Nat.reduceEqDiff, Nat.reduceBEq, Nat.reduceLT, Nat.reduceLeDiff, Nat.reduceAdd, Nat.reduceSub, reduceIte]
    refine callK_i (d39 l n 5 5 hl) ?_
    rw [kindIn_same]
    simp only [EV, Nat.reduceEqDiff, Nat.reduceBEq, Nat.reduceLT, Nat.reduceLeDiff, Nat.reduceAdd, Nat.reduceSub, reduceIte]
    have e2 : (isNum l n && kd l n == 5) = isRec l n := rfl
    simp only [recOk, e, e2, Bool.true_and, EV, Nat.reduceEqDiff, Nat.reduceBEq, Nat.reduceLT, Nat.reduceLeDiff, Nat.reduceAdd, Nat.reduceSub, reduceIte, evRE, retVC, cellV', evR, nfz, nfzs, nfzss, List.contains_nil, List.contains_cons, Bool.or_false, or_true]
def m37 : MC :=
 (.seq (.reg [Xb 4 (.asg (.nils 3 1))]) (.seq (.reg [Xb 6 (.bsl 3 1 []), Xa 5 6]) (.seq (.block 0 (.loop [0, 1, 5, 6, 17] (.seq (.seq (.reg [Xm 7 1, Xq 8 (.bin false .geq (.t 7) (.i 0))]) (.cond (.t 8) .skip (.exit 0))) (.seq (.block 1 (.reg [Xm 14 5, Xm 15 1, Xb 16 (.bsl 3 1 [.t 15]), Xb 17 (.app true 3 1 8 (.t 14) (.t 16)), Xa 5 17])) (.reg [Xm 9 0, Xm 10 1, Xi 11 6 9 10, Xf 12 2 11, Xl 13 1 12,
 Xa 1 13]))))) (.seq (.reg [Xm 18 5, Xa 4 18]) .ret))))
set_option maxRecDepth 100000 in
theorem d37 (l : List Ty) (n0 : Int) (hl : (l.length : Int) ≤ 1048576) (ht : tabOk l = true) (h0 : isL l n0) : Does Go.Proofs.Tryz.prog 37 [.fsl 6 (l.map Ty.z), .v (.int .i64 n0)] false (.usl 3 1 ((lineL l n0).map iv)) [.dead, .dead] := by
  refine does_intro (mc := m37) (N := 19) (rs := [4]) (fx := []) 2 rfl (by decide +kernel) ?_
  simp only [m37, EV, Nat.reduceEqDiff, Nat.reduceBEq, Nat.reduceLT, Nat.reduceLeDiff, Nat.reduceAdd, Nat.reduceSub, reduceIte]
  refine awp_loop (fun p : List Int × Int => isL l p.2 ∧ lineL l n0 = p.1 ++ lineL l p.2) (fun p => stl [(0, .fsl 6 (l.map Ty.z)), (1, .v (.int .i64 p.2)), (5, .usl 3 1 (p.1.map iv)), (6, .dead), (17, .dead)]) (fun p => (lineL l p.2).length) ([], n0) ⟨h0, rfl⟩ ?_ ?_
  · simp only [EV, Nat.reduceEqDiff, Nat.reduceBEq, Nat.reduceLT, Nat.reduceLeDiff, Nat.reduceAdd, Nat.reduceSub, reduceIte]
  · rintro ⟨out, n⟩ ⟨hn, he⟩
    simp only at hn he
    simp only [EV, Nat.reduceEqDiff, Nat.reduceBEq, Nat.reduceLT, Nat.reduceLeDiff, Nat.reduceAdd, Nat.reduceSub, reduceIte]
    refine cK_cut (fun h => ?_) (fun h => ?_)
    · have hr : isRec l n = true := hn.resolve_left (by have : 0 ≤ n := by simpa using h
                                                        omega)
      obtain ⟨g0, g1, gn, _⟩ := isRec_in hr
      have hle := lineL_len l n0
      have h24 := tabOk_len ht
      rw [he, List.length_append] at hle
      have hlr := lineL_rec ht hr
      have hb := (isRec_base (tabOk_tys ht) hr).1
      rw [hlr] at he
      clear h
      simp only [g0, g1, nth_map gn, iv, Ty.z, EV, Nat.reduceEqDiff, Nat.reduceBEq, Nat.reduceLT, Nat.reduceLeDiff, Nat.reduceAdd, Nat.reduceSub, reduceIte]
      refine ⟨by omega, by omega, (out ++ [n], baseAt l n), ⟨hb, by rw [he]; simp⟩, by simp only; rw [hlr]; simp, ?_⟩
      rw [List.map_append, baseAt_eq gn]
      rfl
    · have hneg : n < 0 := by have : ¬ 0 ≤ n := by simpa using h
                              omega
      rw [lineL_neg hneg, List.append_nil] at he
      subst he
      simp only [EV, Nat.reduceEqDiff, Nat.reduceBEq, Nat.reduceLT, Nat.reduceLeDiff, Nat.reduceAdd, Nat.reduceSub, reduceIte]
      simp only [iv_nfz, EV, Nat.reduceEqDiff, Nat.reduceBEq, Nat.reduceLT, Nat.reduceLeDiff, Nat.reduceAdd, Nat.reduceSub, reduceIte, evRE, retVC, cellV', evR, nfz, nfzs, nfzss, List.contains_nil, List.contains_cons, Bool.or_false, or_true]
end Go.AM
namespace Go.AM
set_option linter.unusedVariables false
set_option linter.unusedSimpArgs false
def bv (n : Int) : List AV := [.v (.int .u8 n)]
structure Cur where
  code : List Int
  pos : Int
  seed : Int
def Cur.z (c : Cur) : List AV := [.fsl 1 (c.code.map bv), .v (.int .i64 c.pos), .v (.int .u64 c.seed)]
def Cur.ok (c : Cur) (n : Int) : Prop := (c.code.length : Int) ≤ 1048576 ∧ (∀ b ∈ c.code, 0 ≤ b ∧ b ≤ 255) ∧ 0 ≤ c.pos ∧ c.pos ≤ n
theorem Cur.ok.up {c : Cur} {n m : Int} (h : c.ok n) (hm : n ≤ m) : c.ok m := ⟨h.1, h.2.1, h.2.2.1, by have := h.2.2.2; omega⟩
def andK (kd : IntKind) (a b : Int) : Int := kd.wrap (BitVec.ofInt kd.bits a &&& BitVec.ofInt kd.bits b).toNat
def shrK (kd : IntKind) (a b : Int) : Int := a.fdiv (2 ^ (min b.toNat kd.bits))
theorem evB2 :
    (∀ (kd ky : IntKind) (a b : Int) (K : AV → Prop), (binV .shr (.v (.int kd a)) (.v (.int ky b)) K = (0 ≤ b ∧ K (.v (.int kd (shrK kd a b)))))) ∧
    (∀ (kd : IntKind) (a b : Int) (K : AV → Prop), (binV .and (.v (.int kd a)) (.v (.int kd b)) K = K (.v (.int kd (andK kd a b))))) := by
  refine ⟨?_, ?_⟩ <;> intros <;> simp [binV, binC, binR, andK, shrK]
theorem andK_255 (a : Int) : 0 ≤ andK .u64 a 255 ∧ andK .u64 a 255 ≤ 255 := by
  have h2 : (BitVec.ofInt IntKind.u64.bits 255).toNat = 255 := by decide
  have e : (BitVec.ofInt IntKind.u64.bits a &&& BitVec.ofInt IntKind.u64.bits 255).toNat ≤ 255 := by
    rw [BitVec.toNat_and, h2]
    exact Nat.and_le_right
  have w : ∀ n : Nat, n ≤ 255 → IntKind.u64.wrap (n : Int) = (n : Int) := by
    intro n h1
    simp [IntKind.wrap, IntKind.bits, IntKind.signed]
    omega
  unfold andK
  rw [w _ e]
  omega
theorem evN (n : Nat) (p : List (Nat × Nat)) (i k : Nat) (K : AV → Prop) : nilchkV (.ref n p i k) K = K (.ref n p i k) := rfl
def m46 : MC :=
 (.seq (.reg [Xb 2 (.asg (.i 0))]) (.seq (.reg [Xb 3 (.asg (.i 0))]) (.join [0, 3] (.seq (.dreg [Xm 4 0, Xq 5 (.nilchk (.t 4)), Xf 6 1 5, Xl 7 1 6, Xm 8 0, Xq 9 (.nilchk (.t 8)), Xf 10 0 9, Xl 11 1 10, Xn 12 11, Xq 13 (.bin false .lss (.t 7) (.t 12))]) (.cond (.t 13) (.dreg [Xm 14 0, Xq 15 (.nilchk (.t 14)), Xf 16 0 15, Xl 17 1 16, Xm 18 0, Xq 19 (.nilchk (.t 18)), Xf 20 1 19, Xl 21 1 20, Xi 22 1
 17 21, Xl 23 1 22, Xq 24 (.conv .i64 (.t 23)), Xm 3 24]) .skip)) (.seq (.reg [Xm 25 0, Xq 26 (.nilchk (.t 25)), Xf 27 1 26, Xl 28 1 27, Xq 29 (.bin false .add (.t 28) (.i 1)), Xq 30 (.nilchk (.t 25)), Xf 31 1 30, Xz (.store 1 (.t 31) (.t 29))]) (.seq (.reg [Xm 32 0, Xm 33 0, Xq 34 (.nilchk (.t 33)), Xf 35 2 34, Xl 36 1 35, Xq 37 (.bin false .mul (.t 36) (.c (.int .u64 6364136223846793005))), Xm 38
 3, Xq 39 (.conv .u64 (.t 38)), Xq 40 (.bin false .add (.t 37) (.t 39)), Xq 41 (.bin false .add (.t 40) (.c (.int .u64 1442695040888963407))), Xq 42 (.nilchk (.t 32)), Xf 43 2 42, Xz (.store 1 (.t 43) (.t 41))]) (.seq (.seq (.dreg [Xm 44 0, Xq 45 (.nilchk (.t 44)), Xf 46 1 45, Xl 47 1 46, Xm 48 0, Xq 49 (.nilchk (.t 48)), Xf 50 0 49, Xl 51 1 50, Xn 52 51, Xq 53 (.bin false .leq (.t 47) (.t 52))])
 (.cond (.t 53) (.seq (.reg [Xm 54 3, Xa 2 54]) .ret) .skip)) (.seq (.reg [Xm 55 0, Xq 56 (.nilchk (.t 55)), Xf 57 2 56, Xl 58 1 57, Xq 59 (.bin false .shr (.t 58) (.c (.int .u64 40))), Xq 60 (.bin false .and (.t 59) (.c (.int .u64 255))), Xq 61 (.conv .i64 (.t 60)), Xa 2 61]) .ret)))))))
set_option maxRecDepth 100000 in
theorem d46 (c : Cur) (n : Int) (hc : c.ok n) (hn : n ≤ 1152921504606846976) :
    DoesE Go.Proofs.Tryz.prog 46 [.box 57 c.z] false (fun r o => ∃ (v : Int) (c' : Cur), r = .v (.int .i64 v) ∧ o = [.box 57 c'.z] ∧ 0 ≤ v ∧ v ≤ 255 ∧ c'.ok (n + 1)) := by
  obtain ⟨h1, h2, h3, h4⟩ := hc
  refine doesE_intro (mc := m46) (N := 62) (rs := [2]) (fx := [0]) 1 rfl (by decide +kernel) ?_
  simp only [m46, EV, Nat.reduceEqDiff, Nat.reduceBEq, Nat.reduceLT, Nat.reduceLeDiff, Nat.reduceAdd, Nat.reduceSub, reduceIte]
  refine awp_join (fun v : Int => 0 ≤ v ∧ v ≤ 255) (fun v => stl [(0, .box 57 c.z), (3, .v (.int .i64 v))]) ?_ ?_
  · simp only [Cur.z, evN, EV, Nat.reduceEqDiff, Nat.reduceBEq, Nat.reduceLT, Nat.reduceLeDiff, Nat.reduceAdd, Nat.reduceSub, reduceIte]
    refine cK_cut (fun h => ?_) (fun h => ?_)
    · have g1 : c.pos.toNat < c.code.length := by have : c.pos < (c.code.length : Int) := by simpa using h
                                                  omega
      have g2 : c.pos < (c.code.length : Int) := by omega
      have gb := h2 _ (List.getElem_mem g1)
      have w := w64 c.code[c.pos.toNat] (by omega)
      simp only [h3, g2, nth_map g1, bv, w, evN, EV, Nat.reduceEqDiff, Nat.reduceBEq, Nat.reduceLT, Nat.reduceLeDiff, Nat.reduceAdd, Nat.reduceSub, reduceIte]
      exact ⟨_, gb, rfl⟩
    · simp only [evN, EV, Nat.reduceEqDiff, Nat.reduceBEq, Nat.reduceLT, Nat.reduceLeDiff, Nat.reduceAdd, Nat.reduceSub, reduceIte]
      exact ⟨0, by omega, rfl⟩
  · rintro v ⟨v0, v1⟩
    have w1 := w64 (c.pos + 1) (by omega)
    simp only [Cur.z, evN, evB2, w1, EV, Nat.reduceEqDiff, Nat.reduceBEq, Nat.reduceLT, Nat.reduceLeDiff, Nat.reduceAdd, Nat.reduceSub, reduceIte]
    refine cK_cut (fun h => ?_) (fun h => ?_)
    · simp only [evN, evB2, EV, Nat.reduceEqDiff, Nat.reduceBEq, Nat.reduceLT, Nat.reduceLeDiff, Nat.reduceAdd, Nat.reduceSub, reduceIte]
      simp only [EV, Nat.reduceEqDiff, Nat.reduceBEq, Nat.reduceLT, Nat.reduceLeDiff, Nat.reduceAdd, Nat.reduceSub, reduceIte, evRE, retVC, cellV', evR, nfz, nfzs, nfzss, List.contains_nil, List.contains_cons, Bool.or_false, or_true]
      exact ⟨v, ⟨c.code, c.pos + 1, _⟩, rfl, rfl, v0, v1, h1, h2, by simp only; omega, by simp only; omega⟩
    · simp only [evN, evB2, EV, Nat.reduceEqDiff, Nat.reduceBEq, Nat.reduceLT, Nat.reduceLeDiff, Nat.reduceAdd, Nat.reduceSub, reduceIte]
      refine ⟨by omega, ?_⟩
      have ab := andK_255 (shrK .u64 (IntKind.u64.wrap (IntKind.u64.wrap (IntKind.u64.wrap (c.seed * 6364136223846793005) + IntKind.u64.wrap v) + 1442695040888963407)) 40)
      rw [w64 _ (by omega)]
      simp only [EV, Nat.reduceEqDiff, Nat.reduceBEq, Nat.reduceLT, Nat.reduceLeDiff, Nat.reduceAdd, Nat.reduceSub, reduceIte, evRE, retVC, cellV', evR, nfz, nfzs, nfzss, List.contains_nil, List.contains_cons, Bool.or_false, or_true]
      exact ⟨_, ⟨c.code, c.pos + 1, _⟩, rfl, rfl, ab.1, ab.2, h1, h2, by simp only; omega, by simp only; omega⟩
def Draws (f : Nat) (args : List AV) (c : Cur) (n m : Int) (Q : AV → Prop) : Prop :=
  DoesE Go.Proofs.Tryz.prog f (.box 57 c.z :: args) false fun r o => ∃ c' : Cur, o = .box 57 c'.z :: args.map (fun _ => AV.dead) ∧ c'.ok (n + m) ∧ Q r
theorem Draws.call {f : Nat} {args : List AV} {c : Cur} {n m : Int} {Q : AV → Prop} (h : Draws f args c n m Q) {O : AV → List AV} (hO : ∀ out, O out = out :: args.map fun _ => AV.dead) {S : AV → AV → Prop}
    (k : ∀ (r : AV) (c' : Cur), c'.ok (n + m) → Q r → S (.box 57 c'.z) r) : callK2 Go.Proofs.Tryz.prog f (.box 57 c.z :: args) false O (.box 57 c.z) S := by
  refine callE2_i (T := fun r out => ∃ c' : Cur, out = .box 57 c'.z ∧ c'.ok (n + m) ∧ Q r) h ?_ ?_
  · rintro r o ⟨c', rfl, h1, h2⟩
    exact ⟨.box 57 c'.z, ⟨c', rfl, h1, h2⟩, (hO _).symm⟩
  · rintro r out ⟨c', rfl, h1, h2⟩
    exact ⟨rfl, rfl, k r c' h1 h2⟩
theorem p46 (c : Cur) (n : Int) (hc : c.ok n) (hn : n ≤ 1152921504606846976) : Draws 46 [] c n 1 fun r => ∃ v : Int, r = .v (.int .i64 v) ∧ 0 ≤ v ∧ v ≤ 255 := by
  have h := d46 c n hc hn
  refine ⟨h.1, fun w Fz xs os h1 h2 h3 h4 => (h.2 w Fz xs os h1 h2 h3 h4).mono ?_⟩
  rintro e w' ⟨res, outs, ⟨v, c', rfl, rfl, g1, g2, g3⟩, hh⟩
  exact ⟨_, _, ⟨c', rfl, g3, v, rfl, g1, g2⟩, hh⟩
def m25 : MC :=
 (.seq (.reg [Xb 4 (.asg (.i 0))]) (.seq (.seq (.reg [Xm 6 1, Xq 7 (.bin false .leq (.t 6) (.i 1))]) (.cond (.t 7) (.seq (.reg [Xb 4 (.asg (.i 0))]) .ret) .skip)) (.seq (.reg [Xm 8 0, Xb 9 (.call (.fn 46) false [.io (.t 8)]), Xa 5 9]) (.join [0, 1, 5] (.seq (.reg [Xm 10 1, Xq 11 (.bin false .gtr (.t 10) (.i 200))]) (.cond (.t 11) (.reg [Xm 12 5, Xq 13 (.bin false .mul (.t 12) (.i 256)), Xm 14 0, Xb
 15 (.call (.fn 46) false [.io (.t 14)]), Xq 16 (.bin false .add (.t 13) (.t 15)), Xa 5 16]) .skip)) (.seq (.reg [Xm 17 5, Xm 18 1, Xq 19 (.bin false .rem (.t 17) (.t 18)), Xa 4 19]) .ret)))))
set_option maxRecDepth 100000 in
theorem p25 (c : Cur) (n k : Int) (hc : c.ok n) (hn : n ≤ 1152921504606846) (hk : k ≤ 1048577) : Draws 25 [.v (.int .i64 k)] c n 2 fun r => ∃ v : Int, r = .v (.int .i64 v) ∧ 0 ≤ v ∧ (1 < k → v < k) ∧ (k ≤ 1 → v = 0) := by
  refine doesE_intro (mc := m25) (N := 20) (rs := [4]) (fx := [0]) 2 rfl (by decide +kernel) ?_
  simp only [m25, EV, Nat.reduceEqDiff, Nat.reduceBEq, Nat.reduceLT, Nat.reduceLeDiff, Nat.reduceAdd, Nat.reduceSub, reduceIte]
  refine cK_cut (fun h => ?_) (fun h => ?_)
  · have hk1 : k ≤ 1 := by simpa using h
    simp only [EV, Nat.reduceEqDiff, Nat.reduceBEq, Nat.reduceLT, Nat.reduceLeDiff, Nat.reduceAdd, Nat.reduceSub, reduceIte]
    simp only [EV, Nat.reduceEqDiff, Nat.reduceBEq, Nat.reduceLT, Nat.reduceLeDiff, Nat.reduceAdd, Nat.reduceSub, reduceIte, evRE, retVC, cellV', evR, nfz, nfzs, nfzss, List.contains_nil, List.contains_cons, Bool.or_false, or_true]
    exact ⟨c, rfl, hc.up (by omega), 0, rfl, Int.le_refl _, fun h => absurd h (by omega), fun _ => rfl⟩
  have hk1 : 1 < k := by have : ¬ k ≤ 1 := by simpa using h
                         omega
  clear h
  simp only [EV, Nat.reduceEqDiff, Nat.reduceBEq, Nat.reduceLT, Nat.reduceLeDiff, Nat.reduceAdd, Nat.reduceSub, reduceIte]
  refine (p46 c n hc (by omega)).call (fun _ => rfl) ?_
  rintro _ c1 hc1 ⟨v, rfl, v0, v1⟩
  simp only [EV, Nat.reduceEqDiff, Nat.reduceBEq, Nat.reduceLT, Nat.reduceLeDiff, Nat.reduceAdd, Nat.reduceSub, reduceIte]
  refine awp_join (fun p : Int × Cur => 0 ≤ p.1 ∧ p.1 ≤ 65535 ∧ p.2.ok (n + 2)) (fun p => stl [(0, .box 57 p.2.z), (1, .v (.int .i64 k)), (5, .v (.int .i64 p.1))]) ?_ ?_
  · simp only [EV, Nat.reduceEqDiff, Nat.reduceBEq, Nat.reduceLT, Nat.reduceLeDiff, Nat.reduceAdd, Nat.reduceSub, reduceIte]
    refine cK_cut (fun h => ?_) (fun h => ?_)
    · simp only [EV, Nat.reduceEqDiff, Nat.reduceBEq, Nat.reduceLT, Nat.reduceLeDiff, Nat.reduceAdd, Nat.reduceSub, reduceIte]
      refine (p46 c1 (n + 1) hc1 (by omega)).call (fun _ => rfl) ?_
      rintro _ c2 hc2 ⟨u, rfl, u0, u1⟩
      simp only [EV, Nat.reduceEqDiff, Nat.reduceBEq, Nat.reduceLT, Nat.reduceLeDiff, Nat.reduceAdd, Nat.reduceSub, reduceIte]
      rw [w64 (v * 256) (by omega), w64 _ (by omega)]
      exact ⟨(v * 256 + u, c2), ⟨by simp only; omega, by simp only; omega, hc2.up (by omega)⟩, rfl⟩
    · simp only [EV, Nat.reduceEqDiff, Nat.reduceBEq, Nat.reduceLT, Nat.reduceLeDiff, Nat.reduceAdd, Nat.reduceSub, reduceIte]
      exact ⟨(v, c1), ⟨v0, by simp only; omega, hc1.up (by omega)⟩, rfl⟩
  · rintro ⟨v, c'⟩ ⟨g0, g1, g2⟩
    simp only at g0 g1 g2
    have em : v.tmod k = v % k := Int.tmod_eq_emod_of_nonneg g0
    have e0 := Int.emod_nonneg v (show k ≠ 0 by omega)
    have e1 := Int.emod_lt_of_pos v (show 0 < k by omega)
    simp only [EV, Nat.reduceEqDiff, Nat.reduceBEq, Nat.reduceLT, Nat.reduceLeDiff, Nat.reduceAdd, Nat.reduceSub, reduceIte]
    refine ⟨by omega, ?_⟩
    simp only [EV, Nat.reduceEqDiff, Nat.reduceBEq, Nat.reduceLT, Nat.reduceLeDiff, Nat.reduceAdd, Nat.reduceSub, reduceIte, evRE, retVC, cellV', evR, nfz, nfzs, nfzss, List.contains_nil, List.contains_cons, Bool.or_false, or_true]
    exact ⟨c', rfl, g2, _, rfl, by omega, fun _ => by omega, fun h => by omega⟩
def m48 : MC :=
 (.seq (.reg [Xb 4 (.asg .fb)]) (.seq (.reg [Xm 5 0, Xm 6 1, Xb 7 (.call (.fn 25) false [.io (.t 5), .lend (.t 6)]), Xq 8 (.bin false .eql (.t 7) (.i 0)), Xa 4 8]) .ret))
theorem p48 (c : Cur) (n k : Int) (hc : c.ok n) (hn : n ≤ 1152921504606846) (hk : k ≤ 1048577) : Draws 48 [.v (.int .i64 k)] c n 2 fun r => ∃ b : Bool, r = .v (.bool b) := by
  refine doesE_intro (mc := m48) (N := 9) (rs := [4]) (fx := [0]) 2 rfl (by decide +kernel) ?_
  simp only [m48, EV, Nat.reduceEqDiff, Nat.reduceBEq, Nat.reduceLT, Nat.reduceLeDiff, Nat.reduceAdd, Nat.reduceSub, reduceIte]
  refine (p25 c n k hc hn hk).call (fun _ => rfl) ?_
  rintro _ c' hc' ⟨v, rfl, _⟩
  simp only [EV, Nat.reduceEqDiff, Nat.reduceBEq, Nat.reduceLT, Nat.reduceLeDiff, Nat.reduceAdd, Nat.reduceSub, reduceIte]
  simp only [EV, Nat.reduceEqDiff, Nat.reduceBEq, Nat.reduceLT, Nat.reduceLeDiff, Nat.reduceAdd, Nat.reduceSub, reduceIte, evRE, retVC, cellV', evR, nfz, nfzs, nfzss, List.contains_nil, List.contains_cons, Bool.or_false, or_true]
  exact ⟨c', rfl, hc', _, rfl⟩
def m44 : MC :=
 (.seq (.reg [Xb 4 (.asg (.z #[]))]) (.seq (.reg [Xm 5 1, Xm 6 0, Xm 7 1, Xn 8 7, Xb 9 (.call (.fn 25) false [.io (.t 6), .lend (.t 8)]), Xi 10 1 5 9, Xl 11 1 10, Xa 4 11]) .ret))
theorem p44 (c : Cur) (n : Int) (l : List ByteArray) (hc : c.ok n) (hn : n ≤ 1152921504606846) (h0 : 0 < l.length) (hk : (l.length : Int) ≤ 1048577) :
    Draws 44 [.fsl 1 (l.map fun s => [.v (.string s)])] c n 2 fun r => ∃ s ∈ l, r = .v (.string s) := by
  refine doesE_intro (mc := m44) (N := 12) (rs := [4]) (fx := [0]) 2 rfl (by decide +kernel) ?_
  simp only [m44, EV, Nat.reduceEqDiff, Nat.reduceBEq, Nat.reduceLT, Nat.reduceLeDiff, Nat.reduceAdd, Nat.reduceSub, reduceIte]
  refine (p25 c n l.length hc hn hk).call (fun _ => rfl) ?_
  rintro _ c' hc' ⟨v, rfl, v0, v1, v2⟩
  have hv : v < (l.length : Int) := by
    by_cases h : 1 < (l.length : Int)
    · exact v1 h
    · have := v2 (by omega); omega
  have hn' : v.toNat < l.length := by omega
  simp only [v0, hv, nth_map hn', EV, Nat.reduceEqDiff, Nat.reduceBEq, Nat.reduceLT, Nat.reduceLeDiff, Nat.reduceAdd, Nat.reduceSub, reduceIte]
  simp only [EV, Nat.reduceEqDiff, Nat.reduceBEq, Nat.reduceLT, Nat.reduceLeDiff, Nat.reduceAdd, Nat.reduceSub, reduceIte, evRE, retVC, cellV', evR, nfz, nfzs, nfzss, List.contains_nil, List.contains_cons, Bool.or_false, or_true]
  exact ⟨c', rfl, hc', _, List.getElem_mem hn', rfl⟩
def m42 : MC :=
 (.seq (.reg [Xb 4 (.asg (.i 0))]) (.seq (.seq (.reg [Xm 5 0, Xm 6 1, Xq 7 (.bin false .gtr (.t 5) (.t 6))]) (.cond (.t 7) (.seq (.reg [Xm 8 0, Xa 4 8]) .ret) .skip)) (.seq (.reg [Xm 9 1, Xa 4 9]) .ret)))
theorem d42 (a b : Int) : Does Go.Proofs.Tryz.prog 42 [.v (.int .i64 a), .v (.int .i64 b)] false (.v (.int .i64 (max a b))) [.dead, .dead] := by
  refine does_intro (mc := m42) (N := 10) (rs := [4]) (fx := []) 2 rfl (by decide +kernel) ?_
  simp only [m42, EV, Nat.reduceEqDiff, Nat.reduceBEq, Nat.reduceLT, Nat.reduceLeDiff, Nat.reduceAdd, Nat.reduceSub, reduceIte]
  refine cK_cut (fun h => ?_) (fun h => ?_)
  · have e : max a b = a := by have : b < a := by simpa using h
                               omega
    simp only [EV, Nat.reduceEqDiff, Nat.reduceBEq, Nat.reduceLT, Nat.reduceLeDiff, Nat.reduceAdd, Nat.reduceSub, reduceIte]
    simp only [e, EV, Nat.reduceEqDiff, Nat.reduceBEq, Nat.reduceLT, Nat.reduceLeDiff, Nat.reduceAdd, Nat.reduceSub, reduceIte, evRE, retVC, cellV', evR, nfz, nfzs, nfzss, List.contains_nil, List.contains_cons, Bool.or_false, or_true]
  · have e : max a b = b := by have : ¬ b < a := by simpa using h
                               omega
    simp only [EV, Nat.reduceEqDiff, Nat.reduceBEq, Nat.reduceLT, Nat.reduceLeDiff, Nat.reduceAdd, Nat.reduceSub, reduceIte]
    simp only [e, EV, Nat.reduceEqDiff, Nat.reduceBEq, Nat.reduceLT, Nat.reduceLeDiff, Nat.reduceAdd, Nat.reduceSub, reduceIte, evRE, retVC, cellV', evR, nfz, nfzs, nfzss, List.contains_nil, List.contains_cons, Bool.or_false, or_true]
end Go.AM
namespace Go.AM
set_option linter.unusedVariables false
set_option linter.unusedSimpArgs false
def m58 : MC :=
 (.seq (.reg [Xb 2 (.asg (.z #[]))]) (.seq (.seq (.reg [Xm 3 0, Xq 4 (.bin false .lss (.t 3) (.i 10))]) (.cond (.t 4) (.seq (.reg [Xm 5 0, Xq 6 (.bin false .add (.i 48) (.t 5)), Xq 7 (.conv .u8 (.t 6)), Xb 8 (.bsl 5 1 [.t 7]), Xq 9 (.b2s (.t 8)), Xa 2 9]) .ret) .skip)) (.seq (.mixt [] [0, 2] [] [] [] [] (.step 0 (Xm 10 0) (.step 1 (Xq 11 (.bin false .quo (.t 10) (.i 10))) (.step 3 (Xm 13 0) (.step
 4 (Xq 14 (.bin false .rem (.t 13) (.i 10))) (.step 5 (Xq 15 (.bin false .add (.i 48) (.t 14))) (.alt (.step 2 (Xb 12 (.call (.fn 58) false [.lend (.t 11)])) (.step 6 (Xq 16 (.conv .u8 (.t 15))) (.step 7 (Xb 17 (.bsl 5 1 [.t 16])) (.step 8 (Xq 18 (.b2s (.t 17))) (.step 9 (Xq 19 (.bin false .add (.t 12) (.t 18))) (.step 10 (Xa 2 19) .nil)))))) (.step 6 (Xq 16 (.conv .u8 (.t 15))) (.alt (.step 2 (Xb
 12 (.call (.fn 58) false [.lend (.t 11)])) (.step 7 (Xb 17 (.bsl 5 1 [.t 16])) (.step 8 (Xq 18 (.b2s (.t 17))) (.step 9 (Xq 19 (.bin false .add (.t 12) (.t 18))) (.step 10 (Xa 2 19) .nil))))) (.step 7 (Xb 17 (.bsl 5 1 [.t 16])) (.alt (.step 2 (Xb 12 (.call (.fn 58) false [.lend (.t 11)])) (.step 8 (Xq 18 (.b2s (.t 17))) (.step 9 (Xq 19 (.bin false .add (.t 12) (.t 18))) (.step 10 (Xa 2 19)
 .nil)))) (.step 8 (Xq 18 (.b2s (.t 17))) (.step 2 (Xb 12 (.call (.fn 58) false [.lend (.t 11)])) (.step 9 (Xq 19 (.bin false .add (.t 12) (.t 18))) (.step 10 (Xa 2 19) .nil))))))))))))))) .ret)))
set_option maxHeartbeats 1000000 in
set_option maxRecDepth 100000 in
theorem d58 : ∀ (f : Nat) (n : Int), 0 ≤ n → n < f → n ≤ 1000000 → DoesE Go.Proofs.Tryz.prog 58 [.v (.int .i64 n)] false fun r o => ∃ s : ByteArray, r = .v (.string s) ∧ (s.size : Int) ≤ n + 1 ∧ o = [.dead]
  | 0, n, h0, h1, _ => by omega
  | f + 1, n, h0, h1, h2 => by
    refine doesE_intro (mc := m58) (N := 20) (rs := [2]) (fx := []) 1 rfl (by decide +kernel) ?_
    simp only [m58, EV, Nat.reduceEqDiff, Nat.reduceBEq, Nat.reduceLT, Nat.reduceLeDiff, Nat.reduceAdd, Nat.reduceSub, reduceIte]
    refine cK_cut (fun h => ?_) (fun h => ?_)
    · have h3 : n < 10 := by simpa using h
      simp only [EV, Nat.reduceEqDiff, Nat.reduceBEq, Nat.reduceLT, Nat.reduceLeDiff, Nat.reduceAdd, Nat.reduceSub, reduceIte]
      simp only [EV, Nat.reduceEqDiff, Nat.reduceBEq, Nat.reduceLT, Nat.reduceLeDiff, Nat.reduceAdd, Nat.reduceSub, reduceIte, evRE, retVC, cellV', evR, nfz, nfzs, nfzss, List.contains_nil, List.contains_cons, Bool.or_false, or_true]
      have h9 : (strA [IntKind.u8.wrap (IntKind.i64.wrap (48 + n))]).size = 1 := rfl
      exact ⟨_, rfl, by rw [h9]; omega⟩
    · have h3 : ¬ n < 10 := by simpa using h
      have ed : n.tdiv 10 = n / 10 := Int.tdiv_eq_ediv_of_nonneg (by omega)
      have ih := d58 f (n / 10) (by omega) (by omega) (by omega)
      have h9 : ∀ x : Int, (strA [x]).size = 1 := fun _ => rfl
      have fin : ∀ {K : AV → Prop}, (∀ s : ByteArray, (s.size : Int) ≤ n / 10 + 1 → K (.v (.string s))) → callK Go.Proofs.Tryz.prog 58 [.v (.int .i64 (n / 10))] false [.dead] K := fun hk =>
        callE_i (S := fun r => ∃ s : ByteArray, r = .v (.string s) ∧ (s.size : Int) ≤ n / 10 + 1) ih (by rintro r o ⟨s, g1, g2, g3⟩; exact ⟨⟨s, g1, g2⟩, g3⟩) (by rintro r ⟨s, rfl, g2⟩; exact hk s g2)
      simp only [ed, w64 (n / 10) (by omega), EV, Nat.reduceEqDiff, Nat.reduceBEq, Nat.reduceLT, Nat.reduceLeDiff, Nat.reduceAdd, Nat.reduceSub, reduceIte]
      refine ⟨by omega, by omega, ?_, ?_, ?_, ?_⟩
      all_goals refine fin fun s hs => ?_
      all_goals simp only [EV, Nat.reduceEqDiff, Nat.reduceBEq, Nat.reduceLT, Nat.reduceLeDiff, Nat.reduceAdd, Nat.reduceSub, reduceIte]
      all_goals refine ⟨by rw [h9]; omega, ?_⟩
      all_goals simp only [EV, Nat.reduceEqDiff, Nat.reduceBEq, Nat.reduceLT, Nat.reduceLeDiff, Nat.reduceAdd, Nat.reduceSub, reduceIte, evRE, retVC, cellV', evR, nfz, nfzs, nfzss, List.contains_nil, List.contains_cons, Bool.or_false, or_true]
      all_goals exact ⟨_, rfl, by rw [ByteArray.size_append, h9]; omega⟩
theorem base_len3 : baseTs.length = 3 := rfl
theorem n58 {n : Int} (h0 : 0 ≤ n) (h1 : n ≤ 1000000) {K : AV → Prop} (k : ∀ s : ByteArray, (s.size : Int) ≤ n + 1 → K (.v (.string s))) : callK Go.Proofs.Tryz.prog 58 [.v (.int .i64 n)] false [.dead] K :=
  callE_i (S := fun r => ∃ s : ByteArray, r = .v (.string s) ∧ (s.size : Int) ≤ n + 1) (d58 (n.toNat + 1) n h0 (by omega) h1) (by rintro r o ⟨s, g1, g2, g3⟩; exact ⟨⟨s, g1, g2⟩, g3⟩) (by rintro r ⟨s, rfl, g2⟩; exact k s g2)
end Go.AM
namespace Go.AM
set_option linter.unusedVariables false
set_option linter.unusedSimpArgs false
structure TyD (n : Int) (t : Ty) : Prop where
  few : t.fields.length ≤ 3
  names : ∀ f ∈ t.fields, 0 < (f.name.size : Int) ∧ (f.name.size : Int) ≤ 40
  owner : (t.owner.size : Int) ≤ 40
  name : (t.name.size : Int) ≤ 40
  ptr : t.kind = 6 → 0 ≤ t.base ∧ t.base < n
theorem base_tyD (n : Int) : ∀ t ∈ baseTs, TyD n t := by
  intro t ht
  simp only [baseTs, List.mem_cons, List.not_mem_nil, or_false] at ht
  rcases ht with rfl | rfl | rfl <;> exact ⟨by simp, by simp, by decide, by decide, fun h => absurd h (by decide)⟩
def m47 : MC :=
 (.seq (.reg [Xb 2 (.asg (.nils 34 6))]) (.seq (.reg [Xb 10 (.call (.fn 57) false []), Xa 3 10]) (.seq (.reg [Xm 11 0, Xb 12 (.call (.fn 25) false [.io (.t 11), .lend (.i 7)]), Xq 13 (.bin false .add (.i 3) (.t 12)), Xa 4 13]) (.seq (.block 0 (.loop [0, 3, 4, 10, 90] (.seq (.seq (.reg [Xm 14 3, Xn 15 14, Xm 16 4, Xq 17 (.bin false .lss (.t 15) (.t 16))]) (.cond (.t 17) .skip (.exit 0))) (.block 1
 (.seq (.reg [Xm 18 0, Xb 19 (.call (.fn 25) false [.io (.t 18), .lend (.i 3)]), Xq 20 (.bin false .add (.i 4) (.t 19)), Xb 21 (.build [0, 2] [0, 2] [1, 1] [.i, .i, .i, .s 48 3, .z, .z] [.t 20, .i (-1)]), Xb 5 (.alloc 34 [.i, .i, .i, .s 48 3, .z, .z]), Xz (.store 6 (.t 5) (.t 21))]) (.join [0, 3, 4, 5, 10, 90] (.seq (.reg [Xm 22 0, Xb 23 (.call (.fn 48) false [.io (.t 22), .lend (.i 2)])]) (.cond
 (.t 23) (.seq (.reg [Xm 24 0, Xb 25 (.bsl 9 1 [.z #[65], .z #[66]]), Xb 26 (.call (.fn 44) false [.io (.t 24), .give (.t 25)]), Xf 27 4 5, Xz (.store 1 (.t 27) (.t 26))]) (.reg [Xm 28 3, Xn 29 28, Xb 30 (.call (.fn 58) false [.lend (.t 29)]), Xq 31 (.bin false .add (.z #[84]) (.t 30)), Xf 32 5 5, Xz (.store 1 (.t 32) (.t 31))])) .skip)) (.join [0, 3, 4, 5, 10, 90] (.seq (.reg [Xf 33 0 5, Xl 34 1
 33]) (.block 2 (.seq (.reg [Xq 42 (.bin false .eql (.t 34) (.i 4)), Xa 41 42]) (.cond (.t 41) (.seq (.reg [Xm 43 0, Xb 44 (.call (.fn 25) false [.io (.t 43), .lend (.i 5)]), Xq 45 (.bin false .add (.i 1) (.t 44)), Xf 46 1 5, Xz (.store 1 (.t 46) (.t 45))]) (.reg [Xm 47 0, Xm 48 3, Xn 49 48, Xb 50 (.call (.fn 25) false [.io (.t 47), .lend (.t 49)]), Xf 51 2 5, Xz (.store 1 (.t 51) (.t 50))])) (.seq
 (.reg [Xq 53 (.bin false .eql (.t 34) (.i 5)), Xa 52 53]) (.cond (.t 52) (.join [0, 3, 4, 5, 10, 90] (.seq (.reg [Xm 54 0, Xm 55 3, Xn 56 55, Xb 57 (.call (.fn 25) false [.io (.t 54), .lend (.t 56)]), Xa 6 57]) (.seq (.reg [Xm 58 3, Xm 59 6, Xi 60 6 58 59, Xf 61 0 60, Xl 62 1 61, Xq 63 (.bin false .eql (.t 62) (.i 5))]) (.cond (.t 63) (.reg [Xm 64 6, Xf 65 2 5, Xz (.store 1 (.t 65) (.t 64))])
 .skip))) (.seq (.reg [Xm 66 0, Xb 67 (.call (.fn 25) false [.io (.t 66), .lend (.i 4)]), Xa 7 67]) (.block 3 (.loop [0, 3, 4, 5, 7, 10, 90] (.seq (.seq (.reg [Xm 68 7, Xq 69 (.bin false .gtr (.t 68) (.i 0))]) (.cond (.t 69) .skip (.exit 3))) (.seq (.block 4 (.mixt [] [0, 3, 4, 5, 7, 10, 90] [] [] [] [] (.step 0 (Xf 72 3 5) (.step 2 (Xm 74 7) (.step 5 (Xm 77 0) (.step 7 (Xm 79 0) (.step 8 (Xm 80 3)
 (.step 9 (Xn 81 80) (.alt (.step 1 (Xl 73 1 72) (.step 3 (Xb 75 (.call (.fn 58) false [.lend (.t 74)])) (.step 4 (Xq 76 (.bin false .add (.z #[102]) (.t 75))) (.step 6 (Xb 78 (.call (.fn 25) false [.io (.t 77), .lend (.i 3)])) (.step 10 (Xb 82 (.call (.fn 25) false [.io (.t 79), .lend (.t 81)])) (.step 11 (Xb 83 (.build [0, 1, 2] [0, 1, 2] [1, 1, 1] [.z, .i, .i] [.t 76, .t 78, .t 82])) (.step 12
 (Xb 84 (.bsl 48 3 [.t 83])) (.step 13 (Xb 85 (.app true 48 3 32 (.t 73) (.t 84))) (.step 14 (Xf 86 3 5) (.step 15 (Xz (.store 1 (.t 86) (.t 85))) .nil)))))))))) (.step 3 (Xb 75 (.call (.fn 58) false [.lend (.t 74)])) (.step 4 (Xq 76 (.bin false .add (.z #[102]) (.t 75))) (.alt (.step 1 (Xl 73 1 72) (.step 6 (Xb 78 (.call (.fn 25) false [.io (.t 77), .lend (.i 3)])) (.step 10 (Xb 82 (.call (.fn 25)
 false [.io (.t 79), .lend (.t 81)])) (.step 11 (Xb 83 (.build [0, 1, 2] [0, 1, 2] [1, 1, 1] [.z, .i, .i] [.t 76, .t 78, .t 82])) (.step 12 (Xb 84 (.bsl 48 3 [.t 83])) (.step 13 (Xb 85 (.app true 48 3 32 (.t 73) (.t 84))) (.step 14 (Xf 86 3 5) (.step 15 (Xz (.store 1 (.t 86) (.t 85))) .nil)))))))) (.step 6 (Xb 78 (.call (.fn 25) false [.io (.t 77), .lend (.i 3)])) (.alt (.step 1 (Xl 73 1 72) (.step
 10 (Xb 82 (.call (.fn 25) false [.io (.t 79), .lend (.t 81)])) (.step 11 (Xb 83 (.build [0, 1, 2] [0, 1, 2] [1, 1, 1] [.z, .i, .i] [.t 76, .t 78, .t 82])) (.step 12 (Xb 84 (.bsl 48 3 [.t 83])) (.step 13 (Xb 85 (.app true 48 3 32 (.t 73) (.t 84))) (.step 14 (Xf 86 3 5) (.step 15 (Xz (.store 1 (.t 86) (.t 85))) .nil))))))) (.step 10 (Xb 82 (.call (.fn 25) false [.io (.t 79), .lend (.t 81)])) (.alt
 (.step 1 (Xl 73 1 72) (.step 11 (Xb 83 (.build [0, 1, 2] [0, 1, 2] [1, 1, 1] [.z, .i, .i] [.t 76, .t 78, .t 82])) (.step 12 (Xb 84 (.bsl 48 3 [.t 83])) (.step 13 (Xb 85 (.app true 48 3 32 (.t 73) (.t 84))) (.step 14 (Xf 86 3 5) (.step 15 (Xz (.store 1 (.t 86) (.t 85))) .nil)))))) (.step 11 (Xb 83 (.build [0, 1, 2] [0, 1, 2] [1, 1, 1] [.z, .i, .i] [.t 76, .t 78, .t 82])) (.alt (.step 1 (Xl 73 1 72)
 (.step 12 (Xb 84 (.bsl 48 3 [.t 83])) (.step 13 (Xb 85 (.app true 48 3 32 (.t 73) (.t 84))) (.step 14 (Xf 86 3 5) (.step 15 (Xz (.store 1 (.t 86) (.t 85))) .nil))))) (.step 12 (Xb 84 (.bsl 48 3 [.t 83])) (.step 1 (Xl 73 1 72) (.step 13 (Xb 85 (.app true 48 3 32 (.t 73) (.t 84))) (.step 14 (Xf 86 3 5) (.step 15 (Xz (.store 1 (.t 86) (.t 85))) .nil))))))))))))))))))))))) (.reg [Xm 70 7, Xq 71 (.bin
 false .sub (.t 70) (.i 1)), Xa 7 71]))))))) (.reg [Xm 35 0, Xm 36 4, Xq 37 (.bin false .sub (.t 36) (.i 3)), Xb 38 (.call (.fn 25) false [.io (.t 35), .lend (.t 37)]), Xq 39 (.bin false .add (.i 3) (.t 38)), Xf 40 2 5, Xz (.store 1 (.t 40) (.t 39))]))))))) (.reg [Xm 87 3, XL 88 6 5, Xb 89 (.bsl 34 6 [.t 88]), Xb 90 (.app true 34 6 80 (.t 87) (.t 89)), Xa 3 90])))))))) (.seq (.seq (.reg [Xm 91 3,
 Xn 92 91, Xq 93 (.mov (.i 0))]) (.block 5 (.loop [0, 3, 10, 90, 91, 92, 93] (.seq (.reg [Xq 94 (.bin false .lss (.t 93) (.t 92))]) (.seq (.cond (.t 94) .skip (.exit 5)) (.join [0, 3, 10, 90, 91, 92, 93] (.block 6 (.seq (.reg [Xm 95 93, Xi 96 6 91 93, XL 97 6 96, Xb 9 (.alloc 34 [.i, .i, .i, .s 48 3, .z, .z]), Xa 8 95, Xz (.storek 6 (.t 9) (.t 97))]) (.seq (.reg [Xf 98 0 9, Xl 99 1 98, Xq 100 (.bin
 false .eql (.t 99) (.i 6)), Xm 101 100, Xt 102 101 (.mov (.t 3)), Xt 103 101 (.fad 2 (.t 9)), Xt 104 101 (.load false 1 (.t 103)), Xt 105 101 (.iad 6 (.t 102) (.t 104)), Xt 106 101 (.fad 0 (.t 105)), Xt 107 101 (.load false 1 (.t 106)), Xt 108 101 (.bin false .eql (.t 107) (.i 6)), Xq 109 (.pick (.t 101) (.t 108) .fb)]) (.cond (.t 109) (.seq (.reg [Xm 110 3, Xm 111 8, Xi 112 6 110 111, Xf 113 0
 112, Xz (.store 1 (.t 113) (.i 5))]) (.reg [Xm 114 3, Xm 115 8, Xi 116 6 114 115, Xf 117 2 116, Xz (.store 1 (.t 117) (.i (-1)))])) .skip)))) (.reg [Xq 118 (.bin false .add (.t 93) (.i 1)), Xm 93 118]))))))) (.seq (.reg [Xm 119 3, Xa 2 119]) .ret))))))
set_option maxHeartbeats 4000000 in
set_option maxRecDepth 100000 in
theorem p47 (c : Cur) (n : Int) (hc : c.ok n) (hn : n ≤ 115292150460) : Draws 47 [] c n 600 fun r => ∃ l : List Ty, r = .usl 34 6 (l.map Ty.o) ∧ 3 ≤ l.length ∧ l.length ≤ 9 ∧ ∀ t ∈ l, TyD l.length t := by
  refine doesE_intro (mc := m47) (N := 120) (rs := [2]) (fx := [0]) 1 rfl (by decide +kernel) ?_
  simp only [m47, EV, Nat.reduceEqDiff, Nat.reduceBEq, Nat.reduceLT, Nat.reduceLeDiff, Nat.reduceAdd, Nat.reduceSub, reduceIte]
  refine callK_i d57 ?_
  simp only [EV, Nat.reduceEqDiff, Nat.reduceBEq, Nat.reduceLT, Nat.reduceLeDiff, Nat.reduceAdd, Nat.reduceSub, reduceIte]
  refine (p25 c n 7 hc (by omega) (by omega)).call (fun _ => rfl) ?_
  rintro _ c1 hc1 ⟨v, rfl, v0, v1, _⟩
  have v2 := v1 (by omega)
  have hw : IntKind.i64.wrap (3 + v) = 3 + v := w64 _ (by omega)
  have hv : ∃ m : Nat, 3 + v = (m : Int) := ⟨(3 + v).toNat, by omega⟩
  obtain ⟨m, hm⟩ := hv
  have hm3 : 3 ≤ m := by omega
  have hm9 : m ≤ 9 := by omega
  have hwm : IntKind.i64.wrap (m : Int) = m := w64 _ (by omega)
  simp only [hm, hwm, EV, Nat.reduceEqDiff, Nat.reduceBEq, Nat.reduceLT, Nat.reduceLeDiff, Nat.reduceAdd, Nat.reduceSub, reduceIte]
  refine awp_loop (fun p : List Ty × Cur => 3 ≤ p.1.length ∧ p.1.length ≤ m ∧ (∀ t ∈ p.1, TyD m t) ∧ p.2.ok (n + 2 + 60 * p.1.length)) (fun p => stl [(0, .box 57 p.2.z), (3, .usl 34 6 (p.1.map Ty.o)), (4, .v (.int .i64 (m : Int))), (10, .dead), (90, .dead)]) (fun p => m - p.1.length) (baseTs, c1) ⟨by simp only [base_len3]; omega, by simp only [base_len3]; omega, base_tyD _, hc1.up (by simp only [base_len3]; omega)⟩ ?_ ?_
  · simp only [EV, Nat.reduceEqDiff, Nat.reduceBEq, Nat.reduceLT, Nat.reduceLeDiff, Nat.reduceAdd, Nat.reduceSub, reduceIte]
  · rintro ⟨l, c⟩ ⟨l3, lm, lD, hc⟩
    simp only at l3 lm lD hc
    simp only [EV, Nat.reduceEqDiff, Nat.reduceBEq, Nat.reduceLT, Nat.reduceLeDiff, Nat.reduceAdd, Nat.reduceSub, reduceIte]
    refine cK_cut (fun h => ?_) (fun h => ?_)
    · have hlm : l.length < m := by have : (l.length : Int) < (m : Int) := by simpa using h
                                    omega
      clear h
      simp only [EV, Nat.reduceEqDiff, Nat.reduceBEq, Nat.reduceLT, Nat.reduceLeDiff, Nat.reduceAdd, Nat.reduceSub, reduceIte]
      refine (p25 c _ 3 hc (by omega) (by omega)).call (fun _ => rfl) ?_
      rintro _ c2 hc2 ⟨kd, rfl, k0, k1, _⟩
      have k2 := k1 (by omega)
      have hwk : IntKind.i64.wrap (4 + kd) = 4 + kd := w64 _ (by omega)
      have hck : ∃ q : Int, 4 + kd = q := ⟨_, rfl⟩
      obtain ⟨q, hq⟩ := hck
      have hwq : IntKind.i64.wrap q = q := w64 _ (by omega)
      simp only [hq, hwq, EV, Nat.reduceEqDiff, Nat.reduceBEq, Nat.reduceLT, Nat.reduceLeDiff, Nat.reduceAdd, Nat.reduceSub, reduceIte]
      refine awp_join (fun p : Ty × Cur => (∃ o m : ByteArray, p.1 = ⟨q, 0, -1, [], o, m⟩ ∧ (o.size : Int) ≤ 40 ∧ (m.size : Int) ≤ 40) ∧ p.2.ok (n + 2 + 60 * l.length + 6)) (fun p => stl [(0, .box 57 p.2.z), (3, .usl 34 6 (l.map Ty.o)), (4, .v (.int .i64 (m : Int))), (5, .box 34 p.1.o), (10, .dead), (90, .dead)]) ?_ ?_
      · simp only [EV, Nat.reduceEqDiff, Nat.reduceBEq, Nat.reduceLT, Nat.reduceLeDiff, Nat.reduceAdd, Nat.reduceSub, reduceIte]
        refine (p48 c2 _ 2 hc2 (by omega) (by omega)).call (fun _ => rfl) ?_
        rintro _ c3 hc3 ⟨b, rfl⟩
        simp only [EV, Nat.reduceEqDiff, Nat.reduceBEq, Nat.reduceLT, Nat.reduceLeDiff, Nat.reduceAdd, Nat.reduceSub, reduceIte]
        cases b
        · simp only [EV, Nat.reduceEqDiff, Nat.reduceBEq, Nat.reduceLT, Nat.reduceLeDiff, Nat.reduceAdd, Nat.reduceSub, reduceIte]
          exact ⟨(⟨q, 0, -1, [], ⟨#[]⟩, ⟨#[]⟩⟩, c3), ⟨⟨_, _, rfl, by decide, by decide⟩, hc3.up (by omega)⟩, rfl⟩
        · simp only [EV, Nat.reduceEqDiff, Nat.reduceBEq, Nat.reduceLT, Nat.reduceLeDiff, Nat.reduceAdd, Nat.reduceSub, reduceIte]
          refine (p44 c3 _ [⟨#[65]⟩, ⟨#[66]⟩] hc3 (by omega) (by decide) (by decide)).call (fun _ => rfl) ?_
          rintro _ c4 hc4 ⟨s, hs, rfl⟩
          have hs1 : (s.size : Int) ≤ 40 := by
            simp only [List.mem_cons, List.not_mem_nil, or_false] at hs
            rcases hs with rfl | rfl <;> decide
          simp only [EV, Nat.reduceEqDiff, Nat.reduceBEq, Nat.reduceLT, Nat.reduceLeDiff, Nat.reduceAdd, Nat.reduceSub, reduceIte]
          refine n58 (by omega) (by omega) fun nm hnm => ?_
          simp only [EV, Nat.reduceEqDiff, Nat.reduceBEq, Nat.reduceLT, Nat.reduceLeDiff, Nat.reduceAdd, Nat.reduceSub, reduceIte]
          have h84 : ((⟨#[84]⟩ : ByteArray).size : Nat) = 1 := rfl
          refine ⟨by rw [h84]; omega, (⟨q, 0, -1, [], s, ⟨#[84]⟩ ++ nm⟩, c4), ⟨⟨_, _, rfl, hs1, by rw [ByteArray.size_append, h84]; omega⟩, hc4.up (by omega)⟩, rfl⟩
      rintro ⟨t, c5⟩ ⟨⟨o, mm, rfl, ho, hmm⟩, hc5⟩
      simp only at hc5
      simp only [Ty.o, List.map_nil, EV, Nat.reduceEqDiff, Nat.reduceBEq, Nat.reduceLT, Nat.reduceLeDiff, Nat.reduceAdd, Nat.reduceSub, reduceIte]
      refine awp_join (fun p : Ty × Cur => TyD m p.1 ∧ p.2.ok (n + 2 + 60 * l.length + 50)) (fun p => stl [(0, .box 57 p.2.z), (3, .usl 34 6 (l.map Ty.o)), (4, .v (.int .i64 (m : Int))), (5, .box 34 p.1.o), (10, .dead), (90, .dead)]) ?_ ?_
      · simp only [EV, Nat.reduceEqDiff, Nat.reduceBEq, Nat.reduceLT, Nat.reduceLeDiff, Nat.reduceAdd, Nat.reduceSub, reduceIte]
        rcases e4 : (q == 4) with _ | _
        rotate_left
        · have q4 : q = 4 := by simpa using e4
          simp only [e4, EV, Nat.reduceEqDiff, Nat.reduceBEq, Nat.reduceLT, Nat.reduceLeDiff, Nat.reduceAdd, Nat.reduceSub, reduceIte]
          refine (p25 c5 _ 5 hc5 (by omega) (by omega)).call (fun _ => rfl) ?_
          rintro _ c6 hc6 ⟨u, rfl, u0, u1, _⟩
          simp only [EV, Nat.reduceEqDiff, Nat.reduceBEq, Nat.reduceLT, Nat.reduceLeDiff, Nat.reduceAdd, Nat.reduceSub, reduceIte]
          refine (p25 c6 _ l.length hc6 (by omega) (by omega)).call (fun _ => rfl) ?_
          rintro _ c7 hc7 ⟨u2, rfl, _⟩
          simp only [EV, Nat.reduceEqDiff, Nat.reduceBEq, Nat.reduceLT, Nat.reduceLeDiff, Nat.reduceAdd, Nat.reduceSub, reduceIte]
          exact ⟨(⟨q, IntKind.i64.wrap (1 + u), u2, [], o, mm⟩, c7), ⟨⟨by simp, by simp, ho, hmm, fun h => by simp only at h; omega⟩, hc7.up (by omega)⟩, rfl⟩
        rcases e5 : (q == 5) with _ | _
        · have q6 : q = 6 := by
            have h4 : ¬ q = 4 := by simpa using e4
            have h5 : ¬ q = 5 := by simpa using e5
            omega
          simp only [e4, e5, EV, Nat.reduceEqDiff, Nat.reduceBEq, Nat.reduceLT, Nat.reduceLeDiff, Nat.reduceAdd, Nat.reduceSub, reduceIte]
          rw [w64 ((m : Int) - 3) (by omega)]
          refine (p25 c5 _ ((m : Int) - 3) hc5 (by omega) (by omega)).call (fun _ => rfl) ?_
          rintro _ c6 hc6 ⟨u, rfl, u0, u1, u2⟩
          have hu : 3 + u < (m : Int) := by
            by_cases h : 1 < (m : Int) - 3
            · have := u1 h; omega
            · have := u2 (by omega); omega
          simp only [EV, Nat.reduceEqDiff, Nat.reduceBEq, Nat.reduceLT, Nat.reduceLeDiff, Nat.reduceAdd, Nat.reduceSub, reduceIte]
          rw [w64 (3 + u) (by omega)]
          exact ⟨(⟨q, 0, 3 + u, [], o, mm⟩, c6), ⟨⟨by simp, by simp, ho, hmm, fun _ => ⟨by simp only; omega, hu⟩⟩, hc6.up (by omega)⟩, rfl⟩
        · have q5 : ¬ q = 6 := by have : q = 5 := by simpa using e5
                                  omega
          simp only [e4, e5, EV, Nat.reduceEqDiff, Nat.reduceBEq, Nat.reduceLT, Nat.reduceLeDiff, Nat.reduceAdd, Nat.reduceSub, reduceIte]
          refine awp_join (fun p : Int × Cur => p.2.ok (n + 2 + 60 * l.length + 8)) (fun p => stl [(0, .box 57 p.2.z), (3, .usl 34 6 (l.map Ty.o)), (4, .v (.int .i64 (m : Int))), (5, .box 34 (Ty.o ⟨q, 0, p.1, [], o, mm⟩)), (10, .dead), (90, .dead)]) ?_ ?_
          · simp only [EV, Nat.reduceEqDiff, Nat.reduceBEq, Nat.reduceLT, Nat.reduceLeDiff, Nat.reduceAdd, Nat.reduceSub, reduceIte]
            refine (p25 c5 _ l.length hc5 (by omega) (by omega)).call (fun _ => rfl) ?_
            rintro _ c6 hc6 ⟨u, rfl, u0, u1, _⟩
            have hu := u1 (by omega)
            have hun : u.toNat < l.length := by omega
            simp only [u0, hu, hun, nth_map hun, Ty.o, EV, Nat.reduceEqDiff, Nat.reduceBEq, Nat.reduceLT, Nat.reduceLeDiff, Nat.reduceAdd, Nat.reduceSub, reduceIte]
            rcases e : (l[u.toNat].kind == 5) with _ | _
            · simp only [Ty.o, EV, Nat.reduceEqDiff, Nat.reduceBEq, Nat.reduceLT, Nat.reduceLeDiff, Nat.reduceAdd, Nat.reduceSub, reduceIte]
              exact ⟨(-1, c6), hc6.up (by omega), rfl⟩
            · simp only [Ty.o, EV, Nat.reduceEqDiff, Nat.reduceBEq, Nat.reduceLT, Nat.reduceLeDiff, Nat.reduceAdd, Nat.reduceSub, reduceIte]
              exact ⟨(u, c6), hc6.up (by omega), rfl⟩
          rintro ⟨b, c6⟩ hc6
          simp only at hc6
          simp only [Ty.o, List.map_nil, EV, Nat.reduceEqDiff, Nat.reduceBEq, Nat.reduceLT, Nat.reduceLeDiff, Nat.reduceAdd, Nat.reduceSub, reduceIte]
          refine (p25 c6 _ 4 hc6 (by omega) (by omega)).call (fun _ => rfl) ?_
          rintro _ c7 hc7 ⟨k, rfl, k0, k1, _⟩
          have k3 := k1 (by omega)
          simp only [EV, Nat.reduceEqDiff, Nat.reduceBEq, Nat.reduceLT, Nat.reduceLeDiff, Nat.reduceAdd, Nat.reduceSub, reduceIte]
          refine awp_loop (fun p : List Fd × Int × Cur => (p.1.length : Int) + p.2.1 ≤ 3 ∧ 0 ≤ p.2.1 ∧ (∀ f ∈ p.1, 0 < (f.name.size : Int) ∧ (f.name.size : Int) ≤ 40) ∧ p.2.2.ok (n + 2 + 60 * l.length + 10 + 6 * p.1.length)) (fun p => stl [(0, .box 57 p.2.2.z), (3, .usl 34 6 (l.map Ty.o)), (4, .v (.int .i64 (m : Int))), (5, .box 34 (Ty.o ⟨q, 0, b, p.1, o, mm⟩)), (7, .v (.int .i64 p.2.1)), (10, .dead), (90, .dead)]) (fun p => p.2.1.toNat) ([], k, c7) ⟨by simp; omega, k0, by simp, hc7.up (by simp; omega)⟩ ?_ ?_
          · simp only [Ty.o, List.map_nil, EV, Nat.reduceEqDiff, Nat.reduceBEq, Nat.reduceLT, Nat.reduceLeDiff, Nat.reduceAdd, Nat.reduceSub, reduceIte]
          · rintro ⟨fs, k, c8⟩ ⟨g1, g2, g3, g4⟩
            simp only at g1 g2 g3 g4
            simp only [Ty.o, EV, Nat.reduceEqDiff, Nat.reduceBEq, Nat.reduceLT, Nat.reduceLeDiff, Nat.reduceAdd, Nat.reduceSub, reduceIte]
            refine cK_cut (fun h => ?_) (fun h => ?_)
            · have hk : 0 < k := by simpa using h
              clear h
              have h102 : ((⟨#[102]⟩ : ByteArray).size : Nat) = 1 := rfl
              have wk := w64 (k - 1) (by omega)
              simp only [wk, EV, Nat.reduceEqDiff, Nat.reduceBEq, Nat.reduceLT, Nat.reduceLeDiff, Nat.reduceAdd, Nat.reduceSub, reduceIte]
              have ld : ∀ (nm : ByteArray) (u v : Int) (c' : Cur), (nm.size : Int) ≤ k + 1 → c'.ok (n + 2 + 60 * l.length + 10 + 6 * fs.length + 2 + 2) →
                  (((fs ++ [(⟨⟨#[102]⟩ ++ nm, u, v⟩ : Fd)]).length : Int) + (k - 1) ≤ 3 ∧ 0 ≤ k - 1 ∧ (∀ f ∈ fs ++ [(⟨⟨#[102]⟩ ++ nm, u, v⟩ : Fd)], 0 < (f.name.size : Int) ∧ (f.name.size : Int) ≤ 40) ∧ c'.ok (n + 2 + 60 * l.length + 10 + 6 * (fs ++ [(⟨⟨#[102]⟩ ++ nm, u, v⟩ : Fd)]).length)) := by
                intro nm u v c' hnm hc'
                refine ⟨by simp; omega, by omega, ?_, hc'.up (by simp; omega)⟩
                intro f hf
                rcases List.mem_append.1 hf with hf | hf
                · exact g3 f hf
                · rw [List.mem_singleton] at hf
                  rw [hf]
                  simp only [ByteArray.size_append, h102]; omega
              have lm1 : ∀ (nm : ByteArray) (u v : Int), List.map Fd.o fs ++ [[AV.v (.string (⟨#[102]⟩ ++ nm)), AV.v (.int .i64 u), AV.v (.int .i64 v)]] = List.map Fd.o (fs ++ [⟨⟨#[102]⟩ ++ nm, u, v⟩]) := fun nm u v => by rw [List.map_append]; rfl
              refine ⟨?_, ?_⟩
              · refine n58 (by omega) (by omega) fun nm hnm => ?_
                simp only [EV, Nat.reduceEqDiff, Nat.reduceBEq, Nat.reduceLT, Nat.reduceLeDiff, Nat.reduceAdd, Nat.reduceSub, reduceIte]
                refine ⟨by rw [h102]; omega, ?_⟩
                refine (p25 c8 _ 3 g4 (by omega) (by omega)).call (fun _ => rfl) ?_
                rintro _ c9 hc9 ⟨u, rfl, _⟩
                simp only [EV, Nat.reduceEqDiff, Nat.reduceBEq, Nat.reduceLT, Nat.reduceLeDiff, Nat.reduceAdd, Nat.reduceSub, reduceIte]
                refine (p25 c9 _ l.length hc9 (by omega) (by omega)).call (fun _ => rfl) ?_
                rintro _ c10 hc10 ⟨v, rfl, _⟩
                simp only [wk, EV, Nat.reduceEqDiff, Nat.reduceBEq, Nat.reduceLT, Nat.reduceLeDiff, Nat.reduceAdd, Nat.reduceSub, reduceIte]
                refine ⟨by omega, by omega, (fs ++ [⟨⟨#[102]⟩ ++ nm, u, v⟩], k - 1, c10), ld nm u v c10 hnm hc10, by simp only; omega, ?_⟩
                simp only [lm1]
              · refine n58 (by omega) (by omega) fun nm hnm => ?_
                simp only [EV, Nat.reduceEqDiff, Nat.reduceBEq, Nat.reduceLT, Nat.reduceLeDiff, Nat.reduceAdd, Nat.reduceSub, reduceIte]
                refine ⟨by rw [h102]; omega, ?_⟩
                refine ⟨?_, ?_⟩
                · refine (p25 c8 _ 3 g4 (by omega) (by omega)).call (fun _ => rfl) ?_
                  rintro _ c9 hc9 ⟨u, rfl, _⟩
                  simp only [EV, Nat.reduceEqDiff, Nat.reduceBEq, Nat.reduceLT, Nat.reduceLeDiff, Nat.reduceAdd, Nat.reduceSub, reduceIte]
                  refine (p25 c9 _ l.length hc9 (by omega) (by omega)).call (fun _ => rfl) ?_
                  rintro _ c10 hc10 ⟨v, rfl, _⟩
                  simp only [wk, EV, Nat.reduceEqDiff, Nat.reduceBEq, Nat.reduceLT, Nat.reduceLeDiff, Nat.reduceAdd, Nat.reduceSub, reduceIte]
                  refine ⟨by omega, by omega, (fs ++ [⟨⟨#[102]⟩ ++ nm, u, v⟩], k - 1, c10), ld nm u v c10 hnm hc10, by simp only; omega, ?_⟩
                  simp only [lm1]
                · refine (p25 c8 _ 3 g4 (by omega) (by omega)).call (fun _ => rfl) ?_
                  rintro _ c9 hc9 ⟨u, rfl, _⟩
                  simp only [EV, Nat.reduceEqDiff, Nat.reduceBEq, Nat.reduceLT, Nat.reduceLeDiff, Nat.reduceAdd, Nat.reduceSub, reduceIte]
                  refine ⟨?_, ?_⟩
                  · refine (p25 c9 _ l.length hc9 (by omega) (by omega)).call (fun _ => rfl) ?_
                    rintro _ c10 hc10 ⟨v, rfl, _⟩
                    simp only [wk, EV, Nat.reduceEqDiff, Nat.reduceBEq, Nat.reduceLT, Nat.reduceLeDiff, Nat.reduceAdd, Nat.reduceSub, reduceIte]
                    refine ⟨by omega, by omega, (fs ++ [⟨⟨#[102]⟩ ++ nm, u, v⟩], k - 1, c10), ld nm u v c10 hnm hc10, by simp only; omega, ?_⟩
                    simp only [lm1]
                  · refine (p25 c9 _ l.length hc9 (by omega) (by omega)).call (fun _ => rfl) ?_
                    rintro _ c10 hc10 ⟨v, rfl, _⟩
                    simp only [wk, EV, Nat.reduceEqDiff, Nat.reduceBEq, Nat.reduceLT, Nat.reduceLeDiff, Nat.reduceAdd, Nat.reduceSub, reduceIte]
                    refine ⟨by omega, by omega, (fs ++ [⟨⟨#[102]⟩ ++ nm, u, v⟩], k - 1, c10), ld nm u v c10 hnm hc10, by simp only; omega, ?_⟩
                    simp only [lm1]
            · simp only [EV, Nat.reduceEqDiff, Nat.reduceBEq, Nat.reduceLT, Nat.reduceLeDiff, Nat.reduceAdd, Nat.reduceSub, reduceIte]
              exact ⟨(⟨q, 0, b, fs, o, mm⟩, c8), ⟨⟨by simp only; omega, g3, ho, hmm, fun h => absurd h q5⟩, g4.up (by omega)⟩, rfl⟩
      · rintro ⟨t, c6⟩ ⟨hD, hc6⟩
        simp only at hD hc6
        simp only [Ty.o, EV, Nat.reduceEqDiff, Nat.reduceBEq, Nat.reduceLT, Nat.reduceLeDiff, Nat.reduceAdd, Nat.reduceSub, reduceIte]
        refine ⟨by omega, by omega, (l ++ [t], c6), ⟨by simp; omega, by simp; omega, ?_, hc6.up (by simp; omega)⟩, by simp; omega, ?_⟩
        · intro s hs
          rcases List.mem_append.1 hs with hs | hs
          · exact lD s hs
          · rw [List.mem_singleton] at hs; rw [hs]; exact hD
        · rw [List.map_append]
          rfl
    · have hlm : l.length = m := by have : ¬ (l.length : Int) < (m : Int) := by simpa using h
                                    omega
      simp only [EV, Nat.reduceEqDiff, Nat.reduceBEq, Nat.reduceLT, Nat.reduceLeDiff, Nat.reduceAdd, Nat.reduceSub, reduceIte]
      refine awp_loop (fun p : List Ty × Nat => p.1.length = m ∧ p.2 ≤ m ∧ ∀ t ∈ p.1, TyD m t) (fun p => stl [(0, .box 57 c.z), (3, .usl 34 6 (p.1.map Ty.o)), (10, .dead), (90, .dead), (91, .sref 3 [] 0 m), (92, .v (.int .i64 (m : Int))), (93, .v (.int .i64 (p.2 : Int)))]) (fun p => m - p.2) (l, 0) ⟨hlm, Nat.zero_le _, lD⟩ ?_ ?_
      · simp only [hlm, EV, Nat.reduceEqDiff, Nat.reduceBEq, Nat.reduceLT, Nat.reduceLeDiff, Nat.reduceAdd, Nat.reduceSub, reduceIte]
        rfl
      · rintro ⟨l, i⟩ ⟨hlm, him, lD⟩
        simp only at hlm him lD
        simp only [EV, Nat.reduceEqDiff, Nat.reduceBEq, Nat.reduceLT, Nat.reduceLeDiff, Nat.reduceAdd, Nat.reduceSub, reduceIte]
        refine cK_cut (fun h => ?_) (fun h => ?_)
        · have hi : i < m := by have : (i : Int) < (m : Int) := by simpa using h
                                omega
          have hil : i < l.length := by omega
          have hi2 : (i : Int) < (m : Int) := by omega
          have hD := lD _ (List.getElem_mem hil)
          clear h
          refine awp_join (fun l : List Ty => l.length = m ∧ ∀ t ∈ l, TyD m t) (fun l => stl [(0, .box 57 c.z), (3, .usl 34 6 (l.map Ty.o)), (10, .dead), (90, .dead), (91, .sref 3 [] 0 m), (92, .v (.int .i64 (m : Int))), (93, .v (.int .i64 (i : Int)))]) ?_ ?_
          · simp only [hlm, hi, hi2, hil, nth_map hil, Ty.o, EV, Nat.reduceEqDiff, Nat.reduceBEq, Nat.reduceLT, Nat.reduceLeDiff, Nat.reduceAdd, Nat.reduceSub, reduceIte]
            have same : ∃ a : List Ty, (a.length = m ∧ ∀ t ∈ a, TyD m t) ∧ List.map Ty.o l = List.map Ty.o a := ⟨l, ⟨hlm, lD⟩, rfl⟩
            rcases e6 : (l[i].kind == 6) with _ | _
            · simp only [EV, Nat.reduceEqDiff, Nat.reduceBEq, Nat.reduceLT, Nat.reduceLeDiff, Nat.reduceAdd, Nat.reduceSub, reduceIte]
              exact ⟨l, ⟨hlm, lD⟩, rfl⟩
            · have hp := hD.ptr (by simpa using e6)
              have hb : l[i].base.toNat < l.length := by omega
              have hb1 : l[i].base.toNat < m := by omega
              have h4 : i < (l.map Ty.o).length := by simp; exact hil
              simp only [e6, hlm, hi, hi2, hil, hb, hb1, hp.1, hp.2, nth_map hb, Ty.o, EV, Nat.reduceEqDiff, Nat.reduceBEq, Nat.reduceLT, Nat.reduceLeDiff, Nat.reduceAdd, Nat.reduceSub, reduceIte]
              rcases e7 : (l[l[i].base.toNat].kind == 6) with _ | _
              · simp only [EV, Nat.reduceEqDiff, Nat.reduceBEq, Nat.reduceLT, Nat.reduceLeDiff, Nat.reduceAdd, Nat.reduceSub, reduceIte]
                exact ⟨l, ⟨hlm, lD⟩, rfl⟩
              · simp only [hlm, hi, hi2, hil, nth_map hil, nth_set h4, List.getElem?_set_self h4, h4, modify_set, Ty.o, EV, Nat.reduceEqDiff, Nat.reduceBEq, Nat.reduceLT, Nat.reduceLeDiff, Nat.reduceAdd, Nat.reduceSub, reduceIte]
                refine ⟨l.set i ⟨5, l[i].long, -1, l[i].fields, l[i].owner, l[i].name⟩, ⟨by rw [List.length_set]; exact hlm, ?_⟩, ?_⟩
                · intro t ht
                  rcases List.mem_or_eq_of_mem_set ht with h | h
                  · exact lD t h
                  · rw [h]
                    exact ⟨hD.few, hD.names, hD.owner, hD.name, fun h => absurd h (show ¬ (5 : Int) = 6 by decide)⟩
                · rw [List.map_set]
                  rfl
          · rintro l ⟨hlm, lD⟩
            simp only [EV, Nat.reduceEqDiff, Nat.reduceBEq, Nat.reduceLT, Nat.reduceLeDiff, Nat.reduceAdd, Nat.reduceSub, reduceIte]
            rw [w64 _ (by omega)]
            exact ⟨(l, i + 1), ⟨hlm, hi, lD⟩, by simp only; omega, rfl⟩
        · simp only [EV, Nat.reduceEqDiff, Nat.reduceBEq, Nat.reduceLT, Nat.reduceLeDiff, Nat.reduceAdd, Nat.reduceSub, reduceIte]
          simp only [EV, Nat.reduceEqDiff, Nat.reduceBEq, Nat.reduceLT, Nat.reduceLeDiff, Nat.reduceAdd, Nat.reduceSub, reduceIte, evRE, retVC, cellV', evR, nfz, nfzs, nfzss, List.contains_nil, List.contains_cons, Bool.or_false, or_true]
          exact ⟨⟨c, rfl, hc.up (by omega), l, rfl, by omega, by omega, by rw [hlm]; exact lD⟩, Or.inr (Ty.nfz l)⟩
end Go.AM
namespace Go.AM
set_option linter.unusedVariables false
set_option linter.unusedSimpArgs false
theorem modify_get {l : List (List AV)} {i : Nat} {a : List AV} {f : List AV → List AV} (h : l[i]? = some a) : l.modify i f = l.set i (f a) := by
  apply List.ext_getElem?
  intro j
  rw [List.getElem?_modify]
  by_cases hj : i = j
  · subst hj
    have hi : i < l.length := by
      rcases Nat.lt_or_ge i l.length with h1 | h1
      · exact h1
      · rw [List.getElem?_eq_none h1] at h; cases h
    have hl : l[i] = a := by rw [List.getElem?_eq_getElem hi] at h; exact Option.some.inj h
    simp [hi, hl]
  · simp [hj, List.getElem?_set_ne hj]
def Ty.dr (t : Ty) : Prop := t.fields.length ≤ 3 ∧ (∀ f ∈ t.fields, 0 < (f.name.size : Int) ∧ (f.name.size : Int) ≤ 40) ∧ (t.owner.size : Int) ≤ 40 ∧ (t.name.size : Int) ≤ 40
theorem Ty.dr.sm {t : Ty} (h : t.dr) : t.sm := by
  obtain ⟨h1, h2, h3, h4⟩ := h
  exact ⟨trivial, trivial, trivial, ⟨by omega, fun f hf => ⟨by have := (h2 f hf).2; omega, trivial, trivial⟩⟩, by omega, by omega⟩
theorem TyD.dr {n : Int} {t : Ty} (h : TyD n t) : t.dr := ⟨h.few, h.names, h.owner, h.name⟩
theorem set_dr (l : List Ty) {k : Nat} (h : k < l.length) (t : Ty) (ht : t.dr) (hs : ∀ s ∈ l, s.dr) (hl : l.length ≤ 9) : ∃ a : List Ty, (a.length ≤ 9 ∧ ∀ s ∈ a, s.dr) ∧ (l.map Ty.o).set k t.o = a.map Ty.o :=
  ⟨l.set k t, ⟨by rw [List.length_set]; exact hl, fun s hm => (List.mem_or_eq_of_mem_set hm).elim (hs s) (fun e => e ▸ ht)⟩, by rw [List.map_set]⟩
theorem Draws.mono {f : Nat} {args : List AV} {c : Cur} {n m : Int} {Q Q' : AV → Prop} (h : Draws f args c n m Q) (hq : ∀ r, Q r → Q' r) : Draws f args c n m Q' := by
  refine ⟨h.1, fun w Fz xs os h1 h2 h3 h4 => (h.2 w Fz xs os h1 h2 h3 h4).mono ?_⟩
  rintro e w' ⟨res, outs, ⟨c', g1, g2, g3⟩, hh⟩
  exact ⟨_, _, ⟨c', g1, g2, hq _ g3⟩, hh⟩
def m29 : MC :=
 (.seq (.reg [Xb 2 (.asg (.nils 34 6))]) (.seq (.reg [Xm 5 0, Xb 6 (.call (.fn 47) false [.io (.t 5)]), Xa 3 6]) (.seq (.reg [Xm 7 0, Xm 8 3, Xn 9 8, Xb 10 (.call (.fn 25) false [.io (.t 7), .lend (.t 9)]), Xa 4 10]) (.join [0, 3, 6, 63, 65, 66] (.seq (.reg [Xm 11 0, Xb 12 (.call (.fn 25) false [.io (.t 11), .lend (.i 30)])]) (.block 0 (.seq (.reg [Xq 14 (.bin false .eql (.t 12) (.i 0)), Xa 13 14])
 (.cond (.t 13) (.reg [Xm 15 3, Xm 16 4, Xi 17 6 15 16, Xf 18 1 17, Xl 19 1 18, Xq 20 (.bin false .add (.t 19) (.i 1)), Xi 21 6 15 16, Xf 22 1 21, Xz (.store 1 (.t 22) (.t 20))]) (.seq (.reg [Xq 24 (.bin false .eql (.t 12) (.i 1)), Xa 23 24]) (.cond (.t 23) (.reg [Xm 25 3, Xm 26 4, Xm 27 0, Xb 28 (.bsl 9 1 [.z #[], .z #[73, 78, 84], .z #[84, 51]]), Xb 29 (.call (.fn 44) false [.io (.t 27), .give
 (.t 28)]), Xi 30 6 25 26, Xf 31 5 30, Xz (.store 1 (.t 31) (.t 29))]) (.seq (.reg [Xq 33 (.bin false .eql (.t 12) (.i 2)), Xa 32 33]) (.cond (.t 32) (.seq (.reg [Xm 34 3, Xm 35 4, Xi 36 6 34 35, Xf 37 3 36, Xl 38 1 37, Xn 39 38, Xq 40 (.bin false .gtr (.t 39) (.i 0))]) (.cond (.t 40) (.mixt [4] [0, 3, 6, 63, 65, 66] [] [] [1] [Xm 42 4] (.step 0 (Xm 41 3) (.step 2 (Xi 43 6 41 42) (.step 3 (Xf 44 3
 43) (.step 5 (Xm 46 0) (.step 6 (Xm 47 3) (.step 7 (Xn 48 47) (.step 8 (Xq 49 (.bin false .add (.t 48) (.i 1))) (.alt (.step 4 (Xl 45 1 44) (.step 9 (Xb 50 (.call (.fn 25) false [.io (.t 46), .lend (.t 49)])) (.step 10 (Xq 51 (.iad 3 (.t 45) (.i 0))) (.step 11 (Xf 52 2 51) (.step 12 (Xz (.store 1 (.t 52) (.t 50))) .nil))))) (.step 9 (Xb 50 (.call (.fn 25) false [.io (.t 46), .lend (.t 49)]))
 (.step 4 (Xl 45 1 44) (.step 10 (Xq 51 (.iad 3 (.t 45) (.i 0))) (.step 11 (Xf 52 2 51) (.step 12 (Xz (.store 1 (.t 52) (.t 50))) .nil)))))))))))))) .skip)) (.seq (.reg [Xq 54 (.bin false .eql (.t 12) (.i 3)), Xa 53 54]) (.cond (.t 53) (.reg [Xm 55 3, Xm 56 4, Xm 57 0, Xb 58 (.call (.fn 25) false [.io (.t 57), .lend (.i 8)]), Xi 59 6 55 56, Xf 60 0 59, Xz (.store 1 (.t 60) (.t 58))]) (.seq (.reg
 [Xq 62 (.bin false .eql (.t 12) (.i 4)), Xa 61 62]) (.cond (.t 61) (.reg [Xm 63 3, Xm 64 0, Xb 65 (.call (.fn 25) false [.io (.t 64), .lend (.i 4)]), Xq 66 (.slc false 6 (.t 63) none (some (.t 65))), Xa 3 66]) .skip)))))))))))) (.seq (.reg [Xm 67 3, Xa 2 67]) .ret)))))
set_option maxHeartbeats 4000000 in
set_option maxRecDepth 100000 in
theorem q29 (c : Cur) (n : Int) (hc : c.ok n) (hn : n ≤ 115292150460) : Draws 29 [] c n 620 fun r => ∃ l : List Ty, r = .usl 34 6 (l.map Ty.o) ∧ l.length ≤ 9 ∧ ∀ t ∈ l, t.dr := by
  refine doesE_intro (mc := m29) (N := 68) (rs := [2]) (fx := [0]) 1 rfl (by decide +kernel) ?_
  simp only [m29, EV, Nat.reduceEqDiff, Nat.reduceBEq, Nat.reduceLT, Nat.reduceLeDiff, Nat.reduceAdd, Nat.reduceSub, reduceIte]
  refine (p47 c n hc hn).call (fun _ => rfl) ?_
  rintro _ c1 hc1 ⟨l, rfl, l3, l9, lD⟩
  have hs : ∀ t ∈ l, t.dr := fun t ht => (lD t ht).dr
  simp only [EV, Nat.reduceEqDiff, Nat.reduceBEq, Nat.reduceLT, Nat.reduceLeDiff, Nat.reduceAdd, Nat.reduceSub, reduceIte]
  refine (p25 c1 _ l.length hc1 (by omega) (by omega)).call (fun _ => rfl) ?_
  rintro _ c2 hc2 ⟨k, rfl, k0, k1, _⟩
  have kl := k1 (by omega)
  have kn : k.toNat < l.length := by omega
  simp only [EV, Nat.reduceEqDiff, Nat.reduceBEq, Nat.reduceLT, Nat.reduceLeDiff, Nat.reduceAdd, Nat.reduceSub, reduceIte]
  refine awp_join (fun p : List Ty × Cur × AV => (p.1.length ≤ 9 ∧ ∀ t ∈ p.1, t.dr) ∧ p.2.1.ok (n + 610)) (fun p => stl [(0, .box 57 p.2.1.z), (3, .usl 34 6 (p.1.map Ty.o)), (6, .dead), (63, .dead), (65, p.2.2), (66, .dead)]) ?_ ?_
  · simp only [EV, Nat.reduceEqDiff, Nat.reduceBEq, Nat.reduceLT, Nat.reduceLeDiff, Nat.reduceAdd, Nat.reduceSub, reduceIte]
    refine (p25 c2 _ 30 hc2 (by omega) (by omega)).call (fun _ => rfl) ?_
    rintro _ c3 hc3 ⟨q, rfl, q0, q1, _⟩
    have hk := hs _ (List.getElem_mem kn)
    have h4 : k.toNat < (l.map Ty.o).length := by simp; exact kn
    simp only [EV, Nat.reduceEqDiff, Nat.reduceBEq, Nat.reduceLT, Nat.reduceLeDiff, Nat.reduceAdd, Nat.reduceSub, reduceIte]
    rcases e0 : (q == 0) with _ | _
    rotate_left
    · simp only [e0, k0, kl, kn, nth_map kn, nth_set h4, List.getElem?_set_self h4, h4, modify_set, Ty.o, EV, Nat.reduceEqDiff, Nat.reduceBEq, Nat.reduceLT, Nat.reduceLeDiff, Nat.reduceAdd, Nat.reduceSub, reduceIte]
      obtain ⟨a, ha, he⟩ := set_dr l kn ⟨l[k.toNat].kind, IntKind.i64.wrap (l[k.toNat].long + 1), l[k.toNat].base, l[k.toNat].fields, l[k.toNat].owner, l[k.toNat].name⟩ (by unfold Ty.dr at hk ⊢; exact hk) hs l9
      exact ⟨(a, c3, .dead), ⟨ha, hc3.up (by omega)⟩, by rw [← he]; rfl⟩
    rcases e1 : (q == 1) with _ | _
    rotate_left
    · simp only [e0, e1, EV, Nat.reduceEqDiff, Nat.reduceBEq, Nat.reduceLT, Nat.reduceLeDiff, Nat.reduceAdd, Nat.reduceSub, reduceIte]
      refine (p44 c3 _ [⟨#[]⟩, ⟨#[73, 78, 84]⟩, ⟨#[84, 51]⟩] hc3 (by omega) (by decide) (by decide)).call (fun _ => rfl) ?_
      rintro _ c4 hc4 ⟨s, hs', rfl⟩
      simp only [e0, k0, kl, kn, nth_map kn, nth_set h4, List.getElem?_set_self h4, h4, modify_set, Ty.o, EV, Nat.reduceEqDiff, Nat.reduceBEq, Nat.reduceLT, Nat.reduceLeDiff, Nat.reduceAdd, Nat.reduceSub, reduceIte]
      have hs1 : (s.size : Int) ≤ 40 := by
        simp only [List.mem_cons, List.not_mem_nil, or_false] at hs'
        rcases hs' with rfl | rfl | rfl <;> decide
      obtain ⟨a, ha, he⟩ := set_dr l kn ⟨l[k.toNat].kind, l[k.toNat].long, l[k.toNat].base, l[k.toNat].fields, l[k.toNat].owner, s⟩ (by unfold Ty.dr at hk ⊢; exact ⟨hk.1, hk.2.1, hk.2.2.1, hs1⟩) hs l9
      exact ⟨(a, c4, .dead), ⟨ha, hc4.up (by omega)⟩, by rw [← he]; rfl⟩
    rcases e2 : (q == 2) with _ | _
    rotate_left
    · simp only [e0, e1, e2, k0, kl, kn, nth_map kn, Ty.o, EV, Nat.reduceEqDiff, Nat.reduceBEq, Nat.reduceLT, Nat.reduceLeDiff, Nat.reduceAdd, Nat.reduceSub, reduceIte]
      rcases f0 : decide (0 < (l[k.toNat].fields.length : Int)) with _ | _
      · simp only [EV, Nat.reduceEqDiff, Nat.reduceBEq, Nat.reduceLT, Nat.reduceLeDiff, Nat.reduceAdd, Nat.reduceSub, reduceIte]
        exact ⟨(l, c3, .dead), ⟨⟨l9, hs⟩, hc3.up (by omega)⟩, rfl⟩
      · have f1 : 0 < l[k.toNat].fields.length := by have : 0 < (l[k.toNat].fields.length : Int) := by simpa using f0
                                                     omega
        have wl := w64 ((l.length : Int) + 1) (by omega)
        have hg : (l.map Ty.o)[k.toNat]? = some [.v (.int .i64 l[k.toNat].kind), .v (.int .i64 l[k.toNat].long), .v (.int .i64 l[k.toNat].base), .usl 48 3 (l[k.toNat].fields.map Fd.o), .v (.string l[k.toNat].owner), .v (.string l[k.toNat].name)] := by simp [kn, Ty.o]
        have f2 : (0 : Int) < (l[k.toNat].fields.length : Int) := by omega
        have f4 : 0 < (l[k.toNat].fields.map Fd.o).length := by simp; exact f1
        simp only [f0, k0, kl, kn, nth_map kn, wl, Ty.o, EV, Nat.reduceEqDiff, Nat.reduceBEq, Nat.reduceLT, Nat.reduceLeDiff, Nat.reduceAdd, Nat.reduceSub, reduceIte]
        refine ⟨?_, ?_⟩
        · refine (p25 c3 _ ((l.length : Int) + 1) hc3 (by omega) (by omega)).call (fun _ => rfl) ?_
          rintro _ c4 hc4 ⟨u, rfl, _⟩
          simp only [hg, modify_get hg, f1, f2, f4, k0, kl, kn, nth_map kn, nth_map f1, nth_set h4, List.getElem?_set_self h4, h4, modify_set, Ty.o, Fd.o, EV, Nat.reduceEqDiff, Nat.reduceBEq, Nat.reduceLT, Nat.reduceLeDiff, Nat.reduceAdd, Nat.reduceSub, reduceIte]
          refine ⟨by omega, ?_⟩
          obtain ⟨a, ha, he⟩ := set_dr l kn ⟨l[k.toNat].kind, l[k.toNat].long, l[k.toNat].base, l[k.toNat].fields.set 0 ⟨l[k.toNat].fields[0].name, l[k.toNat].fields[0].mark, u⟩, l[k.toNat].owner, l[k.toNat].name⟩ (by
            unfold Ty.dr at hk ⊢
            refine ⟨by simpa using hk.1, fun f hf => ?_, hk.2.2.1, hk.2.2.2⟩
            rcases List.mem_or_eq_of_mem_set hf with h | h
            · exact hk.2.1 f h
            · rw [h]
              exact hk.2.1 l[k.toNat].fields[0] (List.getElem_mem f1)) hs l9
          refine ⟨(a, c4, .dead), ⟨ha, hc4.up (by omega)⟩, ?_⟩
          simp only [← he, Ty.o, List.map_set]
          rfl
        · refine (p25 c3 _ ((l.length : Int) + 1) hc3 (by omega) (by omega)).call (fun _ => rfl) ?_
          rintro _ c4 hc4 ⟨u, rfl, _⟩
          simp only [hg, modify_get hg, f1, f2, f4, k0, kl, kn, nth_map kn, nth_map f1, nth_set h4, List.getElem?_set_self h4, h4, modify_set, Ty.o, Fd.o, EV, Nat.reduceEqDiff, Nat.reduceBEq, Nat.reduceLT, Nat.reduceLeDiff, Nat.reduceAdd, Nat.reduceSub, reduceIte]
          refine ⟨by omega, ?_⟩
          obtain ⟨a, ha, he⟩ := set_dr l kn ⟨l[k.toNat].kind, l[k.toNat].long, l[k.toNat].base, l[k.toNat].fields.set 0 ⟨l[k.toNat].fields[0].name, l[k.toNat].fields[0].mark, u⟩, l[k.toNat].owner, l[k.toNat].name⟩ (by
            unfold Ty.dr at hk ⊢
            refine ⟨by simpa using hk.1, fun f hf => ?_, hk.2.2.1, hk.2.2.2⟩
            rcases List.mem_or_eq_of_mem_set hf with h | h
            · exact hk.2.1 f h
            · rw [h]
              exact hk.2.1 l[k.toNat].fields[0] (List.getElem_mem f1)) hs l9
          refine ⟨(a, c4, .dead), ⟨ha, hc4.up (by omega)⟩, ?_⟩
          simp only [← he, Ty.o, List.map_set]
          rfl
    rcases e3 : (q == 3) with _ | _
    rotate_left
    · simp only [e0, e1, e2, e3, EV, Nat.reduceEqDiff, Nat.reduceBEq, Nat.reduceLT, Nat.reduceLeDiff, Nat.reduceAdd, Nat.reduceSub, reduceIte]
      refine (p25 c3 _ 8 hc3 (by omega) (by omega)).call (fun _ => rfl) ?_
      rintro _ c4 hc4 ⟨u, rfl, _⟩
      simp only [e0, k0, kl, kn, nth_map kn, nth_set h4, List.getElem?_set_self h4, h4, modify_set, Ty.o, EV, Nat.reduceEqDiff, Nat.reduceBEq, Nat.reduceLT, Nat.reduceLeDiff, Nat.reduceAdd, Nat.reduceSub, reduceIte]
      obtain ⟨a, ha, he⟩ := set_dr l kn ⟨u, l[k.toNat].long, l[k.toNat].base, l[k.toNat].fields, l[k.toNat].owner, l[k.toNat].name⟩ (by unfold Ty.dr at hk ⊢; exact hk) hs l9
      exact ⟨(a, c4, .dead), ⟨ha, hc4.up (by omega)⟩, by rw [← he]; rfl⟩
    rcases e4' : (q == 4) with _ | _
    rotate_left
    · simp only [e0, e1, e2, e3, e4', EV, Nat.reduceEqDiff, Nat.reduceBEq, Nat.reduceLT, Nat.reduceLeDiff, Nat.reduceAdd, Nat.reduceSub, reduceIte]
      refine (p25 c3 _ 4 hc3 (by omega) (by omega)).call (fun _ => rfl) ?_
      rintro _ c4 hc4 ⟨u, rfl, u0, u1, _⟩
      have u4 := u1 (by omega)
      simp only [EV, Nat.reduceEqDiff, Nat.reduceBEq, Nat.reduceLT, Nat.reduceLeDiff, Nat.reduceAdd, Nat.reduceSub, reduceIte]
      refine ⟨by omega, u0, by omega, (l.take u.toNat, c4, .v (.int .i64 u)), ⟨⟨by simp; omega, fun t ht => hs t (List.mem_of_mem_take ht)⟩, hc4.up (by omega)⟩, ?_⟩
      rw [← List.map_take]
    · simp only [e0, e1, e2, e3, e4', EV, Nat.reduceEqDiff, Nat.reduceBEq, Nat.reduceLT, Nat.reduceLeDiff, Nat.reduceAdd, Nat.reduceSub, reduceIte]
      exact ⟨(l, c3, .dead), ⟨⟨l9, hs⟩, hc3.up (by omega)⟩, rfl⟩
  · rintro ⟨l, c, x65⟩ ⟨⟨l9, hs⟩, hc⟩
    simp only at l9 hs hc
    simp only [EV, Nat.reduceEqDiff, Nat.reduceBEq, Nat.reduceLT, Nat.reduceLeDiff, Nat.reduceAdd, Nat.reduceSub, reduceIte]
    simp only [Ty.nfz, EV, Nat.reduceEqDiff, Nat.reduceBEq, Nat.reduceLT, Nat.reduceLeDiff, Nat.reduceAdd, Nat.reduceSub, reduceIte, evRE, retVC, cellV', evR, nfz, nfzs, nfzss, List.contains_nil, List.contains_cons, Bool.or_false, or_true]
    exact ⟨c, rfl, hc.up (by omega), l, rfl, l9, hs⟩
theorem p29 (c : Cur) (n : Int) (hc : c.ok n) (hn : n ≤ 115292150460) : Draws 29 [] c n 620 fun r => ∃ l : List Ty, r = .usl 34 6 (l.map Ty.o) ∧ l.length ≤ 9 ∧ ∀ t ∈ l, t.sm :=
  (q29 c n hc hn).mono fun _ ⟨l, h, h9, hs⟩ => ⟨l, h, h9, fun t ht => (hs t ht).sm⟩
end Go.AM
namespace Go.AM
set_option linter.unusedVariables false
set_option linter.unusedSimpArgs false
def m30 : MC :=
 (.seq (.reg [Xb 4 (.asg (.i 0))]) (.seq (.reg [Xb 5 (.asg (.nils 3 1))]) (.seq (.seq (.reg [Xm 8 1, Xn 9 8, Xq 10 (.mov (.i 0))]) (.block 0 (.loop [0, 1, 5, 8, 9, 10, 21] (.seq (.reg [Xq 11 (.bin false .lss (.t 10) (.t 9))]) (.seq (.cond (.t 11) .skip (.exit 0)) (.join [0, 1, 5, 8, 9, 10, 21] (.block 1 (.seq (.reg [Xm 12 10, Xi 13 6 8 10, XL 14 6 13, Xb 7 (.alloc 34 [.i, .i, .i, .s 48 3, .z, .z]),
 Xa 6 12, Xz (.store 6 (.t 7) (.t 14))]) (.seq (.reg [Xf 15 0 7, Xl 16 1 15, Xq 17 (.bin false .eql (.t 16) (.i 5))]) (.cond (.t 17) (.reg [Xm 18 5, Xm 19 6, Xb 20 (.bsl 3 1 [.t 19]), Xb 21 (.app true 3 1 8 (.t 18) (.t 20)), Xa 5 21]) .skip)))) (.reg [Xq 22 (.bin false .add (.t 10) (.i 1)), Xm 10 22]))))))) (.seq (.seq (.reg [Xm 23 5, Xn 24 23, Xq 25 (.bin false .eql (.t 24) (.i 0)), Xm 26 25, Xu
 27 26 (.mov (.t 0)), XU 28 26 (.call (.fn 48) false [.io (.t 27), .lend (.i 10)]), Xq 29 (.pick (.t 26) .tb (.t 28))]) (.cond (.t 29) (.seq (.reg [Xm 30 0, Xm 31 1, Xn 32 31, Xb 33 (.call (.fn 42) false [.lend (.i 1), .lend (.t 32)]), Xb 34 (.call (.fn 25) false [.io (.t 30), .lend (.t 33)]), Xa 4 34]) .ret) .skip)) (.seq (.reg [Xm 35 5, Xm 36 0, Xm 37 5, Xn 38 37, Xb 39 (.call (.fn 25) false [.io
 (.t 36), .lend (.t 38)]), Xi 40 1 35 39, Xl 41 1 40, Xa 4 41]) .ret)))))
set_option maxHeartbeats 1000000 in
set_option maxRecDepth 100000 in
theorem p30 (c : Cur) (n : Int) (l : List Ty) (hc : c.ok n) (hn : n ≤ 115292150460) (hl : l.length ≤ 9) : Draws 30 [.fsl 6 (l.map Ty.z)] c n 10 fun r => ∃ x : Int, r = .v (.int .i64 x) ∧ 0 ≤ x ∧ x ≤ 10 := by
  refine doesE_intro (mc := m30) (N := 42) (rs := [4]) (fx := [0]) 2 rfl (by decide +kernel) ?_
  simp only [m30, EV, Nat.reduceEqDiff, Nat.reduceBEq, Nat.reduceLT, Nat.reduceLeDiff, Nat.reduceAdd, Nat.reduceSub, reduceIte]
  refine awp_loop (fun p : List Int × Nat => p.2 ≤ l.length ∧ p.1.length ≤ p.2 ∧ ∀ k ∈ p.1, 0 ≤ k ∧ k ≤ 10) (fun p => stl [(0, .box 57 c.z), (1, .fsl 6 (l.map Ty.z)), (5, .usl 3 1 (p.1.map iv)), (8, .fsl 6 (l.map Ty.z)), (9, .v (.int .i64 (l.length : Int))), (10, .v (.int .i64 (p.2 : Int))), (21, .dead)]) (fun p => l.length - p.2) ([], 0) ⟨Nat.zero_le _, Nat.le_refl _, by simp⟩ ?_ ?_
  · simp only [EV, Nat.reduceEqDiff, Nat.reduceBEq, Nat.reduceLT, Nat.reduceLeDiff, Nat.reduceAdd, Nat.reduceSub, reduceIte]
    rfl
  · rintro ⟨ks, i⟩ ⟨g1, g2, g3⟩
    simp only at g1 g2 g3
    simp only [EV, Nat.reduceEqDiff, Nat.reduceBEq, Nat.reduceLT, Nat.reduceLeDiff, Nat.reduceAdd, Nat.reduceSub, reduceIte]
    refine cK_cut (fun h => ?_) (fun h => ?_)
    · have h1 : i < l.length := by simpa using h
      have h2 : (i : Int) < (l.length : Int) := by omega
      clear h
      refine awp_join (fun ks : List Int => ks.length ≤ i + 1 ∧ ∀ k ∈ ks, 0 ≤ k ∧ k ≤ 10) (fun ks => stl [(0, .box 57 c.z), (1, .fsl 6 (l.map Ty.z)), (5, .usl 3 1 (ks.map iv)), (8, .fsl 6 (l.map Ty.z)), (9, .v (.int .i64 (l.length : Int))), (10, .v (.int .i64 (i : Int))), (21, .dead)]) ?_ ?_
      · simp only [nth_map h1, h1, h2, TyE, Ty.z, EV, Nat.reduceEqDiff, Nat.reduceBEq, Nat.reduceLT, Nat.reduceLeDiff, Nat.reduceAdd, Nat.reduceSub, reduceIte]
        rcases e : (l[i].kind == 5) with _ | _
        · simp only [EV, Nat.reduceEqDiff, Nat.reduceBEq, Nat.reduceLT, Nat.reduceLeDiff, Nat.reduceAdd, Nat.reduceSub, reduceIte]
          exact ⟨ks, ⟨by omega, g3⟩, rfl⟩
        · simp only [EV, Nat.reduceEqDiff, Nat.reduceBEq, Nat.reduceLT, Nat.reduceLeDiff, Nat.reduceAdd, Nat.reduceSub, reduceIte]
          refine ⟨by omega, by omega, ks ++ [(i : Int)], ⟨by simp; omega, ?_⟩, by rw [List.map_append]; rfl⟩
          intro k hk
          rcases List.mem_append.1 hk with hk | hk
          · exact g3 k hk
          · rw [List.mem_singleton] at hk; omega
      · rintro ks ⟨g4, g5⟩
        simp only [EV, Nat.reduceEqDiff, Nat.reduceBEq, Nat.reduceLT, Nat.reduceLeDiff, Nat.reduceAdd, Nat.reduceSub, reduceIte]
        rw [w64 _ (by omega)]
        exact ⟨(ks, i + 1), ⟨h1, g4, g5⟩, by simp only; omega, rfl⟩
    · have last : ∀ (c : Cur), c.ok (n + 2) → callK2 Go.Proofs.Tryz.prog 25 [.box 57 c.z, .v (.int .i64 (max 1 (l.length : Int)))] false (fun out => [out, .dead]) (.box 57 c.z) (fun _ _ => True) → True := fun _ _ _ => trivial
      simp only [EV, Nat.reduceEqDiff, Nat.reduceBEq, Nat.reduceLT, Nat.reduceLeDiff, Nat.reduceAdd, Nat.reduceSub, reduceIte]
      rcases e0 : ((ks.length : Int) == 0) with _ | _
      rotate_left
      · simp only [EV, Nat.reduceEqDiff, Nat.reduceBEq, Nat.reduceLT, Nat.reduceLeDiff, Nat.reduceAdd, Nat.reduceSub, reduceIte]
        refine callK_i (d42 1 (l.length : Int)) ?_
        simp only [EV, Nat.reduceEqDiff, Nat.reduceBEq, Nat.reduceLT, Nat.reduceLeDiff, Nat.reduceAdd, Nat.reduceSub, reduceIte]
        refine (p25 c _ (max 1 (l.length : Int)) hc (by omega) (by omega)).call (fun _ => rfl) ?_
        rintro _ c1 hc1 ⟨u, rfl, u0, u1, u2⟩
        simp only [EV, Nat.reduceEqDiff, Nat.reduceBEq, Nat.reduceLT, Nat.reduceLeDiff, Nat.reduceAdd, Nat.reduceSub, reduceIte]
        simp only [EV, Nat.reduceEqDiff, Nat.reduceBEq, Nat.reduceLT, Nat.reduceLeDiff, Nat.reduceAdd, Nat.reduceSub, reduceIte, evRE, retVC, cellV', evR, nfz, nfzs, nfzss, List.contains_nil, List.contains_cons, Bool.or_false, or_true]
        refine ⟨c1, rfl, hc1.up (by omega), u, rfl, u0, ?_⟩
        by_cases h : 1 < max 1 (l.length : Int)
        · have := u1 h; omega
        · have := u2 (by omega); omega
      · have k0 : 0 < ks.length := by
          have : ¬ (ks.length : Int) = 0 := by simpa using e0
          omega
        simp only [EV, Nat.reduceEqDiff, Nat.reduceBEq, Nat.reduceLT, Nat.reduceLeDiff, Nat.reduceAdd, Nat.reduceSub, reduceIte]
        refine (p48 c _ 10 hc (by omega) (by omega)).call (fun _ => rfl) ?_
        rintro _ c1 hc1 ⟨b, rfl⟩
        simp only [EV, Nat.reduceEqDiff, Nat.reduceBEq, Nat.reduceLT, Nat.reduceLeDiff, Nat.reduceAdd, Nat.reduceSub, reduceIte]
        cases b
        · simp only [EV, Nat.reduceEqDiff, Nat.reduceBEq, Nat.reduceLT, Nat.reduceLeDiff, Nat.reduceAdd, Nat.reduceSub, reduceIte]
          refine (p25 c1 _ ks.length hc1 (by omega) (by omega)).call (fun _ => rfl) ?_
          rintro _ c2 hc2 ⟨u, rfl, u0, u1, u2⟩
          have hu : u < (ks.length : Int) := by
            by_cases h : 1 < (ks.length : Int)
            · exact u1 h
            · have := u2 (by omega); omega
          have hun : u.toNat < ks.length := by omega
          simp only [u0, hu, hun, nth_map hun, iv, EV, Nat.reduceEqDiff, Nat.reduceBEq, Nat.reduceLT, Nat.reduceLeDiff, Nat.reduceAdd, Nat.reduceSub, reduceIte]
          simp only [EV, Nat.reduceEqDiff, Nat.reduceBEq, Nat.reduceLT, Nat.reduceLeDiff, Nat.reduceAdd, Nat.reduceSub, reduceIte, evRE, retVC, cellV', evR, nfz, nfzs, nfzss, List.contains_nil, List.contains_cons, Bool.or_false, or_true]
          have := g3 _ (List.getElem_mem hun)
          exact ⟨c2, rfl, hc2.up (by omega), _, rfl, this.1, this.2⟩
        · simp only [EV, Nat.reduceEqDiff, Nat.reduceBEq, Nat.reduceLT, Nat.reduceLeDiff, Nat.reduceAdd, Nat.reduceSub, reduceIte]
          refine callK_i (d42 1 (l.length : Int)) ?_
          simp only [EV, Nat.reduceEqDiff, Nat.reduceBEq, Nat.reduceLT, Nat.reduceLeDiff, Nat.reduceAdd, Nat.reduceSub, reduceIte]
          refine (p25 c1 _ (max 1 (l.length : Int)) hc1 (by omega) (by omega)).call (fun _ => rfl) ?_
          rintro _ c2 hc2 ⟨u, rfl, u0, u1, u2⟩
          simp only [EV, Nat.reduceEqDiff, Nat.reduceBEq, Nat.reduceLT, Nat.reduceLeDiff, Nat.reduceAdd, Nat.reduceSub, reduceIte]
          simp only [EV, Nat.reduceEqDiff, Nat.reduceBEq, Nat.reduceLT, Nat.reduceLeDiff, Nat.reduceAdd, Nat.reduceSub, reduceIte, evRE, retVC, cellV', evR, nfz, nfzs, nfzss, List.contains_nil, List.contains_cons, Bool.or_false, or_true]
          refine ⟨c2, rfl, hc2.up (by omega), u, rfl, u0, ?_⟩
          by_cases h : 1 < max 1 (l.length : Int)
          · have := u1 h; omega
          · have := u2 (by omega); omega
def m21 : MC :=
 (.seq (.reg [Xb 2 (.asg (.nils 34 6)), Xb 3 (.asg (.i 0)), Xb 4 (.asg (.z #[]))]) (.seq (.reg [Xm 7 0, Xb 8 (.build [0] [0] [1] [.s 5 1, .i, .v (.int .u64 0)] [.t 7]), Xb 9 (.box 57 (.t 8)), Xa 5 9]) (.seq (.reg [Xm 10 5, Xb 11 (.call (.fn 29) false [.io (.t 10)]), Xb 6 (.asgf (.t 11))]) (.seq (.reg [Xm 12 6, Xm 13 5, Xm 14 6, Xb 15 (.call (.fn 30) false [.io (.t 13), .lend (.t 14)]), Xm 16 5, Xb
 17 (.bsl 9 1 [.z #[102, 49], .z #[102, 50], .z #[102, 51], .z #[103], .z #[]]), Xb 18 (.call (.fn 44) false [.io (.t 16), .give (.t 17)]), Xa 2 12, Xa 3 15, Xa 4 18]) .ret))))
end Go.AM
namespace Go.AM
set_option linter.unusedVariables false
set_option linter.unusedSimpArgs false
def m14 : MC :=
 (.seq (.reg [Xb 2 (.asg (.nils 34 6)), Xb 3 (.asg (.i 0))]) (.seq (.reg [Xm 6 0, Xb 7 (.build [0] [0] [1] [.s 5 1, .i, .v (.int .u64 0)] [.t 6]), Xb 8 (.box 57 (.t 7)), Xa 4 8]) (.seq (.reg [Xm 9 4, Xb 10 (.call (.fn 29) false [.io (.t 9)]), Xb 5 (.asgf (.t 10))]) (.seq (.reg [Xm 11 5, Xm 12 4, Xm 13 5, Xb 14 (.call (.fn 30) false [.io (.t 12), .lend (.t 13)]), Xa 2 11, Xa 3 14]) .ret))))
set_option maxRecDepth 100000 in
theorem p14 (code : List Int) (hl : (code.length : Int) ≤ 1048576) (hb : ∀ b ∈ code, 0 ≤ b ∧ b ≤ 255) :
    DoesE Go.Proofs.Tryz.prog 14 [.fsl 1 (code.map bv)] true fun r o => o = [.dead] ∧ ∃ (l : List Ty) (n : Int), r = .tup [.fsl 6 (l.map Ty.z), .v (.int .i64 n)] ∧ l.length ≤ 9 ∧ ∀ t ∈ l, t.sm := by
  have hc : Cur.ok ⟨code, 0, 0⟩ 0 := ⟨hl, hb, Int.le_refl _, Int.le_refl _⟩
  have pc := p29 ⟨code, 0, 0⟩ 0 hc (by omega)
  refine doesE_intro (mc := m14) (N := 15) (rs := [2, 3]) (fx := []) 1 rfl (by decide +kernel) ?_
  simp only [m14, EV, Nat.reduceEqDiff, Nat.reduceBEq, Nat.reduceLT, Nat.reduceLeDiff, Nat.reduceAdd, Nat.reduceSub, reduceIte]
  refine pc.call (fun _ => rfl) ?_
  rintro _ c1 hc1 ⟨l, rfl, l9, hs⟩
  simp only [Ty.frz, EV, Nat.reduceEqDiff, Nat.reduceBEq, Nat.reduceLT, Nat.reduceLeDiff, Nat.reduceAdd, Nat.reduceSub, reduceIte]
  refine (p30 c1 _ l hc1 (by omega) l9).call (fun _ => rfl) ?_
  rintro _ c2 hc2 ⟨x, rfl, _⟩
  simp only [EV, Nat.reduceEqDiff, Nat.reduceBEq, Nat.reduceLT, Nat.reduceLeDiff, Nat.reduceAdd, Nat.reduceSub, reduceIte]
  simp only [EV, Nat.reduceEqDiff, Nat.reduceBEq, Nat.reduceLT, Nat.reduceLeDiff, Nat.reduceAdd, Nat.reduceSub, reduceIte, evRE, retVC, cellV', evR, nfz, nfzs, nfzss, List.contains_nil, List.contains_cons, Bool.or_false, or_true]
  exact ⟨⟨l, x, rfl, l9, hs⟩, Or.inl trivial⟩
def extOk (l : List Ty) (a b : Int) : Bool := (lineL l a).contains b
end Go.AM
namespace Go.AM
set_option linter.unusedVariables false
set_option linter.unusedSimpArgs false
def fdsAt (l : List Ty) (n : Int) : List Fd := match l[n.toNat]? with
  | some t => t.fields
  | none => []
theorem fdsAt_eq {l : List Ty} {n : Int} (h : n.toNat < l.length) : fdsAt l n = l[n.toNat].fields := by simp [fdsAt, h]
def allL (l : List Ty) : List Int → List Fd
  | [] => []
  | n :: ns => allL l ns ++ fdsAt l n
def allF (l : List Ty) (n : Int) : List Fd := allL l (lineL l n)
theorem allL_app (l : List Ty) : ∀ a b : List Int, allL l (a ++ b) = allL l b ++ allL l a
  | [], b => by simp [allL]
  | n :: a, b => by simp only [List.cons_append, allL]; rw [allL_app l a b, List.append_assoc]
theorem fdsAt_len {l : List Ty} (ht : tysOk l = true) (n : Int) : (fdsAt l n).length ≤ 6 := by
  unfold fdsAt
  split
  · rename_i t h
    obtain ⟨hn, rfl⟩ := List.getElem?_eq_some_iff.1 h
    exact (tysOk_good ht hn).few
  · simp
theorem allL_len {l : List Ty} (ht : tysOk l = true) : ∀ ns : List Int, (allL l ns).length ≤ 6 * ns.length
  | [] => by simp [allL]
  | n :: ns => by
    have h1 := allL_len ht ns
    have h2 := fdsAt_len ht n
    simp only [allL, List.length_append, List.length_cons]
    omega
theorem allF_len {l : List Ty} (ht : tabOk l = true) (n : Int) : (allF l n).length ≤ 150 := by
  have h1 := allL_len (tabOk_tys ht) (lineL l n)
  have h2 := lineL_len l n
  have h3 := tabOk_len ht
  unfold allF
  omega
theorem allF_neg {l : List Ty} {n : Int} (h : n < 0) : allF l n = [] := by unfold allF; rw [lineL_neg h]; rfl
theorem allF_rec {l : List Ty} (ht : tabOk l = true) {n : Int} (h : isRec l n = true) : allF l n = allF l (baseAt l n) ++ fdsAt l n := by
  unfold allF; rw [lineL_rec ht h]; rfl
def m40 : MC :=
 (.seq (.reg [Xb 4 (.asg (.nils 48 3))]) (.seq (.seq (.reg [Xm 5 1, Xq 6 (.bin false .lss (.t 5) (.i 0))]) (.cond (.t 6) (.seq (.reg [Xb 4 (.asg (.nils 48 3))]) .ret) .skip)) (.seq (.mix [0, 1] [0, 4, 19] [] [0] [1, 2, 3, 4, 5, 7, 8, 9, 10, 11] [0, 6, 12, 13] [Xm 8 0, Xm 9 1, Xi 10 6 8 9, Xf 11 2 10, Xl 12 1 11, Xm 14 0, Xm 15 1, Xi 16 6 14 15, Xf 17 3 16, Xl 18 1 17] [Xm 7 0, Xb 13 (.call (.fn 40)
 false [.lend (.t 7), .lend (.t 12)]), Xb 19 (.app false 48 3 32 (.t 13) (.t 18)), Xa 4 19]) .ret)))
set_option maxRecDepth 100000 in
theorem d40 (l : List Ty) (hl : (l.length : Int) ≤ 1048576) (ht : tabOk l = true) : ∀ (k : Nat) (n : Int), (lineL l n).length < k → isL l n → Does Go.Proofs.Tryz.prog 40 [.fsl 6 (l.map Ty.z), .v (.int .i64 n)] false (.usl 48 3 ((allF l n).map Fd.o)) [.dead, .dead]
  | 0, n, h, _ => absurd h (by omega)
  | k + 1, n, h, hn => by
    have ih := d40 l hl ht k
    refine does_intro (mc := m40) (N := 20) (rs := [4]) (fx := []) 2 rfl (by decide +kernel) ?_
    simp only [m40, EV, Nat.reduceEqDiff, Nat.reduceBEq, Nat.reduceLT, Nat.reduceLeDiff, Nat.reduceAdd, Nat.reduceSub, reduceIte]
    refine cK_cut (fun h0 => ?_) (fun h0 => ?_)
    · have h1 : n < 0 := by simpa using h0
      simp only [EV, Nat.reduceEqDiff, Nat.reduceBEq, Nat.reduceLT, Nat.reduceLeDiff, Nat.reduceAdd, Nat.reduceSub, reduceIte]
      simp only [allF_neg h1, List.map_nil, EV, Nat.reduceEqDiff, Nat.reduceBEq, Nat.reduceLT, Nat.reduceLeDiff, Nat.reduceAdd, Nat.reduceSub, reduceIte, evRE, retVC, cellV', evR, nfz, nfzs, nfzss, List.contains_nil, List.contains_cons, Bool.or_false, or_true]
    · have h1 : isRec l n = true := hn.resolve_left (by simpa using h0)
      obtain ⟨g0, g1, gn, _⟩ := isRec_in h1
      have hb := (isRec_base (tabOk_tys ht) h1).1
      have hlr := lineL_rec ht h1
      rw [hlr, List.length_cons] at h
      have hc := ih (baseAt l n) (by omega) hb
      have hbe := baseAt_eq gn
      rw [hbe] at hc
      have hal := allF_len ht n
      have har := allF_rec ht h1
      rw [fdsAt_eq gn, hbe] at har
      rw [har] at hal
      clear h0
      simp only [g0, g1, nth_map gn, Ty.z, EV, Nat.reduceEqDiff, Nat.reduceBEq, Nat.reduceLT, Nat.reduceLeDiff, Nat.reduceAdd, Nat.reduceSub, reduceIte]
      refine callK_i hc ?_
      simp only [List.length_append] at hal
      have he : List.map Fd.o (allF l n) = List.map Fd.o (allF l l[n.toNat].base) ++ List.map Fd.z l[n.toNat].fields := by rw [har, List.map_append]; rfl
      simp only [g0, g1, nth_map gn, Ty.z, EV, Nat.reduceEqDiff, Nat.reduceBEq, Nat.reduceLT, Nat.reduceLeDiff, Nat.reduceAdd, Nat.reduceSub, reduceIte]
      refine ⟨.inl trivial, by omega, by omega, ?_⟩
      rw [← he]
      simp only [Fd.nfz, Fd.frz, EV, Nat.reduceEqDiff, Nat.reduceBEq, Nat.reduceLT, Nat.reduceLeDiff, Nat.reduceAdd, Nat.reduceSub, reduceIte, evRE, retVC, cellV', evR, nfz, nfzs, nfzss, List.contains_nil, List.contains_cons, Bool.or_false, or_true]
end Go.AM
namespace Go.AM
open Go.RowKit
set_option linter.unusedVariables false
set_option linter.unusedSimpArgs false
theorem rows_in {P : Program} {row : String} {args : Array Value} {w : World} {R : Value → World → Prop} {l n : Nat} (h : Rows P row args w R) : RowsIn (Fence.wide.inRound l) n P row args w R :=
  fun c cs _ => let ⟨v, w', r, s⟩ := h c cs; ⟨v, w', r, stepsIn_wide.2 s⟩
theorem op_in {P : Program} {o : Oper} {a : Act} {w : World} {K : Act → World → Prop} {Q : Exit → Act → World → Prop} {l n : Nat} (hd : ∀ c, o.op ≠ .defer c) (hL : ¬ LetsOut Q) (h : o.wp P a w K Q) : o.wpIn (Fence.wide.inRound l) n P a w K Q := by
  refine ⟨fun _ _ => trivial, ?_⟩
  rw [Oper.semAt_eq _ _ _ hd]
  unfold Oper.wp at h
  generalize (execOp a.eval o).run P w = r at h
  cases r with
  | ok x w' =>
    cases x with
    | value v => exact h
    | skip => exact h
    | defer d => exact h
    | enter f args =>
      refine ⟨fun hh => by simp [Fence.wide] at hh, CallsIn.inRound l (callsIn_wide.2 ?_)⟩
      exact h
    | row r args => exact ⟨fun hh => by simp [Fence.wide] at hh, rows_in h⟩
    | _ => exact h.elim
  | halt x w' =>
    cases x with
    | panic v => exact h
    | _ => exact h.elim
theorem any_in {P : Program} {md : Region.Mode} {ops : Array Oper} {Q : Exit → Act → World → Prop} {l n : Nat} (hd : ∀ (i : Nat) (o : Oper) c, ops[i]? = some o → o.op ≠ .defer c) (hL : ¬ LetsOut Q) :
    ∀ (fuel : Nat) (listed : Array Bool) (a : Act) (w : World), wpAny P md ops Q fuel listed a w → wpAnyIn (Fence.wide.inRound l) n P md ops Q fuel listed a w
  | 0, _, _, _, h => h
  | fuel + 1, listed, a, w, h => by
    refine ⟨h.1, fun i hi => ?_⟩
    have := h.2 i hi
    unfold wpOp at this
    unfold wpOpIn
    cases ho : ops[i]? with
    | none => rw [ho] at this; exact any_in hd hL fuel _ _ _ this
    | some o =>
      rw [ho] at this
      simp only at this ⊢
      split
      · rename_i hw
        rw [if_pos hw] at this
        rcases this with this | this
        · exact Oper.wpIn_mono (fun a' w' h' => any_in hd hL fuel _ _ _ h') (op_in (fun c => hd i o c ho) hL this)
        · exact absurd this.2 hL
      · rename_i hw
        rw [if_neg hw] at this
        exact ⟨fun _ _ => trivial, any_in hd hL fuel _ _ _ this⟩
theorem mixt_any {P : Program} {N : Nat} {fx : List Nat} {ops : Array Oper} {Q : Exit → Act → World → Prop} {c : Ctx} {st : St} {a : Act} {w : World} (hfx : ∀ e, c.fx e ≠ none → e ∈ fx) {FL WL RL B fi : List Nat} {fs : List MO} {t : TT} (hm : mixtOk P N fx ops FL WL RL B fi fs t = true) (S : Sim c N st a w) {k : K} (h : mixtV P FL WL RL B fs t k st)
    (hQ : ∀ st a w, Sim c N st a w → k st → Q .normal a w) : P.follows .mixedOrders = true ∧ wpAny P .any ops (fun e a w => e = .normal ∧ Q .normal a w) ops.size (Array.replicate ops.size false) a w.drew := by
  simp only [mixtOk, Bool.and_eq_true] at hm
  obtain ⟨⟨⟨⟨⟨hsel, hfol⟩, hlen⟩, hFW⟩, hRW⟩, hm⟩ := hm
  have S1 : Sim c N st a w.drew := S.world (Ext.drew w [])
  obtain ⟨hB, h⟩ := h
  obtain ⟨hd, hs, own, C⟩ := S1
  have hbare : ∀ k ∈ B, own k = [] := fun k hk => bare_own (st k) (C.rep k) (by simpa using List.all_eq_true.1 hB k hk)
  have hno : ∀ (l : List Nat), notFl B l WL = true → ∀ k ∈ l, ∀ b ∈ own k, b ∉ WL.flatMap own := by
    intro l hl k hk b hb hb2
    obtain ⟨j, hj, hbj⟩ := List.mem_flatMap.1 hb2
    by_cases e : k = j
    · subst e
      have h1 := List.all_eq_true.1 hl k hk
      simp only [Bool.or_eq_true, Bool.not_eq_true', List.contains_eq_mem, decide_eq_true_eq, decide_eq_false_iff_not] at h1
      rcases h1 with h1 | h1
      · exact h1 hj
      · rw [hbare k h1] at hb; simp at hb
    · exact C.dj k j e b hb hbj
  have hdj : ∀ b ∈ FL.flatMap own, b ∉ WL.flatMap own := by
    intro b hb
    obtain ⟨k, hk, hbk⟩ := List.mem_flatMap.1 hb
    exact hno FL hFW k hk b hbk
  have hfx' : ∀ (l : List Nat) e, (ctxL c w.drew own l RL a).fx e ≠ none → e ∈ RL ++ fx := by
    intro l e he
    simp only [ctxL] at he
    split at he
    · rename_i h'; simp [h']
    · have := hfx e he; simp [this]
  have hslots : ∀ l, Slots (ctxL c w.drew own l RL a) N a := by
    intro l
    refine ⟨hs.1, ?_⟩
    intro k v hk
    simp only [ctxL] at hk
    split at hk
    · simpa using hk
    · exact hs.2 k v hk
  have SW : Sim (ctxL c w.drew own WL RL a) N (keepL WL st) a w.drew := ⟨hd, hslots WL, _, core_part C WL RL⟩
  refine ⟨hfol, wpAny_of_held (S := held w.drew (WL.flatMap own)) _ _ _ _ ?_⟩
  · have hsz : ops.size = fi.length + t.sz := by simp only [beq_iff_eq] at hlen; exact hlen.symm
    show wpAnyH P .any ops _ _ ops.size (Array.replicate ops.size false) a w.drew
    have key := f_sound (Q := fun e a w => e = .normal ∧ Q .normal a w) (n := t.sz) C (hfx' FL) hsel (by rintro _ _ _ ⟨h, _⟩; cases h) hdj
      (kk := fun _ sW => ttV P (fun s3 => k (backS RL st s3)) t sW) (F := fun listed => (headsOk ops listed t && ttOk P N (RL ++ fx) ops t listed))
      (fun listed a' sF sW hF SW' h' => tt_sound (cW := ctxL c w.drew own WL RL a) rfl rfl (hfx' WL) hsel (k := fun s3 => k (backS RL st s3))
        (fun s3 a3 w3 S3 h3 => ⟨rfl, hQ _ _ _ (back_sound C hs (hno RL hRW) S3) h3⟩) (by rintro _ _ _ ⟨h, _⟩; cases h) t.sz t listed sW a' _ rfl (by simp only [Bool.and_eq_true] at hF; exact hF.1) (by simp only [Bool.and_eq_true] at hF; exact hF.2) SW' h')
      fi fs (Array.replicate ops.size false) (keepL FL st) (keepL WL st) a (ownL FL own) hm (core_part C FL RL) (fun b hb => ownL_mem.2 hb) SW h
    rw [← hsz] at key
    exact key
theorem mixt_round {P : Program} {N : Nat} {fx : List Nat} {ops : Array Oper} {Q : Exit → Act → World → Prop} {c : Ctx} {l n id : Nat} {st : St} {a : Act} {w : World} (hd : ∀ (i : Nat) (o : Oper) c, ops[i]? = some o → o.op ≠ .defer c) (hfx : ∀ e, c.fx e ≠ none → e ∈ fx) {FL WL RL B fi : List Nat} {fs : List MO} {t : TT} (hm : mixtOk P N fx ops FL WL RL B fi fs t = true) (S : Sim c N st a w) {k : K} (h : mixtV P FL WL RL B fs t k st)
    (hQ : ∀ st a w, Sim c N st a w → k st → Q .normal a w) : (Code.region id ops true).wpIn (Fence.wide.inRound l) n P Q a w := by
  obtain ⟨hf, h⟩ := mixt_any hfx hm S h hQ
  refine wpIn_mono (Q := fun e a w => e = .normal ∧ Q .normal a w) ?_ ?_
  · exact wpIn_region_any hf (any_in hd (by rintro ⟨_, _, h, _⟩; cases h) _ _ _ _ h)
  · rintro e a w ⟨rfl, h⟩; exact h
end Go.AM
