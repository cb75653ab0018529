/- Contracts of functions of the given program, for the law FnCalls: what they return and what they write, under the bounds that each theorem states. -/
import Derived.Test.YtmacgaechjiecaaGreatG3
import Derived.Shelf.Lay
import Derived.Shelf.Sort.Plain
import Derived.Ground.Names2Prog
import Derived.Shelf.Slices.CompactI
import Derived.Shelf.Slices.In.SortNone
set_option linter.unusedVariables false
set_option linter.unusedSimpArgs false
namespace Go.Proofs
open Go.Shelf
shelf_lay Lays.n189 Nm 189 at Tryz as Tryz.laysSort
shelf_lay Lays2.n20 Nm2 20 at Tryz as Tryz.laysCompact
end Go.Proofs
namespace Go.AM
open Go.Sort Go.RowKit
theorem int_cells {w : World} {Fz : Nat → Prop} : ∀ {l : List Int} {xs : List Value} {o : List Nat}, RepRows w Fz 1 (l.map iv) xs o → xs = l.map (Value.int .i64) ∧ o = []
  | [], xs, o, h => by simp only [List.map_nil, RepRows] at h; exact h
  | s :: l, xs, o, h => by
    simp only [List.map_cons, RepRows] at h
    obtain ⟨x1, x2, o1, o2, rfl, rfl, hl, h1, h2⟩ := h
    simp only [iv, RepRow, RepC] at h1
    obtain ⟨x, xs', p1, p2, rfl, rfl, ⟨rfl, _, rfl⟩, rfl, rfl⟩ := h1
    obtain ⟨rfl, rfl⟩ := int_cells h2
    exact ⟨rfl, rfl⟩
theorem cells_int {w : World} {Fz : Nat → Prop} : ∀ (l : List Int), RepRows w Fz 1 (l.map iv) (l.map (Value.int .i64)) []
  | [] => by simp [RepRows]
  | s :: l => by
    simp only [List.map_cons, RepRows]
    exact ⟨[.int .i64 s], _, [], [], rfl, rfl, rfl, by simp only [iv, RepRow, RepC]; exact ⟨_, [], [], [], rfl, rfl, ⟨rfl, rfl, rfl⟩, rfl, rfl⟩, cells_int l⟩
theorem holds_of {w : World} {g h : Nat} {cur : Array Value} {e : Nat} {l : List Int} (hg : w.heap[g]? = some (.cells cur e (0, 0))) (hat : At w g h (l.map (Value.int .i64))) : Holds (Value.int .i64) w g h l.toArray := by
  intro j hj
  have hj' : j < l.length := by simpa using hj
  refine ⟨?_, ?_⟩
  · rw [hat j (Value.int .i64 l[j]) (by simp [hj'])]
    simp [hj']
  · simp [World.frozen?, hg]
theorem put_ext {w : World} {g h n : Nat} {cur : Array Value} {e : Nat} {l m : List Int} {os : Array Obj} (hg : w.heap[g]? = some (.cells cur e (0, 0))) (hat : At w g h (l.map (Value.int .i64))) (hm : m.length = l.length) :
    let w' := grow (putRow (Value.int .i64) (Sort.ahead w n) g h m.toArray) os
    Ext w w' [g] ∧ w'.heap[g]? = some (.cells (putCells (Value.int .i64) h m.toArray cur) e (0, 0)) ∧ (putCells (Value.int .i64) h m.toArray cur).size = cur.size ∧ At w' g h (m.map (Value.int .i64)) ∧ w.heap.size ≤ w'.heap.size := by
  intro w'
  have hlt : g < w.heap.size := by
    rcases Nat.lt_or_ge g w.heap.size with h | h
    · exact h
    · rw [Array.getElem?_eq_none h] at hg; cases hg
  have hb : ∀ b, b < w.heap.size → w'.heap[b]? = (w.heap.modify g (onCells (putCells (Value.int .i64) h m.toArray)))[b]? := by
    intro b hb
    simp only [w', grow, putRow, mapBlock, Sort.ahead]
    rw [Array.getElem?_append_left (by simpa using hb)]
  have hsz : w.heap.size ≤ w'.heap.size := by simp [w', grow, putRow, mapBlock, Sort.ahead]
  have hg' : w'.heap[g]? = some (.cells (putCells (Value.int .i64) h m.toArray cur) e (0, 0)) := by
    rw [hb g hlt, Array.getElem?_modify, if_pos rfl, hg]
    rfl
  refine ⟨⟨rfl, rfl, rfl, hsz, ?_⟩, hg', by simp [putCells], ?_, hsz⟩
  · intro b hb' hn
    rw [hb b hb', Array.getElem?_modify, if_neg (by intro e; exact hn (by simp [e]))]
  · intro j u hj
    have hj' : j < m.length := by
      rcases Nat.lt_or_ge j m.length with h | h
      · exact h
      · simp [h] at hj
    have hc := hat j (Value.int .i64 (l[j]'(by omega))) (by simp [show j < l.length by omega])
    simp only [World.cell?, hg] at hc
    simp only [World.cell?, hg', putCells, Array.getElem?_mapIdx]
    have hc' : cur[h + j]? = some (Value.int .i64 (l[j]'(by omega))) := by simpa using hc
    have hu : u = Value.int .i64 m[j] := by simpa [hj'] using hj.symm
    subst hu
    simp [hc', hj']
def srt (l : List Int) : List Int := l.mergeSort fun x y => decide (x ≤ y)
theorem srt_len (l : List Int) : (srt l).length = l.length := List.length_mergeSort _
theorem srt_mem {l : List Int} {n : Int} : n ∈ srt l ↔ n ∈ l := List.mem_mergeSort
theorem srt_le (l : List Int) : (srt l).Pairwise (· ≤ ·) := by
  have := List.pairwise_mergeSort (le := fun x y : Int => decide (x ≤ y)) (fun a b c h1 h2 => by simp at *; omega) (fun a b => by simp; omega) l
  exact this.imp fun h => by simpa using h
theorem d190 (l : List Int) (hl : (l.length : Int) ≤ 1152921504606846976) : Does Go.Proofs.Tryz.prog 190 [.usl 3 1 (l.map iv)] false (.tup []) [.usl 3 1 ((srt l).map iv)] := by
  refine ⟨by decide +kernel, ?_⟩
  intro w Fz xs os hrep hos hfz hlt
  simp only [RepVs, RepV, RepC] at hrep
  obtain ⟨x, xs', o1, o2, rfl, rfl, hx, rfl, rfl⟩ := hrep
  simp only [List.append_nil] at *
  rcases hx with ⟨rfl, h0, rfl⟩ | ⟨g, h, c, cur, ys, o', rfl, rfl, hg, hc, hsz, hrows, hat⟩
  · have hl0 : l = [] := by simpa using h0
    subst hl0
    refine (Go.Proofs.Any.slices_Sort_int_none Go.Proofs.Tryz.laysSort none 0 w).mono ?_
    rintro e w' ⟨rfl, rfl⟩
    refine ⟨_, [], [], rfl, Ext.refl _ _, by simp [RepV, RepVs], ?_, by simp, by simp⟩
    simp only [RepVs, RepV, RepC]
    exact ⟨_, _, [], [], rfl, rfl, .inl ⟨rfl, by simp [srt], rfl⟩, rfl, rfl⟩
  · obtain ⟨rfl, rfl⟩ := int_cells hrows
    simp only [Nat.mul_one, List.length_map] at *
    have hH := holds_of hg hat
    have hgs : g < w.heap.size := (hfz g (by simp)).2
    refine (Go.Proofs.Any.slices_Sort_int Go.Proofs.Tryz.laysSort g h c l w hH hgs (by omega)).mono ?_
    rintro e' w' ⟨rfl, n, ob, hw⟩
    obtain ⟨hE, hg', hs', hat', hle⟩ := put_ext (n := n) (os := ob) (m := srt l) hg hat (srt_len l)
    rw [show grow (putRow (Value.int .i64) (Sort.ahead w n) g h (srt l).toArray) ob = w' from hw.symm] at hE hg' hat' hle
    refine ⟨_, [], [g], rfl, hE, by simp [RepV, RepVs], ?_, by simp, ?_⟩
    · simp only [RepVs, RepV, RepC]
      refine ⟨_, _, [g], [], rfl, rfl, .inr ⟨g, h, c, _, _, [], ?_, rfl, hg', ?_, ?_, cells_int _, ?_⟩, rfl, rfl⟩
      · simp [srt_len]
      · simpa [srt_len] using hc
      · simpa [hs'] using hsz
      · simpa using hat'
    · intro b hb
      simp only [List.nil_append, List.mem_singleton] at hb
      subst hb
      exact ⟨.inl (by simp), by omega⟩
def cmpct (l : List Int) : List Int := Lib.compact l
theorem cmpct_def (l : List Int) : Lib.compact l = cmpct l := rfl
theorem cmpct_le (l : List Int) : (cmpct l).length ≤ l.length := by
  unfold cmpct Lib.compact Lib.compactUpTo
  rw [List.length_map]
  refine Nat.le_trans (List.length_filter_le _ _) ?_
  simp
theorem d193 (l : List Int) (hl : (l.length : Int) ≤ 1152921504606846976) : Does Go.Proofs.Tryz.prog 193 [.usl 3 1 (l.map iv)] false (.usl 3 1 ((cmpct l).map iv)) [.dead] := by
  refine ⟨by decide +kernel, ?_⟩
  intro w Fz xs os hrep hos hfz hlt
  simp only [RepVs, RepV, RepC] at hrep
  obtain ⟨x, xs', o1, o2, rfl, rfl, hx, rfl, rfl⟩ := hrep
  simp only [List.append_nil] at *
  rcases hx with ⟨rfl, h0, rfl⟩ | ⟨g, h, c, cur, ys, o', rfl, rfl, hg, hc, hsz, hrows, hat⟩
  · have hl0 : l = [] := by simpa using h0
    subst hl0
    refine (Go.Proofs.Any.slices_Compact_int_empty Go.Proofs.Tryz.laysCompact none 0 w).mono ?_
    rintro e w' ⟨rfl, rfl⟩
    refine ⟨_, [], [], rfl, Ext.refl _ _, ?_, ?_, by simp, by simp⟩
    · simp [RepV, RepC, cmpct, Lib.compact, Lib.compactUpTo]
    · simp only [RepVs, RepV]
      exact ⟨_, _, [], [], rfl, rfl, rfl, rfl, rfl⟩
  · obtain ⟨rfl, rfl⟩ := int_cells hrows
    simp only [Nat.mul_one, List.length_map] at *
    have hH := holds_of hg hat
    have hcl := cmpct_le l
    have key := Go.Proofs.Any.slices_Compact_int Go.Proofs.Tryz.laysCompact g h c l w hH (by omega) hc
    simp only [cmpct_def] at key
    refine key.mono ?_
    rintro e' w' ⟨rfl, n, hw⟩
    have hmm : (cmpct l ++ List.replicate (l.length - (cmpct l).length) 0).length = l.length := by simp; omega
    obtain ⟨hE, hg', hs', hat', hle⟩ := put_ext (n := n) (os := #[]) (m := cmpct l ++ List.replicate (l.length - (cmpct l).length) 0) hg hat hmm
    rw [grow_empty, ← hw] at hE hg' hat' hle
    refine ⟨_, [g], [], rfl, hE, ?_, ?_, by simp, ?_⟩
    · simp only [RepV, RepC]
      refine .inr ⟨g, h, c, _, _, [], ?_, rfl, hg', ?_, ?_, cells_int _, ?_⟩
      · simp
      · simp; omega
      · simpa [hs'] using hsz
      · intro j u hj
        simp only [Nat.mul_one]
        refine hat' j u ?_
        rw [List.map_append, List.getElem?_append_left]
        · exact hj
        · rcases Nat.lt_or_ge j ((cmpct l).map (Value.int .i64)).length with h | h
          · exact h
          · rw [List.getElem?_eq_none h] at hj; cases hj
    · simp only [RepVs, RepV]
      exact ⟨_, _, [], [], rfl, rfl, rfl, rfl, rfl⟩
    · intro b hb
      simp only [List.append_nil, List.mem_singleton] at hb
      subst hb
      have := (hfz b (by simp)).2
      exact ⟨.inl (by simp), by omega⟩
end Go.AM
namespace Go.AM
set_option linter.unusedVariables false
set_option linter.unusedSimpArgs false
structure FromInv (l : List Ty) (ptr : Bool) (fr out q : List Int) : Prop where
  up : out.Pairwise (· < ·)
  frm : ∀ n ∈ fr, n ∈ out ∨ n ∈ q
  cl : ∀ n ∈ out, ∀ k ∈ kids l ptr n, k ∈ out ∨ k ∈ q
  ro : ∀ n ∈ out, Rch l ptr fr n
  rq : ∀ n ∈ q, Rch l ptr fr n
  len : q.length ≤ 1048576 + 8 * out.length
def addQ (ptr : Bool) (t : Ty) : List Int := if (ptr && (t.kind == 6)) = true then prt false t ++ [t.base] else prt false t
theorem addQ_mem {l : List Ty} (ht : tysOk l = true) (ptr : Bool) {n : Nat} (hn : n < l.length) (k : Int) : k ∈ addQ ptr l[n] ↔ k ∈ prt ptr l[n] := by
  have G := tysOk_good ht hn
  unfold addQ
  cases ptr with
  | false => simp
  | true =>
    by_cases h6 : l[n].kind = 6
    · have hb := (isNum_in.1 (G.ptr h6).1).1
      simp only [h6, beq_self_eq_true, Bool.and_self, if_true, prt, Bool.not_true, Bool.or_false, Bool.and_false, Bool.false_eq_true, if_false, List.nil_append, Bool.true_or, Bool.and_true, decide_eq_true_eq, hb]
      simp only [List.mem_append]
      exact Or.comm
    · have e6 : (l[n].kind == 6) = false := by simpa using h6
      simp only [e6, Bool.and_false, Bool.false_eq_true, if_false, prt, Bool.not_false, Bool.or_true, Bool.true_or]
theorem addQ_len {l : List Ty} (ht : tysOk l = true) (ptr : Bool) {n : Nat} (hn : n < l.length) : (addQ ptr l[n]).length ≤ 8 := by
  have := prt_len ht false hn
  unfold addQ
  split
  · rw [List.length_append]; simp only [List.length_singleton]; omega
  · omega
theorem FromInv.start {l : List Ty} {ptr : Bool} {fr : List Int} (h : (fr.length : Int) ≤ 1048576) : FromInv l ptr fr [] fr :=
  ⟨List.Pairwise.nil, fun n hn => .inr hn, by simp, by simp, fun n hn => .base hn, by simp; omega⟩
theorem FromInv.small {l : List Ty} {ptr : Bool} {fr out q : List Int} (I : FromInv l ptr fr out q) (ht : tysOk l = true) (hf : ∀ k ∈ fr, 0 ≤ k ∧ k < (l.length : Int)) : out.length ≤ l.length ∧ l.length ≤ 24 :=
  ⟨nodup_le (up_nodup I.up) fun k hk => (I.ro k hk).inr (tysOk_kids ht) hf, (tysOk_len ht).2⟩
theorem FromInv.skip {l : List Ty} {ptr : Bool} {fr out q : List Int} {n : Int} (I : FromInv l ptr fr out (n :: q)) (h : n ∈ out) : FromInv l ptr fr out q := by
  have w : ∀ k, k ∈ out ∨ k ∈ n :: q → k ∈ out ∨ k ∈ q := by
    rintro k (hk | hk)
    · exact .inl hk
    · rcases List.mem_cons.1 hk with rfl | hk
      · exact .inl h
      · exact .inr hk
  have hl := I.len
  simp only [List.length_cons] at hl
  exact ⟨I.up, fun k hk => w k (I.frm k hk), fun m hm k hk => w k (I.cl m hm k hk), I.ro, fun k hk => I.rq k (by simp [hk]), by omega⟩
theorem FromInv.put {l : List Ty} {ptr : Bool} {fr out q : List Int} {n : Int} (I : FromInv l ptr fr out (n :: q)) (ht : tysOk l = true) (h : n ∉ out) (hn : n.toNat < l.length) : FromInv l ptr fr (putUp out n) (q ++ addQ ptr l[n.toNat]) := by
  obtain ⟨p1, p2, p3⟩ := putUp_spec (n := n) I.up
  have hk : ∀ k, k ∈ addQ ptr l[n.toNat] ↔ k ∈ kids l ptr n := by
    intro k; rw [kids_at hn]; exact addQ_mem ht ptr hn k
  have w : ∀ k, k ∈ out ∨ k ∈ n :: q → k ∈ putUp out n ∨ k ∈ q ++ addQ ptr l[n.toNat] := by
    rintro k (hk | hk)
    · exact .inl ((p2 k).2 (.inr hk))
    · rcases List.mem_cons.1 hk with rfl | hk
      · exact .inl ((p2 _).2 (.inl rfl))
      · exact .inr (by simp [hk])
  have hl := I.len
  have ha := addQ_len ht ptr hn
  have h3 := p3 h
  simp only [List.length_cons] at hl
  refine ⟨p1, fun k hk => w k (I.frm k hk), ?_, ?_, ?_, ?_⟩
  · intro m hm k hkm
    rcases (p2 m).1 hm with rfl | hm
    · exact .inr (List.mem_append.2 (.inr ((hk k).2 hkm)))
    · exact w k (I.cl m hm k hkm)
  · intro m hm
    rcases (p2 m).1 hm with rfl | hm
    · exact I.rq _ (by simp)
    · exact I.ro m hm
  · intro m hm
    rcases List.mem_append.1 hm with hm | hm
    · exact I.rq m (by simp [hm])
    · exact .step (I.rq n (by simp)) ((hk m).1 hm)
  · rw [List.length_append, h3]; omega
theorem FromInv.fin {l : List Ty} {ptr : Bool} {fr out : List Int} (I : FromInv l ptr fr out []) (ht : tysOk l = true) (hf : ∀ k ∈ fr, 0 ≤ k ∧ k < (l.length : Int)) : out = reachL l ptr fr :=
  reachL_of (tysOk_kids ht) hf I.up (fun n hn => (I.frm n hn).elim id (by simp)) (fun n hn k hk => (I.cl n hn k hk).elim id (by simp)) I.ro
def m197 : MC :=
 (.seq (.reg [Xb 6 (.asg (.nils 3 1))]) (.seq (.reg [Xb 7 (.asg (.nils 3 1))]) (.seq (.reg [Xm 10 1, Xb 11 (.call (.fn 162) false [.lend (.t 10)]), Xa 8 11]) (.seq (.block 0 (.loop [0, 2, 7, 8, 11, 18, 19, 25, 32, 49] (.seq (.seq (.reg [Xm 12 8, Xn 13 12, Xq 14 (.bin false .gtr (.t 13) (.i 0))]) (.cond (.t 14) .skip (.exit 0))) (.block 1 (.seq (.reg [Xm 15 8, Xq 16 (.iad 1 (.t 15) (.i 0)), Xl 17 1
 16, Xa 9 17]) (.seq (.reg [Xm 18 8, Xq 19 (.slc false 1 (.t 18) (some (.i 1)) none), Xa 8 19]) (.seq (.seq (.reg [Xm 20 7, Xm 21 9, Xb 22 (.call (.fn 196) false [.lend (.t 20), .lend (.t 21)])]) (.cond (.t 22) (.exit 1) .skip)) (.seq (.reg [Xm 23 7, Xm 24 9, Xb 25 (.callm (.fn 234) (.t 23) [.lend (.t 24)]), Xa 7 25]) (.seq (.reg [Xm 26 8, Xm 27 0, Xm 28 9, Xi 29 6 27 28, XL 30 6 29, Xb 31 (.call
 (.fn 198) false [.lend (.t 30)]), Xb 32 (.app true 3 1 8 (.t 26) (.t 31)), Xa 8 32]) (.seq (.reg [Xm 33 2, Xm 34 33, Xt 35 34 (.mov (.t 0)), Xt 36 34 (.mov (.t 9)), Xt 37 34 (.iad 6 (.t 35) (.t 36)), Xt 38 34 (.fad 0 (.t 37)), Xt 39 34 (.load false 1 (.t 38)), Xt 40 34 (.bin false .eql (.t 39) (.i 6)), Xq 41 (.pick (.t 34) (.t 40) .fb)]) (.cond (.t 41) (.reg [Xm 42 8, Xm 43 0, Xm 44 9, Xi 45 6 43
 44, Xf 46 2 45, Xl 47 1 46, Xb 48 (.bsl 3 1 [.t 47]), Xb 49 (.app true 3 1 8 (.t 42) (.t 48)), Xa 8 49]) .skip))))))))))) (.seq (.reg [Xm 50 7, Xa 6 50]) .ret)))))
set_option maxRecDepth 100000 in
theorem d197 (l : List Ty) (fr : List Int) (ptr : Bool) (hl : (l.length : Int) ≤ 1048576) (hs : ∀ s ∈ l, s.sm) (ht : tysOk l = true) (hf : ∀ k ∈ fr, 0 ≤ k ∧ k < (l.length : Int)) (hfl : (fr.length : Int) ≤ 1048576) :
    Does Go.Proofs.Tryz.prog 197 [.fsl 6 (l.map Ty.z), .fsl 1 (fr.map iv), .v (.bool ptr)] false (.usl 3 1 ((reachL l ptr fr).map iv)) [.dead, .dead, .dead] := by
  refine does_intro (mc := m197) (N := 51) (rs := [6]) (fx := []) 3 rfl (by decide +kernel) ?_
  simp only [m197, EV, Nat.reduceEqDiff, Nat.reduceBEq, Nat.reduceLT, Nat.reduceLeDiff, Nat.reduceAdd, Nat.reduceSub, reduceIte]
  refine callK_i (d162 fr hfl) ?_
  simp only [EV, Nat.reduceEqDiff, Nat.reduceBEq, Nat.reduceLT, Nat.reduceLeDiff, Nat.reduceAdd, Nat.reduceSub, reduceIte]
  refine awp_loop (fun p : List Int × List Int => FromInv l ptr fr p.1 p.2) (fun p => stl [(0, .fsl 6 (l.map Ty.z)), (2, .v (.bool ptr)), (7, .usl 3 1 (p.1.map iv)), (8, .usl 3 1 (p.2.map iv)), (11, .dead), (18, .dead), (19, .dead), (25, .dead), (32, .dead), (49, .dead)]) (fun p => 9 * (24 - p.1.length) + p.2.length) ([], fr) (FromInv.start hfl) ?_ ?_
  · simp only [EV, Nat.reduceEqDiff, Nat.reduceBEq, Nat.reduceLT, Nat.reduceLeDiff, Nat.reduceAdd, Nat.reduceSub, reduceIte]
  · rintro ⟨out, q⟩ I
    obtain ⟨ho, h24⟩ := I.small ht hf
    have hql := I.len
    simp only at I ho h24 hql
    simp only [EV, Nat.reduceEqDiff, Nat.reduceBEq, Nat.reduceLT, Nat.reduceLeDiff, Nat.reduceAdd, Nat.reduceSub, reduceIte]
    refine cK_cut (fun h => ?_) (fun h => ?_)
    · have hq0 : 0 < q.length := by have : 0 < (q.length : Int) := by simpa using h
                                    omega
      obtain ⟨n, q', rfl⟩ := List.exists_cons_of_length_pos hq0
      have hni := (I.rq n (by simp)).inr (tysOk_kids ht) hf
      have hn : n.toNat < l.length := by omega
      have nth0 : ∀ (a : List AV) (r : List (List AV)), nth (a :: r) 0 = a := fun _ _ => rfl
      have z0 : (0 : Int) = ((0 : Nat) : Int) := rfl
      clear h
      simp only [List.length_cons] at hql
      have e1 : (1 : Int).toNat = 1 := rfl
      have dl : ∀ r : List Int, List.take (r.length + 1 - 1) (List.map iv r) = List.map iv r := fun r => by rw [Nat.add_sub_cancel]; exact List.take_of_length_le (by simp)
      have hcl : Ty.z l[n.toNat] = [.v (.int .i64 l[n.toNat].kind), .v (.int .i64 l[n.toNat].long), .v (.int .i64 l[n.toNat].base), .fsl 3 (l[n.toNat].fields.map Fd.z), .v (.string l[n.toNat].owner), .v (.string l[n.toNat].name)] := rfl
      have dp := d198 l[n.toNat] (hs _ (List.getElem_mem hn))
      rw [hcl] at dp
      simp only [nth0, iv, hq0, EV, Nat.reduceEqDiff, Nat.reduceBEq, Nat.reduceLT, Nat.reduceLeDiff, Nat.reduceAdd, Nat.reduceSub, reduceIte]
      refine ⟨by omega, by omega, by omega, by omega, by omega, ?_⟩
      rw [iv_frz]
      refine callK_i (d196 out n (by omega)) ?_
      simp only [e1, dl, EV, Nat.reduceEqDiff, Nat.reduceBEq, Nat.reduceLT, Nat.reduceLeDiff, Nat.reduceAdd, Nat.reduceSub, reduceIte]
      rcases hc : out.contains n with _ | _
      · have hno : n ∉ out := fun hm => by rw [← List.contains_iff_mem] at hm; rw [hm] at hc; cases hc
        simp only [e1, dl, EV, Nat.reduceEqDiff, Nat.reduceBEq, Nat.reduceLT, Nat.reduceLeDiff, Nat.reduceAdd, Nat.reduceSub, reduceIte]
        refine callK_i (d234 out n (by omega)) ?_
        simp only [e1, dl, hni.1, hni.2, nth_map hn, Ty.z, EV, Nat.reduceEqDiff, Nat.reduceBEq, Nat.reduceLT, Nat.reduceLeDiff, Nat.reduceAdd, Nat.reduceSub, reduceIte]
        refine callK_i dp ?_
        have hpl := prt_len ht false hn
        have hal := addQ_len ht ptr hn
        have I2 := I.put ht hno hn
        have hm2 : 9 * (24 - (putUp out n).length) + (q' ++ addQ ptr l[n.toNat]).length < 9 * (24 - out.length) + (n :: q').length := by
          have h3 := (putUp_spec (n := n) I.up).2.2 hno
          have h4 := (I2.small ht hf).1
          rw [h3, List.length_append, List.length_cons]
          omega
        rcases ptr with _ | _
        · have e : addQ false l[n.toNat] = prt false l[n.toNat] := rfl
          simp only [e1, dl, hni.1, hni.2, nth_map hn, Ty.z, EV, Nat.reduceEqDiff, Nat.reduceBEq, Nat.reduceLT, Nat.reduceLeDiff, Nat.reduceAdd, Nat.reduceSub, reduceIte]
          refine ⟨by omega, by omega, (putUp out n, q' ++ addQ false l[n.toNat]), I2, hm2, ?_⟩
          rw [e, List.map_append]
        · simp only [e1, dl, hni.1, hni.2, nth_map hn, Ty.z, EV, Nat.reduceEqDiff, Nat.reduceBEq, Nat.reduceLT, Nat.reduceLeDiff, Nat.reduceAdd, Nat.reduceSub, reduceIte]
          refine ⟨by omega, by omega, ?_⟩
          rcases e6 : (l[n.toNat].kind == 6) with _ | _
          · have e : addQ true l[n.toNat] = prt false l[n.toNat] := by unfold addQ; rw [e6]; rfl
            simp only [EV, Nat.reduceEqDiff, Nat.reduceBEq, Nat.reduceLT, Nat.reduceLeDiff, Nat.reduceAdd, Nat.reduceSub, reduceIte]
            refine ⟨(putUp out n, q' ++ addQ true l[n.toNat]), I2, hm2, ?_⟩
            rw [e, List.map_append]
          · have e : addQ true l[n.toNat] = prt false l[n.toNat] ++ [l[n.toNat].base] := by unfold addQ; rw [e6]; rfl
            simp only [e1, dl, hni.1, hni.2, nth_map hn, Ty.z, EV, Nat.reduceEqDiff, Nat.reduceBEq, Nat.reduceLT, Nat.reduceLeDiff, Nat.reduceAdd, Nat.reduceSub, reduceIte]
            refine ⟨by simp; omega, by simp; omega, (putUp out n, q' ++ addQ true l[n.toNat]), I2, hm2, ?_⟩
            have e' : List.map iv (q' ++ addQ true l[n.toNat]) = List.map iv q' ++ List.map iv (prt false l[n.toNat]) ++ [[AV.v (.int .i64 l[n.toNat].base)]] := by
              rw [e, ← List.append_assoc, List.map_append, List.map_append]; rfl
            simp only [e']
      · have hm : n ∈ out := List.contains_iff_mem.1 hc
        simp only [e1, dl, EV, Nat.reduceEqDiff, Nat.reduceBEq, Nat.reduceLT, Nat.reduceLeDiff, Nat.reduceAdd, Nat.reduceSub, reduceIte]
        refine ⟨(out, q'), I.skip hm, by simp only [List.length_cons]; omega, ?_⟩
        rfl
    · have hq : q = [] := by have : ¬ 0 < (q.length : Int) := by simpa using h
                             exact List.eq_nil_of_length_eq_zero (by omega)
      subst hq
      have e := I.fin ht hf
      subst e
      simp only [EV, Nat.reduceEqDiff, Nat.reduceBEq, Nat.reduceLT, Nat.reduceLeDiff, Nat.reduceAdd, Nat.reduceSub, reduceIte]
      simp only [iv_nfz, EV, Nat.reduceEqDiff, Nat.reduceBEq, Nat.reduceLT, Nat.reduceLeDiff, Nat.reduceAdd, Nat.reduceSub, reduceIte, evRE, retVC, cellV', evR, nfz, nfzs, nfzss, List.contains_nil, List.contains_cons, Bool.or_false, or_true]
end Go.AM
namespace Go.AM
set_option linter.unusedVariables false
set_option linter.unusedSimpArgs false
def addAll (out ks : List Int) : List Int := ks.foldl (fun o k => if o.contains k = true then o else o ++ [k]) out
theorem addAll_take {out ks : List Int} {j : Nat} (h : j < ks.length) : addAll out (ks.take (j + 1)) = if (addAll out (ks.take j)).contains ks[j] = true then addAll out (ks.take j) else addAll out (ks.take j) ++ [ks[j]] := by
  unfold addAll
  rw [List.take_succ_eq_append_getElem h, List.foldl_append]; rfl
theorem addAll_spec : ∀ (ks out : List Int), out.Nodup → (addAll out ks).Nodup ∧ (∀ x, x ∈ addAll out ks ↔ x ∈ out ∨ x ∈ ks) ∧ out <+: addAll out ks ∧ (addAll out ks).length ≤ out.length + ks.length
  | [], out, h => ⟨h, by simp [addAll], by simp [addAll], by simp [addAll]⟩
  | k :: ks, out, h => by
    have e : addAll out (k :: ks) = addAll (if out.contains k = true then out else out ++ [k]) ks := rfl
    rw [e]
    rcases hc : out.contains k with _ | _
    · have hno : k ∉ out := fun hm => by rw [← List.contains_iff_mem] at hm; rw [hm] at hc; cases hc
      simp only [Bool.false_eq_true, if_false]
      obtain ⟨a1, a2, a3, a4⟩ := addAll_spec ks (out ++ [k]) (List.nodup_append.2 ⟨h, by simp, fun a ha b hb e => hno (by rw [List.mem_singleton] at hb; rw [← hb, ← e]; exact ha)⟩)
      refine ⟨a1, fun x => ?_, (List.prefix_append _ _).trans a3, by simp at a4 ⊢; omega⟩
      rw [a2]
      simp only [List.mem_append, List.mem_singleton, List.mem_cons, List.not_mem_nil, or_false]
      exact or_assoc
    · have hm : k ∈ out := List.contains_iff_mem.1 hc
      simp only [if_true]
      obtain ⟨a1, a2, a3, a4⟩ := addAll_spec ks out h
      refine ⟨a1, fun x => ?_, a3, by simp; omega⟩
      rw [a2]
      simp only [List.mem_cons]
      constructor
      · rintro (h | h)
        · exact .inl h
        · exact .inr (.inr h)
      · rintro (h | h | h)
        · exact .inl h
        · exact .inl (h ▸ hm)
        · exact .inr h
structure GoInv (l : List Ty) (ptr : Bool) (fr out : List Int) (i : Nat) : Prop where
  nd : out.Nodup
  frm : ∀ n ∈ fr, n ∈ out
  le : i ≤ out.length
  cl : ∀ j (h : j < out.length), j < i → ∀ k ∈ kids l ptr out[j], k ∈ out
  ro : ∀ n ∈ out, Rch l ptr fr n
theorem GoInv.small {l : List Ty} {ptr : Bool} {fr out : List Int} {i : Nat} (I : GoInv l ptr fr out i) (ht : tysOk l = true) (hf : ∀ k ∈ fr, 0 ≤ k ∧ k < (l.length : Int)) : out.length ≤ l.length ∧ l.length ≤ 24 :=
  ⟨nodup_le I.nd fun k hk => (I.ro k hk).inr (tysOk_kids ht) hf, (tysOk_len ht).2⟩
theorem GoInv.step {l : List Ty} {ptr : Bool} {fr out : List Int} {i : Nat} (I : GoInv l ptr fr out i) (h : i < out.length) : GoInv l ptr fr (addAll out (kids l ptr out[i])) (i + 1) := by
  obtain ⟨a1, a2, a3, a4⟩ := addAll_spec (kids l ptr out[i]) out I.nd
  have hle := a3.length_le
  refine ⟨a1, fun n hn => (a2 n).2 (.inl (I.frm n hn)), by omega, ?_, ?_⟩
  · intro j hj hji k hk
    have hjo : j < out.length := by omega
    have e : (addAll out (kids l ptr out[i]))[j] = out[j] := (a3.getElem hjo).symm
    rw [e] at hk
    rw [a2]
    by_cases hjj : j = i
    · subst hjj; exact .inr hk
    · exact .inl (I.cl j hjo (by omega) k hk)
  · intro n hn
    rcases (a2 n).1 hn with h1 | h1
    · exact I.ro n h1
    · exact .step (I.ro _ (List.getElem_mem h)) h1
theorem GoInv.fin {l : List Ty} {ptr : Bool} {fr out : List Int} (I : GoInv l ptr fr out out.length) (ht : tysOk l = true) (hf : ∀ k ∈ fr, 0 ≤ k ∧ k < (l.length : Int)) : srt out = reachL l ptr fr := by
  refine reachL_of (tysOk_kids ht) hf ?_ (fun n hn => srt_mem.2 (I.frm n hn)) ?_ (fun n hn => I.ro n (srt_mem.1 hn))
  · have h1 := srt_le out
    have h2 : (srt out).Nodup := ((List.mergeSort_perm out _).nodup_iff).2 I.nd
    exact (h1.and h2).imp fun h => by omega
  · intro n hn k hk
    obtain ⟨j, hj, rfl⟩ := List.mem_iff_getElem.1 (srt_mem.1 hn)
    exact srt_mem.2 (I.cl j hj hj k hk)
def m192 : MC :=
 (.seq (.reg [Xb 6 (.asg (.nils 3 1))]) (.seq (.reg [Xm 11 1, Xb 12 (.call (.fn 232) false [.lend (.t 11)]), Xa 7 12]) (.seq (.seq (.reg [Xb 8 (.asg (.i 0))]) (.block 0 (.loop [0, 2, 7, 8, 12, 40] (.seq (.seq (.reg [Xm 13 8, Xm 14 7, Xn 15 14, Xq 16 (.bin false .lss (.t 13) (.t 15))]) (.cond (.t 16) .skip (.exit 0))) (.seq (.block 1 (.seq (.reg [Xm 19 0, Xm 20 7, Xm 21 8, Xi 22 1 20 21, Xl 23 1 22,
 Xi 24 6 19 23, XL 25 6 24, Xm 26 2, Xb 27 (.call (.fn 131) false [.lend (.t 25), .lend (.t 26)]), Xn 28 27, Xq 29 (.mov (.i 0))]) (.block 2 (.loop [0, 2, 7, 8, 12, 27, 28, 29, 40] (.seq (.reg [Xq 30 (.bin false .lss (.t 29) (.t 28))]) (.seq (.cond (.t 30) .skip (.exit 2)) (.join [0, 2, 7, 8, 12, 27, 28, 29, 40] (.block 3 (.seq (.reg [Xi 31 1 27 29, Xl 32 1 31, Xa 10 32]) (.seq (.reg [Xm 33 7, Xm
 34 10, Xb 35 (.call (.fn 191) false [.lend (.t 33), .lend (.t 34)]), Xq 36 (.un .not (.t 35))]) (.cond (.t 36) (.reg [Xm 37 7, Xm 38 10, Xb 39 (.bsl 3 1 [.t 38]), Xb 40 (.app true 3 1 8 (.t 37) (.t 39)), Xa 7 40]) .skip)))) (.reg [Xq 41 (.bin false .add (.t 29) (.i 1)), Xm 29 41])))))))) (.reg [Xm 17 8, Xq 18 (.bin false .add (.t 17) (.i 1)), Xa 8 18])))))) (.seq (.reg [Xm 42 7, Xb 43 (.call (.fn
 190) false [.io (.t 42)])]) (.seq (.reg [Xm 44 7, Xa 6 44]) .ret)))))
set_option maxRecDepth 100000 in
theorem d192 (l : List Ty) (fr : List Int) (ptr : Bool) (hl : (l.length : Int) ≤ 1048576) (hs : ∀ s ∈ l, s.sm) (ht : tysOk l = true) (hf : ∀ k ∈ fr, 0 ≤ k ∧ k < (l.length : Int)) (hfn : fr.Nodup) :
    Does Go.Proofs.Tryz.prog 192 [.fsl 6 (l.map Ty.z), .fsl 1 (fr.map iv), .v (.bool ptr)] false (.usl 3 1 ((reachL l ptr fr).map iv)) [.dead, .dead, .dead] := by
  have hfl : (fr.length : Int) ≤ 1048576 := by have := nodup_le hfn hf; omega
  refine does_intro (mc := m192) (N := 45) (rs := [6]) (fx := []) 3 rfl (by decide +kernel) ?_
  simp only [m192, EV, Nat.reduceEqDiff, Nat.reduceBEq, Nat.reduceLT, Nat.reduceLeDiff, Nat.reduceAdd, Nat.reduceSub, reduceIte]
  refine callK_i (d232 fr hfl) ?_
  simp only [EV, Nat.reduceEqDiff, Nat.reduceBEq, Nat.reduceLT, Nat.reduceLeDiff, Nat.reduceAdd, Nat.reduceSub, reduceIte]
  refine awp_loop (fun p : List Int × Nat => GoInv l ptr fr p.1 p.2) (fun p => stl [(0, .fsl 6 (l.map Ty.z)), (2, .v (.bool ptr)), (7, .usl 3 1 (p.1.map iv)), (8, .v (.int .i64 (p.2 : Int))), (12, .dead), (40, .dead)]) (fun p => 24 - p.2) (fr, 0) ⟨hfn, fun n hn => hn, Nat.zero_le _, fun j _ h => absurd h (by omega), fun n hn => .base hn⟩ ?_ ?_
  · simp only [EV, Nat.reduceEqDiff, Nat.reduceBEq, Nat.reduceLT, Nat.reduceLeDiff, Nat.reduceAdd, Nat.reduceSub, reduceIte]
    rfl
  · rintro ⟨out, i⟩ I
    obtain ⟨ho, h24⟩ := I.small ht hf
    have hi := I.le
    simp only at I ho h24 hi
    simp only [EV, Nat.reduceEqDiff, Nat.reduceBEq, Nat.reduceLT, Nat.reduceLeDiff, Nat.reduceAdd, Nat.reduceSub, reduceIte]
    refine cK_cut (fun h => ?_) (fun h => ?_)
    · have h1 : i < out.length := by simpa using h
      have h2 : (i : Int) < (out.length : Int) := by omega
      have hni := (I.ro _ (List.getElem_mem h1)).inr (tysOk_kids ht) hf
      have hn : out[i].toNat < l.length := by omega
      clear h
      have hcl : Ty.z l[out[i].toNat] = [.v (.int .i64 l[out[i].toNat].kind), .v (.int .i64 l[out[i].toNat].long), .v (.int .i64 l[out[i].toNat].base), .fsl 3 (l[out[i].toNat].fields.map Fd.z), .v (.string l[out[i].toNat].owner), .v (.string l[out[i].toNat].name)] := rfl
      have dp := d131 l[out[i].toNat] ptr (hs _ (List.getElem_mem hn))
      rw [hcl] at dp
      simp only [nth_map h1, h1, h2, iv, hni.1, hni.2, nth_map hn, Ty.z, EV, Nat.reduceEqDiff, Nat.reduceBEq, Nat.reduceLT, Nat.reduceLeDiff, Nat.reduceAdd, Nat.reduceSub, reduceIte]
      refine callK_i dp ?_
      have ek : prt ptr l[out[i].toNat] = kids l ptr out[i] := (kids_at hn).symm
      have hpl : (kids l ptr out[i]).length ≤ 7 := by rw [← ek]; exact prt_len ht ptr hn
      have hst := I.step h1
      have hst2 := (hst.small ht hf).1
      rw [ek]
      generalize kids l ptr out[i] = ks at hpl hst hst2 ⊢
      simp only [EV, Nat.reduceEqDiff, Nat.reduceBEq, Nat.reduceLT, Nat.reduceLeDiff, Nat.reduceAdd, Nat.reduceSub, reduceIte]
      refine awp_loop (fun j : Nat => j ≤ ks.length) (fun j => stl [(0, .fsl 6 (l.map Ty.z)), (2, .v (.bool ptr)), (7, .usl 3 1 ((addAll out (ks.take j)).map iv)), (8, .v (.int .i64 (i : Int))), (12, .dead), (27, .usl 3 1 (ks.map iv)), (28, .v (.int .i64 (ks.length : Int))), (29, .v (.int .i64 (j : Int))), (40, .dead)]) (fun j => ks.length - j) 0 (Nat.zero_le _) ?_ ?_
      · simp only [EV, Nat.reduceEqDiff, Nat.reduceBEq, Nat.reduceLT, Nat.reduceLeDiff, Nat.reduceAdd, Nat.reduceSub, reduceIte]
        rfl
      · intro j hj
        simp only [EV, Nat.reduceEqDiff, Nat.reduceBEq, Nat.reduceLT, Nat.reduceLeDiff, Nat.reduceAdd, Nat.reduceSub, reduceIte]
        refine cK_cut (fun h => ?_) (fun h => ?_)
        · have j1 : j < ks.length := by simpa using h
          have j2 : (j : Int) < (ks.length : Int) := by omega
          clear h
          have ha := (addAll_spec (ks.take j) out I.nd).2.2.2
          have hat := addAll_take (out := out) j1
          simp only [List.length_take] at ha
          generalize addAll out (ks.take j) = o1 at ha hat ⊢
          refine awp_join (fun _ : Unit => True) (fun _ => stl [(0, .fsl 6 (l.map Ty.z)), (2, .v (.bool ptr)), (7, .usl 3 1 ((addAll out (ks.take (j + 1))).map iv)), (8, .v (.int .i64 (i : Int))), (12, .dead), (27, .usl 3 1 (ks.map iv)), (28, .v (.int .i64 (ks.length : Int))), (29, .v (.int .i64 (j : Int))), (40, .dead)]) ?_ ?_
          · simp only [nth_map j1, j1, j2, iv, EV, Nat.reduceEqDiff, Nat.reduceBEq, Nat.reduceLT, Nat.reduceLeDiff, Nat.reduceAdd, Nat.reduceSub, reduceIte]
            rw [iv_frz]
            refine callK_i (d191 o1 ks[j] (by omega)) ?_
            simp only [EV, Nat.reduceEqDiff, Nat.reduceBEq, Nat.reduceLT, Nat.reduceLeDiff, Nat.reduceAdd, Nat.reduceSub, reduceIte]
            rcases hc : o1.contains ks[j] with _ | _
            · have e : addAll out (ks.take (j + 1)) = o1 ++ [ks[j]] := by rw [hat, hc]; rfl
              simp only [Bool.not_false, EV, Nat.reduceEqDiff, Nat.reduceBEq, Nat.reduceLT, Nat.reduceLeDiff, Nat.reduceAdd, Nat.reduceSub, reduceIte]
              refine ⟨by omega, by omega, (), ?_⟩
              rw [e, List.map_append]
              rfl
            · have e : addAll out (ks.take (j + 1)) = o1 := by rw [hat, hc]; rfl
              simp only [Bool.not_true, EV, Nat.reduceEqDiff, Nat.reduceBEq, Nat.reduceLT, Nat.reduceLeDiff, Nat.reduceAdd, Nat.reduceSub, reduceIte]
              rw [e]
              exact ⟨(), rfl⟩
          · rintro _ _
            simp only [EV, Nat.reduceEqDiff, Nat.reduceBEq, Nat.reduceLT, Nat.reduceLeDiff, Nat.reduceAdd, Nat.reduceSub, reduceIte]
            rw [w64 _ (by omega)]
            exact ⟨j + 1, j1, by omega, rfl⟩
        · have j1 : j = ks.length := by have : ¬ (j : Int) < ks.length := by simpa using h
                                        omega
          subst j1
          rw [List.take_length]
          simp only [EV, Nat.reduceEqDiff, Nat.reduceBEq, Nat.reduceLT, Nat.reduceLeDiff, Nat.reduceAdd, Nat.reduceSub, reduceIte]
          rw [w64 _ (by omega)]
          exact ⟨(addAll out ks, i + 1), hst, by simp only; omega, rfl⟩
    · have h1 : i = out.length := by have : ¬ (i : Int) < out.length := by simpa using h
                                     omega
      subst h1
      have e := I.fin ht hf
      simp only [EV, Nat.reduceEqDiff, Nat.reduceBEq, Nat.reduceLT, Nat.reduceLeDiff, Nat.reduceAdd, Nat.reduceSub, reduceIte]
      refine callK2_i (d190 out (by omega)) rfl ?_ ?_
      · simp only [srt_len, EV, Nat.reduceEqDiff, Nat.reduceBEq, Nat.reduceLT, Nat.reduceLeDiff, Nat.reduceAdd, Nat.reduceSub, reduceIte]
      · rw [e]
        simp only [EV, Nat.reduceEqDiff, Nat.reduceBEq, Nat.reduceLT, Nat.reduceLeDiff, Nat.reduceAdd, Nat.reduceSub, reduceIte]
        simp only [iv_nfz, EV, Nat.reduceEqDiff, Nat.reduceBEq, Nat.reduceLT, Nat.reduceLeDiff, Nat.reduceAdd, Nat.reduceSub, reduceIte, evRE, retVC, cellV', evR, nfz, nfzs, nfzss, List.contains_nil, List.contains_cons, Bool.or_false, or_true]
theorem cmpct_up {l : List Int} (h : l.Pairwise (· ≤ ·)) : (cmpct l).Pairwise (· < ·) ∧ ∀ n, n ∈ cmpct l ↔ n ∈ l := by
  have hget : ∀ j (hj : j < l.length), l.toArray[j]! = l[j] := fun j hj => by simp [hj]
  have hle : ∀ i j (hi : i < l.length) (hj : j < l.length), i ≤ j → l[i] ≤ l[j] := by
    intro i j hi hj hij
    rcases Nat.lt_or_ge i j with hlt | hge
    · exact List.pairwise_iff_getElem.1 h i j hi hj hlt
    · have : i = j := by omega
      subst this; exact Int.le_refl _
  have key : ∀ m, m ≤ l.length → (Lib.compactUpTo l.toArray m).Pairwise (· < ·) ∧ ∀ n, n ∈ Lib.compactUpTo l.toArray m ↔ ∃ j, ∃ hj : j < l.length, j < m ∧ l[j] = n := by
    intro m
    induction m with
    | zero => intro _; simp [Lib.compactUpTo]
    | succ m ih =>
      intro hm
      obtain ⟨i1, i2⟩ := ih (by omega)
      rw [Lib.compactUpTo_succ]
      by_cases hk : Lib.keeps l.toArray m = true
      · rw [if_pos hk]
        have hkk : m = 0 ∨ l[m] ≠ l[m - 1] := by
          simp only [Lib.keeps, decide_eq_true_eq] at hk
          rcases hk with hk | hk
          · exact .inl hk
          · rw [hget m (by omega), hget (m - 1) (by omega)] at hk; exact .inr hk
        refine ⟨?_, fun n => ?_⟩
        · rw [List.pairwise_append]
          refine ⟨i1, by simp, ?_⟩
          intro a ha b hb
          simp only [List.mem_singleton] at hb
          subst hb
          rw [hget m (by omega)]
          obtain ⟨j, hj, hjm, rfl⟩ := (i2 a).1 ha
          have h1 := hle j (m - 1) hj (by omega) (by omega)
          have h2 := hle (m - 1) m (by omega) (by omega) (by omega)
          rcases hkk with h0 | h0
          · omega
          · omega
        · rw [List.mem_append, i2, List.mem_singleton, hget m (by omega)]
          constructor
          · rintro (⟨j, hj, hjm, e⟩ | e)
            · exact ⟨j, hj, by omega, e⟩
            · exact ⟨m, by omega, by omega, e.symm⟩
          · rintro ⟨j, hj, hjm, e⟩
            by_cases hjj : j = m
            · subst hjj; exact .inr e.symm
            · exact .inl ⟨j, hj, by omega, e⟩
      · rw [if_neg hk, List.append_nil]
        have hkk : 0 < m ∧ l[m] = l[m - 1] := by
          simp only [Lib.keeps, decide_eq_true_eq, not_or, ne_eq, Decidable.not_not] at hk
          rw [hget m (by omega), hget (m - 1) (by omega)] at hk
          exact ⟨by omega, hk.2⟩
        refine ⟨i1, fun n => ?_⟩
        rw [i2]
        constructor
        · rintro ⟨j, hj, hjm, e⟩
          exact ⟨j, hj, by omega, e⟩
        · rintro ⟨j, hj, hjm, e⟩
          by_cases hjj : j = m
          · subst hjj; exact ⟨j - 1, by omega, by omega, by rw [← hkk.2]; exact e⟩
          · exact ⟨j, hj, by omega, e⟩
  have := key l.length (Nat.le_refl _)
  have e : cmpct l = Lib.compactUpTo l.toArray l.length := by unfold cmpct Lib.compact; rfl
  rw [e]
  refine ⟨this.1, fun n => ?_⟩
  rw [this.2]
  constructor
  · rintro ⟨j, hj, _, rfl⟩; exact List.getElem_mem hj
  · intro hn
    obtain ⟨j, hj, rfl⟩ := List.mem_iff_getElem.1 hn
    exact ⟨j, hj, hj, rfl⟩
def m126 : MC :=
 (.seq (.reg [Xb 4 (.asg .fb)]) (.seq (.reg [Xm 6 0, Xm 7 1, Xi 8 6 6 7, XL 9 6 8, Xb 10 (.call (.fn 131) false [.lend (.t 9), .lend .fb]), Xa 5 10]) (.seq (.reg [Xm 11 5, Xb 12 (.call (.fn 190) false [.io (.t 11)])]) (.seq (.reg [Xm 13 0, Xm 14 5, Xb 15 (.callm (.fn 193) (.t 14) []), Xb 16 (.call (.fn 192) false [.lend (.t 13), .lend (.t 15), .lend .fb]), Xm 17 1, Xb 18 (.call (.fn 191) false
 [.lend (.t 16), .lend (.t 17)]), Xa 4 18]) .ret))))
set_option maxRecDepth 100000 in
theorem d126 (l : List Ty) (n : Int) (hl : (l.length : Int) ≤ 1048576) (hs : ∀ s ∈ l, s.sm) (ht : tysOk l = true) (h0 : 0 ≤ n) (h1 : n < l.length) :
    Does Go.Proofs.Tryz.prog 126 [.fsl 6 (l.map Ty.z), .v (.int .i64 n)] false (.v (.bool (roundAt l n))) [.dead, .dead] := by
  have hn : n.toNat < l.length := by omega
  have hcl : Ty.z l[n.toNat] = [.v (.int .i64 l[n.toNat].kind), .v (.int .i64 l[n.toNat].long), .v (.int .i64 l[n.toNat].base), .fsl 3 (l[n.toNat].fields.map Fd.z), .v (.string l[n.toNat].owner), .v (.string l[n.toNat].name)] := rfl
  have dp := d131 l[n.toNat] false (hs _ (List.getElem_mem hn))
  rw [hcl] at dp
  have ek : prt false l[n.toNat] = kids l false n := (kids_at hn).symm
  have hpl : (kids l false n).length ≤ 7 := by rw [← ek]; exact prt_len ht false hn
  have hki : ∀ k ∈ kids l false n, 0 ≤ k ∧ k < (l.length : Int) := fun k hk => kids_ok ht h0 h1 hk
  have hsl := srt_len (kids l false n)
  obtain ⟨c1, c2⟩ := cmpct_up (srt_le (kids l false n))
  have hcm : ∀ k, k ∈ cmpct (srt (kids l false n)) ↔ k ∈ kids l false n := fun k => (c2 k).trans srt_mem
  have hrl := reachL_congr (l := l) (ptr := false) hcm
  refine does_intro (mc := m126) (N := 19) (rs := [4]) (fx := []) 2 rfl (by decide +kernel) ?_
  simp only [m126, h0, h1, nth_map hn, Ty.z, EV, Nat.reduceEqDiff, Nat.reduceBEq, Nat.reduceLT, Nat.reduceLeDiff, Nat.reduceAdd, Nat.reduceSub, reduceIte]
  refine callK_i dp ?_
  rw [ek]
  simp only [EV, Nat.reduceEqDiff, Nat.reduceBEq, Nat.reduceLT, Nat.reduceLeDiff, Nat.reduceAdd, Nat.reduceSub, reduceIte]
  refine callK2_i (d190 (kids l false n) (by omega)) rfl ?_ ?_
  · simp only [srt_len, EV, Nat.reduceEqDiff, Nat.reduceBEq, Nat.reduceLT, Nat.reduceLeDiff, Nat.reduceAdd, Nat.reduceSub, reduceIte]
  simp only [EV, Nat.reduceEqDiff, Nat.reduceBEq, Nat.reduceLT, Nat.reduceLeDiff, Nat.reduceAdd, Nat.reduceSub, reduceIte]
  refine callK_i (d193 (srt (kids l false n)) (by omega)) ?_
  simp only [EV, Nat.reduceEqDiff, Nat.reduceBEq, Nat.reduceLT, Nat.reduceLeDiff, Nat.reduceAdd, Nat.reduceSub, reduceIte]
  rw [iv_frz]
  refine callK_i (d192 l (cmpct (srt (kids l false n))) false hl hs ht (fun k hk => hki k ((hcm k).1 hk)) (up_nodup c1)) ?_
  rw [hrl]
  have hrn := nodup_le (up_nodup (reachL_up l false (kids l false n))) (fun k hk => (mem_reachL.1 hk).1)
  simp only [EV, Nat.reduceEqDiff, Nat.reduceBEq, Nat.reduceLT, Nat.reduceLeDiff, Nat.reduceAdd, Nat.reduceSub, reduceIte]
  rw [iv_frz]
  refine callK_i (d191 (reachL l false (kids l false n)) n (by omega)) ?_
  simp only [EV, Nat.reduceEqDiff, Nat.reduceBEq, Nat.reduceLT, Nat.reduceLeDiff, Nat.reduceAdd, Nat.reduceSub, reduceIte]
  simp only [roundAt, EV, Nat.reduceEqDiff, Nat.reduceBEq, Nat.reduceLT, Nat.reduceLeDiff, Nat.reduceAdd, Nat.reduceSub, reduceIte, evRE, retVC, cellV', evR, nfz, nfzs, nfzss, List.contains_nil, List.contains_cons, Bool.or_false, or_true]
def m128 : MC :=
 (.seq (.reg [Xb 4 (.asg .fb)]) (.seq (.reg [Xm 5 0, Xm 6 0, Xm 7 1, Xi 8 6 6 7, XL 9 6 8, Xb 10 (.call (.fn 198) false [.lend (.t 9)]), Xb 11 (.call (.fn 197) false [.lend (.t 5), .lend (.t 10), .lend .fb]), Xm 12 1, Xb 13 (.call (.fn 196) false [.lend (.t 11), .lend (.t 12)]), Xa 4 13]) .ret))
set_option maxRecDepth 100000 in
theorem d128 (l : List Ty) (n : Int) (hl : (l.length : Int) ≤ 1048576) (hs : ∀ s ∈ l, s.sm) (ht : tysOk l = true) (h0 : 0 ≤ n) (h1 : n < l.length) :
    Does Go.Proofs.Tryz.prog 128 [.fsl 6 (l.map Ty.z), .v (.int .i64 n)] false (.v (.bool (roundAt l n))) [.dead, .dead] := by
  have hn : n.toNat < l.length := by omega
  have hcl : Ty.z l[n.toNat] = [.v (.int .i64 l[n.toNat].kind), .v (.int .i64 l[n.toNat].long), .v (.int .i64 l[n.toNat].base), .fsl 3 (l[n.toNat].fields.map Fd.z), .v (.string l[n.toNat].owner), .v (.string l[n.toNat].name)] := rfl
  have dp := d198 l[n.toNat] (hs _ (List.getElem_mem hn))
  rw [hcl] at dp
  have ek : prt false l[n.toNat] = kids l false n := (kids_at hn).symm
  have hpl : (kids l false n).length ≤ 7 := by rw [← ek]; exact prt_len ht false hn
  have hki : ∀ k ∈ kids l false n, 0 ≤ k ∧ k < (l.length : Int) := fun k hk => kids_ok ht h0 h1 hk
  refine does_intro (mc := m128) (N := 14) (rs := [4]) (fx := []) 2 rfl (by decide +kernel) ?_
  simp only [m128, h0, h1, nth_map hn, Ty.z, EV, Nat.reduceEqDiff, Nat.reduceBEq, Nat.reduceLT, Nat.reduceLeDiff, Nat.reduceAdd, Nat.reduceSub, reduceIte]
  refine callK_i dp ?_
  rw [ek]
  simp only [EV, Nat.reduceEqDiff, Nat.reduceBEq, Nat.reduceLT, Nat.reduceLeDiff, Nat.reduceAdd, Nat.reduceSub, reduceIte]
  rw [iv_frz]
  refine callK_i (d197 l (kids l false n) false hl hs ht hki (by omega)) ?_
  have hrn := nodup_le (up_nodup (reachL_up l false (kids l false n))) (fun k hk => (mem_reachL.1 hk).1)
  simp only [EV, Nat.reduceEqDiff, Nat.reduceBEq, Nat.reduceLT, Nat.reduceLeDiff, Nat.reduceAdd, Nat.reduceSub, reduceIte]
  rw [iv_frz]
  refine callK_i (d196 (reachL l false (kids l false n)) n (by omega)) ?_
  simp only [EV, Nat.reduceEqDiff, Nat.reduceBEq, Nat.reduceLT, Nat.reduceLeDiff, Nat.reduceAdd, Nat.reduceSub, reduceIte]
  simp only [roundAt, EV, Nat.reduceEqDiff, Nat.reduceBEq, Nat.reduceLT, Nat.reduceLeDiff, Nat.reduceAdd, Nat.reduceSub, reduceIte, evRE, retVC, cellV', evR, nfz, nfzs, nfzss, List.contains_nil, List.contains_cons, Bool.or_false, or_true]
end Go.AM
namespace Go.AM
set_option linter.unusedVariables false
set_option linter.unusedSimpArgs false
namespace Fz
def m182 : MC :=
 (.seq (.reg [Xb 0 (.asg (.nils 40 6))]) (.seq (.reg [Xb 1 (.build [0, 2, 5] [0, 2, 5] [1, 1, 1] [.i, .i, .i, .f 3, .z, .z] [.i 1, .i (-1), .z #[73, 78, 84]]), Xb 2 (.build [0, 2, 5] [0, 2, 5] [1, 1, 1] [.i, .i, .i, .f 3, .z, .z] [.i 2, .i (-1), .z #[66, 79, 79, 76]]), Xb 3 (.build [0, 2, 5] [0, 2, 5] [1, 1, 1] [.i, .i, .i, .f 3, .z, .z] [.i 3, .i (-1), .z #[67, 72, 65, 82]]), Xb 4 (.bsl 40 6 [.t
 1, .t 2, .t 3]), Xa 0 4]) .ret))
theorem d182 : Does Go.Proofs.Tryz.prog 182 [] false (.usl 40 6 (baseTs.map Ty.z)) [] := by
  refine does_intro (mc := m182) (N := 5) (rs := [0]) (fx := []) 0 rfl (by decide +kernel) ?_
  simp only [m182, baseTs, Ty.z, EV, Nat.reduceEqDiff, Nat.reduceBEq, Nat.reduceLT, Nat.reduceLeDiff, Nat.reduceAdd, Nat.reduceSub, reduceIte]
  simp only [EV, Nat.reduceEqDiff, Nat.reduceBEq, Nat.reduceLT, Nat.reduceLeDiff, Nat.reduceAdd, Nat.reduceSub, reduceIte, evRE, retVC, cellV', evR, nfz, nfzs, nfzss, List.contains_nil, List.contains_cons, Bool.or_false, or_true]
  exact Or.inr rfl
end Fz
theorem base_at {i : Nat} (h : i < baseTs.length) : baseTs[i].long = 0 ∧ baseTs[i].base = -1 ∧ baseTs[i].fields = [] ∧ baseTs[i].owner = ⟨#[]⟩ := by
  have : i = 0 ∨ i = 1 ∨ i = 2 := by rw [base_len] at h; omega
  rcases this with rfl | rfl | rfl <;> exact ⟨rfl, rfl, rfl, rfl⟩
theorem eqL_nil {α : Type} {q : α → α → Bool} (a : List α) : eqL q a [] = !decide (0 < (a.length : Int)) := by
  cases a with
  | nil => simp [eqL, eqTo]
  | cons x a => simp [eqL]
theorem sameTy_at (t : Ty) {i : Nat} (h : i < baseTs.length) : sameTy t baseTs[i] = ((t.kind == baseTs[i].kind) && ((t.long == 0) && ((t.base == -1) && (!decide (0 < (t.fields.length : Int)) && ((t.owner.toList == (⟨#[]⟩ : ByteArray).toList) && (t.name.toList == baseTs[i].name.toList)))))) := by
  obtain ⟨h1, h2, h3, h4⟩ := base_at h
  unfold sameTy
  rw [h1, h2, h3, h4, eqL_nil]
noncomputable def baseOk (l : List Ty) : Bool := decide (3 ≤ (l.length : Int)) && eqL sameTy (l.take 3) baseTs
def m194 : MC :=
 (.seq (.reg [Xb 2 (.asg .fb)]) (.seq (.seq (.reg [Xm 6 0, Xn 7 6, Xq 8 (.bin false .lss (.t 7) (.i 3))]) (.cond (.t 8) (.seq (.reg [Xb 2 (.asg .fb)]) .ret) .skip)) (.seq (.seq (.reg [Xb 9 (.call (.fn 182) false []), Xn 10 9, Xq 11 (.mov (.i 0))]) (.block 0 (.loop [0, 9, 10, 11] (.seq (.reg [Xq 12 (.bin false .lss (.t 11) (.t 10))]) (.seq (.cond (.t 12) .skip (.exit 0)) (.seq (.block 1 (.seq (.reg
 [Xm 13 11, Xi 14 6 9 11, XL 15 6 14, Xb 4 (.alloc 40 [.i, .i, .i, .s 97 3, .z, .z]), Xa 3 13, Xz (.store 6 (.t 4) (.t 15))]) (.seq (.reg [Xm 16 0, Xm 17 3, Xi 18 6 16 17, XL 19 6 18, Xb 5 (.alloc 40 [.i, .i, .i, .s 97 3, .z, .z]), Xz (.store 6 (.t 5) (.t 19))]) (.seq (.reg [Xf 20 0 5, Xl 21 1 20, Xf 22 0 4, Xl 23 1 22, Xq 24 (.bin false .neq (.t 21) (.t 23)), Xm 25 24, Xu 26 25 (.fad 1 (.t 5)), Xu
 27 25 (.load false 1 (.t 26)), Xu 28 25 (.bin false .neq (.t 27) (.i 0)), Xq 29 (.pick (.t 25) .tb (.t 28)), Xm 30 29, Xu 31 30 (.fad 2 (.t 5)), Xu 32 30 (.load false 1 (.t 31)), Xu 33 30 (.bin false .neq (.t 32) (.i (-1))), Xq 34 (.pick (.t 30) .tb (.t 33)), Xm 35 34, Xu 36 35 (.fad 3 (.t 5)), Xu 37 35 (.load false 1 (.t 36)), Xu 38 35 (.len false (.t 37)), Xu 39 35 (.bin false .gtr (.t 38) (.i
 0)), Xq 40 (.pick (.t 35) .tb (.t 39)), Xm 41 40, Xu 42 41 (.fad 4 (.t 5)), Xu 43 41 (.load false 1 (.t 42)), Xu 44 41 (.bin false .neq (.t 43) (.z #[])), Xq 45 (.pick (.t 41) .tb (.t 44)), Xm 46 45, Xu 47 46 (.fad 5 (.t 5)), Xu 48 46 (.load false 1 (.t 47)), Xu 49 46 (.fad 5 (.t 4)), Xu 50 46 (.load false 1 (.t 49)), Xu 51 46 (.bin false .neq (.t 48) (.t 50)), Xq 52 (.pick (.t 46) .tb (.t 51))])
 (.cond (.t 52) (.seq (.reg [Xb 2 (.asg .fb)]) .ret) .skip))))) (.reg [Xq 53 (.bin false .add (.t 11) (.i 1)), Xm 11 53]))))))) (.seq (.reg [Xb 2 (.asg .tb)]) .ret))))
set_option maxHeartbeats 1000000 in
set_option maxRecDepth 100000 in
theorem d194 (l : List Ty) (hl : (l.length : Int) ≤ 1048576) : Does Go.Proofs.Tryz.prog 194 [.fsl 6 (l.map Ty.z)] false (.v (.bool (baseOk l))) [.dead] := by
  refine does_intro (mc := m194) (N := 54) (rs := [2]) (fx := []) 1 rfl (by decide +kernel) ?_
  simp only [m194, EV, Nat.reduceEqDiff, Nat.reduceBEq, Nat.reduceLT, Nat.reduceLeDiff, Nat.reduceAdd, Nat.reduceSub, reduceIte]
  refine cK_cut (fun h => ?_) (fun h => ?_)
  · have h0 : ¬ 3 ≤ (l.length : Int) := by simpa using h
    have e : baseOk l = false := by unfold baseOk; rw [decide_eq_false h0, Bool.false_and]
    simp only [EV, Nat.reduceEqDiff, Nat.reduceBEq, Nat.reduceLT, Nat.reduceLeDiff, Nat.reduceAdd, Nat.reduceSub, reduceIte]
    simp only [e, EV, Nat.reduceEqDiff, Nat.reduceBEq, Nat.reduceLT, Nat.reduceLeDiff, Nat.reduceAdd, Nat.reduceSub, reduceIte, evRE, retVC, cellV', evR, nfz, nfzs, nfzss, List.contains_nil, List.contains_cons, Bool.or_false, or_true]
  have h3 : 3 ≤ (l.length : Int) := by simpa using h
  have hb : baseOk l = eqL sameTy (l.take 3) baseTs := by unfold baseOk; rw [decide_eq_true h3, Bool.true_and]
  have ht3 : (l.take 3).length = 3 := by simp; omega
  clear h
  simp only [EV, Nat.reduceEqDiff, Nat.reduceBEq, Nat.reduceLT, Nat.reduceLeDiff, Nat.reduceAdd, Nat.reduceSub, reduceIte]
  refine callK_i Fz.d182 ?_
  have h3' : ((3 : Nat) : Int) = 3 := rfl
  simp only [base_len, h3', EV, Nat.reduceEqDiff, Nat.reduceBEq, Nat.reduceLT, Nat.reduceLeDiff, Nat.reduceAdd, Nat.reduceSub, reduceIte]
  refine awp_loop (fun i : Nat => i ≤ 3 ∧ eqTo sameTy (l.take 3) baseTs i) (fun i => stl [(0, .fsl 6 (l.map Ty.z)), (9, .usl 40 6 (baseTs.map Ty.z)), (10, .v (.int .i64 3)), (11, .v (.int .i64 (i : Int)))]) (fun i => 3 - i) 0 ⟨Nat.zero_le _, fun j _ _ hj => absurd hj (by omega)⟩ ?_ ?_
  · simp only [EV, Nat.reduceEqDiff, Nat.reduceBEq, Nat.reduceLT, Nat.reduceLeDiff, Nat.reduceAdd, Nat.reduceSub, reduceIte]
    rfl
  · rintro i ⟨hi, hok⟩
    simp only [EV, Nat.reduceEqDiff, Nat.reduceBEq, Nat.reduceLT, Nat.reduceLeDiff, Nat.reduceAdd, Nat.reduceSub, reduceIte]
    refine cK_cut (fun h => ?_) (fun h => ?_)
    · have h1 : i < 3 := by have : (i : Int) < 3 := by simpa using h
                            omega
      have hn : i < baseTs.length := by rw [base_len]; exact h1
      have hl' : i < l.length := by omega
      have h2 : (i : Int) < 3 := by omega
      have h4 : (i : Int) < (l.length : Int) := by omega
      have hto : (l.take 3)[i]'(by omega) = l[i] := by rw [List.getElem_take]
      have hs := sameTy_at l[i] hn
      have no : sameTy l[i] baseTs[i] = false → baseOk l = false := by
        intro e; rw [hb]; exact eqL_no (by omega) hn (by rw [hto]; exact e)
      clear h
      simp only [bne, TyE, nth_map hl', nth_map hn, h2, h1, h4, base_len, h3', Ty.z, EV, Nat.reduceEqDiff, Nat.reduceBEq, Nat.reduceLT, Nat.reduceLeDiff, Nat.reduceAdd, Nat.reduceSub, reduceIte]
      repeat' (first
    | (refine gK_cut (fun h => ?_) (fun h => ?_) <;> simp only [h, bne, EV, Nat.reduceEqDiff, Nat.reduceBEq, Nat.reduceLT, Nat.reduceLeDiff, Nat.reduceAdd, Nat.reduceSub, reduceIte])
    | (refine cK_cut (fun h => ?_) (fun h => ?_) <;> simp only [h, bne, EV, Nat.reduceEqDiff, Nat.reduceBEq, Nat.reduceLT, Nat.reduceLeDiff, Nat.reduceAdd, Nat.reduceSub, reduceIte]))
      all_goals simp only [Bool.not_eq_true', Bool.not_eq_false'] at *
      all_goals first
        | (have e : baseOk l = false := no (by rw [hs]; simp only [*, Bool.not_true, Bool.and_false, Bool.false_and])
           simp only [e, Ty.nfz, EV, Nat.reduceEqDiff, Nat.reduceBEq, Nat.reduceLT, Nat.reduceLeDiff, Nat.reduceAdd, Nat.reduceSub, reduceIte, evRE, retVC, cellV', evR, nfz, nfzs, nfzss, List.contains_nil, List.contains_cons, Bool.or_false, or_true]
           done)
        | (have e : sameTy l[i] baseTs[i] = true := by rw [hs]; simp only [*, Bool.not_false, Bool.and_true]
           rw [w64 _ (by omega)]
           exact ⟨i + 1, ⟨h1, eqTo_succ (h1 := by omega) (h2 := hn) hok (by rw [hto]; exact e)⟩, by omega, rfl⟩)
    · have h1 : i = 3 := by have : ¬ (i : Int) < 3 := by simpa using h
                            omega
      subst h1
      have e : baseOk l = true := by rw [hb]; exact eqL_yes (by rw [ht3, base_len]) (by rw [ht3]; exact hok)
      simp only [EV, Nat.reduceEqDiff, Nat.reduceBEq, Nat.reduceLT, Nat.reduceLeDiff, Nat.reduceAdd, Nat.reduceSub, reduceIte]
      simp only [e, EV, Nat.reduceEqDiff, Nat.reduceBEq, Nat.reduceLT, Nat.reduceLeDiff, Nat.reduceAdd, Nat.reduceSub, reduceIte, evRE, retVC, cellV', evR, nfz, nfzs, nfzss, List.contains_nil, List.contains_cons, Bool.or_false, or_true]
end Go.AM
namespace Go.AM
set_option linter.unusedVariables false
set_option linter.unusedSimpArgs false
theorem tyNm_comm (x o : Ty) : tyNm x o = ((x.name.toList == o.name.toList) && (x.owner.toList == o.owner.toList)) := by
  unfold tyNm
  rw [Bool.beq_comm, Bool.beq_comm (a := o.owner.toList)]
theorem tysOk_base' {l : List Ty} (h : baseOk l = false) : tysOk l = false := by
  unfold tysOk
  unfold baseOk at h
  rcases e : decide (3 ≤ (l.length : Int)) with _ | _
  · simp only [Bool.false_and]
  · rw [e, Bool.true_and] at h
    simp only [h, Bool.false_and, Bool.and_false]
theorem tysOk_long {l : List Ty} (h : 24 < (l.length : Int)) : tysOk l = false := by
  unfold tysOk
  have : decide ((l.length : Int) ≤ 24) = false := decide_eq_false (by omega)
  simp only [this, Bool.false_and, Bool.and_false]
def m127 : MC :=
 (.seq (.reg [Xb 2 (.asg .fb)]) (.seq (.seq (.reg [Xm 7 0, Xb 8 (.call (.fn 194) false [.lend (.t 7)]), Xq 9 (.un .not (.t 8)), Xm 10 9, Xu 11 10 (.mov (.t 0)), Xu 12 10 (.len false (.t 11)), Xu 13 10 (.bin false .gtr (.t 12) (.i 24)), Xq 14 (.pick (.t 10) .tb (.t 13))]) (.cond (.t 14) (.seq (.reg [Xb 2 (.asg .fb)]) .ret) .skip)) (.seq (.seq (.reg [Xm 15 0, Xq 16 (.slc false 6 (.t 15) (some (.i 3))
 none), Xn 17 16, Xq 18 (.mov (.i 0))]) (.block 0 (.loop [0, 15, 16, 17, 18] (.seq (.reg [Xq 19 (.bin false .lss (.t 18) (.t 17))]) (.seq (.cond (.t 19) .skip (.exit 0)) (.seq (.block 1 (.seq (.reg [Xm 20 18, Xi 21 6 16 18, XL 22 6 21, Xb 4 (.alloc 40 [.i, .i, .i, .s 97 3, .z, .z]), Xa 3 20, Xz (.store 6 (.t 4) (.t 22))]) (.seq (.seq (.reg [Xm 23 0, XL 24 6 4, Xb 25 (.call (.fn 195) false [.lend
 (.t 23), .lend (.t 24)]), Xq 26 (.un .not (.t 25))]) (.cond (.t 26) (.seq (.reg [Xb 2 (.asg .fb)]) .ret) .skip)) (.seq (.reg [Xm 27 0, Xm 28 3, Xq 29 (.bin false .add (.i 3) (.t 28)), Xq 30 (.slc false 6 (.t 27) (some (.i 3)) (some (.t 29))), Xn 31 30, Xq 32 (.mov (.i 0))]) (.block 2 (.loop [0, 4, 15, 16, 17, 18, 27, 29, 30, 31, 32] (.seq (.reg [Xq 33 (.bin false .lss (.t 32) (.t 31))]) (.seq
 (.cond (.t 33) .skip (.exit 2)) (.seq (.block 3 (.seq (.reg [Xi 34 6 30 32, XL 35 6 34, Xb 6 (.alloc 40 [.i, .i, .i, .s 97 3, .z, .z]), Xz (.store 6 (.t 6) (.t 35))]) (.seq (.reg [Xf 36 5 4, Xl 37 1 36, Xq 38 (.bin false .neq (.t 37) (.z #[])), Xm 39 38, Xt 40 39 (.fad 5 (.t 4)), Xt 41 39 (.load false 1 (.t 40)), Xt 42 39 (.fad 5 (.t 6)), Xt 43 39 (.load false 1 (.t 42)), Xt 44 39 (.bin false .eql
 (.t 41) (.t 43)), Xq 45 (.pick (.t 39) (.t 44) .fb), Xm 46 45, Xt 47 46 (.fad 4 (.t 4)), Xt 48 46 (.load false 1 (.t 47)), Xt 49 46 (.fad 4 (.t 6)), Xt 50 46 (.load false 1 (.t 49)), Xt 51 46 (.bin false .eql (.t 48) (.t 50)), Xq 52 (.pick (.t 46) (.t 51) .fb)]) (.cond (.t 52) (.seq (.reg [Xb 2 (.asg .fb)]) .ret) .skip)))) (.reg [Xq 53 (.bin false .add (.t 32) (.i 1)), Xm 32 53])))))))))) (.reg
 [Xq 54 (.bin false .add (.t 18) (.i 1)), Xm 18 54]))))))) (.seq (.reg [Xb 2 (.asg .tb)]) .ret))))
set_option maxHeartbeats 1000000 in
set_option maxRecDepth 100000 in
theorem d127 (l : List Ty) (hl : (l.length : Int) ≤ 1048576) (hs : ∀ s ∈ l, s.sm) : Does Go.Proofs.Tryz.prog 127 [.fsl 6 (l.map Ty.z)] false (.v (.bool (tysOk l))) [.dead] := by
  refine does_intro (mc := m127) (N := 55) (rs := [2]) (fx := []) 1 rfl (by decide +kernel) ?_
  simp only [m127, EV, Nat.reduceEqDiff, Nat.reduceBEq, Nat.reduceLT, Nat.reduceLeDiff, Nat.reduceAdd, Nat.reduceSub, reduceIte]
  refine callK_i (d194 l hl) ?_
  simp only [EV, Nat.reduceEqDiff, Nat.reduceBEq, Nat.reduceLT, Nat.reduceLeDiff, Nat.reduceAdd, Nat.reduceSub, reduceIte]
  rcases hb : baseOk l with _ | _
  · have e : tysOk l = false := tysOk_base' hb
    simp only [EV, Nat.reduceEqDiff, Nat.reduceBEq, Nat.reduceLT, Nat.reduceLeDiff, Nat.reduceAdd, Nat.reduceSub, reduceIte]
    simp only [e, EV, Nat.reduceEqDiff, Nat.reduceBEq, Nat.reduceLT, Nat.reduceLeDiff, Nat.reduceAdd, Nat.reduceSub, reduceIte, evRE, retVC, cellV', evR, nfz, nfzs, nfzss, List.contains_nil, List.contains_cons, Bool.or_false, or_true]
  simp only [EV, Nat.reduceEqDiff, Nat.reduceBEq, Nat.reduceLT, Nat.reduceLeDiff, Nat.reduceAdd, Nat.reduceSub, reduceIte]
  refine cK_cut (fun h => ?_) (fun h => ?_)
  · have e : tysOk l = false := tysOk_long (by simpa using h)
    simp only [EV, Nat.reduceEqDiff, Nat.reduceBEq, Nat.reduceLT, Nat.reduceLeDiff, Nat.reduceAdd, Nat.reduceSub, reduceIte]
    simp only [e, EV, Nat.reduceEqDiff, Nat.reduceBEq, Nat.reduceLT, Nat.reduceLeDiff, Nat.reduceAdd, Nat.reduceSub, reduceIte, evRE, retVC, cellV', evR, nfz, nfzs, nfzss, List.contains_nil, List.contains_cons, Bool.or_false, or_true]
  have h24 : (l.length : Int) ≤ 24 := by have : ¬ 24 < (l.length : Int) := by simpa using h
                                         omega
  have hbo := hb
  simp only [baseOk, Bool.and_eq_true, decide_eq_true_eq] at hbo
  obtain ⟨hl3, e2⟩ := hbo
  have e1 : (decide (3 ≤ (l.length : Int)) && decide ((l.length : Int) ≤ 24)) = true := by rw [decide_eq_true hl3, decide_eq_true h24]; rfl
  clear h
  have h3 : ((3 : Nat) : Int) = 3 := rfl
  have t3 : (3 : Int).toNat = 3 := rfl
  simp only [h3, EV, Nat.reduceEqDiff, Nat.reduceBEq, Nat.reduceLT, Nat.reduceLeDiff, Nat.reduceAdd, Nat.reduceSub, reduceIte]
  refine ⟨by omega, hl3, by omega, ?_⟩
  simp only [← List.map_drop, ← List.map_take, t3]
  have hm : ∃ m, l.drop 3 = m := ⟨_, rfl⟩
  obtain ⟨m, hm⟩ := hm
  have hml : (m.length : Int) = (l.length : Int) - 3 := by rw [← hm]; simp; omega
  have hsub : ∀ x ∈ m, x ∈ l := by rw [← hm]; exact fun x hx => List.mem_of_mem_drop hx
  have p9 : ∀ i (h : i < m.length), tyAt l m i h = false → tysOk l = false := by
    subst hm; exact fun i h e => tysOk_no h e
  refine awp_loop (fun i : Nat => i ≤ m.length ∧ tyTo l m i) (fun i => stl [(0, .fsl 6 (l.map Ty.z)), (15, .fsl 6 (l.map Ty.z)), (16, .fsl 6 (m.map Ty.z)), (17, .v (.int .i64 (m.length : Int))), (18, .v (.int .i64 (i : Int)))]) (fun i => m.length - i) 0 ⟨Nat.zero_le _, fun j hj h => absurd h (by omega)⟩ ?_ ?_
  · have htk : List.take (l.length - 3) m = m := List.take_of_length_le (by omega)
    simp only [hm, htk, EV, Nat.reduceEqDiff, Nat.reduceBEq, Nat.reduceLT, Nat.reduceLeDiff, Nat.reduceAdd, Nat.reduceSub, reduceIte]
    rfl
  · rintro i ⟨hi, hok⟩
    simp only [EV, Nat.reduceEqDiff, Nat.reduceBEq, Nat.reduceLT, Nat.reduceLeDiff, Nat.reduceAdd, Nat.reduceSub, reduceIte]
    refine cK_cut (fun h => ?_) (fun h => ?_)
    · have h1 : i < m.length := by simpa using h
      have h2 : (i : Int) < (m.length : Int) := by omega
      have hso : m[i].sm := hs m[i] (hsub _ (List.getElem_mem h1))
      clear h
      have hw : IntKind.i64.wrap (3 + (i : Int)) = ((3 + i : Nat) : Int) := by rw [w64 _ (by omega)]; omega
      have hdt : List.take (3 + i - 3) (List.drop 3 (l.map Ty.z)) = (m.take i).map Ty.z := by
        rw [← hm, Nat.add_sub_cancel_left, ← List.map_drop, ← List.map_take]
      have ht : (m.take i).length = i := by simp; omega
      have hcl : Ty.z m[i] = [.v (.int .i64 m[i].kind), .v (.int .i64 m[i].long), .v (.int .i64 m[i].base), .fsl 3 (m[i].fields.map Fd.z), .v (.string m[i].owner), .v (.string m[i].name)] := rfl
      have d7 := d195 l m[i] hl hso
      rw [hcl] at d7
      have en : (m[i].name.toList == (⟨#[]⟩ : ByteArray).toList) = nil' m[i].name := rfl
      simp only [TyE, nth_map h1, h2, h3, Ty.z, EV, Nat.reduceEqDiff, Nat.reduceBEq, Nat.reduceLT, Nat.reduceLeDiff, Nat.reduceAdd, Nat.reduceSub, reduceIte]
      refine callK_i d7 ?_
      simp only [EV, Nat.reduceEqDiff, Nat.reduceBEq, Nat.reduceLT, Nat.reduceLeDiff, Nat.reduceAdd, Nat.reduceSub, reduceIte]
      rcases e5 : tyOk l m[i] with _ | _
      · have e : tysOk l = false := p9 i h1 (by simp only [tyAt, e5, Bool.and_false])
        simp only [EV, Nat.reduceEqDiff, Nat.reduceBEq, Nat.reduceLT, Nat.reduceLeDiff, Nat.reduceAdd, Nat.reduceSub, reduceIte]
        simp only [e, EV, Nat.reduceEqDiff, Nat.reduceBEq, Nat.reduceLT, Nat.reduceLeDiff, Nat.reduceAdd, Nat.reduceSub, reduceIte, evRE, retVC, cellV', evR, nfz, nfzs, nfzss, List.contains_nil, List.contains_cons, Bool.or_false, or_true]
      simp only [h3, hw, t3, EV, Nat.reduceEqDiff, Nat.reduceBEq, Nat.reduceLT, Nat.reduceLeDiff, Nat.reduceAdd, Nat.reduceSub, reduceIte]
      refine ⟨by omega, by omega, by omega, ?_⟩
      rw [hdt]
      refine awp_loop (fun k : Nat => k ≤ i ∧ (nil' m[i].name = true ∨ ((m.take i).take k).any (tyNm m[i]) = false)) (fun k => stl [(0, .fsl 6 (l.map Ty.z)), (4, .box 40 m[i].z), (15, .fsl 6 (l.map Ty.z)), (16, .fsl 6 (m.map Ty.z)), (17, .v (.int .i64 (m.length : Int))), (18, .v (.int .i64 (i : Int))), (27, .fsl 6 (l.map Ty.z)), (29, .v (.int .i64 ((3 + i : Nat) : Int))), (30, .fsl 6 ((m.take i).map Ty.z)), (31, .v (.int .i64 (i : Int))), (32, .v (.int .i64 (k : Int)))]) (fun k => i - k) 0 ⟨Nat.zero_le _, Or.inr (by simp)⟩ ?_ ?_
      · simp only [Ty.z, EV, Nat.reduceEqDiff, Nat.reduceBEq, Nat.reduceLT, Nat.reduceLeDiff, Nat.reduceAdd, Nat.reduceSub, reduceIte]
        rw [ht]
        rfl
      · rintro k ⟨hk, hno⟩
        simp only [Ty.z, EV, Nat.reduceEqDiff, Nat.reduceBEq, Nat.reduceLT, Nat.reduceLeDiff, Nat.reduceAdd, Nat.reduceSub, reduceIte]
        refine cK_cut (fun h => ?_) (fun h => ?_)
        · have k3 : k < i := by have : (k : Int) < i := by simpa using h
                                omega
          have k1 : k < (m.take i).length := by rw [ht]; exact k3
          have k2 : (k : Int) < i := by omega
          clear h
          have hnx : tyNm m[i] (m.take i)[k] = false → ∃ a, (a ≤ i ∧ (nil' m[i].name = true ∨ ((m.take i).take a).any (tyNm m[i]) = false)) ∧ i - a < i - k ∧ a = k + 1 := by
            intro e
            refine ⟨k + 1, ⟨by omega, ?_⟩, by omega, rfl⟩
            rcases hno with hno | hno
            · exact .inl hno
            · exact .inr (any_take k1 hno e)
          simp only [TyE, nth_map k1, k2, k3, ht, Ty.z, EV, Nat.reduceEqDiff, Nat.reduceBEq, Nat.reduceLT, Nat.reduceLeDiff, Nat.reduceAdd, Nat.reduceSub, reduceIte]
          rw [en]
          have hcm := tyNm_comm m[i] (m.take i)[k]
          rcases e3 : nil' m[i].name with _ | _
          · simp only [Bool.not_false, TyE, nth_map k1, k2, k3, ht, Ty.z, EV, Nat.reduceEqDiff, Nat.reduceBEq, Nat.reduceLT, Nat.reduceLeDiff, Nat.reduceAdd, Nat.reduceSub, reduceIte]
            repeat' (first
    | (refine gK_cut (fun h => ?_) (fun h => ?_) <;> simp only [h, EV, Nat.reduceEqDiff, Nat.reduceBEq, Nat.reduceLT, Nat.reduceLeDiff, Nat.reduceAdd, Nat.reduceSub, reduceIte])
    | (refine cK_cut (fun h => ?_) (fun h => ?_) <;> simp only [h, EV, Nat.reduceEqDiff, Nat.reduceBEq, Nat.reduceLT, Nat.reduceLeDiff, Nat.reduceAdd, Nat.reduceSub, reduceIte]))
            all_goals first
              | (have e4 : tyNm m[i] (m.take i)[k] = true := by rw [hcm]; simp only [*, Bool.and_self]
                 have e : tysOk l = false := p9 i h1 (by
                   have := any_at k1 e4
                   simp only [tyAt, e3, this, Bool.not_false, Bool.true_and, Bool.not_true, Bool.false_and])
                 simp only [e, EV, Nat.reduceEqDiff, Nat.reduceBEq, Nat.reduceLT, Nat.reduceLeDiff, Nat.reduceAdd, Nat.reduceSub, reduceIte, evRE, retVC, cellV', evR, nfz, nfzs, nfzss, List.contains_nil, List.contains_cons, Bool.or_false, or_true]
                 done)
              | (have e4 : tyNm m[i] (m.take i)[k] = false := by rw [hcm]; simp only [*, Bool.false_and, Bool.and_false]
                 obtain ⟨a, q1, q2, rfl⟩ := hnx e4
                 rw [w64 _ (by omega)]
                 exact ⟨k + 1, ⟨q1.1, by rcases q1.2 with q | q; exact absurd (e3.symm.trans q) Bool.false_ne_true; exact Or.inr q⟩, q2, rfl⟩)
          · simp only [Bool.not_true, EV, Nat.reduceEqDiff, Nat.reduceBEq, Nat.reduceLT, Nat.reduceLeDiff, Nat.reduceAdd, Nat.reduceSub, reduceIte]
            rw [w64 _ (by omega)]
            exact ⟨k + 1, ⟨by omega, Or.inl trivial⟩, by omega, rfl⟩
        · have k1 : k = i := by have : ¬ (k : Int) < i := by simpa using h
                                omega
          subst k1
          have hq : tyAt l m k h1 = true := by
            simp only [tyAt, e5, Bool.and_true]
            rcases hno with hno | hno
            · rw [hno]; rfl
            · rw [List.take_take, Nat.min_self] at hno
              rw [hno, Bool.and_false]; rfl
          simp only [EV, Nat.reduceEqDiff, Nat.reduceBEq, Nat.reduceLT, Nat.reduceLeDiff, Nat.reduceAdd, Nat.reduceSub, reduceIte]
          rw [w64 _ (by omega)]
          exact ⟨k + 1, ⟨h1, tyTo_succ h1 hok hq⟩, by omega, rfl⟩
    · have h1 : i = m.length := by have : ¬ (i : Int) < m.length := by simpa using h
                                   omega
      subst h1
      have e : tysOk l = true := tysOk_yes e1 e2 (by rw [hm]; exact hok)
      simp only [EV, Nat.reduceEqDiff, Nat.reduceBEq, Nat.reduceLT, Nat.reduceLeDiff, Nat.reduceAdd, Nat.reduceSub, reduceIte]
      simp only [e, EV, Nat.reduceEqDiff, Nat.reduceBEq, Nat.reduceLT, Nat.reduceLeDiff, Nat.reduceAdd, Nat.reduceSub, reduceIte, evRE, retVC, cellV', evR, nfz, nfzs, nfzss, List.contains_nil, List.contains_cons, Bool.or_false, or_true]
end Go.AM
namespace Go.AM
set_option linter.unusedVariables false
set_option linter.unusedSimpArgs false
def noRd (l : List Ty) (n : Nat) : Prop := ∀ j : Nat, j < n → roundAt l (j : Int) = false
theorem tabOk_yes {l : List Ty} (h : tysOk l = true) (h2 : noRd l l.length) : tabOk l = true := by
  simp only [tabOk, h, Bool.true_and, List.all_eq_true, List.mem_range]
  intro n hn
  rw [h2 n hn]; rfl
theorem tabOk_no {l : List Ty} {i : Nat} (h : i < l.length) (h2 : roundAt l (i : Int) = true) : tabOk l = false := by
  rcases e : tabOk l with _ | _
  · rfl
  · have := tabOk_round e (n := (i : Int)) (by omega) (by omega)
    rw [h2] at this; cases this
theorem tabOk_tno {l : List Ty} (h : tysOk l = false) : tabOk l = false := by simp only [tabOk, h, Bool.false_and]
def m55 : MC :=
 (.seq (.reg [Xb 2 (.asg .fb)]) (.seq (.seq (.reg [Xm 4 0, Xb 5 (.call (.fn 125) false [.lend (.t 4)]), Xq 6 (.un .not (.t 5))]) (.cond (.t 6) (.seq (.reg [Xb 2 (.asg .fb)]) .ret) .skip)) (.seq (.seq (.reg [Xm 7 0, Xn 8 7, Xq 9 (.mov (.i 0))]) (.block 0 (.loop [0, 8, 9] (.seq (.reg [Xq 10 (.bin false .lss (.t 9) (.t 8))]) (.seq (.cond (.t 10) .skip (.exit 0)) (.seq (.block 1 (.seq (.reg [Xm 11 9,
 Xa 3 11]) (.seq (.reg [Xm 12 0, Xm 13 3, Xb 14 (.call (.fn 126) false [.lend (.t 12), .lend (.t 13)])]) (.cond (.t 14) (.seq (.reg [Xb 2 (.asg .fb)]) .ret) .skip)))) (.reg [Xq 15 (.bin false .add (.t 9) (.i 1)), Xm 9 15]))))))) (.seq (.reg [Xb 2 (.asg .tb)]) .ret))))
set_option maxRecDepth 100000 in
theorem d55 (l : List Ty) (hl : (l.length : Int) ≤ 1048576) (hs : ∀ s ∈ l, s.sm) : Does Go.Proofs.Tryz.prog 55 [.fsl 6 (l.map Ty.z)] false (.v (.bool (tabOk l))) [.dead] := by
  refine does_intro (mc := m55) (N := 16) (rs := [2]) (fx := []) 1 rfl (by decide +kernel) ?_
  simp only [m55, EV, Nat.reduceEqDiff, Nat.reduceBEq, Nat.reduceLT, Nat.reduceLeDiff, Nat.reduceAdd, Nat.reduceSub, reduceIte]
  refine callK_i (d125 l hl hs) ?_
  simp only [EV, Nat.reduceEqDiff, Nat.reduceBEq, Nat.reduceLT, Nat.reduceLeDiff, Nat.reduceAdd, Nat.reduceSub, reduceIte]
  rcases ht : tysOk l with _ | _
  · have e : tabOk l = false := tabOk_tno ht
    simp only [Bool.not_false, EV, Nat.reduceEqDiff, Nat.reduceBEq, Nat.reduceLT, Nat.reduceLeDiff, Nat.reduceAdd, Nat.reduceSub, reduceIte]
    simp only [e, EV, Nat.reduceEqDiff, Nat.reduceBEq, Nat.reduceLT, Nat.reduceLeDiff, Nat.reduceAdd, Nat.reduceSub, reduceIte, evRE, retVC, cellV', evR, nfz, nfzs, nfzss, List.contains_nil, List.contains_cons, Bool.or_false, or_true]
  simp only [Bool.not_true, EV, Nat.reduceEqDiff, Nat.reduceBEq, Nat.reduceLT, Nat.reduceLeDiff, Nat.reduceAdd, Nat.reduceSub, reduceIte]
  refine awp_loop (fun i : Nat => i ≤ l.length ∧ noRd l i) (fun i => stl [(0, .fsl 6 (l.map Ty.z)), (8, .v (.int .i64 (l.length : Int))), (9, .v (.int .i64 (i : Int)))]) (fun i => l.length - i) 0 ⟨Nat.zero_le _, fun j h => absurd h (by omega)⟩ ?_ ?_
  · simp only [EV, Nat.reduceEqDiff, Nat.reduceBEq, Nat.reduceLT, Nat.reduceLeDiff, Nat.reduceAdd, Nat.reduceSub, reduceIte]
    rfl
  · rintro i ⟨hi, hno⟩
    simp only [EV, Nat.reduceEqDiff, Nat.reduceBEq, Nat.reduceLT, Nat.reduceLeDiff, Nat.reduceAdd, Nat.reduceSub, reduceIte]
    refine cK_cut (fun h => ?_) (fun h => ?_)
    · have h1 : i < l.length := by simpa using h
      simp only [EV, Nat.reduceEqDiff, Nat.reduceBEq, Nat.reduceLT, Nat.reduceLeDiff, Nat.reduceAdd, Nat.reduceSub, reduceIte]
      refine callK_i (d126 l (i : Int) hl hs ht (by omega) (by omega)) ?_
      simp only [EV, Nat.reduceEqDiff, Nat.reduceBEq, Nat.reduceLT, Nat.reduceLeDiff, Nat.reduceAdd, Nat.reduceSub, reduceIte]
      rcases e1 : roundAt l (i : Int) with _ | _
      · simp only [EV, Nat.reduceEqDiff, Nat.reduceBEq, Nat.reduceLT, Nat.reduceLeDiff, Nat.reduceAdd, Nat.reduceSub, reduceIte]
        rw [w64 _ (by omega)]
        refine ⟨i + 1, ⟨h1, fun j hj => ?_⟩, by omega, rfl⟩
        by_cases e : j = i
        · subst e; exact e1
        · exact hno j (by omega)
      · have e : tabOk l = false := tabOk_no h1 e1
        simp only [EV, Nat.reduceEqDiff, Nat.reduceBEq, Nat.reduceLT, Nat.reduceLeDiff, Nat.reduceAdd, Nat.reduceSub, reduceIte]
        simp only [e, EV, Nat.reduceEqDiff, Nat.reduceBEq, Nat.reduceLT, Nat.reduceLeDiff, Nat.reduceAdd, Nat.reduceSub, reduceIte, evRE, retVC, cellV', evR, nfz, nfzs, nfzss, List.contains_nil, List.contains_cons, Bool.or_false, or_true]
    · have h1 : i = l.length := by have : ¬ (i : Int) < l.length := by simpa using h
                                   omega
      subst h1
      have e : tabOk l = true := tabOk_yes ht hno
      simp only [EV, Nat.reduceEqDiff, Nat.reduceBEq, Nat.reduceLT, Nat.reduceLeDiff, Nat.reduceAdd, Nat.reduceSub, reduceIte]
      simp only [e, EV, Nat.reduceEqDiff, Nat.reduceBEq, Nat.reduceLT, Nat.reduceLeDiff, Nat.reduceAdd, Nat.reduceSub, reduceIte, evRE, retVC, cellV', evR, nfz, nfzs, nfzss, List.contains_nil, List.contains_cons, Bool.or_false, or_true]
def m58 : MC :=
 (.seq (.reg [Xb 2 (.asg .fb)]) (.seq (.seq (.reg [Xm 4 0, Xb 5 (.call (.fn 127) false [.lend (.t 4)]), Xq 6 (.un .not (.t 5))]) (.cond (.t 6) (.seq (.reg [Xb 2 (.asg .fb)]) .ret) .skip)) (.seq (.seq (.reg [Xm 7 0, Xn 8 7, Xq 9 (.mov (.i 0))]) (.block 0 (.loop [0, 8, 9] (.seq (.reg [Xq 10 (.bin false .lss (.t 9) (.t 8))]) (.seq (.cond (.t 10) .skip (.exit 0)) (.seq (.block 1 (.seq (.reg [Xm 11 9,
 Xa 3 11]) (.seq (.reg [Xm 12 0, Xm 13 3, Xb 14 (.call (.fn 128) false [.lend (.t 12), .lend (.t 13)])]) (.cond (.t 14) (.seq (.reg [Xb 2 (.asg .fb)]) .ret) .skip)))) (.reg [Xq 15 (.bin false .add (.t 9) (.i 1)), Xm 9 15]))))))) (.seq (.reg [Xb 2 (.asg .tb)]) .ret))))
set_option maxRecDepth 100000 in
theorem d58 (l : List Ty) (hl : (l.length : Int) ≤ 1048576) (hs : ∀ s ∈ l, s.sm) : Does Go.Proofs.Tryz.prog 58 [.fsl 6 (l.map Ty.z)] false (.v (.bool (tabOk l))) [.dead] := by
  refine does_intro (mc := m58) (N := 16) (rs := [2]) (fx := []) 1 rfl (by decide +kernel) ?_
  simp only [m58, EV, Nat.reduceEqDiff, Nat.reduceBEq, Nat.reduceLT, Nat.reduceLeDiff, Nat.reduceAdd, Nat.reduceSub, reduceIte]
  refine callK_i (d127 l hl hs) ?_
  simp only [EV, Nat.reduceEqDiff, Nat.reduceBEq, Nat.reduceLT, Nat.reduceLeDiff, Nat.reduceAdd, Nat.reduceSub, reduceIte]
  rcases ht : tysOk l with _ | _
  · have e : tabOk l = false := tabOk_tno ht
    simp only [Bool.not_false, EV, Nat.reduceEqDiff, Nat.reduceBEq, Nat.reduceLT, Nat.reduceLeDiff, Nat.reduceAdd, Nat.reduceSub, reduceIte]
    simp only [e, EV, Nat.reduceEqDiff, Nat.reduceBEq, Nat.reduceLT, Nat.reduceLeDiff, Nat.reduceAdd, Nat.reduceSub, reduceIte, evRE, retVC, cellV', evR, nfz, nfzs, nfzss, List.contains_nil, List.contains_cons, Bool.or_false, or_true]
  simp only [Bool.not_true, EV, Nat.reduceEqDiff, Nat.reduceBEq, Nat.reduceLT, Nat.reduceLeDiff, Nat.reduceAdd, Nat.reduceSub, reduceIte]
  refine awp_loop (fun i : Nat => i ≤ l.length ∧ noRd l i) (fun i => stl [(0, .fsl 6 (l.map Ty.z)), (8, .v (.int .i64 (l.length : Int))), (9, .v (.int .i64 (i : Int)))]) (fun i => l.length - i) 0 ⟨Nat.zero_le _, fun j h => absurd h (by omega)⟩ ?_ ?_
  · simp only [EV, Nat.reduceEqDiff, Nat.reduceBEq, Nat.reduceLT, Nat.reduceLeDiff, Nat.reduceAdd, Nat.reduceSub, reduceIte]
    rfl
  · rintro i ⟨hi, hno⟩
    simp only [EV, Nat.reduceEqDiff, Nat.reduceBEq, Nat.reduceLT, Nat.reduceLeDiff, Nat.reduceAdd, Nat.reduceSub, reduceIte]
    refine cK_cut (fun h => ?_) (fun h => ?_)
    · have h1 : i < l.length := by simpa using h
      simp only [EV, Nat.reduceEqDiff, Nat.reduceBEq, Nat.reduceLT, Nat.reduceLeDiff, Nat.reduceAdd, Nat.reduceSub, reduceIte]
      refine callK_i (d128 l (i : Int) hl hs ht (by omega) (by omega)) ?_
      simp only [EV, Nat.reduceEqDiff, Nat.reduceBEq, Nat.reduceLT, Nat.reduceLeDiff, Nat.reduceAdd, Nat.reduceSub, reduceIte]
      rcases e1 : roundAt l (i : Int) with _ | _
      · simp only [EV, Nat.reduceEqDiff, Nat.reduceBEq, Nat.reduceLT, Nat.reduceLeDiff, Nat.reduceAdd, Nat.reduceSub, reduceIte]
        rw [w64 _ (by omega)]
        refine ⟨i + 1, ⟨h1, fun j hj => ?_⟩, by omega, rfl⟩
        by_cases e : j = i
        · subst e; exact e1
        · exact hno j (by omega)
      · have e : tabOk l = false := tabOk_no h1 e1
        simp only [EV, Nat.reduceEqDiff, Nat.reduceBEq, Nat.reduceLT, Nat.reduceLeDiff, Nat.reduceAdd, Nat.reduceSub, reduceIte]
        simp only [e, EV, Nat.reduceEqDiff, Nat.reduceBEq, Nat.reduceLT, Nat.reduceLeDiff, Nat.reduceAdd, Nat.reduceSub, reduceIte, evRE, retVC, cellV', evR, nfz, nfzs, nfzss, List.contains_nil, List.contains_cons, Bool.or_false, or_true]
    · have h1 : i = l.length := by have : ¬ (i : Int) < l.length := by simpa using h
                                   omega
      subst h1
      have e : tabOk l = true := tabOk_yes ht hno
      simp only [EV, Nat.reduceEqDiff, Nat.reduceBEq, Nat.reduceLT, Nat.reduceLeDiff, Nat.reduceAdd, Nat.reduceSub, reduceIte]
      simp only [e, EV, Nat.reduceEqDiff, Nat.reduceBEq, Nat.reduceLT, Nat.reduceLeDiff, Nat.reduceAdd, Nat.reduceSub, reduceIte, evRE, retVC, cellV', evR, nfz, nfzs, nfzss, List.contains_nil, List.contains_cons, Bool.or_false, or_true]
end Go.AM
namespace Go.AM
set_option linter.unusedVariables false
set_option linter.unusedSimpArgs false
def obNm (v : ByteArray) (o : Ob) : Bool := o.name.toList == v.toList
def m151 : MC :=
 (.seq (.reg [Xb 2 (.box 45 (.t 0)), Xb 4 (.asg (.i 0))]) (.seq (.seq (.reg [Xf 7 3 2, Xl 8 1 7, Xn 9 8, Xq 10 (.mov (.i 0))]) (.block 0 (.loop [1, 2, 7, 8, 9, 10] (.seq (.reg [Xq 11 (.bin false .lss (.t 10) (.t 9))]) (.seq (.cond (.t 11) .skip (.exit 0)) (.seq (.block 1 (.seq (.reg [Xm 12 10, Xi 13 6 8 10, XL 14 6 13, Xb 6 (.alloc 52 [.z, .i, .i, .i, .i, .s 54 3]), Xa 5 12, Xz (.store 6 (.t 6) (.t
 14))]) (.seq (.reg [Xf 15 0 6, Xl 16 1 15, Xm 17 1, Xq 18 (.bin false .eql (.t 16) (.t 17))]) (.cond (.t 18) (.seq (.reg [Xm 19 5, Xa 4 19]) .ret) .skip)))) (.reg [Xq 20 (.bin false .add (.t 10) (.i 1)), Xm 10 20]))))))) (.seq (.reg [Xb 4 (.asg (.i (-1)))]) .ret)))
theorem d151 (s : Scope) (v : ByteArray) (hl : s.objects.length < 9223372036854775807) : Does Go.Proofs.Tryz.prog 151 [.agg s.z, .v (.string v)] false (.v (.int .i64 (findI (obNm v) s.objects))) [.dead, .dead] := by
  refine does_intro (mc := m151) (N := 21) (rs := [4]) (fx := []) 2 rfl (by decide +kernel) ?_
  simp only [m151, Scope.z, EV, Nat.reduceEqDiff, Nat.reduceBEq, Nat.reduceLT, Nat.reduceLeDiff, Nat.reduceAdd, Nat.reduceSub, reduceIte]
  refine awp_loop (fun i : Nat => i ≤ s.objects.length ∧ ∀ j (hj : j < s.objects.length), j < i → obNm v s.objects[j] = false) (fun i => stl [(1, .v (.string v)), (2, .box 45 s.z), (7, .ref 2 [] 0 3), (8, .fsl 6 (s.objects.map Ob.z)), (9, .v (.int .i64 (s.objects.length : Int))), (10, .v (.int .i64 (i : Int)))]) (fun i => s.objects.length - i) 0 ⟨Nat.zero_le _, fun j hj h => absurd h (by omega)⟩ ?_ ?_
  · simp only [Scope.z, EV, Nat.reduceEqDiff, Nat.reduceBEq, Nat.reduceLT, Nat.reduceLeDiff, Nat.reduceAdd, Nat.reduceSub, reduceIte]
    rfl
  rintro i ⟨hi, hno⟩
  simp only [Scope.z, EV, Nat.reduceEqDiff, Nat.reduceBEq, Nat.reduceLT, Nat.reduceLeDiff, Nat.reduceAdd, Nat.reduceSub, reduceIte]
  refine cK_cut (fun h => ?_) (fun h => ?_)
  · have h1 : i < s.objects.length := by simpa using h
    have h2 : (i : Int) < (s.objects.length : Int) := by omega
    clear h
    simp only [ObE, nth_map h1, h2, Ob.z, Scope.z, EV, Nat.reduceEqDiff, Nat.reduceBEq, Nat.reduceLT, Nat.reduceLeDiff, Nat.reduceAdd, Nat.reduceSub, reduceIte]
    have ec : (s.objects[i].name.toList == v.toList) = obNm v s.objects[i] := rfl
    rw [ec]
    rcases e : obNm v s.objects[i] with _ | _
    · simp only [Scope.z, EV, Nat.reduceEqDiff, Nat.reduceBEq, Nat.reduceLT, Nat.reduceLeDiff, Nat.reduceAdd, Nat.reduceSub, reduceIte]
      rw [w64 _ (by omega)]
      refine ⟨i + 1, ⟨h1, ?_⟩, by omega, rfl⟩
      intro j hj hji
      by_cases e' : j = i
      · subst e'; exact e
      · exact hno j hj (by omega)
    · simp only [EV, Nat.reduceEqDiff, Nat.reduceBEq, Nat.reduceLT, Nat.reduceLeDiff, Nat.reduceAdd, Nat.reduceSub, reduceIte]
      simp only [findI_at h1 e hno, EV, Nat.reduceEqDiff, Nat.reduceBEq, Nat.reduceLT, Nat.reduceLeDiff, Nat.reduceAdd, Nat.reduceSub, reduceIte, evRE, retVC, cellV', evR, nfz, nfzs, nfzss, List.contains_nil, List.contains_cons, Bool.or_false, or_true]
  · have h1 : i = s.objects.length := by have : ¬ (i : Int) < s.objects.length := by simpa using h
                                         omega
    subst h1
    simp only [EV, Nat.reduceEqDiff, Nat.reduceBEq, Nat.reduceLT, Nat.reduceLeDiff, Nat.reduceAdd, Nat.reduceSub, reduceIte]
    simp only [findI_no (fun j hj => hno j hj hj), EV, Nat.reduceEqDiff, Nat.reduceBEq, Nat.reduceLT, Nat.reduceLeDiff, Nat.reduceAdd, Nat.reduceSub, reduceIte, evRE, retVC, cellV', evR, nfz, nfzs, nfzss, List.contains_nil, List.contains_cons, Bool.or_false, or_true]
def nmS (o : Ob) : Str := ⟨o.name⟩
def usAt (s : Scope) (i : Nat) (h : i < s.uses.length) : Prop := s.imports.any (eqSt s.uses[i].mod) = true ∧ nameOk s.uses[i].name = true ∧ (s.uses.take i).any (qUs s.uses[i]) = false
def usTo (s : Scope) (n : Nat) : Prop := ∀ i (h : i < s.uses.length), i < n → usAt s i h
def obTo (s : Scope) (n : Nat) : Prop := ∀ i (h : i < s.objects.length), i < n → obOk s.types s.objects[i] = true
structure ScP (s : Scope) : Prop where
  few1 : s.imports.length ≤ 4
  unl1 : unl (⟨s.name⟩ :: s.imports) = true
  tab : tabOk s.types = true
  few2 : s.objects.length ≤ 16
  few3 : s.uses.length ≤ 40
  obs : obTo s s.objects.length
  uses : usTo s s.uses.length
  unl2 : unl (s.imports ++ s.objects.map nmS) = true
open Classical in
noncomputable def scOk (s : Scope) : Bool := decide (ScP s)
theorem scOk_no {s : Scope} (h : ¬ ScP s) : scOk s = false := by simp [scOk, h]
theorem scOk_iff {s : Scope} : scOk s = true ↔ ScP s := by simp [scOk]
theorem obTo_succ {s : Scope} {i : Nat} (h : i < s.objects.length) (h1 : obTo s i) (h2 : obOk s.types s.objects[i] = true) : obTo s (i + 1) := by
  intro j hj hji
  by_cases e : j = i
  · subst e; exact h2
  · exact h1 j hj (by omega)
theorem usTo_succ {s : Scope} {i : Nat} (h : i < s.uses.length) (h1 : usTo s i) (h2 : usAt s i h) : usTo s (i + 1) := by
  intro j hj hji
  by_cases e : j = i
  · subst e; exact h2
  · exact h1 j hj (by omega)
end Go.AM
namespace Go.AM
set_option linter.unusedVariables false
set_option linter.unusedSimpArgs false
def imAt (s : Scope) (i : Nat) (h : i < s.imports.length) : Prop := nameOk s.imports[i].s = true ∧ (s.imports[i].s.toList == s.name.toList) = false ∧ (s.imports.take i).any (eqSt s.imports[i].s) = false
def imTo (s : Scope) (n : Nat) : Prop := ∀ i (h : i < s.imports.length), i < n → imAt s i h
def oxAt (s : Scope) (i : Nat) (h : i < s.objects.length) : Prop := (nameOk s.objects[i].name = true ∧ obOk s.types s.objects[i] = true) ∧ s.imports.any (eqSt s.objects[i].name) = false ∧ (s.objects.take i).any (fun o => eqSt s.objects[i].name (nmS o)) = false
def oxTo (s : Scope) (n : Nat) : Prop := ∀ i (h : i < s.objects.length), i < n → oxAt s i h
theorem imTo_succ {s : Scope} {i : Nat} (h : i < s.imports.length) (h1 : imTo s i) (h2 : imAt s i h) : imTo s (i + 1) := by
  intro j hj hji
  by_cases e : j = i
  · subst e; exact h2
  · exact h1 j hj (by omega)
theorem oxTo_succ {s : Scope} {i : Nat} (h : i < s.objects.length) (h1 : oxTo s i) (h2 : oxAt s i h) : oxTo s (i + 1) := by
  intro j hj hji
  by_cases e : j = i
  · subst e; exact h2
  · exact h1 j hj (by omega)
theorem unl_cons {a : ByteArray} {l : List Str} : unl (⟨a⟩ :: l) = true ↔ nameOk a = true ∧ ∀ i (h : i < l.length), nameOk l[i].s = true ∧ (l[i].s.toList == a.toList) = false ∧ (l.take i).any (eqSt l[i].s) = false := by
  rw [unl_iff]
  constructor
  · intro h
    refine ⟨(h 0 (by simp) (by simp)).1, fun i hi => ?_⟩
    have := h (i + 1) (by simp; omega) (by simp; omega)
    simp only [unlAt, List.getElem_cons_succ, List.take_succ_cons, List.any_cons, Bool.or_eq_false_iff, eqSt] at this
    exact ⟨this.1, this.2.1, this.2.2⟩
  · rintro ⟨h0, h⟩ i hi _
    cases i with
    | zero => exact ⟨h0, by simp⟩
    | succ i =>
      have := h i (by simp at hi; omega)
      simp only [unlAt, List.getElem_cons_succ, List.take_succ_cons, List.any_cons, Bool.or_eq_false_iff, eqSt]
      exact ⟨this.1, this.2.1, this.2.2⟩
theorem unl_app {l m : List Str} : unl (l ++ m) = true ↔ unl l = true ∧ ∀ i (h : i < m.length), nameOk m[i].s = true ∧ l.any (eqSt m[i].s) = false ∧ (m.take i).any (eqSt m[i].s) = false := by
  rw [unl_iff, unl_iff]
  constructor
  · intro h
    refine ⟨fun i hi _ => ?_, fun i hi => ?_⟩
    · have := h i (by simp; omega) (by simp; omega)
      simp only [unlAt] at this ⊢
      rw [List.getElem_append_left hi, List.take_append_of_le_length (by omega)] at this
      exact this
    · have := h (l.length + i) (by simp; omega) (by simp; omega)
      simp only [unlAt] at this
      rw [List.getElem_append_right (by omega)] at this
      simp only [Nat.add_sub_cancel_left, List.take_length_add_append, List.any_append, Bool.or_eq_false_iff] at this
      exact ⟨this.1, this.2.1, this.2.2⟩
  · rintro ⟨h0, h⟩ i hi _
    by_cases hl : i < l.length
    · have := h0 i hl hl
      simp only [unlAt] at this ⊢
      rw [List.getElem_append_left hl, List.take_append_of_le_length (by omega)]
      exact this
    · obtain ⟨j, rfl⟩ : ∃ j, i = l.length + j := ⟨i - l.length, by omega⟩
      have := h j (by simp at hi; omega)
      simp only [unlAt]
      rw [List.getElem_append_right (by omega)]
      simp only [Nat.add_sub_cancel_left, List.take_length_add_append, List.any_append, Bool.or_eq_false_iff]
      exact ⟨this.1, this.2.1, this.2.2⟩
theorem ScP_iff {s : Scope} : ScP s ↔ ((((nameOk s.name = true ∧ tabOk s.types = true) ∧ s.imports.length ≤ 4) ∧ s.objects.length ≤ 16) ∧ s.uses.length ≤ 40) ∧ imTo s s.imports.length ∧ oxTo s s.objects.length ∧ usTo s s.uses.length := by
  constructor
  · intro h
    have h1 := unl_cons.1 h.unl1
    have h2 := unl_app.1 h.unl2
    refine ⟨⟨⟨⟨⟨h1.1, h.tab⟩, h.few1⟩, h.few2⟩, h.few3⟩, fun i hi _ => h1.2 i hi, fun i hi hii => ?_, h.uses⟩
    have := h2.2 i (by simpa using hi)
    rw [List.getElem_map, ← List.map_take, List.any_map] at this
    exact ⟨⟨this.1, h.obs i hi hi⟩, this.2.1, this.2.2⟩
  · rintro ⟨⟨⟨⟨⟨h1, h2⟩, h3⟩, h4⟩, h5⟩, h6, h7, h8⟩
    have u1 : unl (⟨s.name⟩ :: s.imports) = true := unl_cons.2 ⟨h1, fun i hi => h6 i hi hi⟩
    refine ⟨h3, u1, h2, h4, h5, fun i hi hii => (h7 i hi hii).1.2, h8, ?_⟩
    refine unl_app.2 ⟨?_, fun i hi => ?_⟩
    · rw [unl_iff]
      intro i hi _
      have := h6 i hi hi
      exact ⟨this.1, this.2.2⟩
    · have hi' : i < s.objects.length := by simpa using hi
      have := h7 i hi' hi'
      rw [List.getElem_map, ← List.map_take, List.any_map]
      exact ⟨this.1.1, this.2.1, this.2.2⟩
theorem findI_lt {s : Scope} {i : Nat} (h : i < s.objects.length) : decide (findI (obNm s.objects[i].name) s.objects < (i : Int)) = (s.objects.take i).any (fun o => eqSt s.objects[i].name (nmS o)) := by
  have hc : ∀ o : Ob, eqSt s.objects[i].name (nmS o) = obNm s.objects[i].name o := fun o => Bool.beq_comm
  have hr : obNm s.objects[i].name s.objects[i] = true := by simp [obNm]
  simp only [hc]
  unfold findI
  cases hf : s.objects.findIdx? (obNm s.objects[i].name) with
  | none =>
    rw [List.findIdx?_eq_none_iff] at hf
    have := hf _ (List.getElem_mem h)
    rw [hr] at this; cases this
  | some k =>
    rw [List.findIdx?_eq_some_iff_getElem] at hf
    obtain ⟨hk, h1, h2⟩ := hf
    by_cases hki : k < i
    · have e1 : decide ((k : Int) < (i : Int)) = true := by simp; exact hki
      have e2 : (s.objects.take i).any (obNm s.objects[i].name) = true := List.any_eq_true.2 ⟨s.objects[k], List.mem_iff_getElem.2 ⟨k, by simp; omega, by simp⟩, h1⟩
      rw [e2]; exact e1
    · have e1 : decide ((k : Int) < (i : Int)) = false := by simp; omega
      have e2 : (s.objects.take i).any (obNm s.objects[i].name) = false := by
        rw [List.any_eq_false]
        intro x hx
        obtain ⟨j, hj, rfl⟩ := List.mem_iff_getElem.1 hx
        simp only [List.length_take] at hj
        simp only [List.getElem_take]
        exact h2 j (by omega)
      rw [e2]; exact e1
end Go.AM
namespace Go.AM
set_option linter.unusedVariables false
set_option linter.unusedSimpArgs false
def m83 : MC :=
 (.seq (.reg [Xb 1 (.box 45 (.t 0)), Xb 2 (.asg .fb)]) (.seq (.seq (.reg [Xf 11 1 1, Xl 12 1 11, Xn 13 12, Xq 14 (.mov (.i 0))]) (.block 0 (.loop [1, 11, 12, 13, 14] (.seq (.reg [Xq 15 (.bin false .lss (.t 14) (.t 13))]) (.seq (.cond (.t 15) .skip (.exit 0)) (.seq (.block 1 (.seq (.reg [Xm 16 14, Xi 17 1 12 14, Xl 18 1 17, Xa 3 16, Xa 4 18]) (.seq (.reg [Xm 19 4, Xb 20 (.call (.fn 148) false [.lend
 (.t 19)]), Xq 21 (.un .not (.t 20)), Xm 22 21, Xu 23 22 (.mov (.t 4)), Xu 24 22 (.fad 0 (.t 1)), Xu 25 22 (.load false 1 (.t 24)), Xu 26 22 (.bin false .eql (.t 23) (.t 25)), Xq 27 (.pick (.t 22) .tb (.t 26)), Xm 28 27, Xu 29 28 (.fad 1 (.t 1)), Xu 30 28 (.load false 1 (.t 29)), Xu 31 28 (.mov (.t 3)), Xu 32 28 (.slc false 1 (.t 30) none (some (.t 31))), Xu 33 28 (.mov (.t 4)), XU 34 28 (.call
 (.fn 149) false [.lend (.t 32), .lend (.t 33)]), Xq 35 (.pick (.t 28) .tb (.t 34))]) (.cond (.t 35) (.seq (.reg [Xb 2 (.asg .fb)]) .ret) .skip)))) (.reg [Xq 36 (.bin false .add (.t 14) (.i 1)), Xm 14 36]))))))) (.seq (.seq (.reg [Xf 37 3 1, Xl 38 1 37, Xn 39 38, Xq 40 (.mov (.i 0))]) (.block 2 (.loop [1, 37, 38, 39, 40] (.seq (.reg [Xq 41 (.bin false .lss (.t 40) (.t 39))]) (.seq (.cond (.t 41)
 .skip (.exit 2)) (.seq (.block 3 (.seq (.reg [Xm 42 40, Xi 43 6 38 40, XL 44 6 43, Xb 6 (.alloc 52 [.z, .i, .i, .i, .i, .s 54 3]), Xa 5 42, Xz (.store 6 (.t 6) (.t 44))]) (.seq (.reg [Xf 45 2 1, Xl 46 1 45, XL 47 6 6, Xb 48 (.call (.fn 150) false [.lend (.t 46), .lend (.t 47)]), Xq 49 (.un .not (.t 48)), Xm 50 49, Xu 51 50 (.fad 1 (.t 1)), Xu 52 50 (.load false 1 (.t 51)), Xu 53 50 (.fad 0 (.t
 6)), Xu 54 50 (.load false 1 (.t 53)), XU 55 50 (.call (.fn 149) false [.lend (.t 52), .lend (.t 54)]), Xq 56 (.pick (.t 50) .tb (.t 55)), Xm 57 56, Xu 58 57 (.load true 5 (.t 1)), Xu 59 57 (.fad 0 (.t 6)), Xu 60 57 (.load false 1 (.t 59)), XU 61 57 (.call (.fn 151) false [.lend (.t 58), .lend (.t 60)]), Xu 62 57 (.mov (.t 5)), Xu 63 57 (.bin false .lss (.t 61) (.t 62)), Xq 64 (.pick (.t 57) .tb
 (.t 63))]) (.cond (.t 64) (.seq (.reg [Xb 2 (.asg .fb)]) .ret) .skip)))) (.reg [Xq 65 (.bin false .add (.t 40) (.i 1)), Xm 40 65]))))))) (.seq (.seq (.reg [Xf 66 4 1, Xl 67 1 66, Xn 68 67, Xq 69 (.mov (.i 0))]) (.block 4 (.loop [1, 66, 67, 68, 69] (.seq (.reg [Xq 70 (.bin false .lss (.t 69) (.t 68))]) (.seq (.cond (.t 70) .skip (.exit 4)) (.seq (.block 5 (.seq (.reg [Xm 71 69, Xi 72 2 67 69, XL 73
 2 72, Xb 8 (.alloc 155 [.z, .z]), Xa 7 71, Xz (.store 2 (.t 8) (.t 73))]) (.seq (.seq (.reg [Xf 74 1 1, Xl 75 1 74, Xf 76 0 8, Xl 77 1 76, Xb 78 (.call (.fn 149) false [.lend (.t 75), .lend (.t 77)]), Xq 79 (.un .not (.t 78)), Xm 80 79, Xu 81 80 (.fad 1 (.t 8)), Xu 82 80 (.load false 1 (.t 81)), XU 83 80 (.call (.fn 148) false [.lend (.t 82)]), Xu 84 80 (.un .not (.t 83)), Xq 85 (.pick (.t 80) .tb
 (.t 84))]) (.cond (.t 85) (.seq (.reg [Xb 2 (.asg .fb)]) .ret) .skip)) (.seq (.reg [Xf 86 4 1, Xl 87 1 86, Xm 88 7, Xq 89 (.slc false 2 (.t 87) none (some (.t 88))), Xn 90 89, Xq 91 (.mov (.i 0))]) (.block 6 (.loop [1, 8, 66, 67, 68, 69, 86, 87, 88, 89, 90, 91] (.seq (.reg [Xq 92 (.bin false .lss (.t 91) (.t 90))]) (.seq (.cond (.t 92) .skip (.exit 6)) (.seq (.block 7 (.seq (.reg [Xi 93 2 89 91,
 XL 94 2 93, Xb 10 (.alloc 155 [.z, .z]), Xz (.store 2 (.t 10) (.t 94))]) (.seq (.reg [XL 95 2 8, XL 96 2 10, Xq 97 (.eqa false [1, 1] (.t 95) (.t 96))]) (.cond (.t 97) (.seq (.reg [Xb 2 (.asg .fb)]) .ret) .skip)))) (.reg [Xq 98 (.bin false .add (.t 91) (.i 1)), Xm 91 98])))))))))) (.reg [Xq 99 (.bin false .add (.t 69) (.i 1)), Xm 69 99]))))))) (.seq (.reg [Xf 100 0 1, Xl 101 1 100, Xb 102 (.call
 (.fn 148) false [.lend (.t 101)]), Xm 103 102, Xt 104 103 (.fad 2 (.t 1)), Xt 105 103 (.load false 1 (.t 104)), XT 106 103 (.call (.fn 58) false [.lend (.t 105)]), Xq 107 (.pick (.t 103) (.t 106) .fb), Xm 108 107, Xt 109 108 (.fad 1 (.t 1)), Xt 110 108 (.load false 1 (.t 109)), Xt 111 108 (.len false (.t 110)), Xt 112 108 (.bin false .leq (.t 111) (.i 4)), Xq 113 (.pick (.t 108) (.t 112) .fb), Xm
 114 113, Xt 115 114 (.fad 3 (.t 1)), Xt 116 114 (.load false 1 (.t 115)), Xt 117 114 (.len false (.t 116)), Xt 118 114 (.bin false .leq (.t 117) (.i 16)), Xq 119 (.pick (.t 114) (.t 118) .fb), Xm 120 119, Xt 121 120 (.fad 4 (.t 1)), Xt 122 120 (.load false 1 (.t 121)), Xt 123 120 (.len false (.t 122)), Xt 124 120 (.bin false .leq (.t 123) (.i 40)), Xq 125 (.pick (.t 120) (.t 124) .fb), Xa 2 125])
 .ret)))))
set_option maxHeartbeats 4000000 in
set_option maxRecDepth 100000 in
theorem d83 (s : Scope) (hs : s.sm) : Does Go.Proofs.Tryz.prog 83 [.agg s.z] false (.v (.bool (scOk s))) [.dead] := by
  have hs' := hs
  unfold Scope.sm at hs'
  obtain ⟨z1, z2, z3, z4, z5⟩ := hs'
  refine does_intro (mc := m83) (N := 126) (rs := [2]) (fx := []) 1 rfl (by decide +kernel) ?_
  simp only [m83, Scope.z, EV, Nat.reduceEqDiff, Nat.reduceBEq, Nat.reduceLT, Nat.reduceLeDiff, Nat.reduceAdd, Nat.reduceSub, reduceIte]
  refine awp_loop (fun i : Nat => i ≤ s.imports.length ∧ imTo s i) (fun i => stl [(1, .box 45 s.z), (11, .ref 1 [] 0 1), (12, .fsl 1 (s.imports.map Str.z)), (13, .v (.int .i64 (s.imports.length : Int))), (14, .v (.int .i64 (i : Int)))]) (fun i => s.imports.length - i) 0 ⟨Nat.zero_le _, fun j hj h => absurd h (by omega)⟩ ?_ ?_
  · simp only [Scope.z, EV, Nat.reduceEqDiff, Nat.reduceBEq, Nat.reduceLT, Nat.reduceLeDiff, Nat.reduceAdd, Nat.reduceSub, reduceIte]
    rfl
  rintro i ⟨hi, hok⟩
  simp only [Scope.z, EV, Nat.reduceEqDiff, Nat.reduceBEq, Nat.reduceLT, Nat.reduceLeDiff, Nat.reduceAdd, Nat.reduceSub, reduceIte]
  refine cK_cut (fun h => ?_) (fun h => ?_)
  · have h1 : i < s.imports.length := by simpa using h
    have h2 : (i : Int) < (s.imports.length : Int) := by omega
    have hno : ¬ imAt s i h1 → scOk s = false := fun e => scOk_no fun P => e ((ScP_iff.1 P).2.1 i h1 h1)
    have hsz := z2.2 _ (List.getElem_mem h1)
    unfold Str.sm at hsz
    clear h
    simp only [nth_map h1, h2, Str.z, Scope.z, EV, Nat.reduceEqDiff, Nat.reduceBEq, Nat.reduceLT, Nat.reduceLeDiff, Nat.reduceAdd, Nat.reduceSub, reduceIte]
    refine callK_i (d148 s.imports[i].s (by omega)) ?_
    simp only [EV, Nat.reduceEqDiff, Nat.reduceBEq, Nat.reduceLT, Nat.reduceLeDiff, Nat.reduceAdd, Nat.reduceSub, reduceIte]
    rcases e1 : nameOk s.imports[i].s with _ | _
    · have e : scOk s = false := hno (by rintro ⟨g, _⟩; rw [e1] at g; cases g)
      simp only [Bool.not_false, EV, Nat.reduceEqDiff, Nat.reduceBEq, Nat.reduceLT, Nat.reduceLeDiff, Nat.reduceAdd, Nat.reduceSub, reduceIte]
      simp only [e, EV, Nat.reduceEqDiff, Nat.reduceBEq, Nat.reduceLT, Nat.reduceLeDiff, Nat.reduceAdd, Nat.reduceSub, reduceIte, evRE, retVC, cellV', evR, nfz, nfzs, nfzss, List.contains_nil, List.contains_cons, Bool.or_false, or_true]
    simp only [Bool.not_true, Scope.z, EV, Nat.reduceEqDiff, Nat.reduceBEq, Nat.reduceLT, Nat.reduceLeDiff, Nat.reduceAdd, Nat.reduceSub, reduceIte]
    rcases e2 : (s.imports[i].s.toList == s.name.toList) with _ | _
    rotate_left
    · have e : scOk s = false := hno (by rintro ⟨_, g, _⟩; rw [e2] at g; cases g)
      simp only [EV, Nat.reduceEqDiff, Nat.reduceBEq, Nat.reduceLT, Nat.reduceLeDiff, Nat.reduceAdd, Nat.reduceSub, reduceIte]
      simp only [e, EV, Nat.reduceEqDiff, Nat.reduceBEq, Nat.reduceLT, Nat.reduceLeDiff, Nat.reduceAdd, Nat.reduceSub, reduceIte, evRE, retVC, cellV', evR, nfz, nfzs, nfzss, List.contains_nil, List.contains_cons, Bool.or_false, or_true]
    simp only [Scope.z, EV, Nat.reduceEqDiff, Nat.reduceBEq, Nat.reduceLT, Nat.reduceLeDiff, Nat.reduceAdd, Nat.reduceSub, reduceIte]
    refine ⟨by omega, by omega, ?_⟩
    rw [← List.map_take]
    refine callK_i (d149 (s.imports.take i) s.imports[i].s (by simp; omega)) ?_
    simp only [EV, Nat.reduceEqDiff, Nat.reduceBEq, Nat.reduceLT, Nat.reduceLeDiff, Nat.reduceAdd, Nat.reduceSub, reduceIte]
    rcases e3 : (s.imports.take i).any (eqSt s.imports[i].s) with _ | _
    · simp only [Scope.z, EV, Nat.reduceEqDiff, Nat.reduceBEq, Nat.reduceLT, Nat.reduceLeDiff, Nat.reduceAdd, Nat.reduceSub, reduceIte]
      rw [w64 _ (by omega)]
      exact ⟨i + 1, ⟨h1, imTo_succ h1 hok ⟨e1, e2, e3⟩⟩, by omega, rfl⟩
    · have e : scOk s = false := hno (by rintro ⟨_, _, g⟩; rw [e3] at g; cases g)
      simp only [EV, Nat.reduceEqDiff, Nat.reduceBEq, Nat.reduceLT, Nat.reduceLeDiff, Nat.reduceAdd, Nat.reduceSub, reduceIte]
      simp only [e, EV, Nat.reduceEqDiff, Nat.reduceBEq, Nat.reduceLT, Nat.reduceLeDiff, Nat.reduceAdd, Nat.reduceSub, reduceIte, evRE, retVC, cellV', evR, nfz, nfzs, nfzss, List.contains_nil, List.contains_cons, Bool.or_false, or_true]
  have q1 : i = s.imports.length := by have : ¬ (i : Int) < s.imports.length := by simpa using h
                                       omega
  subst q1
  clear h hi
  have hI := hok
  clear hok
  simp only [Scope.z, EV, Nat.reduceEqDiff, Nat.reduceBEq, Nat.reduceLT, Nat.reduceLeDiff, Nat.reduceAdd, Nat.reduceSub, reduceIte]
  refine awp_loop (fun i : Nat => i ≤ s.objects.length ∧ oxTo s i) (fun i => stl [(1, .box 45 s.z), (37, .ref 1 [] 0 3), (38, .fsl 6 (s.objects.map Ob.z)), (39, .v (.int .i64 (s.objects.length : Int))), (40, .v (.int .i64 (i : Int)))]) (fun i => s.objects.length - i) 0 ⟨Nat.zero_le _, fun j hj h => absurd h (by omega)⟩ ?_ ?_
  · simp only [Scope.z, EV, Nat.reduceEqDiff, Nat.reduceBEq, Nat.reduceLT, Nat.reduceLeDiff, Nat.reduceAdd, Nat.reduceSub, reduceIte]
    rfl
  rintro i ⟨hi, hok⟩
  simp only [Scope.z, EV, Nat.reduceEqDiff, Nat.reduceBEq, Nat.reduceLT, Nat.reduceLeDiff, Nat.reduceAdd, Nat.reduceSub, reduceIte]
  refine cK_cut (fun h => ?_) (fun h => ?_)
  · have h1 : i < s.objects.length := by simpa using h
    have h2 : (i : Int) < (s.objects.length : Int) := by omega
    have hno : ¬ oxAt s i h1 → scOk s = false := fun e => scOk_no fun P => e ((ScP_iff.1 P).2.2.1 i h1 h1)
    have hsm := z4.2 _ (List.getElem_mem h1)
    have d150' := d150 s.types s.objects[i] z3.1 hsm
    have d151' := d151 s s.objects[i].name (by omega)
    have hf := findI_lt h1
    generalize findI (obNm s.objects[i].name) s.objects = K at d151' hf
    simp only [Ob.z] at d150'
    simp only [Scope.z] at d151'
    clear h
    simp only [ObE, nth_map h1, h2, Ob.z, Scope.z, EV, Nat.reduceEqDiff, Nat.reduceBEq, Nat.reduceLT, Nat.reduceLeDiff, Nat.reduceAdd, Nat.reduceSub, reduceIte]
    refine callK_i d150' ?_
    simp only [EV, Nat.reduceEqDiff, Nat.reduceBEq, Nat.reduceLT, Nat.reduceLeDiff, Nat.reduceAdd, Nat.reduceSub, reduceIte]
    rcases e1 : (nameOk s.objects[i].name && obOk s.types s.objects[i]) with _ | _
    · have e : scOk s = false := hno (by rintro ⟨⟨g1, g2⟩, _⟩; rw [g1, g2] at e1; cases e1)
      simp only [Bool.not_false, EV, Nat.reduceEqDiff, Nat.reduceBEq, Nat.reduceLT, Nat.reduceLeDiff, Nat.reduceAdd, Nat.reduceSub, reduceIte]
      simp only [e, EV, Nat.reduceEqDiff, Nat.reduceBEq, Nat.reduceLT, Nat.reduceLeDiff, Nat.reduceAdd, Nat.reduceSub, reduceIte, evRE, retVC, cellV', evR, nfz, nfzs, nfzss, List.contains_nil, List.contains_cons, Bool.or_false, or_true]
    simp only [Bool.not_true, Ob.z, Scope.z, EV, Nat.reduceEqDiff, Nat.reduceBEq, Nat.reduceLT, Nat.reduceLeDiff, Nat.reduceAdd, Nat.reduceSub, reduceIte]
    refine callK_i (d149 s.imports s.objects[i].name (by omega)) ?_
    simp only [EV, Nat.reduceEqDiff, Nat.reduceBEq, Nat.reduceLT, Nat.reduceLeDiff, Nat.reduceAdd, Nat.reduceSub, reduceIte]
    rcases e2 : s.imports.any (eqSt s.objects[i].name) with _ | _
    rotate_left
    · have e : scOk s = false := hno (by rintro ⟨_, g, _⟩; rw [e2] at g; cases g)
      simp only [EV, Nat.reduceEqDiff, Nat.reduceBEq, Nat.reduceLT, Nat.reduceLeDiff, Nat.reduceAdd, Nat.reduceSub, reduceIte]
      simp only [e, EV, Nat.reduceEqDiff, Nat.reduceBEq, Nat.reduceLT, Nat.reduceLeDiff, Nat.reduceAdd, Nat.reduceSub, reduceIte, evRE, retVC, cellV', evR, nfz, nfzs, nfzss, List.contains_nil, List.contains_cons, Bool.or_false, or_true]
    simp only [Ob.z, Scope.z, EV, Nat.reduceEqDiff, Nat.reduceBEq, Nat.reduceLT, Nat.reduceLeDiff, Nat.reduceAdd, Nat.reduceSub, reduceIte]
    refine callK_i d151' ?_
    simp only [EV, Nat.reduceEqDiff, Nat.reduceBEq, Nat.reduceLT, Nat.reduceLeDiff, Nat.reduceAdd, Nat.reduceSub, reduceIte]
    rw [hf]
    rcases e3 : (s.objects.take i).any (fun o => eqSt s.objects[i].name (nmS o)) with _ | _
    · simp only [Scope.z, EV, Nat.reduceEqDiff, Nat.reduceBEq, Nat.reduceLT, Nat.reduceLeDiff, Nat.reduceAdd, Nat.reduceSub, reduceIte]
      rw [w64 _ (by omega)]
      simp only [Bool.and_eq_true] at e1
      exact ⟨i + 1, ⟨h1, oxTo_succ h1 hok ⟨e1, e2, e3⟩⟩, by omega, rfl⟩
    · have e : scOk s = false := hno (by rintro ⟨_, _, g⟩; rw [e3] at g; cases g)
      simp only [EV, Nat.reduceEqDiff, Nat.reduceBEq, Nat.reduceLT, Nat.reduceLeDiff, Nat.reduceAdd, Nat.reduceSub, reduceIte]
      simp only [e, EV, Nat.reduceEqDiff, Nat.reduceBEq, Nat.reduceLT, Nat.reduceLeDiff, Nat.reduceAdd, Nat.reduceSub, reduceIte, evRE, retVC, cellV', evR, nfz, nfzs, nfzss, List.contains_nil, List.contains_cons, Bool.or_false, or_true]
  have q1 : i = s.objects.length := by have : ¬ (i : Int) < s.objects.length := by simpa using h
                                       omega
  subst q1
  clear h hi
  have hO := hok
  clear hok
  simp only [Scope.z, EV, Nat.reduceEqDiff, Nat.reduceBEq, Nat.reduceLT, Nat.reduceLeDiff, Nat.reduceAdd, Nat.reduceSub, reduceIte]
  refine awp_loop (fun i : Nat => i ≤ s.uses.length ∧ usTo s i) (fun i => stl [(1, .box 45 s.z), (66, .ref 1 [] 0 4), (67, .fsl 2 (s.uses.map Us.z)), (68, .v (.int .i64 (s.uses.length : Int))), (69, .v (.int .i64 (i : Int)))]) (fun i => s.uses.length - i) 0 ⟨Nat.zero_le _, fun j hj h => absurd h (by omega)⟩ ?_ ?_
  · simp only [Scope.z, EV, Nat.reduceEqDiff, Nat.reduceBEq, Nat.reduceLT, Nat.reduceLeDiff, Nat.reduceAdd, Nat.reduceSub, reduceIte]
    rfl
  rintro i ⟨hi, hok⟩
  simp only [Scope.z, EV, Nat.reduceEqDiff, Nat.reduceBEq, Nat.reduceLT, Nat.reduceLeDiff, Nat.reduceAdd, Nat.reduceSub, reduceIte]
  refine cK_cut (fun h => ?_) (fun h => ?_)
  · have h1 : i < s.uses.length := by simpa using h
    have h2 : (i : Int) < (s.uses.length : Int) := by omega
    have hno : ¬ usAt s i h1 → scOk s = false := fun e => scOk_no fun P => e ((ScP_iff.1 P).2.2.2 i h1 h1)
    have hsm := z5.2 _ (List.getElem_mem h1)
    unfold Us.sm at hsm
    clear h
    simp only [UsE, nth_map h1, h2, Us.z, Scope.z, EV, Nat.reduceEqDiff, Nat.reduceBEq, Nat.reduceLT, Nat.reduceLeDiff, Nat.reduceAdd, Nat.reduceSub, reduceIte]
    refine callK_i (d149 s.imports s.uses[i].mod (by omega)) ?_
    simp only [EV, Nat.reduceEqDiff, Nat.reduceBEq, Nat.reduceLT, Nat.reduceLeDiff, Nat.reduceAdd, Nat.reduceSub, reduceIte]
    rcases e1 : s.imports.any (eqSt s.uses[i].mod) with _ | _
    · have e : scOk s = false := hno (by rintro ⟨g, _⟩; rw [e1] at g; cases g)
      simp only [Bool.not_false, EV, Nat.reduceEqDiff, Nat.reduceBEq, Nat.reduceLT, Nat.reduceLeDiff, Nat.reduceAdd, Nat.reduceSub, reduceIte]
      simp only [e, EV, Nat.reduceEqDiff, Nat.reduceBEq, Nat.reduceLT, Nat.reduceLeDiff, Nat.reduceAdd, Nat.reduceSub, reduceIte, evRE, retVC, cellV', evR, nfz, nfzs, nfzss, List.contains_nil, List.contains_cons, Bool.or_false, or_true]
    simp only [Bool.not_true, Us.z, Scope.z, EV, Nat.reduceEqDiff, Nat.reduceBEq, Nat.reduceLT, Nat.reduceLeDiff, Nat.reduceAdd, Nat.reduceSub, reduceIte]
    refine callK_i (d148 s.uses[i].name (by omega)) ?_
    simp only [EV, Nat.reduceEqDiff, Nat.reduceBEq, Nat.reduceLT, Nat.reduceLeDiff, Nat.reduceAdd, Nat.reduceSub, reduceIte]
    rcases e2 : nameOk s.uses[i].name with _ | _
    · have e : scOk s = false := hno (by rintro ⟨_, g, _⟩; rw [e2] at g; cases g)
      simp only [Bool.not_false, EV, Nat.reduceEqDiff, Nat.reduceBEq, Nat.reduceLT, Nat.reduceLeDiff, Nat.reduceAdd, Nat.reduceSub, reduceIte]
      simp only [e, EV, Nat.reduceEqDiff, Nat.reduceBEq, Nat.reduceLT, Nat.reduceLeDiff, Nat.reduceAdd, Nat.reduceSub, reduceIte, evRE, retVC, cellV', evR, nfz, nfzs, nfzss, List.contains_nil, List.contains_cons, Bool.or_false, or_true]
    simp only [Bool.not_true, Us.z, Scope.z, EV, Nat.reduceEqDiff, Nat.reduceBEq, Nat.reduceLT, Nat.reduceLeDiff, Nat.reduceAdd, Nat.reduceSub, reduceIte]
    refine ⟨by omega, by omega, ?_⟩
    rw [← List.map_take]
    have hlt : (s.uses.take i).length = i := by simp; omega
    simp only [hlt, EV, Nat.reduceEqDiff, Nat.reduceBEq, Nat.reduceLT, Nat.reduceLeDiff, Nat.reduceAdd, Nat.reduceSub, reduceIte]
    refine awp_loop (fun j : Nat => j ≤ i ∧ ((s.uses.take i).take j).any (qUs s.uses[i]) = false) (fun j => stl [(1, .box 45 s.z), (8, .box 155 s.uses[i].z), (66, .ref 1 [] 0 4), (67, .fsl 2 (s.uses.map Us.z)), (68, .v (.int .i64 (s.uses.length : Int))), (69, .v (.int .i64 (i : Int))), (86, .ref 1 [] 0 4), (87, .fsl 2 (s.uses.map Us.z)), (88, .v (.int .i64 (i : Int))), (89, .fsl 2 ((s.uses.take i).map Us.z)), (90, .v (.int .i64 (i : Int))), (91, .v (.int .i64 (j : Int)))]) (fun j => i - j) 0 ⟨Nat.zero_le _, by simp⟩ ?_ ?_
    · simp only [Us.z, Scope.z, EV, Nat.reduceEqDiff, Nat.reduceBEq, Nat.reduceLT, Nat.reduceLeDiff, Nat.reduceAdd, Nat.reduceSub, reduceIte]
      rfl
    rintro j ⟨hj, hnj⟩
    simp only [Us.z, Scope.z, EV, Nat.reduceEqDiff, Nat.reduceBEq, Nat.reduceLT, Nat.reduceLeDiff, Nat.reduceAdd, Nat.reduceSub, reduceIte]
    refine cK_cut (fun h => ?_) (fun h => ?_)
    · have j1 : j < i := by simpa using h
      have j2 : (j : Int) < (i : Int) := by omega
      have j3 : j < (s.uses.take i).length := by omega
      have j4 : (j : Int) < ((s.uses.take i).length : Int) := by omega
      clear h
      simp only [UsE, j1, j2, j3, j4, nth_map j3, hlt, Us.z, Bool.false_xor, EV, Nat.reduceEqDiff, Nat.reduceBEq, Nat.reduceLT, Nat.reduceLeDiff, Nat.reduceAdd, Nat.reduceSub, reduceIte]
      have eq0 : (s.uses[i].mod.toList == (s.uses.take i)[j].mod.toList && s.uses[i].name.toList == (s.uses.take i)[j].name.toList) = qUs s.uses[i] (s.uses.take i)[j] := rfl
      rw [eq0]
      rcases e3 : qUs s.uses[i] (s.uses.take i)[j] with _ | _
      · simp only [Us.z, Scope.z, EV, Nat.reduceEqDiff, Nat.reduceBEq, Nat.reduceLT, Nat.reduceLeDiff, Nat.reduceAdd, Nat.reduceSub, reduceIte]
        rw [w64 _ (by omega)]
        exact ⟨j + 1, ⟨j1, by rw [List.take_succ_eq_append_getElem j3, List.any_append, hnj]; simpa using e3⟩, by omega, rfl⟩
      · have e4 : (s.uses.take i).any (qUs s.uses[i]) = true := List.any_eq_true.2 ⟨_, List.getElem_mem j3, e3⟩
        have e : scOk s = false := hno (by rintro ⟨_, _, g⟩; rw [e4] at g; cases g)
        simp only [EV, Nat.reduceEqDiff, Nat.reduceBEq, Nat.reduceLT, Nat.reduceLeDiff, Nat.reduceAdd, Nat.reduceSub, reduceIte]
        simp only [e, EV, Nat.reduceEqDiff, Nat.reduceBEq, Nat.reduceLT, Nat.reduceLeDiff, Nat.reduceAdd, Nat.reduceSub, reduceIte, evRE, retVC, cellV', evR, nfz, nfzs, nfzss, List.contains_nil, List.contains_cons, Bool.or_false, or_true]
    · have j1 : j = i := by have : ¬ (j : Int) < (i : Int) := by simpa using h
                            omega
      subst j1
      have e4 : (s.uses.take j).any (qUs s.uses[j]) = false := by rw [List.take_of_length_le (by omega)] at hnj; exact hnj
      simp only [Us.z, Scope.z, EV, Nat.reduceEqDiff, Nat.reduceBEq, Nat.reduceLT, Nat.reduceLeDiff, Nat.reduceAdd, Nat.reduceSub, reduceIte]
      rw [w64 _ (by omega)]
      exact ⟨j + 1, ⟨h1, usTo_succ h1 hok ⟨e1, e2, e4⟩⟩, by omega, rfl⟩
  have q1 : i = s.uses.length := by have : ¬ (i : Int) < s.uses.length := by simpa using h
                                    omega
  subst q1
  clear h hi
  have hU := hok
  clear hok
  have hfin : scOk s = ((((nameOk s.name && tabOk s.types) && decide ((s.imports.length : Int) ≤ 4)) && decide ((s.objects.length : Int) ≤ 16)) && decide ((s.uses.length : Int) ≤ 40)) := by
    rw [Bool.eq_iff_iff, scOk_iff, ScP_iff]
    simp only [Bool.and_eq_true, decide_eq_true_eq, hI, hO, hU, and_true]
    constructor <;> (rintro ⟨⟨⟨⟨a1, a2⟩, a3⟩, a4⟩, a5⟩; exact ⟨⟨⟨⟨a1, a2⟩, by omega⟩, by omega⟩, by omega⟩)
  simp only [Scope.z, EV, Nat.reduceEqDiff, Nat.reduceBEq, Nat.reduceLT, Nat.reduceLeDiff, Nat.reduceAdd, Nat.reduceSub, reduceIte]
  refine callK_i (d148 s.name (by omega)) ?_
  simp only [EV, Nat.reduceEqDiff, Nat.reduceBEq, Nat.reduceLT, Nat.reduceLeDiff, Nat.reduceAdd, Nat.reduceSub, reduceIte]
  rcases e1 : nameOk s.name with _ | _
  · simp only [Scope.z, EV, Nat.reduceEqDiff, Nat.reduceBEq, Nat.reduceLT, Nat.reduceLeDiff, Nat.reduceAdd, Nat.reduceSub, reduceIte]
    simp only [hfin, e1, Bool.false_and, EV, Nat.reduceEqDiff, Nat.reduceBEq, Nat.reduceLT, Nat.reduceLeDiff, Nat.reduceAdd, Nat.reduceSub, reduceIte, evRE, retVC, cellV', evR, nfz, nfzs, nfzss, List.contains_nil, List.contains_cons, Bool.or_false, or_true]
  simp only [Scope.z, EV, Nat.reduceEqDiff, Nat.reduceBEq, Nat.reduceLT, Nat.reduceLeDiff, Nat.reduceAdd, Nat.reduceSub, reduceIte]
  refine callK_i (d58 s.types z3.1 z3.2) ?_
  simp only [EV, Nat.reduceEqDiff, Nat.reduceBEq, Nat.reduceLT, Nat.reduceLeDiff, Nat.reduceAdd, Nat.reduceSub, reduceIte]
  rcases e2 : tabOk s.types with _ | _
  · simp only [Scope.z, EV, Nat.reduceEqDiff, Nat.reduceBEq, Nat.reduceLT, Nat.reduceLeDiff, Nat.reduceAdd, Nat.reduceSub, reduceIte]
    simp only [hfin, e1, e2, Bool.false_and, Bool.and_false, EV, Nat.reduceEqDiff, Nat.reduceBEq, Nat.reduceLT, Nat.reduceLeDiff, Nat.reduceAdd, Nat.reduceSub, reduceIte, evRE, retVC, cellV', evR, nfz, nfzs, nfzss, List.contains_nil, List.contains_cons, Bool.or_false, or_true]
  simp only [Scope.z, EV, Nat.reduceEqDiff, Nat.reduceBEq, Nat.reduceLT, Nat.reduceLeDiff, Nat.reduceAdd, Nat.reduceSub, reduceIte]
  rcases e3 : decide ((s.imports.length : Int) ≤ 4) with _ | _
  · simp only [Scope.z, EV, Nat.reduceEqDiff, Nat.reduceBEq, Nat.reduceLT, Nat.reduceLeDiff, Nat.reduceAdd, Nat.reduceSub, reduceIte]
    simp only [hfin, e1, e2, e3, Bool.false_and, Bool.and_false, EV, Nat.reduceEqDiff, Nat.reduceBEq, Nat.reduceLT, Nat.reduceLeDiff, Nat.reduceAdd, Nat.reduceSub, reduceIte, evRE, retVC, cellV', evR, nfz, nfzs, nfzss, List.contains_nil, List.contains_cons, Bool.or_false, or_true]
  simp only [Scope.z, EV, Nat.reduceEqDiff, Nat.reduceBEq, Nat.reduceLT, Nat.reduceLeDiff, Nat.reduceAdd, Nat.reduceSub, reduceIte]
  rcases e4 : decide ((s.objects.length : Int) ≤ 16) with _ | _
  · simp only [Scope.z, EV, Nat.reduceEqDiff, Nat.reduceBEq, Nat.reduceLT, Nat.reduceLeDiff, Nat.reduceAdd, Nat.reduceSub, reduceIte]
    simp only [hfin, e1, e2, e3, e4, Bool.false_and, Bool.and_false, EV, Nat.reduceEqDiff, Nat.reduceBEq, Nat.reduceLT, Nat.reduceLeDiff, Nat.reduceAdd, Nat.reduceSub, reduceIte, evRE, retVC, cellV', evR, nfz, nfzs, nfzss, List.contains_nil, List.contains_cons, Bool.or_false, or_true]
  simp only [Scope.z, EV, Nat.reduceEqDiff, Nat.reduceBEq, Nat.reduceLT, Nat.reduceLeDiff, Nat.reduceAdd, Nat.reduceSub, reduceIte]
  simp only [hfin, e1, e2, e3, e4, Bool.true_and, Bool.and_self, EV, Nat.reduceEqDiff, Nat.reduceBEq, Nat.reduceLT, Nat.reduceLeDiff, Nat.reduceAdd, Nat.reduceSub, reduceIte, evRE, retVC, cellV', evR, nfz, nfzs, nfzss, List.contains_nil, List.contains_cons, Bool.or_false, or_true]
end Go.AM
namespace Go.AM
set_option linter.unusedVariables false
set_option linter.unusedSimpArgs false
theorem strz_frz (l : List Str) : frzRows (l.map Str.z) = l.map Str.z := Str.frz l
def m77 : MC :=
 (.seq (.reg [Xb 2 (.asg .fb)]) (.join [0] (.seq (.mixt [0] [0, 59] [] [0] [0, 1, 2, 3] [Xm 8 0, Xq 9 (.nilchk (.t 8)), Xf 10 0 9, Xl 11 1 10] (.step 4 (Xb 12 (.call (.fn 141) false [.lend (.t 11)])) (.step 5 (Xq 13 (.un .not (.t 12))) (.step 6 (Xm 14 13) (.step 7 (Xu 15 14 (.mov (.t 0))) (.step 8 (Xu 16 14 (.nilchk (.t 15))) (.step 9 (Xu 17 14 (.fad 1 (.t 16))) (.step 10 (Xu 18 14 (.load false 1
 (.t 17))) (.step 11 (Xu 19 14 (.len false (.t 18))) (.step 12 (Xu 20 14 (.bin false .gtr (.t 19) (.i 4))) (.step 13 (Xq 21 (.pick (.t 14) .tb (.t 20))) (.step 14 (Xm 22 21) (.step 15 (Xu 23 22 (.mov (.t 0))) (.step 16 (Xu 24 22 (.nilchk (.t 23))) (.step 17 (Xu 25 22 (.fad 0 (.t 24))) (.step 20 (Xu 28 22 (.mov (.t 0))) (.step 21 (Xu 29 22 (.nilchk (.t 28))) (.step 22 (Xu 30 22 (.fad 1 (.t 29)))
 (.alt (.step 18 (Xu 26 22 (.load false 1 (.t 25))) (.alt (.step 19 (XU 27 22 (.bsl 9 1 [.t 26])) (.step 23 (Xu 31 22 (.load false 1 (.t 30))) (.step 24 (XU 32 22 (.app false 9 1 16 (.t 27) (.t 31))) (.step 25 (XU 33 22 (.call (.fn 142) false [.lend (.t 32)])) (.step 26 (Xu 34 22 (.un .not (.t 33))) (.step 27 (Xq 35 (.pick (.t 22) .tb (.t 34))) (.step 28 (Xm 36 35) (.step 29 (Xu 37 36 (.mov (.t
 0))) (.step 30 (Xu 38 36 (.nilchk (.t 37))) (.step 31 (Xu 39 36 (.fad 2 (.t 38))) (.step 32 (Xu 40 36 (.load false 1 (.t 39))) (.step 33 (XU 41 36 (.call (.fn 55) false [.lend (.t 40)])) (.step 34 (Xu 42 36 (.un .not (.t 41))) (.step 35 (Xq 43 (.pick (.t 36) .tb (.t 42))) (.step 36 (Xm 44 43) (.step 37 (Xu 45 44 (.mov (.t 0))) (.step 38 (Xu 46 44 (.nilchk (.t 45))) (.step 39 (Xu 47 44 (.fad 3 (.t
 46))) (.step 40 (Xu 48 44 (.load false 1 (.t 47))) (.step 41 (Xu 49 44 (.len false (.t 48))) (.step 42 (Xu 50 44 (.bin false .gtr (.t 49) (.i 16))) (.step 43 (Xq 51 (.pick (.t 44) .tb (.t 50))) (.step 44 (Xm 52 51) (.step 45 (Xu 53 52 (.mov (.t 0))) (.step 46 (Xu 54 52 (.nilchk (.t 53))) (.step 47 (Xu 55 52 (.fad 4 (.t 54))) (.step 48 (Xu 56 52 (.load false 1 (.t 55))) (.step 49 (Xu 57 52 (.len
 false (.t 56))) (.step 50 (Xu 58 52 (.bin false .gtr (.t 57) (.i 40))) (.step 51 (Xq 59 (.pick (.t 52) .tb (.t 58))) .nil)))))))))))))))))))))))))))))) (.step 23 (Xu 31 22 (.load false 1 (.t 30))) (.step 19 (XU 27 22 (.bsl 9 1 [.t 26])) (.step 24 (XU 32 22 (.app false 9 1 16 (.t 27) (.t 31))) (.step 25 (XU 33 22 (.call (.fn 142) false [.lend (.t 32)])) (.step 26 (Xu 34 22 (.un .not (.t 33)))
 (.step 27 (Xq 35 (.pick (.t 22) .tb (.t 34))) (.step 28 (Xm 36 35) (.step 29 (Xu 37 36 (.mov (.t 0))) (.step 30 (Xu 38 36 (.nilchk (.t 37))) (.step 31 (Xu 39 36 (.fad 2 (.t 38))) (.step 32 (Xu 40 36 (.load false 1 (.t 39))) (.step 33 (XU 41 36 (.call (.fn 55) false [.lend (.t 40)])) (.step 34 (Xu 42 36 (.un .not (.t 41))) (.step 35 (Xq 43 (.pick (.t 36) .tb (.t 42))) (.step 36 (Xm 44 43) (.step 37
 (Xu 45 44 (.mov (.t 0))) (.step 38 (Xu 46 44 (.nilchk (.t 45))) (.step 39 (Xu 47 44 (.fad 3 (.t 46))) (.step 40 (Xu 48 44 (.load false 1 (.t 47))) (.step 41 (Xu 49 44 (.len false (.t 48))) (.step 42 (Xu 50 44 (.bin false .gtr (.t 49) (.i 16))) (.step 43 (Xq 51 (.pick (.t 44) .tb (.t 50))) (.step 44 (Xm 52 51) (.step 45 (Xu 53 52 (.mov (.t 0))) (.step 46 (Xu 54 52 (.nilchk (.t 53))) (.step 47 (Xu
 55 52 (.fad 4 (.t 54))) (.step 48 (Xu 56 52 (.load false 1 (.t 55))) (.step 49 (Xu 57 52 (.len false (.t 56))) (.step 50 (Xu 58 52 (.bin false .gtr (.t 57) (.i 40))) (.step 51 (Xq 59 (.pick (.t 52) .tb (.t 58))) .nil)))))))))))))))))))))))))))))))) (.step 23 (Xu 31 22 (.load false 1 (.t 30))) (.step 18 (Xu 26 22 (.load false 1 (.t 25))) (.step 19 (XU 27 22 (.bsl 9 1 [.t 26])) (.step 24 (XU 32 22
 (.app false 9 1 16 (.t 27) (.t 31))) (.step 25 (XU 33 22 (.call (.fn 142) false [.lend (.t 32)])) (.step 26 (Xu 34 22 (.un .not (.t 33))) (.step 27 (Xq 35 (.pick (.t 22) .tb (.t 34))) (.step 28 (Xm 36 35) (.step 29 (Xu 37 36 (.mov (.t 0))) (.step 30 (Xu 38 36 (.nilchk (.t 37))) (.step 31 (Xu 39 36 (.fad 2 (.t 38))) (.step 32 (Xu 40 36 (.load false 1 (.t 39))) (.step 33 (XU 41 36 (.call (.fn 55)
 false [.lend (.t 40)])) (.step 34 (Xu 42 36 (.un .not (.t 41))) (.step 35 (Xq 43 (.pick (.t 36) .tb (.t 42))) (.step 36 (Xm 44 43) (.step 37 (Xu 45 44 (.mov (.t 0))) (.step 38 (Xu 46 44 (.nilchk (.t 45))) (.step 39 (Xu 47 44 (.fad 3 (.t 46))) (.step 40 (Xu 48 44 (.load false 1 (.t 47))) (.step 41 (Xu 49 44 (.len false (.t 48))) (.step 42 (Xu 50 44 (.bin false .gtr (.t 49) (.i 16))) (.step 43 (Xq
 51 (.pick (.t 44) .tb (.t 50))) (.step 44 (Xm 52 51) (.step 45 (Xu 53 52 (.mov (.t 0))) (.step 46 (Xu 54 52 (.nilchk (.t 53))) (.step 47 (Xu 55 52 (.fad 4 (.t 54))) (.step 48 (Xu 56 52 (.load false 1 (.t 55))) (.step 49 (Xu 57 52 (.len false (.t 56))) (.step 50 (Xu 58 52 (.bin false .gtr (.t 57) (.i 40))) (.step 51 (Xq 59 (.pick (.t 52) .tb (.t 58)))
 .nil)))))))))))))))))))))))))))))))))))))))))))))))))) (.cond (.t 59) (.seq (.reg [Xb 2 (.asg .fb)]) .ret) .skip)) (.seq (.reg [Xm 60 0, Xq 61 (.nilchk (.t 60)), Xf 62 1 61, Xl 63 1 62, Xb 64 (.call (.fn 143) false [.lend (.t 63)]), Xa 3 64]) (.seq (.seq (.reg [Xm 65 0, Xq 66 (.nilchk (.t 65)), Xf 67 3 66, Xl 68 1 67, Xn 69 68, Xq 70 (.mov (.i 0))]) (.block 0 (.loop [0, 3, 64, 65, 66, 67, 68, 69,
 70, 82] (.seq (.reg [Xq 71 (.bin false .lss (.t 70) (.t 69))]) (.seq (.cond (.t 71) .skip (.exit 0)) (.seq (.block 1 (.seq (.reg [Xi 72 6 68 70, XL 73 6 72, Xb 5 (.alloc 52 [.z, .i, .i, .i, .i, .s 54 3]), Xz (.store 6 (.t 5) (.t 73))]) (.seq (.seq (.reg [Xm 74 0, XL 75 6 5, Xb 76 (.call (.fn 144) false [.lend (.t 74), .lend (.t 75)]), Xq 77 (.un .not (.t 76))]) (.cond (.t 77) (.seq (.reg [Xb 2
 (.asg .fb)]) .ret) .skip)) (.reg [Xm 78 3, Xf 79 0 5, Xl 80 1 79, Xb 81 (.bsl 9 1 [.t 80]), Xb 82 (.app true 9 1 16 (.t 78) (.t 81)), Xa 3 82])))) (.reg [Xq 83 (.bin false .add (.t 70) (.i 1)), Xm 70 83]))))))) (.seq (.seq (.reg [Xm 84 0, Xq 85 (.nilchk (.t 84)), Xf 86 4 85, Xl 87 1 86, Xn 88 87, Xq 89 (.mov (.i 0))]) (.block 2 (.loop [0, 3, 64, 82, 84, 85, 86, 87, 88, 89] (.seq (.reg [Xq 90 (.bin
 false .lss (.t 89) (.t 88))]) (.seq (.cond (.t 90) .skip (.exit 2)) (.seq (.block 3 (.seq (.reg [Xm 91 89, Xi 92 2 87 89, XL 93 2 92, Xb 7 (.alloc 155 [.z, .z]), Xa 6 91, Xz (.store 2 (.t 7) (.t 93))]) (.seq (.dreg [Xm 94 0, Xq 95 (.nilchk (.t 94)), Xf 96 1 95, Xl 97 1 96, Xf 98 0 7, Xl 99 1 98, Xb 100 (.call (.fn 145) false [.lend (.t 97), .lend (.t 99)]), Xq 101 (.un .not (.t 100)), Xm 102 101,
 Xu 103 102 (.fad 1 (.t 7)), Xu 104 102 (.load false 1 (.t 103)), XU 105 102 (.call (.fn 141) false [.lend (.t 104)]), Xu 106 102 (.un .not (.t 105)), Xq 107 (.pick (.t 102) .tb (.t 106)), Xm 108 107, Xu 109 108 (.mov (.t 0)), Xu 110 108 (.nilchk (.t 109)), Xu 111 108 (.fad 4 (.t 110)), Xu 112 108 (.load false 1 (.t 111)), Xu 113 108 (.mov (.t 6)), Xu 114 108 (.slc false 2 (.t 112) none (some (.t
 113))), Xu 115 108 (.load true 2 (.t 7)), XU 116 108 (.call (.fn 146) false [.lend (.t 114), .lend (.t 115)]), Xq 117 (.pick (.t 108) .tb (.t 116))]) (.cond (.t 117) (.seq (.reg [Xb 2 (.asg .fb)]) .ret) .skip)))) (.reg [Xq 118 (.bin false .add (.t 89) (.i 1)), Xm 89 118]))))))) (.seq (.reg [Xm 119 3, Xb 120 (.call (.fn 142) false [.lend (.t 119)]), Xa 2 120]) .ret))))))
set_option maxHeartbeats 4000000 in
set_option maxRecDepth 100000 in
theorem d77 (s : Scope) (hs : s.sm) : Does Go.Proofs.Tryz.prog 77 [.fptr s.z] false (.v (.bool (scOk s))) [.dead] := by
  have hs' := hs
  unfold Scope.sm at hs'
  obtain ⟨z1, z2, z3, z4, z5⟩ := hs'
  have ecl : List.map Str.z (⟨s.name⟩ :: s.imports) = [AV.v (.string s.name)] :: List.map Str.z s.imports := rfl
  refine does_intro (mc := m77) (N := 121) (rs := [2]) (fx := []) 1 rfl (by decide +kernel) ?_
  simp only [m77, EV, Nat.reduceEqDiff, Nat.reduceBEq, Nat.reduceLT, Nat.reduceLeDiff, Nat.reduceAdd, Nat.reduceSub, reduceIte]
  refine awp_join (fun _ : Unit => unl (⟨s.name⟩ :: s.imports) = true ∧ tabOk s.types = true ∧ s.imports.length ≤ 4 ∧ s.objects.length ≤ 16 ∧ s.uses.length ≤ 40) (fun _ => stl [(0, .fptr s.z)]) ?_ ?_
  · simp only [evP, Scope.z, EV, Nat.reduceEqDiff, Nat.reduceBEq, Nat.reduceLT, Nat.reduceLeDiff, Nat.reduceAdd, Nat.reduceSub, reduceIte]
    refine callK_i (d141 s.name (by omega)) ?_
    simp only [EV, Nat.reduceEqDiff, Nat.reduceBEq, Nat.reduceLT, Nat.reduceLeDiff, Nat.reduceAdd, Nat.reduceSub, reduceIte]
    rcases e1 : nameOk s.name with _ | _
    · have e : scOk s = false := scOk_no fun P => by have := (ScP_iff.1 P).1.1.1.1.1; rw [e1] at this; cases this
      simp only [Bool.not_false, EV, Nat.reduceEqDiff, Nat.reduceBEq, Nat.reduceLT, Nat.reduceLeDiff, Nat.reduceAdd, Nat.reduceSub, reduceIte]
      simp only [e, EV, Nat.reduceEqDiff, Nat.reduceBEq, Nat.reduceLT, Nat.reduceLeDiff, Nat.reduceAdd, Nat.reduceSub, reduceIte, evRE, retVC, cellV', evR, nfz, nfzs, nfzss, List.contains_nil, List.contains_cons, Bool.or_false, or_true]
    simp only [evP, Bool.not_true, Scope.z, EV, Nat.reduceEqDiff, Nat.reduceBEq, Nat.reduceLT, Nat.reduceLeDiff, Nat.reduceAdd, Nat.reduceSub, reduceIte]
    rcases e2 : decide (4 < (s.imports.length : Int)) with _ | _
    rotate_left
    · have e : scOk s = false := scOk_no fun P => by have := P.few1; simp at e2; omega
      simp only [EV, Nat.reduceEqDiff, Nat.reduceBEq, Nat.reduceLT, Nat.reduceLeDiff, Nat.reduceAdd, Nat.reduceSub, reduceIte]
      simp only [e, EV, Nat.reduceEqDiff, Nat.reduceBEq, Nat.reduceLT, Nat.reduceLeDiff, Nat.reduceAdd, Nat.reduceSub, reduceIte, evRE, retVC, cellV', evR, nfz, nfzs, nfzss, List.contains_nil, List.contains_cons, Bool.or_false, or_true]
    simp only [evP, Scope.z, EV, Nat.reduceEqDiff, Nat.reduceBEq, Nat.reduceLT, Nat.reduceLeDiff, Nat.reduceAdd, Nat.reduceSub, reduceIte]
    refine ⟨⟨?_, ?_⟩, ?_⟩
    all_goals
      refine ⟨.inl trivial, by omega, by omega, ?_⟩
      rw [strz_frz, ← ecl]
      refine callK_i (d142 (⟨s.name⟩ :: s.imports) (by simp; omega) (by intro x hx; rcases List.mem_cons.1 hx with rfl | hx; exact z1; exact z2.2 x hx)) ?_
      simp only [evP, Scope.z, EV, Nat.reduceEqDiff, Nat.reduceBEq, Nat.reduceLT, Nat.reduceLeDiff, Nat.reduceAdd, Nat.reduceSub, reduceIte]
      rcases e3 : unl (⟨s.name⟩ :: s.imports) with _ | _
      · have e : scOk s = false := scOk_no fun P => by have := P.unl1; rw [e3] at this; cases this
        simp only [Bool.not_false, EV, Nat.reduceEqDiff, Nat.reduceBEq, Nat.reduceLT, Nat.reduceLeDiff, Nat.reduceAdd, Nat.reduceSub, reduceIte]
        simp only [e, EV, Nat.reduceEqDiff, Nat.reduceBEq, Nat.reduceLT, Nat.reduceLeDiff, Nat.reduceAdd, Nat.reduceSub, reduceIte, evRE, retVC, cellV', evR, nfz, nfzs, nfzss, List.contains_nil, List.contains_cons, Bool.or_false, or_true]
      simp only [evP, Bool.not_true, Scope.z, EV, Nat.reduceEqDiff, Nat.reduceBEq, Nat.reduceLT, Nat.reduceLeDiff, Nat.reduceAdd, Nat.reduceSub, reduceIte]
      refine callK_i (d55 s.types z3.1 z3.2) ?_
      simp only [evP, Scope.z, EV, Nat.reduceEqDiff, Nat.reduceBEq, Nat.reduceLT, Nat.reduceLeDiff, Nat.reduceAdd, Nat.reduceSub, reduceIte]
      rcases e4 : tabOk s.types with _ | _
      · have e : scOk s = false := scOk_no fun P => by have := P.tab; rw [e4] at this; cases this
        simp only [Bool.not_false, EV, Nat.reduceEqDiff, Nat.reduceBEq, Nat.reduceLT, Nat.reduceLeDiff, Nat.reduceAdd, Nat.reduceSub, reduceIte]
        simp only [e, EV, Nat.reduceEqDiff, Nat.reduceBEq, Nat.reduceLT, Nat.reduceLeDiff, Nat.reduceAdd, Nat.reduceSub, reduceIte, evRE, retVC, cellV', evR, nfz, nfzs, nfzss, List.contains_nil, List.contains_cons, Bool.or_false, or_true]
      simp only [evP, Bool.not_true, Scope.z, EV, Nat.reduceEqDiff, Nat.reduceBEq, Nat.reduceLT, Nat.reduceLeDiff, Nat.reduceAdd, Nat.reduceSub, reduceIte]
      rcases e5 : decide (16 < (s.objects.length : Int)) with _ | _
      rotate_left
      · have e : scOk s = false := scOk_no fun P => by have := P.few2; simp at e5; omega
        simp only [EV, Nat.reduceEqDiff, Nat.reduceBEq, Nat.reduceLT, Nat.reduceLeDiff, Nat.reduceAdd, Nat.reduceSub, reduceIte]
        simp only [e, EV, Nat.reduceEqDiff, Nat.reduceBEq, Nat.reduceLT, Nat.reduceLeDiff, Nat.reduceAdd, Nat.reduceSub, reduceIte, evRE, retVC, cellV', evR, nfz, nfzs, nfzss, List.contains_nil, List.contains_cons, Bool.or_false, or_true]
      simp only [evP, Scope.z, EV, Nat.reduceEqDiff, Nat.reduceBEq, Nat.reduceLT, Nat.reduceLeDiff, Nat.reduceAdd, Nat.reduceSub, reduceIte]
      rcases e6 : decide (40 < (s.uses.length : Int)) with _ | _
      rotate_left
      · have e : scOk s = false := scOk_no fun P => by have := P.few3; simp at e6; omega
        simp only [EV, Nat.reduceEqDiff, Nat.reduceBEq, Nat.reduceLT, Nat.reduceLeDiff, Nat.reduceAdd, Nat.reduceSub, reduceIte]
        simp only [e, EV, Nat.reduceEqDiff, Nat.reduceBEq, Nat.reduceLT, Nat.reduceLeDiff, Nat.reduceAdd, Nat.reduceSub, reduceIte, evRE, retVC, cellV', evR, nfz, nfzs, nfzss, List.contains_nil, List.contains_cons, Bool.or_false, or_true]
      simp only [evP, Scope.z, EV, Nat.reduceEqDiff, Nat.reduceBEq, Nat.reduceLT, Nat.reduceLeDiff, Nat.reduceAdd, Nat.reduceSub, reduceIte]
      refine ⟨(), ?_⟩
      simp only [decide_eq_false_iff_not] at e2 e5 e6
      first | exact ⟨by omega, by omega, by omega⟩ | exact ⟨⟨by omega, by omega, by omega⟩, rfl⟩
  rintro _ ⟨g1, g2, g3, g4, g5⟩
  simp only [evP, Scope.z, EV, Nat.reduceEqDiff, Nat.reduceBEq, Nat.reduceLT, Nat.reduceLeDiff, Nat.reduceAdd, Nat.reduceSub, reduceIte]
  refine callK_i (d143 s.imports z2.1) ?_
  simp only [evP, Scope.z, EV, Nat.reduceEqDiff, Nat.reduceBEq, Nat.reduceLT, Nat.reduceLeDiff, Nat.reduceAdd, Nat.reduceSub, reduceIte]
  refine awp_loop (fun i : Nat => i ≤ s.objects.length ∧ obTo s i) (fun i => stl [(0, .fptr s.z), (3, .usl 9 1 ((s.imports ++ (s.objects.take i).map nmS).map Str.o)), (64, .dead), (65, .fptr s.z), (66, .fptr s.z), (67, .fptr [.fsl 6 (s.objects.map Ob.z), .fsl 2 (s.uses.map Us.z)]), (68, .fsl 6 (s.objects.map Ob.z)), (69, .v (.int .i64 (s.objects.length : Int))), (70, .v (.int .i64 (i : Int))), (82, .dead)]) (fun i => s.objects.length - i) 0 ⟨Nat.zero_le _, fun j hj h => absurd h (by omega)⟩ ?_ ?_
  · simp only [List.take_zero, List.map_nil, List.append_nil, Scope.z, EV, Nat.reduceEqDiff, Nat.reduceBEq, Nat.reduceLT, Nat.reduceLeDiff, Nat.reduceAdd, Nat.reduceSub, reduceIte]
    rfl
  rintro i ⟨hi, hok⟩
  rcases h : decide ((i : Int) < (s.objects.length : Int)) with _ | _
  rotate_left
  · have h1 : i < s.objects.length := by simpa using h
    have h2 : (i : Int) < (s.objects.length : Int) := by omega
    have hno : obOk s.types s.objects[i] = false → scOk s = false := fun e => scOk_no fun P => by have := P.obs i h1 h1; rw [e] at this; cases this
    have dob := d144 s s.objects[i] hs (z4.2 _ (List.getElem_mem h1))
    simp only [Ob.z, Scope.z] at dob
    simp only [h, Scope.z, EV, Nat.reduceEqDiff, Nat.reduceBEq, Nat.reduceLT, Nat.reduceLeDiff, Nat.reduceAdd, Nat.reduceSub, reduceIte]
    simp only [ObE, nth_map h1, h2, Ob.z, Scope.z, EV, Nat.reduceEqDiff, Nat.reduceBEq, Nat.reduceLT, Nat.reduceLeDiff, Nat.reduceAdd, Nat.reduceSub, reduceIte]
    refine callK_i dob ?_
    simp only [EV, Nat.reduceEqDiff, Nat.reduceBEq, Nat.reduceLT, Nat.reduceLeDiff, Nat.reduceAdd, Nat.reduceSub, reduceIte]
    rcases e1 : obOk s.types s.objects[i] with _ | _
    · simp only [Bool.not_false, EV, Nat.reduceEqDiff, Nat.reduceBEq, Nat.reduceLT, Nat.reduceLeDiff, Nat.reduceAdd, Nat.reduceSub, reduceIte]
      simp only [hno e1, EV, Nat.reduceEqDiff, Nat.reduceBEq, Nat.reduceLT, Nat.reduceLeDiff, Nat.reduceAdd, Nat.reduceSub, reduceIte, evRE, retVC, cellV', evR, nfz, nfzs, nfzss, List.contains_nil, List.contains_cons, Bool.or_false, or_true]
    simp only [Bool.not_true, Ob.z, Scope.z, EV, Nat.reduceEqDiff, Nat.reduceBEq, Nat.reduceLT, Nat.reduceLeDiff, Nat.reduceAdd, Nat.reduceSub, reduceIte]
    have e9 : List.map Str.o (s.imports ++ (s.objects.take (i + 1)).map nmS) = List.map Str.o (s.imports ++ (s.objects.take i).map nmS) ++ [[AV.v (.string s.objects[i].name)]] := by
      rw [List.take_succ_eq_append_getElem h1]; simp only [List.map_append, List.append_assoc]; rfl
    rw [w64 _ (by omega)]
    exact ⟨by simp; omega, by simp; omega, i + 1, ⟨h1, obTo_succ h1 hok e1⟩, by omega, by rw [e9]; rfl⟩
  have h1 : i = s.objects.length := by have : ¬ (i : Int) < s.objects.length := by simpa using h
                                       omega
  subst h1
  have hO := hok
  rw [List.take_length]
  simp only [h, evP, Scope.z, EV, Nat.reduceEqDiff, Nat.reduceBEq, Nat.reduceLT, Nat.reduceLeDiff, Nat.reduceAdd, Nat.reduceSub, reduceIte]
  refine awp_loop (fun i : Nat => i ≤ s.uses.length ∧ usTo s i) (fun i => stl [(0, .fptr s.z), (3, .usl 9 1 ((s.imports ++ s.objects.map nmS).map Str.o)), (64, .dead), (82, .dead), (84, .fptr s.z), (85, .fptr s.z), (86, .fptr [.fsl 2 (s.uses.map Us.z)]), (87, .fsl 2 (s.uses.map Us.z)), (88, .v (.int .i64 (s.uses.length : Int))), (89, .v (.int .i64 (i : Int)))]) (fun i => s.uses.length - i) 0 ⟨Nat.zero_le _, fun j hj h => absurd h (by omega)⟩ ?_ ?_
  · simp only [Scope.z, EV, Nat.reduceEqDiff, Nat.reduceBEq, Nat.reduceLT, Nat.reduceLeDiff, Nat.reduceAdd, Nat.reduceSub, reduceIte]
    rfl
  clear h
  rintro i ⟨hi, hok⟩
  rcases h : decide ((i : Int) < (s.uses.length : Int)) with _ | _
  rotate_left
  · have h1 : i < s.uses.length := by simpa using h
    have h2 : (i : Int) < (s.uses.length : Int) := by omega
    have hno : ¬ usAt s i h1 → scOk s = false := fun e => scOk_no fun P => e (P.uses i h1 h1)
    have hsm := z5.2 _ (List.getElem_mem h1)
    unfold Us.sm at hsm
    simp only [h, Scope.z, EV, Nat.reduceEqDiff, Nat.reduceBEq, Nat.reduceLT, Nat.reduceLeDiff, Nat.reduceAdd, Nat.reduceSub, reduceIte]
    simp only [UsE, nth_map h1, h2, Us.z, evP, Scope.z, EV, Nat.reduceEqDiff, Nat.reduceBEq, Nat.reduceLT, Nat.reduceLeDiff, Nat.reduceAdd, Nat.reduceSub, reduceIte]
    refine callD_i (d145 s.imports s.uses[i].mod (by omega)) rfl ?_
    simp only [EV, Nat.reduceEqDiff, Nat.reduceBEq, Nat.reduceLT, Nat.reduceLeDiff, Nat.reduceAdd, Nat.reduceSub, reduceIte]
    rcases e1 : s.imports.any (eqSt s.uses[i].mod) with _ | _
    · have e : scOk s = false := hno (by rintro ⟨g, _⟩; rw [e1] at g; cases g)
      simp only [Bool.not_false, EV, Nat.reduceEqDiff, Nat.reduceBEq, Nat.reduceLT, Nat.reduceLeDiff, Nat.reduceAdd, Nat.reduceSub, reduceIte]
      simp only [e, EV, Nat.reduceEqDiff, Nat.reduceBEq, Nat.reduceLT, Nat.reduceLeDiff, Nat.reduceAdd, Nat.reduceSub, reduceIte, evRE, retVC, cellV', evR, nfz, nfzs, nfzss, List.contains_nil, List.contains_cons, Bool.or_false, or_true]
    simp only [Bool.not_true, evP, Us.z, Scope.z, EV, Nat.reduceEqDiff, Nat.reduceBEq, Nat.reduceLT, Nat.reduceLeDiff, Nat.reduceAdd, Nat.reduceSub, reduceIte]
    refine callD_i (d141 s.uses[i].name (by omega)) rfl ?_
    simp only [EV, Nat.reduceEqDiff, Nat.reduceBEq, Nat.reduceLT, Nat.reduceLeDiff, Nat.reduceAdd, Nat.reduceSub, reduceIte]
    rcases e2 : nameOk s.uses[i].name with _ | _
    · have e : scOk s = false := hno (by rintro ⟨_, g, _⟩; rw [e2] at g; cases g)
      simp only [Bool.not_false, EV, Nat.reduceEqDiff, Nat.reduceBEq, Nat.reduceLT, Nat.reduceLeDiff, Nat.reduceAdd, Nat.reduceSub, reduceIte]
      simp only [e, EV, Nat.reduceEqDiff, Nat.reduceBEq, Nat.reduceLT, Nat.reduceLeDiff, Nat.reduceAdd, Nat.reduceSub, reduceIte, evRE, retVC, cellV', evR, nfz, nfzs, nfzss, List.contains_nil, List.contains_cons, Bool.or_false, or_true]
    simp only [Bool.not_true, evP, Us.z, Scope.z, EV, Nat.reduceEqDiff, Nat.reduceBEq, Nat.reduceLT, Nat.reduceLeDiff, Nat.reduceAdd, Nat.reduceSub, reduceIte]
    refine ⟨by omega, by omega, ?_⟩
    rw [← List.map_take]
    have dc := d146 (s.uses.take i) s.uses[i] (by simp; omega)
    simp only [Us.z] at dc
    refine callD_i dc rfl ?_
    simp only [EV, Nat.reduceEqDiff, Nat.reduceBEq, Nat.reduceLT, Nat.reduceLeDiff, Nat.reduceAdd, Nat.reduceSub, reduceIte]
    rcases e3 : (s.uses.take i).any (qUs s.uses[i]) with _ | _
    · simp only [evP, Us.z, Scope.z, EV, Nat.reduceEqDiff, Nat.reduceBEq, Nat.reduceLT, Nat.reduceLeDiff, Nat.reduceAdd, Nat.reduceSub, reduceIte]
      rw [w64 _ (by omega)]
      exact ⟨i + 1, ⟨h1, usTo_succ h1 hok ⟨e1, e2, e3⟩⟩, by omega, rfl⟩
    · have e : scOk s = false := hno (by rintro ⟨_, _, g⟩; rw [e3] at g; cases g)
      simp only [EV, Nat.reduceEqDiff, Nat.reduceBEq, Nat.reduceLT, Nat.reduceLeDiff, Nat.reduceAdd, Nat.reduceSub, reduceIte]
      simp only [e, EV, Nat.reduceEqDiff, Nat.reduceBEq, Nat.reduceLT, Nat.reduceLeDiff, Nat.reduceAdd, Nat.reduceSub, reduceIte, evRE, retVC, cellV', evR, nfz, nfzs, nfzss, List.contains_nil, List.contains_cons, Bool.or_false, or_true]
  have h1 : i = s.uses.length := by have : ¬ (i : Int) < s.uses.length := by simpa using h
                                    omega
  subst h1
  have hU := hok
  have hfin : scOk s = unl (s.imports ++ s.objects.map nmS) := by
    rw [Bool.eq_iff_iff, scOk_iff]
    exact ⟨fun P => P.unl2, fun u => ⟨g3, g1, g2, g4, g5, hO, hU, u⟩⟩
  have hstr : ∀ l : List Str, frzRows (l.map Str.o) = l.map Str.z := Str.frz
  simp only [h, hstr, Scope.z, EV, Nat.reduceEqDiff, Nat.reduceBEq, Nat.reduceLT, Nat.reduceLeDiff, Nat.reduceAdd, Nat.reduceSub, reduceIte]
  refine callK_i (d142 (s.imports ++ s.objects.map nmS) (by simp; omega) ?_) ?_
  · intro x hx
    rcases List.mem_append.1 hx with hx | hx
    · exact z2.2 x hx
    · obtain ⟨o, ho, rfl⟩ := List.mem_map.1 hx
      exact (z4.2 o ho).1
  simp only [EV, Nat.reduceEqDiff, Nat.reduceBEq, Nat.reduceLT, Nat.reduceLeDiff, Nat.reduceAdd, Nat.reduceSub, reduceIte]
  simp only [hfin, EV, Nat.reduceEqDiff, Nat.reduceBEq, Nat.reduceLT, Nat.reduceLeDiff, Nat.reduceAdd, Nat.reduceSub, reduceIte, evRE, retVC, cellV', evR, nfz, nfzs, nfzss, List.contains_nil, List.contains_cons, Bool.or_false, or_true]
end Go.AM
namespace Go.AM
set_option linter.unusedVariables false
set_option linter.unusedSimpArgs false
def baseAt (l : List Ty) (n : Int) : Int := match l[n.toNat]? with
  | some t => t.base
  | none => -1
theorem baseAt_eq {l : List Ty} {n : Int} (h : n.toNat < l.length) : baseAt l n = l[n.toNat].base := by simp [baseAt, h]
def chainF (l : List Ty) : Nat → Int → List Int
  | 0, _ => []
  | f + 1, n => if n < 0 then [] else n :: chainF l f (baseAt l n)
def lineL (l : List Ty) (n : Int) : List Int := chainF l (l.length + 1) n
def isL (l : List Ty) (n : Int) : Prop := n < 0 ∨ isRec l n = true
theorem isRec_in {l : List Ty} {n : Int} (h : isRec l n = true) : 0 ≤ n ∧ n < (l.length : Int) ∧ ∃ hn : n.toNat < l.length, l[n.toNat].kind = 5 := by
  simp only [isRec, Bool.and_eq_true, beq_iff_eq] at h
  obtain ⟨h0, h1, hn, hk⟩ := isNum_lt h.1
  exact ⟨h0, h1, hn, by rw [← hk]; exact h.2⟩
theorem isRec_base {l : List Ty} (ht : tysOk l = true) {n : Int} (h : isRec l n = true) : isL l (baseAt l n) ∧ (0 ≤ baseAt l n → baseAt l n ∈ kids l false n) := by
  obtain ⟨h0, h1, hn, hk⟩ := isRec_in h
  have G := tysOk_good ht hn
  rw [baseAt_eq hn]
  refine ⟨(G.rec5 hk).elim (fun e => .inl (by omega)) .inr, fun hb => ?_⟩
  rw [kids_at hn]
  have e6 : (l[n.toNat].kind == 6) = false := by rw [hk]; rfl
  simp only [prt, e6, hb, decide_true, Bool.not_false, Bool.or_true, Bool.and_self, if_true, List.mem_append, List.mem_singleton, true_or]
theorem rk_le (l : List Ty) (n : Int) : rk l n ≤ l.length := by
  unfold rk reachL
  refine Nat.le_trans (List.length_filter_le _ _) ?_
  simp
theorem chainF_irr {l : List Ty} (ht : tabOk l = true) : ∀ (f f' : Nat) (n : Int), isL l n → rk l n < f → rk l n < f' → chainF l f n = chainF l f' n
  | 0, _, n, _, h, _ => absurd h (by omega)
  | f + 1, 0, n, _, _, h => absurd h (by omega)
  | f + 1, f' + 1, n, hn, h, h' => by
    unfold chainF
    by_cases h0 : n < 0
    · rw [if_pos h0, if_pos h0]
    · rw [if_neg h0, if_neg h0]
      have hr : isRec l n = true := hn.resolve_left h0
      obtain ⟨b1, b2⟩ := isRec_base (tabOk_tys ht) hr
      obtain ⟨g0, g1, _⟩ := isRec_in hr
      by_cases hb : baseAt l n < 0
      · have e : ∀ g, chainF l g (baseAt l n) = [] := by
          intro g; cases g with
          | zero => rfl
          | succ g => unfold chainF; rw [if_pos hb]
        rw [e, e]
      · have hlt := rk_lt ht g0 g1 (b2 (by omega))
        rw [chainF_irr ht f f' (baseAt l n) b1 (by omega) (by omega)]
theorem lineL_neg {l : List Ty} {n : Int} (h : n < 0) : lineL l n = [] := by unfold lineL chainF; rw [if_pos h]
theorem lineL_rec {l : List Ty} (ht : tabOk l = true) {n : Int} (h : isRec l n = true) : lineL l n = n :: lineL l (baseAt l n) := by
  obtain ⟨b1, b2⟩ := isRec_base (tabOk_tys ht) h
  obtain ⟨g0, g1, _⟩ := isRec_in h
  unfold lineL
  rw [chainF]
  rw [if_neg (by omega)]
  by_cases hb : baseAt l n < 0
  · have e : ∀ g, chainF l g (baseAt l n) = [] := by
      intro g; cases g with
      | zero => rfl
      | succ g => unfold chainF; rw [if_pos hb]
    rw [e, e]
  · have hlt := rk_lt ht g0 g1 (b2 (by omega))
    have := rk_le l n
    rw [chainF_irr ht l.length (l.length + 1) _ b1 (by omega) (by omega)]
end Go.AM
namespace Go.AM
set_option linter.unusedVariables false
set_option linter.unusedSimpArgs false
def m29 : MC :=
 (.seq (.reg [Xb 2 (.asg (.nils 3 1))]) (.seq (.reg [Xm 5 0, Xn 6 5, Xb 7 (.mks 3 1 8 [.i] (.t 6) (.t 6)), Xa 3 7]) (.seq (.seq (.reg [Xb 4 (.asg (.i 0))]) (.block 0 (.loop [0, 3, 4, 7] (.seq (.seq (.reg [Xm 8 4, Xm 9 0, Xn 10 9, Xq 11 (.bin false .lss (.t 8) (.t 10))]) (.cond (.t 11) .skip (.exit 0))) (.seq (.block 1 (.reg [Xm 14 3, Xm 15 4, Xm 16 0, Xm 17 4, Xi 18 1 16 17, Xl 19 1 18, Xi 20 1 14
 15, Xz (.store 1 (.t 20) (.t 19))])) (.reg [Xm 12 4, Xq 13 (.bin false .add (.t 12) (.i 1)), Xa 4 13])))))) (.seq (.reg [Xm 21 3, Xa 2 21]) .ret))))
theorem d29 (l : List Int) (hl : (l.length : Int) ≤ 1048576) : Does Go.Proofs.Tryz.prog 29 [.fsl 1 (l.map iv)] false (.usl 3 1 (l.map iv)) [.dead] := by
  refine does_intro (mc := m29) (N := 22) (rs := [2]) (fx := []) 1 rfl (by decide +kernel) ?_
  simp only [m29, EV, Nat.reduceEqDiff, Nat.reduceBEq, Nat.reduceLT, Nat.reduceLeDiff, Nat.reduceAdd, Nat.reduceSub, reduceIte]
  refine ⟨by omega, by omega, ?_⟩
  refine awp_loop (fun i : Nat => i ≤ l.length) (fun i => stl [(0, .fsl 1 (l.map iv)), (3, .usl 3 1 ((l.take i).map iv ++ List.replicate (l.length - i) [.v (.int .i64 0)])), (4, .v (.int .i64 (i : Int))), (7, .dead)]) (fun i => l.length - i) 0 (Nat.zero_le _) ?_ ?_
  · simp only [EV, Nat.reduceEqDiff, Nat.reduceBEq, Nat.reduceLT, Nat.reduceLeDiff, Nat.reduceAdd, Nat.reduceSub, reduceIte]
    rfl
  · intro i hi
    simp only [EV, Nat.reduceEqDiff, Nat.reduceBEq, Nat.reduceLT, Nat.reduceLeDiff, Nat.reduceAdd, Nat.reduceSub, reduceIte]
    refine cK_cut (fun h => ?_) (fun h => ?_)
    · have h1 : i < l.length := by simpa using h
      have h2 : (i : Int) < (l.length : Int) := by omega
      have h3 : ((l.take i).map iv ++ List.replicate (l.length - i) [AV.v (.int .i64 0)]).length = l.length := by simp; omega
      have ei : iv l[i] = [.v (.int .i64 l[i])] := rfl
      simp only [nth_map h1, ei, h1, h2, h3, EV, Nat.reduceEqDiff, Nat.reduceBEq, Nat.reduceLT, Nat.reduceLeDiff, Nat.reduceAdd, Nat.reduceSub, reduceIte]
      try refine ⟨h1, ?_⟩
      refine ⟨i + 1, by omega, by omega, ?_⟩
      have ef := fill_set (g := iv) (l := l) (z := [AV.v (.int .i64 0)]) h1
      rw [fill_nth h1, w64 _ (by omega)]
      rw [← ef]
      rfl
    · have h1 : i = l.length := by have : ¬ (i : Int) < l.length := by simpa using h
                                   omega
      subst h1
      simp only [EV, Nat.reduceEqDiff, Nat.reduceBEq, Nat.reduceLT, Nat.reduceLeDiff, Nat.reduceAdd, Nat.reduceSub, reduceIte]
      simp only [Nat.sub_self, List.replicate_zero, iv_nfz, EV, Nat.reduceEqDiff, Nat.reduceBEq, Nat.reduceLT, Nat.reduceLeDiff, Nat.reduceAdd, Nat.reduceSub, reduceIte, evRE, retVC, cellV', evR, nfz, nfzs, nfzss, List.contains_nil, List.contains_cons, Bool.or_false, or_true]
def m31 : MC :=
 (.seq (.reg [Xb 4 (.asg .fb)]) (.seq (.seq (.reg [Xm 6 0, Xn 7 6, Xm 8 1, Xn 9 8, Xq 10 (.bin false .neq (.t 7) (.t 9))]) (.cond (.t 10) (.seq (.reg [Xb 4 (.asg .fb)]) .ret) .skip)) (.seq (.seq (.reg [Xb 5 (.asg (.i 0))]) (.block 0 (.loop [0, 1, 5] (.seq (.seq (.reg [Xm 11 5, Xm 12 0, Xn 13 12, Xq 14 (.bin false .lss (.t 11) (.t 13))]) (.cond (.t 14) .skip (.exit 0))) (.seq (.block 1 (.seq (.dreg
 [Xm 17 0, Xm 18 5, Xi 19 1 17 18, Xl 20 1 19, Xm 21 1, Xm 22 5, Xi 23 1 21 22, Xl 24 1 23, Xq 25 (.bin false .neq (.t 20) (.t 24))]) (.cond (.t 25) (.seq (.reg [Xb 4 (.asg .fb)]) .ret) .skip))) (.reg [Xm 15 5, Xq 16 (.bin false .add (.t 15) (.i 1)), Xa 5 16])))))) (.seq (.reg [Xb 4 (.asg .tb)]) .ret))))
theorem d31 (l : List Int) (hl : (l.length : Int) ≤ 1048576) : Does Go.Proofs.Tryz.prog 31 [.fsl 1 (l.map iv), .fsl 1 (l.map iv)] false (.v (.bool true)) [.dead, .dead] := by
  refine does_intro (mc := m31) (N := 26) (rs := [4]) (fx := []) 2 rfl (by decide +kernel) ?_
  simp only [m31, EV, Nat.reduceEqDiff, Nat.reduceBEq, Nat.reduceLT, Nat.reduceLeDiff, Nat.reduceAdd, Nat.reduceSub, reduceIte]
  refine awp_loop (fun i : Nat => i ≤ l.length) (fun i => stl [(0, .fsl 1 (l.map iv)), (1, .fsl 1 (l.map iv)), (5, .v (.int .i64 (i : Int)))]) (fun i => l.length - i) 0 (Nat.zero_le _) ?_ ?_
  · simp only [EV, Nat.reduceEqDiff, Nat.reduceBEq, Nat.reduceLT, Nat.reduceLeDiff, Nat.reduceAdd, Nat.reduceSub, reduceIte]
    rfl
  · intro i hi
    simp only [EV, Nat.reduceEqDiff, Nat.reduceBEq, Nat.reduceLT, Nat.reduceLeDiff, Nat.reduceAdd, Nat.reduceSub, reduceIte]
    refine cK_cut (fun h => ?_) (fun h => ?_)
    · have h1 : i < l.length := by simpa using h
      have h2 : (i : Int) < (l.length : Int) := by omega
      have ei : iv l[i] = [.v (.int .i64 l[i])] := rfl
      simp only [nth_map h1, ei, h2, EV, Nat.reduceEqDiff, Nat.reduceBEq, Nat.reduceLT, Nat.reduceLeDiff, Nat.reduceAdd, Nat.reduceSub, reduceIte]
      rw [w64 _ (by omega)]
      exact ⟨i + 1, by omega, by omega, rfl⟩
    · have h1 : i = l.length := by have : ¬ (i : Int) < l.length := by simpa using h
                                   omega
      simp only [EV, Nat.reduceEqDiff, Nat.reduceBEq, Nat.reduceLT, Nat.reduceLeDiff, Nat.reduceAdd, Nat.reduceSub, reduceIte]
      simp only [EV, Nat.reduceEqDiff, Nat.reduceBEq, Nat.reduceLT, Nat.reduceLeDiff, Nat.reduceAdd, Nat.reduceSub, reduceIte, evRE, retVC, cellV', evR, nfz, nfzs, nfzss, List.contains_nil, List.contains_cons, Bool.or_false, or_true]
end Go.AM
namespace Go.AM
set_option linter.unusedVariables false
set_option linter.unusedSimpArgs false
def m147 : MC :=
 (.seq (.reg [Xb 4 (.asg (.i 0))]) (.seq (.seq (.reg [Xm 6 0, Xn 7 6, Xq 8 (.mov (.i 0))]) (.block 0 (.loop [0, 1, 7, 8] (.seq (.reg [Xq 9 (.bin false .lss (.t 8) (.t 7))]) (.seq (.cond (.t 9) .skip (.exit 0)) (.seq (.block 1 (.seq (.reg [Xm 10 8, Xa 5 10]) (.seq (.reg [Xm 11 1, Xm 12 0, Xm 13 5, Xi 14 1 12 13, Xl 15 1 14, Xb 16 (.call (.t 11) false [.lend (.t 15)])]) (.cond (.t 16) (.seq (.reg [Xm
 17 5, Xa 4 17]) .ret) .skip)))) (.reg [Xq 18 (.bin false .add (.t 8) (.i 1)), Xm 8 18]))))))) (.seq (.reg [Xb 4 (.asg (.i (-1)))]) .ret)))
theorem d147 (l : List Int) (hl : l.length < 9223372036854775807) (f : Nat) (caps : List AV) (q : Int → Bool) (hp : plains caps = true) (hb : bares caps = true) (hk : ∀ K, killVs K caps = caps) (hf : ∀ (st : St), frzBs st caps = caps)
    (hq : ∀ s ∈ l, Does Go.Proofs.Tryz.prog f (.v (.int .i64 s) :: caps) false (.v (.bool (q s))) (.dead :: caps.map fun _ => .dead)) :
    Does Go.Proofs.Tryz.prog 147 [.fsl 1 (l.map iv), .clo f caps] false (.v (.int .i64 (findI q l))) [.dead, .dead] := by
  refine does_intro (mc := m147) (N := 19) (rs := [4]) (fx := []) 2 rfl (by decide +kernel) ?_
  simp only [m147, EV, Nat.reduceEqDiff, Nat.reduceBEq, Nat.reduceLT, Nat.reduceLeDiff, Nat.reduceAdd, Nat.reduceSub, reduceIte]
  refine awp_loop (fun i : Nat => i ≤ l.length ∧ ∀ j (hj : j < l.length), j < i → q l[j] = false) (fun i => stl [(0, .fsl 1 (l.map iv)), (1, .clo f caps), (7, .v (.int .i64 (l.length : Int))), (8, .v (.int .i64 (i : Int)))]) (fun i => l.length - i) 0 ⟨Nat.zero_le _, fun j hj h => absurd h (by omega)⟩ ?_ ?_
  · simp only [hp, hb, hk, EV, Nat.reduceEqDiff, Nat.reduceBEq, Nat.reduceLT, Nat.reduceLeDiff, Nat.reduceAdd, Nat.reduceSub, reduceIte]
    rfl
  · rintro i ⟨hi, hno⟩
    simp only [EV, Nat.reduceEqDiff, Nat.reduceBEq, Nat.reduceLT, Nat.reduceLeDiff, Nat.reduceAdd, Nat.reduceSub, reduceIte]
    refine cK_cut (fun h => ?_) (fun h => ?_)
    · have h1 : i < l.length := by simpa using h
      have h2 : (i : Int) < (l.length : Int) := by omega
      simp only [nth_map h1, h2, iv, hp, hb, EV, Nat.reduceEqDiff, Nat.reduceBEq, Nat.reduceLT, Nat.reduceLeDiff, Nat.reduceAdd, Nat.reduceSub, reduceIte]
      refine callK_i (hq l[i] (List.getElem_mem h1)) ?_
      simp only [EV, Nat.reduceEqDiff, Nat.reduceBEq, Nat.reduceLT, Nat.reduceLeDiff, Nat.reduceAdd, Nat.reduceSub, reduceIte]
      refine cK_cut (fun h => ?_) (fun h => ?_)
      · simp only [EV, Nat.reduceEqDiff, Nat.reduceBEq, Nat.reduceLT, Nat.reduceLeDiff, Nat.reduceAdd, Nat.reduceSub, reduceIte]
        simp only [findI_at h1 h hno, EV, Nat.reduceEqDiff, Nat.reduceBEq, Nat.reduceLT, Nat.reduceLeDiff, Nat.reduceAdd, Nat.reduceSub, reduceIte, evRE, retVC, cellV', evR, nfz, nfzs, nfzss, List.contains_nil, List.contains_cons, Bool.or_false, or_true]
      · simp only [hp, hb, hk, EV, Nat.reduceEqDiff, Nat.reduceBEq, Nat.reduceLT, Nat.reduceLeDiff, Nat.reduceAdd, Nat.reduceSub, reduceIte]
        rw [w64 _ (by omega)]
        refine ⟨i + 1, ⟨by omega, ?_⟩, by omega, rfl⟩
        intro j hj hji
        by_cases e : j = i
        · subst e; exact h
        · exact hno j hj (by omega)
    · have h1 : i = l.length := by have : ¬ (i : Int) < l.length := by simpa using h
                                   omega
      subst h1
      simp only [EV, Nat.reduceEqDiff, Nat.reduceBEq, Nat.reduceLT, Nat.reduceLeDiff, Nat.reduceAdd, Nat.reduceSub, reduceIte]
      simp only [findI_no (fun j hj => hno j hj hj), EV, Nat.reduceEqDiff, Nat.reduceBEq, Nat.reduceLT, Nat.reduceLeDiff, Nat.reduceAdd, Nat.reduceSub, reduceIte, evRE, retVC, cellV', evR, nfz, nfzs, nfzss, List.contains_nil, List.contains_cons, Bool.or_false, or_true]
def m79 : MC :=
 (.seq (.reg [Xb 4 (.asg .fb)]) (.seq (.reg [Xm 5 0, Xm 6 1, Xb 7 (.call (.fn 147) false [.lend (.t 5), .lend (.t 6)]), Xq 8 (.bin false .geq (.t 7) (.i 0)), Xa 4 8]) .ret))
theorem d79 (l : List Int) (hl : l.length < 9223372036854775807) (f : Nat) (caps : List AV) (q : Int → Bool) (hp : plains caps = true) (hb : bares caps = true) (hk : ∀ K, killVs K caps = caps) (hf : ∀ (st : St), frzBs st caps = caps)
    (hq : ∀ s ∈ l, Does Go.Proofs.Tryz.prog f (.v (.int .i64 s) :: caps) false (.v (.bool (q s))) (.dead :: caps.map fun _ => .dead)) :
    Does Go.Proofs.Tryz.prog 79 [.fsl 1 (l.map iv), .clo f caps] false (.v (.bool (l.any q))) [.dead, .dead] := by
  refine does_intro (mc := m79) (N := 9) (rs := [4]) (fx := []) 2 rfl (by decide +kernel) ?_
  simp only [m79, hp, hb, hk, hf, EV, Nat.reduceEqDiff, Nat.reduceBEq, Nat.reduceLT, Nat.reduceLeDiff, Nat.reduceAdd, Nat.reduceSub, reduceIte]
  refine callK_i (d147 l hl f caps q hp hb hk hf hq) ?_
  simp only [EV, Nat.reduceEqDiff, Nat.reduceBEq, Nat.reduceLT, Nat.reduceLeDiff, Nat.reduceAdd, Nat.reduceSub, reduceIte]
  simp only [findI_any, EV, Nat.reduceEqDiff, Nat.reduceBEq, Nat.reduceLT, Nat.reduceLeDiff, Nat.reduceAdd, Nat.reduceSub, reduceIte, evRE, retVC, cellV', evR, nfz, nfzs, nfzss, List.contains_nil, List.contains_cons, Bool.or_false, or_true]
end Go.AM
