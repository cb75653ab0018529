/- Contracts of functions of the given program, for the law FnExactLayoutOf: what they return and what they write, under the bounds that each theorem states. -/
import Derived.Test.YtjbmgopednpbmaaGreatG3
import Derived.Laws.EntriesVeiled
import Derived.Shelf.Bits.Mul64
import Derived.Laws.MakeOwn
import Derived.Laws.CopyOwn
import Derived.RegionTactic
import Derived.ChangeAlike
namespace Go.Proofs.Sizes
open Go Go.AM Go.RowKit Go.Shelf Go.Proofs
attribute [local go_sem] Oper.semAt_some
set_option linter.unusedVariables false
set_option linter.unusedSimpArgs false

/-- What slices.Repeat does for us. -/
def Rep141 (len : Nat) : Prop := ∀ (w : World) (b : Nat), w.cell? ⟨b, 0, none⟩ = some (.int .i64 (-1)) → Calls Tryz.prog 47 #[.slice (some ⟨b, 0, none⟩) 1 1, .int .i64 (len : Int)] w fun e w' =>
  ∃ g, e = .returned (.slice (some ⟨g, 0, none⟩) len len) ∧ Ext w w' [] ∧ w.heap.size ≤ g ∧ w'.heap[g]? = some (.cells ((List.replicate len (-1 : Int)).map (Value.int .i64)).toArray 3 (0, 0))

set_option maxRecDepth 100000 in
set_option maxHeartbeats 4000000 in
theorem c24 (l : List Ty) (hl : (l.length : Int) ≤ 1048576) (hs : ∀ t ∈ l, t.sm) (ht : tabOk l = true) (h141 : Rep141 l.length) : Con Tryz.prog 24 [.fsl 6 (l.map Ty.z)] false (.usl 3 1 ((sizesL l).map iv)) [.dead] := by
  intro w Fz xs os hrep hos hfz hlt
  simp only [RepVs] at hrep
  obtain ⟨sv, _, o1, _, rfl, rfl, h1, rfl, rfl⟩ := hrep
  simp only [RepV] at h1
  have h1' := h1
  simp only [RepC] at h1
  obtain ⟨rfl, A, cap, rfl, hcap, hA⟩ := h1
  have h24 := tabOk_len ht
  have h3 := (tysOk_len (tabOk_tys ht)).1
  refine callsIn_wide (n := 9).1 (callsIn_of_wp Tryz.func24 rfl trivial ?_ rfl)
  simp only [Tryz.ntmps24, List.size_toArray, List.length_cons, List.length_nil, Nat.reduceAdd, Nat.reduceSub, Array.replicate_succ, Array.replicate_zero, List.push_toArray, List.append_toArray, List.nil_append, List.cons_append]
  obtain ⟨w4, hw4⟩ : ∃ w4, (w.alloc (Obj.cells #[Value.slice A l.length cap] 24)).alloc (Obj.cells #[Value.int .i64 (-1)] 3) = w4 := ⟨_, rfl⟩
  have hE4 : Ext w w4 [] := by rw [← hw4]; exact (Ext.alloc _ _ _).trans (Ext.alloc _ [] _) (by simp)
  have hb2 : w4.heap[w.heap.size]? = some (.cells #[Value.slice A l.length cap] 24) := by
    rw [← hw4, Below.heap_alloc _ _ _ (by simp)]
    exact World.alloc_heap_new _ _
  have hb3 : w4.heap[w.heap.size + 1]? = some (.cells #[Value.int .i64 (-1)] 3) := by
    rw [← hw4]
    have := World.alloc_heap_new (w.alloc (Obj.cells #[Value.slice A l.length cap] 24)) (.cells #[Value.int .i64 (-1)] 3)
    rwa [World.size_alloc] at this
  have hc2 : w4.cell? ⟨w.heap.size, 0, none⟩ = some (Value.slice A l.length cap) := by rw [cell_of_cells hb2]; rfl
  have hrepc := h141 w4 (w.heap.size + 1) (by rw [cell_of_cells hb3]; rfl)
  gi_wp2
  refine ⟨trivial, (callsIn_wide.2 hrepc).mono ?_⟩
  rintro e w5 ⟨g, rfl, hE5, hg4, hgc⟩
  have hgl := (Array.getElem?_eq_some_iff.1 hgc).1
  have hs4 : w4.heap.size = w.heap.size + 2 := by rw [← hw4]; simp
  have hs5 := hE5.size
  obtain ⟨w6, hw6⟩ : ∃ w6, (w5.alloc (Obj.cells #[Value.slice (some ⟨g, 0, none⟩) l.length l.length] 52)).alloc (Obj.cells #[Value.nilFunc] 67) = w6 := ⟨_, rfl⟩
  have hE56 : Ext w5 w6 [] := by rw [← hw6]; exact (Ext.alloc _ _ _).trans (Ext.alloc _ [] _) (by simp)
  have c3 : w6.heap[w5.heap.size]? = some (.cells #[Value.slice (some ⟨g, 0, none⟩) l.length l.length] 52) := by
    rw [← hw6, Below.heap_alloc _ _ _ (by simp)]
    exact World.alloc_heap_new _ _
  have c4 : w6.heap[w5.heap.size + 1]? = some (.cells #[Value.nilFunc] 67) := by
    rw [← hw6]
    have := World.alloc_heap_new (w5.alloc (Obj.cells #[Value.slice (some ⟨g, 0, none⟩) l.length l.length] 52)) (.cells #[Value.nilFunc] 67)
    rwa [World.size_alloc] at this
  have c4c : w6.cell? ⟨w5.heap.size + 1, 0, none⟩ = some Value.nilFunc := by rw [cell_of_cells c4]; rfl
  have c4f : w6.frozen? ⟨w5.heap.size + 1, 0, none⟩ = false := by simp [World.frozen?, c4]
  obtain ⟨w7, hw7⟩ : ∃ w7, w6.setCell ⟨w5.heap.size + 1, 0, none⟩ (Value.func (.func 48) #[] #[.pointer (some ⟨w5.heap.size, 0, none⟩), .pointer (some ⟨w.heap.size, 0, none⟩), .pointer (some ⟨w5.heap.size + 1, 0, none⟩)]) = w7 := ⟨_, rfl⟩
  have hE67 : Ext w6 w7 [w5.heap.size + 1] := by rw [← hw7]; exact ⟨rfl, rfl, rfl, by simp [World.setCell], fun b hb hn => Below.heap_setCell _ _ _ b (by simpa using hn)⟩
  have hE57 : Ext w5 w7 [] := hE56.trans hE67 fun b hb hlt => by simp at hb; omega
  have d3 : w7.heap[w5.heap.size]? = some (.cells #[Value.slice (some ⟨g, 0, none⟩) l.length l.length] 52) := (hE67.blk _ (Array.getElem?_eq_some_iff.1 c3).1 (by simp)).trans c3
  have d4 : w7.cell? ⟨w5.heap.size + 1, 0, none⟩ = some (Value.func (.func 48) #[] #[.pointer (some ⟨w5.heap.size, 0, none⟩), .pointer (some ⟨w.heap.size, 0, none⟩), .pointer (some ⟨w5.heap.size + 1, 0, none⟩)]) := by rw [← hw7]; exact World.cell?_setCell_same' _ _ _ (by rw [c4c]; rfl)
  have hE47 : Ext w4 w7 [] := hE5.trans hE57 (by simp)
  have hE7 : Ext w w7 [] := hE4.trans hE47 (by simp)
  have hl0 : ¬ List.map Ty.z l = [] := by intro h; have := congrArg List.length h; simp at this; subst this; simp at h3
  obtain ⟨gl, h, vs, rfl, hFg, hrs, hat⟩ := hA.resolve_left hl0
  have M7 : Mem w5.heap.size w.heap.size (w5.heap.size + 1) g gl h cap l.length Fz l (List.replicate l.length (-1)) w7 := by
    refine ⟨by rw [cell_of_cells d3]; rfl, by rw [cell_of_cells ((hE47.blk _ (by omega) (by simp)).trans hb2)]; rfl, d4, (hE57.blk g hgl (by simp)).trans hgc, by simp, AllF.keepW hlt hE7 (by simpa using h1'), fun b hb => ?_, by omega, by omega, by omega⟩
    have := hlt b hb
    have := hE7.size
    exact ⟨by omega, by omega⟩
  have hgr : ∀ j : Nat, j < l.length → getS (List.replicate l.length (-1)) (j : Int) = -1 := fun j hj => by simp [getS, hj]
  have m3 := M7.lb
  have hst : (store ⟨w5.heap.size + 1, 0, none⟩ (Value.func (.func 48) #[] #[.pointer (some ⟨w5.heap.size, 0, none⟩), .pointer (some ⟨w.heap.size, 0, none⟩), .pointer (some ⟨w5.heap.size + 1, 0, none⟩)])).run Tryz.prog w6 = .ok () w7 := by
    rw [run_store_func]
    simp [stored, go_sem, c4c, c4f, hw7]
  gi_wp2
  gi_loopw [13] (fun b wr => ∃ (i : Nat) (s2 : List Int), i ≤ l.length ∧ b = .int .i64 (i : Int) ∧ Mem w5.heap.size w.heap.size (w5.heap.size + 1) g gl h cap l.length Fz l s2 wr ∧ Som l s2 ∧ (∀ j : Nat, j < i → getS s2 (j : Int) = sz l (j : Int)) ∧ Ext w7 wr [g])
    (fun b _ => l.length - (intOf b).toNat)
  case atStart => exact ⟨0, _, Nat.zero_le _, rfl, M7, fun j hj => .inr (hgr j hj), fun j hj => absurd hj (by omega), Ext.refl _ _⟩
  case round =>
    obtain ⟨i, s2, hi, rfl, Ms, Ss, Di, EW⟩ := hrel
    by_cases hlt' : i < l.length
    · have hf := Ms.f
      gi_wp2
      refine ⟨trivial, (callsIn_wide.2 (c48 ht hs h24 (by simpa using hcap) (Nat.le_refl _) (rk l (i : Int) + 1) i hlt' (Nat.lt_succ_self _) wr s2 Ms Ss)).mono ?_⟩
      rintro e W3 ⟨rfl, s3, M3, S3, g3, Mo3, E3⟩
      gi_wp2
      exact ⟨⟨i + 1, s3, hlt', by simp, M3, S3, fun j hj => by
        by_cases e : j = i
        · rw [e]; exact g3
        · exact Mo3 j (by omega) (Di j (by omega)), EW.trans E3 fun b hb _ => hb⟩, by simp [intOf]; omega⟩
    · obtain rfl : i = l.length := by omega
      have o1 := Ms.o
      gi_wp2
      refine bodyPost_ret (results_tmp rfl _ _ _) rfl ?_
      have hs2 : s2 = sizesL l := by
        refine List.ext_getElem (by rw [Ms.len]; simp [sizesL]) fun j h1 h2 => ?_
        have hj : j < l.length := by rw [← Ms.len]; exact h1
        have := Di j hj
        rw [getS_at h1] at this
        simp [sizesL, this]
      refine ⟨_, [g], [], rfl, hE7.trans EW fun b hb hlt => by simp at hb; omega, ?_, ⟨_, _, [], [], rfl, rfl, rfl, rfl, rfl⟩, by simp, fun b hb => ?_⟩
      · rw [← hs2]
        simp only [RepV, RepC]
        refine .inr ⟨g, 0, l.length, _, s2.map (Value.int .i64), [], by simp [Ms.len], rfl, Ms.vals, by simp [Ms.len], by simp [Ms.len], cells_int s2, fun j u hj => ?_⟩
        rw [cell_of_cells Ms.vals]
        simpa using hj
      · simp at hb
        subst hb
        have := (Array.getElem?_eq_some_iff.1 Ms.vals).1
        exact ⟨.inr (by omega), this⟩
end Go.Proofs.Sizes

namespace Go.Proofs.Sizes
open Go Go.AM Go.RowKit Go.Shelf Go.Proofs
attribute [local go_sem] Oper.semAt_some
set_option linter.unusedVariables false
set_option linter.unusedSimpArgs false

theorem e_zero : bits .and .u64 0 4294967295 = 0 := by decide
theorem e_one : bits .and .u64 1 4294967295 = 1 := by decide
theorem e_n (k : Nat) (hk : k < 4294967296) : bits .and .u64 (k : Int) 4294967295 = (k : Int) := by
  rw [Go.Proofs.Mul64.maskN k (by omega)]
  omega

set_option maxRecDepth 100000 in
set_option maxHeartbeats 1000000 in
theorem mul198 (F : Fence) (n : Nat) (h : F.fn 90) (hro : F.round = none) (k : Nat) (hk : k < 4294967296) (w : World) : CallsIn F n Tryz.prog 90 #[.int .u64 1, .int .u64 (k : Int)] w fun e w' => e = .returned (.tuple #[.int .u64 0, .int .u64 (k : Int)]) ∧ w' = w := by
  refine callsIn_of_wp Tryz.func90 rfl h ?_ hro
  simp only [Tryz.ntmps90, List.size_toArray, List.length_cons, List.length_nil, Nat.reduceAdd, Nat.reduceSub, Array.replicate_succ, Array.replicate_zero, List.push_toArray, List.append_toArray, List.nil_append, List.cons_append]
  have w1 := Go.Proofs.Mul64.wrapN k (by omega)
  have e0 := e_zero
  have e1 := e_one
  have e2 := e_n k hk
  have e3 : (k : Int) / 4294967296 = 0 := by omega
  gi_wp2
  refine bodyPost_ret (results_tmp2 rfl _ _ _) rfl ?_
  exact ⟨rfl, rfl⟩

set_option maxRecDepth 100000 in
set_option maxHeartbeats 1000000 in
theorem mul173 (F : Fence) (n : Nat) (h : F.fn 90) (h2 : F.fn 69) (hro : F.round = none) (hd : F.depth = none) (k : Nat) (hk : k < 4294967296) (w : World) : CallsIn F n Tryz.prog 69 #[.int .u64 1, .int .u64 (k : Int)] w fun e w' => e = .returned (.tuple #[.int .u64 0, .int .u64 (k : Int)]) ∧ w' = w := by
  refine callsIn_of_wp Tryz.func69 rfl h2 ?_ hro
  simp only [Tryz.ntmps69, List.size_toArray, List.length_cons, List.length_nil, Nat.reduceAdd, Nat.reduceSub, Array.replicate_succ, Array.replicate_zero, List.push_toArray, List.append_toArray, List.nil_append, List.cons_append]
  gi_wp2_with (gi_at_call 90; refine (mul198 F _ h hro k hk _).mono ?_; rintro e w' ⟨rfl, rfl⟩)
  refine bodyPost_ret (results_tmp2 rfl _ _ _) rfl ?_
  exact ⟨rfl, rfl⟩
end Go.Proofs.Sizes

namespace Go.Proofs.Sizes
open Go Go.AM Go.RowKit Go.Shelf Go.Proofs
set_option linter.unusedVariables false
set_option linter.unusedSimpArgs false

theorem info3 : (Tryz.prog.info? 3).map (fun i => (i.zero, i.size, i.bytes)) = some (some (.int .i64 0), 1, 8) := by kernel_rfl
theorem made0 (n : Nat) : madeCells (Value.cells (.int .i64 0)) (n * 1) = (List.replicate n (Value.int .i64 0)).toArray := by
  apply Array.ext
  · simp [madeCells]
  · intro i h1 h2
    simp [madeCells, Value.cells, Nat.mod_one]

def RowN (len n : Nat) : List Value := List.replicate n (Value.int .i64 (-1)) ++ List.replicate (len - n) (Value.int .i64 0)
theorem RowN_copy {len n m : Nat} (h : n + m ≤ len) : (RowN len n).toArray.toList.take n ++ List.replicate m (Value.int .i64 (-1)) ++ (RowN len n).toArray.toList.drop (n + m) = RowN len (n + m) := by
  have e1 : (RowN len n).take n = List.replicate n (Value.int .i64 (-1)) := by simp [RowN]
  have e2 : (RowN len n).drop (n + m) = List.replicate (len - (n + m)) (Value.int .i64 0) := by
    rw [RowN, List.drop_append]
    simp
    omega
  simp only [e1, e2]
  rw [RowN, List.replicate_append_replicate]

set_option maxRecDepth 100000 in
set_option maxHeartbeats 2000000 in
theorem rep141 (len : Nat) (h0 : 0 < len) (hl : len ≤ 24) : Rep141 len := by
  intro w b hc
  refine calls_of_wp Tryz.func47 rfl ?_
  simp only [Tryz.ntmps47, List.size_toArray, List.length_cons, List.length_nil, Nat.reduceAdd, Nat.reduceSub, Array.replicate_succ, Array.replicate_zero, List.push_toArray, List.append_toArray, List.nil_append, List.cons_append]
  have w1 := Go.Proofs.Mul64.wrapN len (by omega)
  obtain ⟨i0, hi, hz0, hz1, hz2⟩ := info_parts info3
  have e3 : decide ((9223372036854775807 : Int) < (len : Int)) = false := by simp; omega
  have hmk := run_makeSlice (P := Tryz.prog) (w := w) 52 3 i0 _ Tryz.underlying52 hi hz0 .i64 .i64 (len : Int) (len : Int) (by omega) (by omega) (by rw [hz1]; simp; omega) (by rw [hz2]; omega) (by omega)
  rw [hz1, Int.toNat_natCast, made0] at hmk
  obtain ⟨w2, hw2⟩ : ∃ w2, w.alloc (.cells (List.replicate len (Value.int .i64 0)).toArray 3) = w2 := ⟨_, rfl⟩
  rw [hw2] at hmk
  have hgl : w.heap.size < w2.heap.size := by rw [← hw2]; simp
  have hg2 : w2.heap[w.heap.size]? = some (.cells (List.replicate len (Value.int .i64 0)).toArray 3 (0, 0)) := by rw [← hw2]; exact World.alloc_heap_new _ _
  have hcb : w2.cell? ⟨b, 0, none⟩ = some (.int .i64 (-1)) := by
    have hblt := World.block_lt_of_cell? w _ hc
    rw [← hw2]
    exact (World.cell?_of_block (Below.heap_alloc _ _ _ hblt)).trans hc
  have hsz : (Tryz.prog.info? 3).map (·.size) = some 1 := by rw [hi]; simp [hz1]
  have hcp := run_copy_row (P := Tryz.prog) w2 52 52 3 3 w.heap.size 0 len len ⟨b, 0, none⟩ 1 1 (List.replicate len (Value.int .i64 0)).toArray 3 [.int .i64 (-1)] Tryz.underlying52 hsz hg2 (by show 1 = min 1 len; omega) (by
    intro j v hj
    cases j with
    | zero => simp at hj; subst hj; simpa [Addr.add] using hcb
    | succ j => simp at hj) (by simp; omega) (by simp [Value.oneCell'])
  generalize hw3 : w2.setRow _ _ = w3 at hcp
  have hg3 : w3.heap[w.heap.size]? = some (.cells (RowN len 1).toArray 3 (0, 0)) := by
    rw [← hw3, setRow_heap _ _ _ _ _ _ hg2]
    simp [RowN]
  have hE3 : Ext w w3 [] := by
    rw [← hw3, ← hw2]
    exact ⟨rfl, rfl, rfl, by simp [World.setRow], fun k hk _ => (setRow_other _ _ k _ (by omega)).trans (Below.heap_alloc _ _ _ hk)⟩
  obtain ⟨g, hgd⟩ : ∃ g, w.heap.size = g := ⟨_, rfl⟩
  have hE2 : Ext w w2 [] := by rw [← hw2]; exact Ext.alloc _ _ _
  have hE23 : Ext w2 w3 [g] := by
    rw [← hw3]
    exact ⟨rfl, rfl, rfl, by simp [World.setRow], fun k hk hn => setRow_other _ _ k _ (by simp at hn; omega)⟩
  rw [hgd] at hmk hcp hg3
  go_wp2_with (go_at_call 69; refine (callsIn_wide.1 (mul173 Fence.wide 0 trivial trivial rfl rfl len (by omega) _)).mono ?_; rintro e w' ⟨rfl, rfl⟩)
  go_loopw [8] (fun a wr => ∃ n : Nat, 0 < n ∧ n ≤ len ∧ a = .int .i64 (n : Int) ∧ wr.heap[g]? = some (Obj.cells (RowN len n).toArray 3 (0, 0)) ∧ Ext w2 wr [g]) (fun a _ => len - (intOf a).toNat)
  case atStart => exact ⟨1, by omega, by omega, rfl, hg3, hE23⟩
  case round =>
    obtain ⟨n, n0, n1, rfl, hgr, hER⟩ := hrel
    by_cases hlt : n < len
    · have hcells : ∀ j v, (List.replicate (min n (len - n)) (Value.int .i64 (-1)))[j]? = some v → wr.cell? ((⟨g, 0, none⟩ : Addr).add j) = some v := by
        intro j v hj
        obtain ⟨hj1, rfl⟩ := List.getElem?_eq_some_iff.1 hj
        simp at hj1
        have ea : ((⟨g, 0, none⟩ : Addr).add j) = ⟨g, j, none⟩ := by cases j <;> simp [Addr.add]
        rw [ea, cell_of_cells hgr]
        simp only [List.getElem?_toArray, RowN]
        rw [List.getElem?_append_left (by simp; omega), List.getElem?_replicate, if_pos (by omega), List.getElem_replicate]
      have hcq := run_copy_row (P := Tryz.prog) wr.drew 52 52 3 3 g n (len - n) (len - n) ⟨g, 0, none⟩ n len (RowN len n).toArray 3 (List.replicate (min n (len - n)) (Value.int .i64 (-1))) Tryz.underlying52 hsz hgr (by simp) hcells (by simp [RowN]; omega) (by intro v hv; rw [(List.mem_replicate.1 hv).2]; rfl)
      generalize hw4 : wr.drew.setRow g _ = w4 at hcq
      have hg4 : w4.heap[g]? = some (.cells (RowN len (n + min n (len - n))).toArray 3 (0, 0)) := by
        rw [← hw4, setRow_heap _ _ _ _ _ _ (show wr.drew.heap[g]? = _ from hgr)]
        have := RowN_copy (len := len) (n := n) (m := min n (len - n)) (by omega)
        rw [← this]
        simp
      have hE4 : Ext wr w4 [g] := by
        rw [← hw4]
        exact ⟨rfl, rfl, rfl, by simp [World.setRow], fun k hk hn => setRow_other _ _ k _ (by simp at hn; omega)⟩
      rw [List.length_replicate] at hcq
      go_wp2
      go_region
      all_goals go_wp2
      exact ⟨⟨n + min n (len - n), by omega, by omega, by simp, hg4, hER.trans hE4 fun k hk _ => hk⟩, by simp [intOf]; omega⟩
    · obtain rfl : n = len := by omega
      go_wp2
      refine bodyPost_ret (results_tmp rfl _ _ _) rfl ?_
      refine ⟨g, rfl, hE2.trans hER fun k hk hlt => by simp at hk; omega, by omega, ?_⟩
      rw [hgr]
      simp [RowN]
end Go.Proofs.Sizes

namespace Go.AM
set_option linter.unusedVariables false
set_option linter.unusedSimpArgs false
theorem d24 (l : List Ty) (hl : (l.length : Int) ≤ 1048576) (hs : ∀ s ∈ l, s.sm) (ht : tabOk l = true) : Does Go.Proofs.Tryz.prog 24 [.fsl 6 (l.map Ty.z)] false (.usl 3 1 ((sizesL l).map iv)) [.dead] :=
  ⟨by decide +kernel, Go.Proofs.Sizes.c24 l hl hs ht (Go.Proofs.Sizes.rep141 l.length (by have := (tysOk_len (tabOk_tys ht)).1; omega) (tabOk_len ht))⟩

end Go.AM
namespace Go.AM
set_option linter.unusedVariables false
set_option linter.unusedSimpArgs false
/-- loop.example/g00837/laws.eqPlace -/
def m39 : MC :=
  (.seq
   (.reg [⟨(some 2), none, .a (.box 31 (.t 0))⟩,
     ⟨(some 3), none, .a (.box 31 (.t 1))⟩,
     ⟨(some 4), none, .a (.asg (.c (.bool false)))⟩])
   (.seq
    (.seq
     (.reg [⟨(some 5), none, .q (.fad 0 (.t 2))⟩,
       ⟨(some 6), none, .q (.load false 1 (.t 5))⟩,
       ⟨(some 7), none, .q (.fad 0 (.t 3))⟩,
       ⟨(some 8), none, .q (.load false 1 (.t 7))⟩,
       ⟨(some 9), none, .q (.bin false .neq (.t 6) (.t 8))⟩])
     (.cond (.t 9)
      (.seq
       (.reg [⟨(some 4), none, .a (.asg (.c (.bool false)))⟩])
       .ret)
      .skip))
    (.seq
     (.seq
      (.reg [⟨(some 10), none, .q (.fad 1 (.t 2))⟩,
        ⟨(some 11), none, .q (.load false 1 (.t 10))⟩,
        ⟨(some 12), none, .q (.fad 1 (.t 3))⟩,
        ⟨(some 13), none, .q (.load false 1 (.t 12))⟩,
        ⟨(some 14), none, .q (.bin false .neq (.t 11) (.t 13))⟩])
      (.cond (.t 14)
       (.seq
        (.reg [⟨(some 4), none, .a (.asg (.c (.bool false)))⟩])
        .ret)
       .skip))
     (.seq
      (.seq
       (.reg [⟨(some 15), none, .q (.fad 2 (.t 2))⟩,
         ⟨(some 16), none, .q (.load false 1 (.t 15))⟩,
         ⟨(some 17), none, .q (.fad 2 (.t 3))⟩,
         ⟨(some 18), none, .q (.load false 1 (.t 17))⟩,
         ⟨(some 19), none, .q (.bin false .neq (.t 16) (.t 18))⟩])
       (.cond (.t 19)
        (.seq
         (.reg [⟨(some 4), none, .a (.asg (.c (.bool false)))⟩])
         .ret)
        .skip))
      (.seq
       (.reg [⟨(some 4), none, .a (.asg (.c (.bool true)))⟩])
       .ret)))))

set_option maxRecDepth 100000 in
theorem d39 (s : Fd) (hs : s.sm) : Does Go.Proofs.Tryz.prog 39 [.agg s.z, .agg s.z] false (.v (.bool true)) [.dead, .dead] := by
  unfold Fd.sm at hs
  refine does_intro (mc := m39) (N := 20) (rs := [4]) (fx := []) 2 rfl (by decide +kernel) ?_
  simp only [m39, Fd.z, EV, Nat.reduceEqDiff, Nat.reduceBEq, Nat.reduceLT, Nat.reduceLeDiff, Nat.reduceAdd, Nat.reduceSub, reduceIte]
  simp only [EV, Nat.reduceEqDiff, Nat.reduceBEq, Nat.reduceLT, Nat.reduceLeDiff, Nat.reduceAdd, Nat.reduceSub, reduceIte, evRE, retVC, cellV', evR, nfz, nfzs, nfzss, List.contains_nil, List.contains_cons, Bool.or_false, or_true]

/-- loop.example/g00837/laws.eqPlaceS -/
def m17 : MC :=
  (.seq
   (.reg [⟨(some 4), none, .a (.asg (.c (.bool false)))⟩])
   (.seq
    (.seq
     (.reg [⟨(some 6), none, .q (.mov (.t 0))⟩,
       ⟨(some 7), none, .q (.len false (.t 6))⟩,
       ⟨(some 8), none, .q (.mov (.t 1))⟩,
       ⟨(some 9), none, .q (.len false (.t 8))⟩,
       ⟨(some 10), none, .q (.bin false .neq (.t 7) (.t 9))⟩])
     (.cond (.t 10)
      (.seq
       (.reg [⟨(some 4), none, .a (.asg (.c (.bool false)))⟩])
       .ret)
      .skip))
    (.seq
     (.seq
      (.reg [⟨(some 5), none, .a (.asg (.c (.int .i64 0)))⟩])
      (.block 0
       (.loop [0, 1, 5]
        (.seq
         (.seq
          (.reg [⟨(some 11), none, .q (.mov (.t 5))⟩,
            ⟨(some 12), none, .q (.mov (.t 0))⟩,
            ⟨(some 13), none, .q (.len false (.t 12))⟩,
            ⟨(some 14), none, .q (.bin false .lss (.t 11) (.t 13))⟩])
          (.cond (.t 14)
           .skip
           (.exit 0)))
         (.seq
          (.block 1
           (.seq
            (.dreg [⟨(some 17), none, .q (.mov (.t 0))⟩,
              ⟨(some 18), none, .q (.mov (.t 5))⟩,
              ⟨(some 19), none, .q (.iad 3 (.t 17) (.t 18))⟩,
              ⟨(some 20), none, .q (.load true 3 (.t 19))⟩,
              ⟨(some 21), none, .q (.mov (.t 1))⟩,
              ⟨(some 22), none, .q (.mov (.t 5))⟩,
              ⟨(some 23), none, .q (.iad 3 (.t 21) (.t 22))⟩,
              ⟨(some 24), none, .q (.load true 3 (.t 23))⟩,
              ⟨(some 25), none, .a (.call (.fn 39) false [.lend (.t 20), .lend (.t 24)])⟩,
              ⟨(some 26), none, .q (.un .not (.t 25))⟩])
            (.cond (.t 26)
             (.seq
              (.reg [⟨(some 4), none, .a (.asg (.c (.bool false)))⟩])
              .ret)
             .skip)))
          (.reg [⟨(some 15), none, .q (.mov (.t 5))⟩,
            ⟨(some 16), none, .q (.bin false .add (.t 15) (.c (.int .i64 1)))⟩,
            ⟨(some 5), none, .a (.asg (.t 16))⟩]))))))
     (.seq
      (.reg [⟨(some 4), none, .a (.asg (.c (.bool true)))⟩])
      .ret))))

theorem d17 (l : List Fd) (hl : (l.length : Int) ≤ 1048576) (hs : ∀ s ∈ l, s.sm) : Does Go.Proofs.Tryz.prog 17 [.fsl 3 (l.map Fd.z), .fsl 3 (l.map Fd.z)] false (.v (.bool true)) [.dead, .dead] := by
  refine does_intro (mc := m17) (N := 27) (rs := [4]) (fx := []) 2 rfl (by decide +kernel) ?_
  simp only [m17, EV, Nat.reduceEqDiff, Nat.reduceBEq, Nat.reduceLT, Nat.reduceLeDiff, Nat.reduceAdd, Nat.reduceSub, reduceIte]
  refine awp_loop (fun i : Nat => i ≤ l.length) (fun i => stl [(0, .fsl 3 (l.map Fd.z)), (1, .fsl 3 (l.map Fd.z)), (5, .v (.int .i64 (i : Int)))]) (fun i => l.length - i) 0 (Nat.zero_le _) ?_ ?_
  · simp only [EV, Nat.reduceEqDiff, Nat.reduceBEq, Nat.reduceLT, Nat.reduceLeDiff, Nat.reduceAdd, Nat.reduceSub, reduceIte]
    rfl
  · intro i hi
    simp only [EV, Nat.reduceEqDiff, Nat.reduceBEq, Nat.reduceLT, Nat.reduceLeDiff, Nat.reduceAdd, Nat.reduceSub, reduceIte]
    refine cK_cut (fun h => ?_) (fun h => ?_)
    · have h1 : i < l.length := by simpa using h
      have h2 : (i : Int) < (l.length : Int) := by omega
      simp only [FdE, nth_map h1, h2, EV, Nat.reduceEqDiff, Nat.reduceBEq, Nat.reduceLT, Nat.reduceLeDiff, Nat.reduceAdd, Nat.reduceSub, reduceIte]
      refine callD_i (d39 l[i] (hs l[i] (List.getElem_mem h1))) rfl ?_
      simp only [EV, Nat.reduceEqDiff, Nat.reduceBEq, Nat.reduceLT, Nat.reduceLeDiff, Nat.reduceAdd, Nat.reduceSub, reduceIte]
      refine ⟨i + 1, by omega, by omega, ?_⟩
      rw [w64 _ (by omega)]
      rfl
    · have h1 : i = l.length := by have : ¬ (i : Int) < l.length := by simpa using h
                                   omega
      simp only [EV, Nat.reduceEqDiff, Nat.reduceBEq, Nat.reduceLT, Nat.reduceLeDiff, Nat.reduceAdd, Nat.reduceSub, reduceIte]
      simp only [EV, Nat.reduceEqDiff, Nat.reduceBEq, Nat.reduceLT, Nat.reduceLeDiff, Nat.reduceAdd, Nat.reduceSub, reduceIte, evRE, retVC, cellV', evR, nfz, nfzs, nfzss, List.contains_nil, List.contains_cons, Bool.or_false, or_true]

/-- loop.example/g00837/laws.markPlaceS -/
def m20 : MC :=
  (.seq
   (.reg [⟨(some 4), none, .a (.asg (.c (.int .i64 0)))⟩])
   (.seq
    (.seq
     (.reg [⟨(some 5), none, .a (.asg (.c (.int .i64 0)))⟩])
     (.block 0
      (.loop [0, 1, 5]
       (.seq
        (.seq
         (.reg [⟨(some 6), none, .q (.mov (.t 5))⟩,
           ⟨(some 7), none, .q (.mov (.t 0))⟩,
           ⟨(some 8), none, .q (.len false (.t 7))⟩,
           ⟨(some 9), none, .q (.bin false .lss (.t 6) (.t 8))⟩])
         (.cond (.t 9)
          .skip
          (.exit 0)))
        (.seq
         (.block 1
          (.seq
           (.reg [⟨(some 12), none, .q (.mov (.t 0))⟩,
             ⟨(some 13), none, .q (.mov (.t 5))⟩,
             ⟨(some 14), none, .q (.mov (.t 1))⟩,
             ⟨(some 15), none, .a (.call (.fn 42) false [.lend (.t 14)])⟩,
             ⟨(some 16), none, .q (.iad 3 (.t 12) (.t 13))⟩,
             ⟨(some 17), none, .q (.fad 0 (.t 16))⟩,
             ⟨none, none, .a (.store 1 (.t 17) (.t 15))⟩])
           (.seq
            (.reg [⟨(some 18), none, .q (.mov (.t 1))⟩,
              ⟨(some 19), none, .q (.bin false .add (.t 18) (.c (.int .i64 1)))⟩,
              ⟨(some 1), none, .a (.asg (.t 19))⟩])
            (.seq
             (.reg [⟨(some 20), none, .q (.mov (.t 0))⟩,
               ⟨(some 21), none, .q (.mov (.t 5))⟩,
               ⟨(some 22), none, .q (.mov (.t 1))⟩,
               ⟨(some 23), none, .q (.iad 3 (.t 20) (.t 21))⟩,
               ⟨(some 24), none, .q (.fad 1 (.t 23))⟩,
               ⟨none, none, .a (.store 1 (.t 24) (.t 22))⟩])
             (.seq
              (.reg [⟨(some 25), none, .q (.mov (.t 1))⟩,
                ⟨(some 26), none, .q (.bin false .add (.t 25) (.c (.int .i64 1)))⟩,
                ⟨(some 1), none, .a (.asg (.t 26))⟩])
              (.seq
               (.reg [⟨(some 27), none, .q (.mov (.t 0))⟩,
                 ⟨(some 28), none, .q (.mov (.t 5))⟩,
                 ⟨(some 29), none, .q (.mov (.t 1))⟩,
                 ⟨(some 30), none, .q (.iad 3 (.t 27) (.t 28))⟩,
                 ⟨(some 31), none, .q (.fad 2 (.t 30))⟩,
                 ⟨none, none, .a (.store 1 (.t 31) (.t 29))⟩])
               (.reg [⟨(some 32), none, .q (.mov (.t 1))⟩,
                 ⟨(some 33), none, .q (.bin false .add (.t 32) (.c (.int .i64 1)))⟩,
                 ⟨(some 1), none, .a (.asg (.t 33))⟩])))))))
         (.reg [⟨(some 10), none, .q (.mov (.t 5))⟩,
           ⟨(some 11), none, .q (.bin false .add (.t 10) (.c (.int .i64 1)))⟩,
           ⟨(some 5), none, .a (.asg (.t 11))⟩]))))))
    (.seq
     (.reg [⟨(some 34), none, .q (.mov (.t 1))⟩,
       ⟨(some 4), none, .a (.asg (.t 34))⟩])
     .ret)))

theorem d20 (l : List Fd) (k : Int) (h0 : 0 ≤ k) (h1 : k + 3 * l.length ≤ 4611686018427387904) :
    Does Go.Proofs.Tryz.prog 20 [.usl 31 3 (l.map Fd.o), .v (.int .i64 k)] false (.v (.int .i64 (k + 3 * l.length))) [.usl 31 3 ((mkFdS l k).map Fd.o), .dead] := by
  refine does_intro (mc := m20) (N := 35) (rs := [4]) (fx := [0]) 2 rfl (by decide +kernel) ?_
  simp only [m20, EV, Nat.reduceEqDiff, Nat.reduceBEq, Nat.reduceLT, Nat.reduceLeDiff, Nat.reduceAdd, Nat.reduceSub, reduceIte]
  refine awp_loop (fun p : List Fd × List Fd × Int => p.1 ++ mkFdS p.2.1 p.2.2 = mkFdS l k ∧ p.2.2 + 3 * p.2.1.length = k + 3 * l.length ∧ 0 ≤ p.2.2 ∧ p.1.length + p.2.1.length = l.length)
    (fun p => stl [(0, .usl 31 3 ((p.1 ++ p.2.1).map Fd.o)), (1, .v (.int .i64 p.2.2)), (5, .v (.int .i64 (p.1.length : Int)))]) (fun p => p.2.1.length) ([], l, k) ⟨rfl, rfl, h0, by simp⟩ ?_ ?_
  · simp only [EV, Nat.reduceEqDiff, Nat.reduceBEq, Nat.reduceLT, Nat.reduceLeDiff, Nat.reduceAdd, Nat.reduceSub, reduceIte]
    rfl
  · rintro ⟨pre, post, n⟩ ⟨p0, p1, p2, p3⟩
    cases post with
    | nil =>
      simp only [EV, Nat.reduceEqDiff, Nat.reduceBEq, Nat.reduceLT, Nat.reduceLeDiff, Nat.reduceAdd, Nat.reduceSub, reduceIte]
      refine cK_cut (fun h => ?_) (fun h => ?_)
      · simp at h
      · simp only [EV, Nat.reduceEqDiff, Nat.reduceBEq, Nat.reduceLT, Nat.reduceLeDiff, Nat.reduceAdd, Nat.reduceSub, reduceIte]
        simp only [List.append_nil, mkFdS, List.length_nil] at p0 p1
        have e : n = k + 3 * l.length := by simp at p1; omega
        simp only [p0, ← e, EV, Nat.reduceEqDiff, Nat.reduceBEq, Nat.reduceLT, Nat.reduceLeDiff, Nat.reduceAdd, Nat.reduceSub, reduceIte, evRE, retVC, cellV', evR, nfz, nfzs, nfzss, List.contains_nil, List.contains_cons, Bool.or_false, or_true]
    | cons f post =>
      simp only [EV, Nat.reduceEqDiff, Nat.reduceBEq, Nat.reduceLT, Nat.reduceLeDiff, Nat.reduceAdd, Nat.reduceSub, reduceIte]
      refine cK_cut (fun h => ?_) (fun h => ?_)
      rotate_left
      · simp at h; omega
      simp only at p0 p1 p2 p3
      simp only [List.length_cons] at p1 p3
      have h3 : (pre.length : Int) < ((pre ++ f :: post).length : Int) := by simp; omega
      have h4 : pre.length < ((pre ++ f :: post).map Fd.o).length := by simp
      have e1 : nth ((pre ++ f :: post).map Fd.o) pre.length = f.o := nth_mid
      generalize hR : (pre ++ f :: post).map Fd.o = R at h4 e1 ⊢
      have hRl : R.length = l.length := by rw [← hR]; simp; omega
      have h5 : (pre.length : Int) < (R.length : Int) := by omega
      have w0 := w64 ((pre.length : Int) + 1) (by omega)
      have w1 := w64 (n + 1) (by omega)
      have w2 := w64 (n + 1 + 1) (by omega)
      have w3 := w64 (n + 1 + 1 + 1) (by omega)
      simp only [h4, h5, e1, nth_set h4, List.getElem?_set_self h4, modify_set, Fd.o, w1, w2, w3, w0, EV, Nat.reduceEqDiff, Nat.reduceBEq, Nat.reduceLT, Nat.reduceLeDiff, Nat.reduceAdd, Nat.reduceSub, reduceIte]
      refine callK_i (d42 (n) (by omega) (by omega)) ?_
      simp only [h4, h5, e1, nth_set h4, List.getElem?_set_self h4, modify_set, Fd.o, w1, w2, w3, w0, EV, Nat.reduceEqDiff, Nat.reduceBEq, Nat.reduceLT, Nat.reduceLeDiff, Nat.reduceAdd, Nat.reduceSub, reduceIte]
      refine ⟨(pre ++ [mkFd n], post, n + 3), ⟨?_, ?_, ?_, ?_⟩, ?_, ?_⟩
      · rw [← p0]; simp [mkFdS]
      · simp only; omega
      · simp only; omega
      · simp only [List.length_append, List.length_cons, List.length_nil]; omega
      · simp only; omega
      · have e2 := set_mid (g := Fd.o) (pre := pre) (post := post) (t := f) (mkFd n)
        rw [hR] at e2
        simp only [Fd.o, mkFd] at e2
        simp only [← e2, mkFd, List.length_append, List.length_cons, List.length_nil, Int.add_assoc]
        rfl

/-- loop.example/g00837/laws.heldPlaceS -/
def m21 : MC :=
  (.seq
   (.reg [⟨(some 4), none, .a (.asg (.c (.int .i64 0)))⟩])
   (.seq
    (.seq
     (.reg [⟨(some 5), none, .a (.asg (.c (.int .i64 0)))⟩])
     (.block 0
      (.loop [0, 1, 5]
       (.seq
        (.seq
         (.reg [⟨(some 6), none, .q (.mov (.t 5))⟩,
           ⟨(some 7), none, .q (.mov (.t 0))⟩,
           ⟨(some 8), none, .q (.len false (.t 7))⟩,
           ⟨(some 9), none, .q (.bin false .lss (.t 6) (.t 8))⟩])
         (.cond (.t 9)
          .skip
          (.exit 0)))
        (.seq
         (.block 1
          (.seq
           (.seq
            (.dreg [⟨(some 12), none, .q (.mov (.t 0))⟩,
              ⟨(some 13), none, .q (.mov (.t 5))⟩,
              ⟨(some 14), none, .q (.iad 3 (.t 12) (.t 13))⟩,
              ⟨(some 15), none, .q (.fad 0 (.t 14))⟩,
              ⟨(some 16), none, .q (.load false 1 (.t 15))⟩,
              ⟨(some 17), none, .q (.mov (.t 1))⟩,
              ⟨(some 18), none, .a (.call (.fn 42) false [.lend (.t 17)])⟩,
              ⟨(some 19), none, .q (.bin false .neq (.t 16) (.t 18))⟩])
            (.cond (.t 19)
             (.seq
              (.reg [⟨(some 4), none, .a (.asg (.c (.int .i64 (-1))))⟩])
              .ret)
             .skip))
           (.seq
            (.reg [⟨(some 20), none, .q (.mov (.t 1))⟩,
              ⟨(some 21), none, .q (.bin false .add (.t 20) (.c (.int .i64 1)))⟩,
              ⟨(some 1), none, .a (.asg (.t 21))⟩])
            (.seq
             (.seq
              (.reg [⟨(some 22), none, .q (.mov (.t 0))⟩,
                ⟨(some 23), none, .q (.mov (.t 5))⟩,
                ⟨(some 24), none, .q (.iad 3 (.t 22) (.t 23))⟩,
                ⟨(some 25), none, .q (.fad 1 (.t 24))⟩,
                ⟨(some 26), none, .q (.load false 1 (.t 25))⟩,
                ⟨(some 27), none, .q (.mov (.t 1))⟩,
                ⟨(some 28), none, .q (.bin false .neq (.t 26) (.t 27))⟩])
              (.cond (.t 28)
               (.seq
                (.reg [⟨(some 4), none, .a (.asg (.c (.int .i64 (-1))))⟩])
                .ret)
               .skip))
             (.seq
              (.reg [⟨(some 29), none, .q (.mov (.t 1))⟩,
                ⟨(some 30), none, .q (.bin false .add (.t 29) (.c (.int .i64 1)))⟩,
                ⟨(some 1), none, .a (.asg (.t 30))⟩])
              (.seq
               (.seq
                (.reg [⟨(some 31), none, .q (.mov (.t 0))⟩,
                  ⟨(some 32), none, .q (.mov (.t 5))⟩,
                  ⟨(some 33), none, .q (.iad 3 (.t 31) (.t 32))⟩,
                  ⟨(some 34), none, .q (.fad 2 (.t 33))⟩,
                  ⟨(some 35), none, .q (.load false 1 (.t 34))⟩,
                  ⟨(some 36), none, .q (.mov (.t 1))⟩,
                  ⟨(some 37), none, .q (.bin false .neq (.t 35) (.t 36))⟩])
                (.cond (.t 37)
                 (.seq
                  (.reg [⟨(some 4), none, .a (.asg (.c (.int .i64 (-1))))⟩])
                  .ret)
                 .skip))
               (.reg [⟨(some 38), none, .q (.mov (.t 1))⟩,
                 ⟨(some 39), none, .q (.bin false .add (.t 38) (.c (.int .i64 1)))⟩,
                 ⟨(some 1), none, .a (.asg (.t 39))⟩])))))))
         (.reg [⟨(some 10), none, .q (.mov (.t 5))⟩,
           ⟨(some 11), none, .q (.bin false .add (.t 10) (.c (.int .i64 1)))⟩,
           ⟨(some 5), none, .a (.asg (.t 11))⟩]))))))
    (.seq
     (.reg [⟨(some 40), none, .q (.mov (.t 1))⟩,
       ⟨(some 4), none, .a (.asg (.t 40))⟩])
     .ret)))

theorem d21 (l : List Fd) (k : Int) (h0 : 0 ≤ k) (h1 : k + 3 * l.length ≤ 4611686018427387904) :
    Does Go.Proofs.Tryz.prog 21 [.fsl 3 ((mkFdS l k).map Fd.z), .v (.int .i64 k)] false (.v (.int .i64 (k + 3 * l.length))) [.dead, .dead] := by
  have hl : (mkFdS l k).length = l.length := mkFdS_len l k
  generalize hM0 : mkFdS l k = M at hl ⊢
  refine does_intro (mc := m21) (N := 41) (rs := [4]) (fx := []) 2 rfl (by decide +kernel) ?_
  simp only [m21, EV, Nat.reduceEqDiff, Nat.reduceBEq, Nat.reduceLT, Nat.reduceLeDiff, Nat.reduceAdd, Nat.reduceSub, reduceIte]
  refine awp_loop (fun p : List Fd × List Fd × Int => M = p.1 ++ mkFdS p.2.1 p.2.2 ∧ p.2.2 + 3 * p.2.1.length = k + 3 * l.length ∧ 0 ≤ p.2.2 ∧ p.1.length + p.2.1.length = l.length)
    (fun p => stl [(0, .fsl 3 (M.map Fd.z)), (1, .v (.int .i64 p.2.2)), (5, .v (.int .i64 (p.1.length : Int)))]) (fun p => p.2.1.length) ([], l, k) ⟨by rw [← hM0]; rfl, rfl, h0, by simp⟩ ?_ ?_
  · simp only [EV, Nat.reduceEqDiff, Nat.reduceBEq, Nat.reduceLT, Nat.reduceLeDiff, Nat.reduceAdd, Nat.reduceSub, reduceIte]
    rfl
  · rintro ⟨pre, post, n⟩ ⟨p0, p1, p2, p3⟩
    simp only at p0 p1 p2 p3
    cases post with
    | nil =>
      simp only [EV, Nat.reduceEqDiff, Nat.reduceBEq, Nat.reduceLT, Nat.reduceLeDiff, Nat.reduceAdd, Nat.reduceSub, reduceIte]
      refine cK_cut (fun h => ?_) (fun h => ?_)
      · simp at h p3; omega
      · simp only [EV, Nat.reduceEqDiff, Nat.reduceBEq, Nat.reduceLT, Nat.reduceLeDiff, Nat.reduceAdd, Nat.reduceSub, reduceIte]
        have e : n = k + 3 * l.length := by simp at p1; omega
        simp only [← e, EV, Nat.reduceEqDiff, Nat.reduceBEq, Nat.reduceLT, Nat.reduceLeDiff, Nat.reduceAdd, Nat.reduceSub, reduceIte, evRE, retVC, cellV', evR, nfz, nfzs, nfzss, List.contains_nil, List.contains_cons, Bool.or_false, or_true]
    | cons f post =>
      simp only [EV, Nat.reduceEqDiff, Nat.reduceBEq, Nat.reduceLT, Nat.reduceLeDiff, Nat.reduceAdd, Nat.reduceSub, reduceIte]
      simp only [List.length_cons] at p1 p3
      refine cK_cut (fun h => ?_) (fun h => ?_)
      rotate_left
      · simp at h; omega
      have h5 : (pre.length : Int) < (M.length : Int) := by omega
      have e1 : nth (M.map Fd.z) pre.length = Fd.z (mkFd n) := by rw [p0]; exact nth_mid
      have w0 := w64 ((pre.length : Int) + 1) (by omega)
      have w1 := w64 (n + 1) (by omega)
      have w2 := w64 (n + 1 + 1) (by omega)
      have w3 := w64 (n + 2 + 1) (by omega)
      have q2 : n + 1 + 1 = n + 2 := by omega
      have q3 : n + 2 + 1 = n + 3 := by omega
      rw [q2] at w2
      rw [q3] at w3
      simp only [h5, e1, Fd.z, mkFd, w1, w2, w3, q2, q3, w0, EV, Nat.reduceEqDiff, Nat.reduceBEq, Nat.reduceLT, Nat.reduceLeDiff, Nat.reduceAdd, Nat.reduceSub, reduceIte]
      refine callD_i (d42 (n) (by omega) (by omega)) rfl ?_
      simp only [h5, e1, Fd.z, mkFd, w1, w2, w3, q2, q3, w0, EV, Nat.reduceEqDiff, Nat.reduceBEq, Nat.reduceLT, Nat.reduceLeDiff, Nat.reduceAdd, Nat.reduceSub, reduceIte]
      refine ⟨(pre ++ [mkFd n], post, n + 3), ⟨?_, ?_, ?_, ?_⟩, ?_, ?_⟩
      · rw [p0]; simp [mkFdS]
      · simp only; omega
      · simp only; omega
      · simp only [List.length_append, List.length_cons, List.length_nil]; omega
      · simp only; omega
      · simp only [List.length_append, List.length_cons, List.length_nil]
        rfl

end Go.AM
namespace Go.AM
set_option linter.unusedVariables false
set_option linter.unusedSimpArgs false
def upL (n b : Int) : Int := (n + b - 1) / b * b

theorem upL_le {n b : Int} (h0 : 0 ≤ n) (h1 : 1 ≤ b) : n ≤ upL n b ∧ upL n b < n + b := by
  unfold upL
  have e1 := Int.emod_add_mul_ediv (n + b - 1) b
  have e2 := Int.emod_nonneg (n + b - 1) (show b ≠ 0 by omega)
  have e3 := Int.emod_lt_of_pos (n + b - 1) (show 0 < b by omega)
  have e4 := Int.mul_comm b ((n + b - 1) / b)
  omega

theorem upL_nn {n b : Int} (h0 : 0 ≤ n) (h1 : 1 ≤ b) : 0 ≤ (n + b - 1) / b ∧ (n + b - 1) / b ≤ n + b - 1 := by
  exact ⟨Int.ediv_nonneg (by omega) (by omega), Int.ediv_le_self _ (by omega)⟩

/-- loop.example/g00837/impl.lineUp -/
def m26 : MC :=
  (.seq
   (.reg [⟨(some 4), none, .a (.asg (.c (.int .i64 0)))⟩])
   (.seq
    (.reg [⟨(some 5), none, .q (.mov (.t 0))⟩,
      ⟨(some 6), none, .q (.mov (.t 1))⟩,
      ⟨(some 7), none, .q (.bin false .add (.t 5) (.t 6))⟩,
      ⟨(some 8), none, .q (.bin false .sub (.t 7) (.c (.int .i64 1)))⟩,
      ⟨(some 9), none, .q (.mov (.t 1))⟩,
      ⟨(some 10), none, .q (.bin false .quo (.t 8) (.t 9))⟩,
      ⟨(some 11), none, .q (.mov (.t 1))⟩,
      ⟨(some 12), none, .q (.bin false .mul (.t 10) (.t 11))⟩,
      ⟨(some 4), none, .a (.asg (.t 12))⟩])
    .ret))

theorem d26 (n b : Int) (h0 : 0 ≤ n) (h1 : n ≤ 1000000000000) (h2 : 1 ≤ b) (h3 : b ≤ 1000000000000) : Does Go.Proofs.Tryz.prog 26 [.v (.int .i64 n), .v (.int .i64 b)] false (.v (.int .i64 (upL n b))) [.dead, .dead] := by
  have e1 : (n + b - 1).tdiv b = (n + b - 1) / b := Int.tdiv_eq_ediv_of_nonneg (by omega)
  have g1 := upL_le h0 h2
  have g2 := upL_nn h0 h2
  have w1 := w64 (n + b) (by omega)
  have w2 := w64 (n + b - 1) (by omega)
  have w3 := w64 ((n + b - 1) / b) (by omega)
  have w4 : IntKind.i64.wrap ((n + b - 1) / b * b) = upL n b := w64 (upL n b) (by omega)
  have hb : b ≠ 0 := by omega
  refine does_intro (mc := m26) (N := 13) (rs := [4]) (fx := []) 2 rfl (by decide +kernel) ?_
  simp only [m26, w1, w2, e1, w3, w4, EV, Nat.reduceEqDiff, Nat.reduceBEq, Nat.reduceLT, Nat.reduceLeDiff, Nat.reduceAdd, Nat.reduceSub, reduceIte]
  refine ⟨hb, ?_⟩
  simp only [EV, Nat.reduceEqDiff, Nat.reduceBEq, Nat.reduceLT, Nat.reduceLeDiff, Nat.reduceAdd, Nat.reduceSub, reduceIte, evRE, retVC, cellV', evR, nfz, nfzs, nfzss, List.contains_nil, List.contains_cons, Bool.or_false, or_true]

/-- loop.example/g00837/spec.l10Up -/
def m36 : MC :=
  (.seq
   (.reg [⟨(some 4), none, .a (.asg (.c (.int .i64 0)))⟩])
   (.seq
    (.reg [⟨(some 5), none, .q (.mov (.t 0))⟩,
      ⟨(some 6), none, .q (.mov (.t 1))⟩,
      ⟨(some 7), none, .q (.bin false .add (.t 5) (.t 6))⟩,
      ⟨(some 8), none, .q (.bin false .sub (.t 7) (.c (.int .i64 1)))⟩,
      ⟨(some 9), none, .q (.mov (.t 1))⟩,
      ⟨(some 10), none, .q (.bin false .quo (.t 8) (.t 9))⟩,
      ⟨(some 11), none, .q (.mov (.t 1))⟩,
      ⟨(some 12), none, .q (.bin false .mul (.t 10) (.t 11))⟩,
      ⟨(some 4), none, .a (.asg (.t 12))⟩])
    .ret))

theorem d36 (n b : Int) (h0 : 0 ≤ n) (h1 : n ≤ 1000000000000) (h2 : 1 ≤ b) (h3 : b ≤ 1000000000000) : Does Go.Proofs.Tryz.prog 36 [.v (.int .i64 n), .v (.int .i64 b)] false (.v (.int .i64 (upL n b))) [.dead, .dead] := by
  have e1 : (n + b - 1).tdiv b = (n + b - 1) / b := Int.tdiv_eq_ediv_of_nonneg (by omega)
  have g1 := upL_le h0 h2
  have g2 := upL_nn h0 h2
  have w1 := w64 (n + b) (by omega)
  have w2 := w64 (n + b - 1) (by omega)
  have w3 := w64 ((n + b - 1) / b) (by omega)
  have w4 : IntKind.i64.wrap ((n + b - 1) / b * b) = upL n b := w64 (upL n b) (by omega)
  have hb : b ≠ 0 := by omega
  refine does_intro (mc := m36) (N := 13) (rs := [4]) (fx := []) 2 rfl (by decide +kernel) ?_
  simp only [m36, w1, w2, e1, w3, w4, EV, Nat.reduceEqDiff, Nat.reduceBEq, Nat.reduceLT, Nat.reduceLeDiff, Nat.reduceAdd, Nat.reduceSub, reduceIte]
  refine ⟨hb, ?_⟩
  simp only [EV, Nat.reduceEqDiff, Nat.reduceBEq, Nat.reduceLT, Nat.reduceLeDiff, Nat.reduceAdd, Nat.reduceSub, reduceIte, evRE, retVC, cellV', evR, nfz, nfzs, nfzss, List.contains_nil, List.contains_cons, Bool.or_false, or_true]

end Go.AM
namespace Go.AM
set_option linter.unusedVariables false
set_option linter.unusedSimpArgs false
def byOf (g : Int) : Int := max 1 (min 8 g)

theorem byOf_in (g : Int) : 1 ≤ byOf g ∧ byOf g ≤ 8 := by unfold byOf; omega

def layStep (g : Int → Int) (s : Option (List Fd × Int)) (f : Fd) : Option (List Fd × Int) := match s with
  | none => none
  | some (out, e) => if (decide (1000000000 < g f.typ) || decide (1000000000 < upL e (byOf (g f.typ)))) = true then none
    else some (out ++ [⟨f.name, upL e (byOf (g f.typ)), g f.typ⟩], upL e (byOf (g f.typ)) + g f.typ)

def layS (g : Int → Int) (fs : List Fd) : Option (List Fd × Int) := fs.foldl (layStep g) (some ([], 0))

theorem lay_none (g : Int → Int) : ∀ fs : List Fd, fs.foldl (layStep g) none = none
  | [] => rfl
  | f :: fs => lay_none g fs

theorem layS_app (g : Int → Int) (a b : List Fd) : layS g (a ++ b) = b.foldl (layStep g) (layS g a) := by unfold layS; rw [List.foldl_append]

theorem layS_take (g : Int → Int) {fs : List Fd} {i : Nat} (h : i < fs.length) : layS g (fs.take (i + 1)) = layStep g (layS g (fs.take i)) fs[i] := by
  rw [List.take_succ_eq_append_getElem h, layS_app]; rfl

theorem layS_cut (g : Int → Int) {fs : List Fd} {i : Nat} (h : layS g (fs.take i) = none) : layS g fs = none := by
  rw [← List.take_append_drop i fs, layS_app, h]; exact lay_none g _

/-- What is known of places that were laid. -/
theorem layS_ok {g : Int → Int} (hg : ∀ k, 0 ≤ g k) (fs : List Fd) : ∀ (i : Nat), i ≤ fs.length → ∀ {out : List Fd} {e : Int}, layS g (fs.take i) = some (out, e) → out.length = i ∧ 0 ≤ e ∧ e ≤ 2000000000
  | 0, _, out, e, h => by
    simp only [List.take_zero, layS, List.foldl_nil, Option.some.injEq, Prod.mk.injEq] at h
    obtain ⟨rfl, rfl⟩ := h
    simp
  | i + 1, hi, out, e, h => by
    rw [layS_take g (by omega)] at h
    cases hl : layS g (fs.take i) with
    | none => rw [hl] at h; simp [layStep] at h
    | some p =>
      obtain ⟨o, e'⟩ := p
      obtain ⟨h1, h2, h3⟩ := layS_ok hg fs i (by omega) hl
      rw [hl] at h
      simp only [layStep] at h
      split at h
      · cases h
      · rename_i hn
        simp only [Bool.or_eq_true, decide_eq_true_eq, not_or] at hn
        simp only [Option.some.injEq, Prod.mk.injEq] at h
        obtain ⟨rfl, rfl⟩ := h
        have b1 := byOf_in (g fs[i].typ)
        have u := upL_le h2 b1.1
        have := hg fs[i].typ
        refine ⟨by simp [h1], by omega, by omega⟩

noncomputable def layO (l : List Ty) (n : Int) : Option (List Fd) := if recOk l n = true then (layS (sz l) (allF l n)).map (·.1) else none

theorem allL_typ {l : List Ty} (ht : tysOk l = true) : ∀ (ns : List Int), ∀ f ∈ allL l ns, isNum l f.typ = true
  | [], f, hf => by simp [allL] at hf
  | n :: ns, f, hf => by
    simp only [allL, List.mem_append] at hf
    rcases hf with hf | hf
    · exact allL_typ ht ns f hf
    · unfold fdsAt at hf
      split at hf
      · rename_i t h
        obtain ⟨hn, rfl⟩ := List.getElem?_eq_some_iff.1 h
        exact (tysOk_good ht hn).flds f hf
      · simp at hf

/-- loop.example/g00837/spec.l10Layout -/
def m28 : MC :=
  (.seq
   (.reg [⟨(some 4), none, .a (.asg (.nils 31 3))⟩,
     ⟨(some 5), none, .a (.asg (.c (.bool false)))⟩])
   (.seq
    (.reg [⟨(some 6), none, .a (.asg (.nils 31 3))⟩])
    (.seq
     (.reg [⟨(some 7), none, .a (.asg (.c (.int .i64 0)))⟩])
     (.seq
      (.seq
       (.reg [⟨(some 12), none, .q (.mov (.t 0))⟩,
         ⟨(some 13), none, .q (.mov (.t 1))⟩,
         ⟨(some 14), none, .a (.call (.fn 54) false [.lend (.t 12), .lend (.t 13)])⟩,
         ⟨(some 15), none, .q (.len false (.t 14))⟩,
         ⟨(some 16), none, .q (.mov (.c (.int .i64 0)))⟩])
       (.block 0
        (.loop [0, 6, 7, 14, 15, 16, 42]
         (.seq
          (.reg [⟨(some 17), none, .q (.bin false .lss (.t 16) (.t 15))⟩])
          (.seq
           (.cond (.t 17)
            .skip
            (.exit 0))
           (.seq
            (.block 1
             (.seq
              (.reg [⟨(some 18), none, .q (.iad 3 (.t 14) (.t 16))⟩,
                ⟨(some 19), none, .q (.load true 3 (.t 18))⟩,
                ⟨(some 9), none, .a (.alloc 56 [.v (.string ({ data := #[] })), .v (.int .i64 0), .v (.int .i64 0)])⟩,
                ⟨none, none, .a (.store 3 (.t 9) (.t 19))⟩])
              (.seq
               (.reg [⟨(some 20), none, .q (.mov (.t 0))⟩,
                 ⟨(some 21), none, .q (.fad 2 (.t 9))⟩,
                 ⟨(some 22), none, .q (.load false 1 (.t 21))⟩,
                 ⟨(some 23), none, .a (.call (.fn 55) false [.lend (.t 20), .lend (.t 22)])⟩,
                 ⟨(some 10), none, .a (.asg (.t 23))⟩])
               (.seq
                (.reg [⟨(some 24), none, .q (.mov (.t 7))⟩,
                  ⟨(some 25), none, .q (.mov (.t 10))⟩,
                  ⟨(some 26), none, .a (.call (.fn 57) false [.lend (.c (.int .i64 8)), .lend (.t 25)])⟩,
                  ⟨(some 27), none, .a (.call (.fn 56) false [.lend (.c (.int .i64 1)), .lend (.t 26)])⟩,
                  ⟨(some 28), none, .a (.call (.fn 36) false [.lend (.t 24), .lend (.t 27)])⟩,
                  ⟨(some 11), none, .a (.asg (.t 28))⟩])
                (.seq
                 (.seq
                  (.reg [⟨(some 29), none, .q (.mov (.t 10))⟩,
                    ⟨(some 30), none, .q (.bin false .gtr (.t 29) (.c (.int .i64 1000000000)))⟩,
                    ⟨(some 31), none, .q (.mov (.t 30))⟩,
                    ⟨(some 32), (some (31, false)), .q (.mov (.t 11))⟩,
                    ⟨(some 33), (some (31, false)), .q (.bin false .gtr (.t 32) (.c (.int .i64 1000000000)))⟩,
                    ⟨(some 34), none, .q (.pick (.t 31) (.c (.bool true)) (.t 33))⟩])
                  (.cond (.t 34)
                   (.seq
                    (.reg [⟨(some 4), none, .a (.asg (.nils 31 3))⟩,
                      ⟨(some 5), none, .a (.asg (.c (.bool false)))⟩])
                    .ret)
                   .skip))
                 (.seq
                  (.reg [⟨(some 35), none, .q (.mov (.t 6))⟩,
                    ⟨(some 36), none, .q (.fad 0 (.t 9))⟩,
                    ⟨(some 37), none, .q (.load false 1 (.t 36))⟩,
                    ⟨(some 38), none, .q (.mov (.t 11))⟩,
                    ⟨(some 39), none, .q (.mov (.t 10))⟩,
                    ⟨(some 40), none, .a (.build [0, 1, 2] [0, 1, 2] [1, 1, 1] [.v (.string ({ data := #[] })), .v (.int .i64 0), .v (.int .i64 0)] [.t 37, .t 38, .t 39])⟩,
                    ⟨(some 41), none, .a (.bsl 31 3 [.t 40])⟩,
                    ⟨(some 42), none, .a (.app true 31 3 32 (.t 35) (.t 41))⟩,
                    ⟨(some 6), none, .a (.asg (.t 42))⟩])
                  (.reg [⟨(some 43), none, .q (.mov (.t 11))⟩,
                    ⟨(some 44), none, .q (.mov (.t 10))⟩,
                    ⟨(some 45), none, .q (.bin false .add (.t 43) (.t 44))⟩,
                    ⟨(some 7), none, .a (.asg (.t 45))⟩])))))))
            (.reg [⟨(some 46), none, .q (.bin false .add (.t 16) (.c (.int .i64 1)))⟩,
              ⟨(some 16), none, .q (.mov (.t 46))⟩])))))))
      (.seq
       (.reg [⟨(some 47), none, .q (.mov (.t 6))⟩,
         ⟨(some 4), none, .a (.asg (.t 47))⟩,
         ⟨(some 5), none, .a (.asg (.c (.bool true)))⟩])
       .ret)))))

set_option maxHeartbeats 1000000 in
set_option maxRecDepth 100000 in
theorem d28 (l : List Ty) (n : Int) (hl : (l.length : Int) ≤ 1048576) (hs : ∀ s ∈ l, s.sm) (ht : tabOk l = true) (hr : isRec l n = true) :
    Does Go.Proofs.Tryz.prog 28 [.fsl 6 (l.map Ty.z), .v (.int .i64 n)] false (.tup [.usl 31 3 ((((layS (sz l) (allF l n)).map (·.1)).getD []).map Fd.o), .v (.bool (layS (sz l) (allF l n)).isSome)]) [.dead, .dead] := by
  have hA := allF_len ht n
  have hT : ∀ f ∈ allF l n, isNum l f.typ = true := allL_typ (tabOk_tys ht) _
  have hg : ∀ k, 0 ≤ sz l k := fun k => (sz_nn (tabOk_tys ht) k).1
  have hg1 : ∀ k, sz l k ≤ 1000000001 := fun k => (sz_nn (tabOk_tys ht) k).2
  refine does_intro (mc := m28) (N := 48) (rs := [4, 5]) (fx := []) 2 rfl (by decide +kernel) ?_
  simp only [m28, EV, Nat.reduceEqDiff, Nat.reduceBEq, Nat.reduceLT, Nat.reduceLeDiff, Nat.reduceAdd, Nat.reduceSub, reduceIte]
  refine callK_i (d54 l hl ht _ n (Nat.lt_succ_self _) (.inr hr)) ?_
  generalize allF l n = fs at hA hT ⊢
  simp only [EV, Nat.reduceEqDiff, Nat.reduceBEq, Nat.reduceLT, Nat.reduceLeDiff, Nat.reduceAdd, Nat.reduceSub, reduceIte]
  refine awp_loop (fun p : List Fd × Int × Nat => p.2.2 ≤ fs.length ∧ layS (sz l) (fs.take p.2.2) = some (p.1, p.2.1)) (fun p => stl [(0, .fsl 6 (l.map Ty.z)), (6, .usl 31 3 (p.1.map Fd.o)), (7, .v (.int .i64 p.2.1)), (14, .usl 56 3 (fs.map Fd.o)), (15, .v (.int .i64 (fs.length : Int))), (16, .v (.int .i64 (p.2.2 : Int))), (42, .dead)]) (fun p => fs.length - p.2.2) ([], 0, 0) ⟨Nat.zero_le _, rfl⟩ ?_ ?_
  · simp only [EV, Nat.reduceEqDiff, Nat.reduceBEq, Nat.reduceLT, Nat.reduceLeDiff, Nat.reduceAdd, Nat.reduceSub, reduceIte]
    rfl
  · rintro ⟨out, e, i⟩ ⟨g1, g2⟩
    simp only at g1 g2
    obtain ⟨o1, o2, o3⟩ := layS_ok hg fs i g1 g2
    simp only [EV, Nat.reduceEqDiff, Nat.reduceBEq, Nat.reduceLT, Nat.reduceLeDiff, Nat.reduceAdd, Nat.reduceSub, reduceIte]
    refine cK_cut (fun h => ?_) (fun h => ?_)
    · have h1 : i < fs.length := by simpa using h
      have h2 : (i : Int) < (fs.length : Int) := by omega
      have hf := hT _ (List.getElem_mem h1)
      have s0 := hg fs[i].typ
      have s1 := hg1 fs[i].typ
      have b1 := byOf_in (sz l fs[i].typ)
      have u1 := upL_le o2 b1.1
      have st := layS_take (sz l) h1
      rw [g2] at st
      simp only [layStep] at st
      clear h
      simp only [h1, h2, nth_map h1, FdE, Fd.o, EV, Nat.reduceEqDiff, Nat.reduceBEq, Nat.reduceLT, Nat.reduceLeDiff, Nat.reduceAdd, Nat.reduceSub, reduceIte]
      refine callK_i (d55 l fs[i].typ hl hs ht hf) ?_
      simp only [EV, Nat.reduceEqDiff, Nat.reduceBEq, Nat.reduceLT, Nat.reduceLeDiff, Nat.reduceAdd, Nat.reduceSub, reduceIte]
      refine callK_i (d57 8 (sz l fs[i].typ)) ?_
      simp only [EV, Nat.reduceEqDiff, Nat.reduceBEq, Nat.reduceLT, Nat.reduceLeDiff, Nat.reduceAdd, Nat.reduceSub, reduceIte]
      refine callK_i (d56 1 (min 8 (sz l fs[i].typ))) ?_
      simp only [EV, Nat.reduceEqDiff, Nat.reduceBEq, Nat.reduceLT, Nat.reduceLeDiff, Nat.reduceAdd, Nat.reduceSub, reduceIte]
      refine callK_i (d36 e (byOf (sz l fs[i].typ)) o2 (by omega) b1.1 (by omega)) ?_
      simp only [EV, Nat.reduceEqDiff, Nat.reduceBEq, Nat.reduceLT, Nat.reduceLeDiff, Nat.reduceAdd, Nat.reduceSub, reduceIte]
      rcases c1 : decide (1000000000 < sz l fs[i].typ) with _ | _
      · rw [c1] at st
        simp only [EV, Nat.reduceEqDiff, Nat.reduceBEq, Nat.reduceLT, Nat.reduceLeDiff, Nat.reduceAdd, Nat.reduceSub, reduceIte]
        rcases c2 : decide (1000000000 < upL e (byOf (sz l fs[i].typ))) with _ | _
        · rw [c2, Bool.false_or, if_neg (by decide)] at st
          have c3 : upL e (byOf (sz l fs[i].typ)) ≤ 1000000000 := by simpa using c2
          have c4 : sz l fs[i].typ ≤ 1000000000 := by simpa using c1
          have w1 := w64 (upL e (byOf (sz l fs[i].typ)) + sz l fs[i].typ) (by omega)
          have w2 := w64 ((i : Int) + 1) (by omega)
          simp only [FdE, Fd.o, List.length_map, w1, w2, EV, Nat.reduceEqDiff, Nat.reduceBEq, Nat.reduceLT, Nat.reduceLeDiff, Nat.reduceAdd, Nat.reduceSub, reduceIte]
          exact ⟨by omega, by omega, (out ++ [⟨fs[i].name, upL e (byOf (sz l fs[i].typ)), sz l fs[i].typ⟩], upL e (byOf (sz l fs[i].typ)) + sz l fs[i].typ, i + 1), ⟨h1, st⟩, by simp only; omega, by rw [List.map_append]; rfl⟩
        · rw [c2, Bool.false_or, if_pos rfl] at st
          have hn := layS_cut (sz l) st
          simp only [EV, Nat.reduceEqDiff, Nat.reduceBEq, Nat.reduceLT, Nat.reduceLeDiff, Nat.reduceAdd, Nat.reduceSub, reduceIte]
          simp only [hn, Option.map_none, Option.getD_none, Option.isSome_none, List.map_nil, EV, Nat.reduceEqDiff, Nat.reduceBEq, Nat.reduceLT, Nat.reduceLeDiff, Nat.reduceAdd, Nat.reduceSub, reduceIte, evRE, retVC, cellV', evR, nfz, nfzs, nfzss, List.contains_nil, List.contains_cons, Bool.or_false, or_true]
      · rw [c1, Bool.true_or, if_pos rfl] at st
        have hn := layS_cut (sz l) st
        simp only [EV, Nat.reduceEqDiff, Nat.reduceBEq, Nat.reduceLT, Nat.reduceLeDiff, Nat.reduceAdd, Nat.reduceSub, reduceIte]
        simp only [hn, Option.map_none, Option.getD_none, Option.isSome_none, List.map_nil, EV, Nat.reduceEqDiff, Nat.reduceBEq, Nat.reduceLT, Nat.reduceLeDiff, Nat.reduceAdd, Nat.reduceSub, reduceIte, evRE, retVC, cellV', evR, nfz, nfzs, nfzss, List.contains_nil, List.contains_cons, Bool.or_false, or_true]
    · have h1 : i = fs.length := by have : ¬ (i : Int) < (fs.length : Int) := by simpa using h
                                    omega
      subst h1
      rw [List.take_length] at g2
      simp only [EV, Nat.reduceEqDiff, Nat.reduceBEq, Nat.reduceLT, Nat.reduceLeDiff, Nat.reduceAdd, Nat.reduceSub, reduceIte]
      simp only [g2, Option.map_some, Option.getD_some, Option.isSome_some, Fd.nfz, Fd.frz, EV, Nat.reduceEqDiff, Nat.reduceBEq, Nat.reduceLT, Nat.reduceLeDiff, Nat.reduceAdd, Nat.reduceSub, reduceIte, evRE, retVC, cellV', evR, nfz, nfzs, nfzss, List.contains_nil, List.contains_cons, Bool.or_false, or_true]

/-- What a layout says, as the functions hand it back. -/
noncomputable def layL (l : List Ty) (n : Int) : List Fd := (layO l n).getD []

/-- loop.example/g00837/spec.LayoutOf -/
def m8 : MC :=
  (.seq
   (.reg [⟨(some 4), none, .a (.asg (.nils 31 3))⟩,
     ⟨(some 5), none, .a (.asg (.c (.bool false)))⟩])
   (.seq
    (.seq
     (.reg [⟨(some 6), none, .q (.mov (.t 0))⟩,
       ⟨(some 7), none, .q (.mov (.t 1))⟩,
       ⟨(some 8), none, .a (.call (.fn 27) false [.lend (.t 6), .lend (.t 7)])⟩,
       ⟨(some 9), none, .q (.un .not (.t 8))⟩])
     (.cond (.t 9)
      (.seq
       (.reg [⟨(some 4), none, .a (.asg (.nils 31 3))⟩,
         ⟨(some 5), none, .a (.asg (.c (.bool false)))⟩])
       .ret)
      .skip))
    (.seq
     (.reg [⟨(some 10), none, .q (.mov (.t 0))⟩,
       ⟨(some 11), none, .q (.mov (.t 1))⟩,
       ⟨(some 12), none, .a (.call (.fn 28) false [.lend (.t 10), .lend (.t 11)])⟩,
       ⟨(some 13), none, .q (.ext 12 0)⟩,
       ⟨(some 14), none, .q (.ext 12 1)⟩,
       ⟨(some 4), none, .a (.asg (.t 13))⟩,
       ⟨(some 5), none, .a (.asg (.t 14))⟩])
     .ret)))

set_option maxRecDepth 100000 in
theorem d8 (l : List Ty) (n : Int) (hl : (l.length : Int) ≤ 1048576) (hs : ∀ s ∈ l, s.sm) :
    Does Go.Proofs.Tryz.prog 8 [.fsl 6 (l.map Ty.z), .v (.int .i64 n)] false (.tup [.usl 31 3 ((layL l n).map Fd.o), .v (.bool (layO l n).isSome)]) [.dead, .dead] := by
  refine does_intro (mc := m8) (N := 15) (rs := [4, 5]) (fx := []) 2 rfl (by decide +kernel) ?_
  simp only [m8, EV, Nat.reduceEqDiff, Nat.reduceBEq, Nat.reduceLT, Nat.reduceLeDiff, Nat.reduceAdd, Nat.reduceSub, reduceIte]
  refine callK_i (d27 l n hl hs) ?_
  simp only [EV, Nat.reduceEqDiff, Nat.reduceBEq, Nat.reduceLT, Nat.reduceLeDiff, Nat.reduceAdd, Nat.reduceSub, reduceIte]
  rcases e : recOk l n with _ | _
  · simp only [Bool.not_false, EV, Nat.reduceEqDiff, Nat.reduceBEq, Nat.reduceLT, Nat.reduceLeDiff, Nat.reduceAdd, Nat.reduceSub, reduceIte]
    simp only [layL, layO, e, if_false, Option.getD_none, Option.isSome_none, List.map_nil, EV, Nat.reduceEqDiff, Nat.reduceBEq, Nat.reduceLT, Nat.reduceLeDiff, Nat.reduceAdd, Nat.reduceSub, reduceIte, evRE, retVC, cellV', evR, nfz, nfzs, nfzss, List.contains_nil, List.contains_cons, Bool.or_false, or_true]
  · have e' := e
    simp only [recOk, Bool.and_eq_true] at e'
    simp only [Bool.not_true, EV, Nat.reduceEqDiff, Nat.reduceBEq, Nat.reduceLT, Nat.reduceLeDiff, Nat.reduceAdd, Nat.reduceSub, reduceIte]
    refine callK_i (d28 l n hl hs e'.1 e'.2) ?_
    simp only [EV, Nat.reduceEqDiff, Nat.reduceBEq, Nat.reduceLT, Nat.reduceLeDiff, Nat.reduceAdd, Nat.reduceSub, reduceIte]
    simp only [layL, layO, e, if_true, Option.isSome_map, Fd.nfz, Fd.frz, EV, Nat.reduceEqDiff, Nat.reduceBEq, Nat.reduceLT, Nat.reduceLeDiff, Nat.reduceAdd, Nat.reduceSub, reduceIte, evRE, retVC, cellV', evR, nfz, nfzs, nfzss, List.contains_nil, List.contains_cons, Bool.or_false, or_true]

/-- loop.example/g00837/impl.LayoutOf -/
def m7 : MC :=
  (.seq
   (.reg [⟨(some 4), none, .a (.asg (.nils 31 3))⟩,
     ⟨(some 5), none, .a (.asg (.c (.bool false)))⟩])
   (.seq
    (.seq
     (.reg [⟨(some 13), none, .q (.mov (.t 0))⟩,
       ⟨(some 14), none, .q (.mov (.t 1))⟩,
       ⟨(some 15), none, .a (.call (.fn 23) false [.lend (.t 13), .lend (.t 14)])⟩,
       ⟨(some 16), none, .q (.un .not (.t 15))⟩])
     (.cond (.t 16)
      (.seq
       (.reg [⟨(some 4), none, .a (.asg (.nils 31 3))⟩,
         ⟨(some 5), none, .a (.asg (.c (.bool false)))⟩])
       .ret)
      .skip))
    (.seq
     (.reg [⟨(some 17), none, .a (.bsl 31 3 [])⟩,
       ⟨(some 18), none, .q (.mov (.t 0))⟩,
       ⟨(some 19), none, .a (.call (.fn 24) false [.lend (.t 18)])⟩,
       ⟨(some 6), none, .a (.asg (.t 17))⟩,
       ⟨(some 7), none, .a (.asg (.c (.int .i64 0)))⟩,
       ⟨(some 8), none, .a (.asg (.t 19))⟩])
     (.seq
      (.seq
       (.reg [⟨(some 20), none, .q (.mov (.t 0))⟩,
         ⟨(some 21), none, .q (.mov (.t 1))⟩,
         ⟨(some 22), none, .a (.call (.fn 25) false [.lend (.t 20), .lend (.t 21)])⟩,
         ⟨(some 23), none, .q (.len false (.t 22))⟩,
         ⟨(some 24), none, .q (.mov (.c (.int .i64 0)))⟩])
       (.block 0
        (.loop [6, 7, 8, 17, 19, 22, 23, 24, 51]
         (.seq
          (.reg [⟨(some 25), none, .q (.bin false .lss (.t 24) (.t 23))⟩])
          (.seq
           (.cond (.t 25)
            .skip
            (.exit 0))
           (.seq
            (.block 1
             (.seq
              (.reg [⟨(some 26), none, .q (.iad 3 (.t 22) (.t 24))⟩,
                ⟨(some 27), none, .q (.load true 3 (.t 26))⟩,
                ⟨(some 10), none, .a (.alloc 56 [.v (.string ({ data := #[] })), .v (.int .i64 0), .v (.int .i64 0)])⟩,
                ⟨none, none, .a (.store 3 (.t 10) (.t 27))⟩])
              (.seq
               (.reg [⟨(some 28), none, .q (.mov (.t 8))⟩,
                 ⟨(some 29), none, .q (.fad 2 (.t 10))⟩,
                 ⟨(some 30), none, .q (.load false 1 (.t 29))⟩,
                 ⟨(some 31), none, .q (.iad 1 (.t 28) (.t 30))⟩,
                 ⟨(some 32), none, .q (.load false 1 (.t 31))⟩,
                 ⟨(some 11), none, .a (.asg (.t 32))⟩])
               (.seq
                (.reg [⟨(some 33), none, .q (.mov (.t 7))⟩,
                  ⟨(some 34), none, .q (.mov (.t 11))⟩,
                  ⟨(some 35), none, .q (.mm false (.t 34) (.c (.int .i64 8)))⟩,
                  ⟨(some 36), none, .q (.mm true (.t 35) (.c (.int .i64 1)))⟩,
                  ⟨(some 37), none, .a (.call (.fn 26) false [.lend (.t 33), .lend (.t 36)])⟩,
                  ⟨(some 12), none, .a (.asg (.t 37))⟩])
                (.seq
                 (.seq
                  (.reg [⟨(some 38), none, .q (.mov (.t 11))⟩,
                    ⟨(some 39), none, .q (.bin false .gtr (.t 38) (.c (.int .i64 1000000000)))⟩,
                    ⟨(some 40), none, .q (.mov (.t 39))⟩,
                    ⟨(some 41), (some (40, false)), .q (.mov (.t 12))⟩,
                    ⟨(some 42), (some (40, false)), .q (.bin false .gtr (.t 41) (.c (.int .i64 1000000000)))⟩,
                    ⟨(some 43), none, .q (.pick (.t 40) (.c (.bool true)) (.t 42))⟩])
                  (.cond (.t 43)
                   (.seq
                    (.reg [⟨(some 4), none, .a (.asg (.nils 31 3))⟩,
                      ⟨(some 5), none, .a (.asg (.c (.bool false)))⟩])
                    .ret)
                   .skip))
                 (.seq
                  (.reg [⟨(some 44), none, .q (.mov (.t 6))⟩,
                    ⟨(some 45), none, .q (.fad 0 (.t 10))⟩,
                    ⟨(some 46), none, .q (.load false 1 (.t 45))⟩,
                    ⟨(some 47), none, .q (.mov (.t 12))⟩,
                    ⟨(some 48), none, .q (.mov (.t 11))⟩,
                    ⟨(some 49), none, .a (.build [0, 1, 2] [0, 1, 2] [1, 1, 1] [.v (.string ({ data := #[] })), .v (.int .i64 0), .v (.int .i64 0)] [.t 46, .t 47, .t 48])⟩,
                    ⟨(some 50), none, .a (.bsl 31 3 [.t 49])⟩,
                    ⟨(some 51), none, .a (.app true 31 3 32 (.t 44) (.t 50))⟩,
                    ⟨(some 6), none, .a (.asg (.t 51))⟩])
                  (.reg [⟨(some 52), none, .q (.mov (.t 12))⟩,
                    ⟨(some 53), none, .q (.mov (.t 11))⟩,
                    ⟨(some 54), none, .q (.bin false .add (.t 52) (.t 53))⟩,
                    ⟨(some 7), none, .a (.asg (.t 54))⟩])))))))
            (.reg [⟨(some 55), none, .q (.bin false .add (.t 24) (.c (.int .i64 1)))⟩,
              ⟨(some 24), none, .q (.mov (.t 55))⟩])))))))
      (.seq
       (.reg [⟨(some 56), none, .q (.mov (.t 6))⟩,
         ⟨(some 4), none, .a (.asg (.t 56))⟩,
         ⟨(some 5), none, .a (.asg (.c (.bool true)))⟩])
       .ret)))))

set_option maxHeartbeats 1000000 in
set_option maxRecDepth 100000 in
theorem d7 (l : List Ty) (n : Int) (hl : (l.length : Int) ≤ 1048576) (hs : ∀ s ∈ l, s.sm) :
    Does Go.Proofs.Tryz.prog 7 [.fsl 6 (l.map Ty.z), .v (.int .i64 n)] false (.tup [.usl 31 3 ((layL l n).map Fd.o), .v (.bool (layO l n).isSome)]) [.dead, .dead] := by
  refine does_intro (mc := m7) (N := 57) (rs := [4, 5]) (fx := []) 2 rfl (by decide +kernel) ?_
  simp only [m7, EV, Nat.reduceEqDiff, Nat.reduceBEq, Nat.reduceLT, Nat.reduceLeDiff, Nat.reduceAdd, Nat.reduceSub, reduceIte]
  refine callK_i (d23 l n hl hs) ?_
  simp only [EV, Nat.reduceEqDiff, Nat.reduceBEq, Nat.reduceLT, Nat.reduceLeDiff, Nat.reduceAdd, Nat.reduceSub, reduceIte]
  rcases e : recOk l n with _ | _
  · simp only [Bool.not_false, EV, Nat.reduceEqDiff, Nat.reduceBEq, Nat.reduceLT, Nat.reduceLeDiff, Nat.reduceAdd, Nat.reduceSub, reduceIte]
    simp only [layL, layO, e, if_false, Option.getD_none, Option.isSome_none, List.map_nil, EV, Nat.reduceEqDiff, Nat.reduceBEq, Nat.reduceLT, Nat.reduceLeDiff, Nat.reduceAdd, Nat.reduceSub, reduceIte, evRE, retVC, cellV', evR, nfz, nfzs, nfzss, List.contains_nil, List.contains_cons, Bool.or_false, or_true]
  have e' := e
  simp only [recOk, Bool.and_eq_true] at e'
  obtain ⟨ht, hr⟩ := e'
  have eL : layL l n = ((layS (sz l) (allF l n)).map (·.1)).getD [] := by simp [layL, layO, e]
  have eO : (layO l n).isSome = (layS (sz l) (allF l n)).isSome := by simp [layO, e]
  rw [eL, eO]
  simp only [Bool.not_true, EV, Nat.reduceEqDiff, Nat.reduceBEq, Nat.reduceLT, Nat.reduceLeDiff, Nat.reduceAdd, Nat.reduceSub, reduceIte]
  refine callK_i (d24 l hl hs ht) ?_
  simp only [EV, Nat.reduceEqDiff, Nat.reduceBEq, Nat.reduceLT, Nat.reduceLeDiff, Nat.reduceAdd, Nat.reduceSub, reduceIte]
  refine callK_i (d25 l n hl ht hr) ?_
  have hA := allF_len ht n
  have hT : ∀ f ∈ allF l n, isNum l f.typ = true := allL_typ (tabOk_tys ht) _
  have hg : ∀ k, 0 ≤ sz l k := fun k => (sz_nn (tabOk_tys ht) k).1
  have hg1 : ∀ k, sz l k ≤ 1000000001 := fun k => (sz_nn (tabOk_tys ht) k).2
  have h24 := tabOk_len ht
  generalize allF l n = fs at hA hT ⊢
  simp only [EV, Nat.reduceEqDiff, Nat.reduceBEq, Nat.reduceLT, Nat.reduceLeDiff, Nat.reduceAdd, Nat.reduceSub, reduceIte]
  refine awp_loop (fun p : List Fd × Int × Nat => p.2.2 ≤ fs.length ∧ layS (sz l) (fs.take p.2.2) = some (p.1, p.2.1)) (fun p => stl [(6, .usl 31 3 (p.1.map Fd.o)), (7, .v (.int .i64 p.2.1)), (8, .usl 3 1 ((sizesL l).map iv)), (17, .dead), (19, .dead), (22, .usl 56 3 (fs.map Fd.o)), (23, .v (.int .i64 (fs.length : Int))), (24, .v (.int .i64 (p.2.2 : Int))), (51, .dead)]) (fun p => fs.length - p.2.2) ([], 0, 0) ⟨Nat.zero_le _, rfl⟩ ?_ ?_
  · simp only [EV, Nat.reduceEqDiff, Nat.reduceBEq, Nat.reduceLT, Nat.reduceLeDiff, Nat.reduceAdd, Nat.reduceSub, reduceIte]
    rfl
  · rintro ⟨out, e, i⟩ ⟨g1, g2⟩
    simp only at g1 g2
    obtain ⟨o1, o2, o3⟩ := layS_ok hg fs i g1 g2
    simp only [EV, Nat.reduceEqDiff, Nat.reduceBEq, Nat.reduceLT, Nat.reduceLeDiff, Nat.reduceAdd, Nat.reduceSub, reduceIte]
    refine cK_cut (fun h => ?_) (fun h => ?_)
    · have h1 : i < fs.length := by simpa using h
      have h2 : (i : Int) < (fs.length : Int) := by omega
      have hf := hT _ (List.getElem_mem h1)
      obtain ⟨n0, n1⟩ := isNum_in.1 hf
      have s0 := hg fs[i].typ
      have s1 := hg1 fs[i].typ
      have b1 := byOf_in (sz l fs[i].typ)
      have u1 := upL_le o2 b1.1
      have eb : max (min (sz l fs[i].typ) 8) 1 = byOf (sz l fs[i].typ) := by unfold byOf; omega
      have st := layS_take (sz l) h1
      rw [g2] at st
      simp only [layStep] at st
      clear h
      have q3 : fs[i].typ.toNat < (sizesL l).length := by simp [sizesL]; omega
      have q4 : fs[i].typ < ((sizesL l).length : Int) := by simp [sizesL]; omega
      have hgz : (sizesL l)[fs[i].typ.toNat] = sz l fs[i].typ := by simp only [sizesL, List.getElem_map, List.getElem_range]; rw [Int.toNat_of_nonneg n0]
      simp only [h1, h2, nth_map h1, FdE, Fd.o, EV, Nat.reduceEqDiff, Nat.reduceBEq, Nat.reduceLT, Nat.reduceLeDiff, Nat.reduceAdd, Nat.reduceSub, reduceIte]
      simp only [n0, q4, q3, nth_map q3, hgz, iv, eb, EV, Nat.reduceEqDiff, Nat.reduceBEq, Nat.reduceLT, Nat.reduceLeDiff, Nat.reduceAdd, Nat.reduceSub, reduceIte]
      refine callK_i (d26 e (byOf (sz l fs[i].typ)) o2 (by omega) b1.1 (by omega)) ?_
      simp only [EV, Nat.reduceEqDiff, Nat.reduceBEq, Nat.reduceLT, Nat.reduceLeDiff, Nat.reduceAdd, Nat.reduceSub, reduceIte]
      rcases c1 : decide (1000000000 < sz l fs[i].typ) with _ | _
      · rw [c1] at st
        simp only [EV, Nat.reduceEqDiff, Nat.reduceBEq, Nat.reduceLT, Nat.reduceLeDiff, Nat.reduceAdd, Nat.reduceSub, reduceIte]
        rcases c2 : decide (1000000000 < upL e (byOf (sz l fs[i].typ))) with _ | _
        · rw [c2, Bool.false_or, if_neg (by decide)] at st
          have c3 : upL e (byOf (sz l fs[i].typ)) ≤ 1000000000 := by simpa using c2
          have c4 : sz l fs[i].typ ≤ 1000000000 := by simpa using c1
          have w1 := w64 (upL e (byOf (sz l fs[i].typ)) + sz l fs[i].typ) (by omega)
          have w2 := w64 ((i : Int) + 1) (by omega)
          simp only [FdE, Fd.o, List.length_map, w1, w2, EV, Nat.reduceEqDiff, Nat.reduceBEq, Nat.reduceLT, Nat.reduceLeDiff, Nat.reduceAdd, Nat.reduceSub, reduceIte]
          exact ⟨by omega, by omega, (out ++ [⟨fs[i].name, upL e (byOf (sz l fs[i].typ)), sz l fs[i].typ⟩], upL e (byOf (sz l fs[i].typ)) + sz l fs[i].typ, i + 1), ⟨h1, st⟩, by simp only; omega, by rw [List.map_append]; rfl⟩
        · rw [c2, Bool.false_or, if_pos rfl] at st
          have hn := layS_cut (sz l) st
          simp only [EV, Nat.reduceEqDiff, Nat.reduceBEq, Nat.reduceLT, Nat.reduceLeDiff, Nat.reduceAdd, Nat.reduceSub, reduceIte]
          simp only [hn, Option.map_none, Option.getD_none, Option.isSome_none, List.map_nil, EV, Nat.reduceEqDiff, Nat.reduceBEq, Nat.reduceLT, Nat.reduceLeDiff, Nat.reduceAdd, Nat.reduceSub, reduceIte, evRE, retVC, cellV', evR, nfz, nfzs, nfzss, List.contains_nil, List.contains_cons, Bool.or_false, or_true]
      · rw [c1, Bool.true_or, if_pos rfl] at st
        have hn := layS_cut (sz l) st
        simp only [EV, Nat.reduceEqDiff, Nat.reduceBEq, Nat.reduceLT, Nat.reduceLeDiff, Nat.reduceAdd, Nat.reduceSub, reduceIte]
        simp only [hn, Option.map_none, Option.getD_none, Option.isSome_none, List.map_nil, EV, Nat.reduceEqDiff, Nat.reduceBEq, Nat.reduceLT, Nat.reduceLeDiff, Nat.reduceAdd, Nat.reduceSub, reduceIte, evRE, retVC, cellV', evR, nfz, nfzs, nfzss, List.contains_nil, List.contains_cons, Bool.or_false, or_true]
    · have h1 : i = fs.length := by have : ¬ (i : Int) < (fs.length : Int) := by simpa using h
                                    omega
      subst h1
      rw [List.take_length] at g2
      simp only [EV, Nat.reduceEqDiff, Nat.reduceBEq, Nat.reduceLT, Nat.reduceLeDiff, Nat.reduceAdd, Nat.reduceSub, reduceIte]
      simp only [g2, Option.map_some, Option.getD_some, Option.isSome_some, Fd.nfz, Fd.frz, EV, Nat.reduceEqDiff, Nat.reduceBEq, Nat.reduceLT, Nat.reduceLeDiff, Nat.reduceAdd, Nat.reduceSub, reduceIte, evRE, retVC, cellV', evR, nfz, nfzs, nfzss, List.contains_nil, List.contains_cons, Bool.or_false, or_true]

end Go.AM
namespace Go.AM
set_option linter.unusedVariables false
set_option linter.unusedSimpArgs false
theorem layS_nm {g : Int → Int} (fs : List Fd) : ∀ (i : Nat), i ≤ fs.length → ∀ {out : List Fd} {e : Int}, layS g (fs.take i) = some (out, e) → ∀ p ∈ out, ∃ f ∈ fs, p.name = f.name
  | 0, _, out, e, h => by
    simp only [List.take_zero, layS, List.foldl_nil, Option.some.injEq, Prod.mk.injEq] at h
    obtain ⟨rfl, rfl⟩ := h
    simp
  | i + 1, hi, out, e, h => by
    rw [layS_take g (by omega)] at h
    cases hl : layS g (fs.take i) with
    | none => rw [hl] at h; simp [layStep] at h
    | some p =>
      obtain ⟨o, e'⟩ := p
      have ih := layS_nm fs i (by omega) hl
      rw [hl] at h
      simp only [layStep] at h
      split at h
      · cases h
      · simp only [Option.some.injEq, Prod.mk.injEq] at h
        obtain ⟨rfl, rfl⟩ := h
        intro p hp
        rcases List.mem_append.1 hp with hp | hp
        · exact ih p hp
        · rw [List.mem_singleton] at hp
          exact ⟨fs[i], List.getElem_mem _, by rw [hp]⟩

theorem layL_cases (l : List Ty) (n : Int) : layL l n = [] ∨ (tabOk l = true ∧ isRec l n = true ∧ ∃ out e, layS (sz l) (allF l n) = some (out, e) ∧ layL l n = out ∧ (layO l n).isSome = true) := by
  unfold layL layO
  split
  · rename_i h
    simp only [recOk, Bool.and_eq_true] at h
    cases hl : layS (sz l) (allF l n) with
    | none => left; rfl
    | some p => right; exact ⟨h.1, h.2, p.1, p.2, rfl, rfl, rfl⟩
  · left; rfl

theorem layL_len (l : List Ty) (n : Int) : (layL l n).length ≤ 150 := by
  rcases layL_cases l n with h | ⟨ht, hr, out, e, h, ho, _⟩
  · rw [h]; simp
  · rw [ho]
    have := layS_ok (fun k => (sz_nn (tabOk_tys ht) k).1) (allF l n) (allF l n).length (Nat.le_refl _) (by rw [List.take_length]; exact h)
    have := allF_len ht n
    omega

theorem layL_sm {l : List Ty} (hs : ∀ s ∈ l, s.sm) (n : Int) : ∀ f ∈ layL l n, f.sm := by
  rcases layL_cases l n with h | ⟨ht, hr, out, e, h, ho, _⟩
  · rw [h]; simp
  · rw [ho]
    intro p hp
    obtain ⟨f, hf, he⟩ := layS_nm (allF l n) (allF l n).length (Nat.le_refl _) (by rw [List.take_length]; exact h) p hp
    have := allL_sm hs _ f hf
    unfold Fd.sm at this ⊢
    rw [he]
    exact ⟨this.1, trivial, trivial⟩

/-- loop.example/g00837/laws.FnExactLayoutOf -/
def m4 : MC :=
  (.seq
   (.reg [⟨(some 4), none, .a (.asg (.c (.bool false)))⟩])
   (.keep [0, 1]
   (.seq
    (.reg [⟨(some 5), none, .a (.asg (.c (.int .i64 1048576)))⟩])
    (.keep [0, 1, 5]
    (.seq
     (.reg [⟨(some 16), none, .q (.mov (.t 0))⟩,
       ⟨(some 17), none, .q (.mov (.t 5))⟩,
       ⟨(some 18), none, .a (.call (.fn 15) false [.lend (.t 16), .lend (.t 17)])⟩,
       ⟨(some 5), none, .a (.asg (.t 18))⟩])
     (.keep [0, 1, 5]
     (.seq
      (.seq
       (.reg [⟨(some 19), none, .q (.mov (.t 5))⟩,
         ⟨(some 20), none, .q (.bin false .lss (.t 19) (.c (.int .i64 0)))⟩])
       (.keep [0, 1, 20]
       (.cond (.t 20)
        (.seq
         (.reg [⟨(some 4), none, .a (.asg (.c (.bool true)))⟩])
         .ret)
        .skip)))
      (.keep [0, 1]
      (.seq
       (.reg [⟨(some 22), none, .q (.mov (.t 0))⟩,
         ⟨(some 23), none, .a (.call (.fn 16) false [.lend (.t 22)])⟩,
         ⟨(some 24), none, .q (.mov (.t 1))⟩,
         ⟨(some 25), none, .a (.call (.fn 8) false [.lend (.t 23), .lend (.t 24)])⟩,
         ⟨(some 21), none, .a (.asg (.t 25))⟩,
         ⟨(some 26), none, .q (.ext 21 0)⟩,
         ⟨(some 27), none, .q (.ext 21 1)⟩,
         ⟨(some 6), none, .a (.asg (.t 26))⟩,
         ⟨(some 7), none, .a (.asg (.t 27))⟩])
       (.keep [0, 1, 6, 7, 21, 25, 26]
       (.seq
        (.reg [⟨(some 28), none, .q (.mov (.t 0))⟩,
          ⟨(some 29), none, .a (.call (.fn 16) false [.lend (.t 28)])⟩,
          ⟨(some 8), none, .a (.asg (.t 29))⟩])
        (.keep [0, 1, 6, 7, 8, 21, 25, 26, 29]
        (.seq
         (.reg [⟨(some 31), none, .q (.mov (.t 8))⟩,
           ⟨(some 32), none, .q (.mov (.t 1))⟩,
           ⟨(some 33), none, .a (.call (.fn 7) false [.lend (.t 31), .lend (.t 32)])⟩,
           ⟨(some 30), none, .a (.asg (.t 33))⟩,
           ⟨(some 34), none, .q (.ext 30 0)⟩,
           ⟨(some 35), none, .q (.ext 30 1)⟩,
           ⟨(some 9), none, .a (.asg (.t 34))⟩,
           ⟨(some 10), none, .a (.asg (.t 35))⟩])
         (.keep [0, 1, 6, 7, 8, 9, 10, 21, 25, 26, 29, 30, 33, 34]
         (.seq
          (.seq
           (.reg [⟨(some 36), none, .q (.mov (.t 9))⟩,
             ⟨(some 37), none, .q (.mov (.t 6))⟩,
             ⟨(some 38), none, .a (.call (.fn 17) false [.lend (.t 36), .lend (.t 37)])⟩,
             ⟨(some 39), none, .q (.un .not (.t 38))⟩,
             ⟨(some 40), none, .q (.mov (.t 39))⟩,
             ⟨(some 41), (some (40, false)), .q (.mov (.t 10))⟩,
             ⟨(some 42), (some (40, false)), .q (.mov (.t 7))⟩,
             ⟨(some 43), (some (40, false)), .q (.bin true .neq (.t 41) (.t 42))⟩,
             ⟨(some 44), none, .q (.pick (.t 40) (.c (.bool true)) (.t 43))⟩])
           (.keep [0, 1, 6, 7, 8, 9, 10, 21, 25, 26, 29, 30, 33, 34, 44]
           (.cond (.t 44)
            (.seq
             (.reg [⟨(some 4), none, .a (.asg (.c (.bool false)))⟩])
             .ret)
            .skip)))
          (.keep [0, 1, 6, 7, 8, 9, 10, 21, 25, 26, 29, 30, 33, 34]
          (.seq
           (.seq
            (.reg [⟨(some 45), none, .q (.mov (.t 8))⟩,
              ⟨(some 46), none, .q (.mov (.t 0))⟩,
              ⟨(some 47), none, .a (.call (.fn 16) false [.lend (.t 46)])⟩,
              ⟨(some 48), none, .a (.call (.fn 18) false [.lend (.t 45), .lend (.t 47)])⟩,
              ⟨(some 49), none, .q (.un .not (.t 48))⟩])
            (.keep [0, 1, 6, 7, 8, 9, 10, 21, 25, 26, 29, 30, 33, 34, 49]
            (.cond (.t 49)
             (.seq
              (.reg [⟨(some 4), none, .a (.asg (.c (.bool false)))⟩])
              .ret)
             .skip)))
           (.keep [0, 1, 6, 7, 8, 9, 10, 21, 25, 26, 29, 30, 33, 34]
           (.seq
            (.reg [⟨(some 11), none, .a (.asg (.c (.int .i64 1)))⟩])
            (.keep [0, 1, 6, 7, 8, 9, 10, 11, 21, 25, 26, 29, 30, 33, 34]
            (.seq
             (.reg [⟨(some 50), none, .q (.mov (.t 8))⟩,
               ⟨(some 51), none, .q (.mov (.t 11))⟩,
               ⟨(some 52), none, .a (.call (.fn 19) false [.io (.t 50), .lend (.t 51)])⟩,
               ⟨(some 11), none, .a (.asg (.t 52))⟩])
             (.keep [0, 1, 6, 7, 9, 10, 11, 21, 25, 26, 30, 33, 34]
             (.seq
              (.seq
               (.reg [⟨(some 53), none, .q (.mov (.t 11))⟩,
                 ⟨(some 54), none, .q (.bin false .lss (.t 53) (.c (.int .i64 0)))⟩,
                 ⟨(some 55), none, .q (.mov (.t 54))⟩,
                 ⟨(some 56), (some (55, false)), .q (.mov (.t 9))⟩,
                 ⟨(some 57), (some (55, false)), .q (.mov (.t 6))⟩,
                 ⟨(some 58), (some (55, false)), .a (.call (.fn 17) false [.lend (.t 56), .lend (.t 57)])⟩,
                 ⟨(some 59), (some (55, false)), .q (.un .not (.t 58))⟩,
                 ⟨(some 60), none, .q (.pick (.t 55) (.c (.bool true)) (.t 59))⟩,
                 ⟨(some 61), none, .q (.mov (.t 60))⟩,
                 ⟨(some 62), (some (61, false)), .q (.mov (.t 10))⟩,
                 ⟨(some 63), (some (61, false)), .q (.mov (.t 7))⟩,
                 ⟨(some 64), (some (61, false)), .q (.bin true .neq (.t 62) (.t 63))⟩,
                 ⟨(some 65), none, .q (.pick (.t 61) (.c (.bool true)) (.t 64))⟩])
               (.keep [0, 1, 6, 7, 9, 21, 25, 26, 30, 33, 34, 65]
               (.cond (.t 65)
                (.seq
                 (.reg [⟨(some 4), none, .a (.asg (.c (.bool false)))⟩])
                 .ret)
                .skip)))
              (.keep [0, 1, 6, 7, 9, 21, 25, 26, 30, 33, 34]
              (.seq
               (.reg [⟨(some 12), none, .a (.asg (.c (.int .i64 1)))⟩])
               (.keep [0, 1, 6, 7, 9, 12, 21, 25, 26, 30, 33, 34]
               (.seq
                (.reg [⟨(some 66), none, .q (.mov (.t 9))⟩,
                  ⟨(some 67), none, .q (.mov (.t 12))⟩,
                  ⟨(some 68), none, .a (.call (.fn 20) false [.io (.t 66), .lend (.t 67)])⟩,
                  ⟨(some 12), none, .a (.asg (.t 68))⟩])
                (.keep [0, 1, 6, 7, 9, 12, 21, 25, 26, 30, 33, 34]
                (.seq
                 (.reg [⟨(some 13), none, .a (.asg (.c (.int .i64 1)))⟩])
                 (.keep [0, 1, 6, 7, 9, 12, 13, 21, 25, 26, 30, 33, 34]
                 (.seq
                  (.reg [⟨(some 69), none, .q (.mov (.t 9))⟩,
                    ⟨(some 70), none, .q (.mov (.t 13))⟩,
                    ⟨(some 71), none, .a (.call (.fn 21) false [.lend (.t 69), .lend (.t 70)])⟩,
                    ⟨(some 13), none, .a (.asg (.t 71))⟩])
                  (.keep [0, 1, 6, 7, 9, 12, 13, 21, 25, 26, 30, 33, 34]
                  (.seq
                   (.seq
                    (.reg [⟨(some 72), none, .q (.mov (.t 13))⟩,
                      ⟨(some 73), none, .q (.bin false .lss (.t 72) (.c (.int .i64 0)))⟩])
                    (.keep [0, 1, 6, 7, 9, 12, 13, 21, 25, 26, 30, 33, 34, 73]
                    (.cond (.t 73)
                     (.seq
                      (.reg [⟨(some 4), none, .a (.asg (.c (.bool false)))⟩])
                      .ret)
                     .skip)))
                   (.keep [0, 1, 6, 7, 9, 12, 13, 21, 25, 26, 30, 33, 34]
                   (.seq
                    (.seq
                     (.reg [⟨(some 74), none, .q (.mov (.t 13))⟩,
                       ⟨(some 75), none, .q (.mov (.t 12))⟩,
                       ⟨(some 76), none, .q (.bin false .neq (.t 74) (.t 75))⟩])
                     (.keep [0, 1, 6, 7, 9, 12, 21, 25, 26, 30, 33, 34, 76]
                     (.cond (.t 76)
                      (.seq
                       (.reg [⟨(some 4), none, .a (.asg (.c (.bool false)))⟩])
                       .ret)
                      .skip)))
                    (.keep [0, 1, 6, 7, 9, 12, 21, 25, 26, 30, 33, 34]
                    (.seq
                     (.reg [⟨(some 78), none, .q (.mov (.t 0))⟩,
                       ⟨(some 79), none, .a (.call (.fn 16) false [.lend (.t 78)])⟩,
                       ⟨(some 80), none, .q (.mov (.t 1))⟩,
                       ⟨(some 81), none, .a (.call (.fn 7) false [.lend (.t 79), .lend (.t 80)])⟩,
                       ⟨(some 77), none, .a (.asg (.t 81))⟩,
                       ⟨(some 82), none, .q (.ext 77 0)⟩,
                       ⟨(some 83), none, .q (.ext 77 1)⟩,
                       ⟨(some 14), none, .a (.asg (.t 82))⟩,
                       ⟨(some 15), none, .a (.asg (.t 83))⟩])
                     (.keep [6, 7, 9, 12, 14, 15, 21, 25, 26, 30, 33, 34, 77, 81, 82]
                     (.seq
                      (.seq
                       (.reg [⟨(some 84), none, .q (.mov (.t 14))⟩,
                         ⟨(some 85), none, .q (.mov (.t 6))⟩,
                         ⟨(some 86), none, .a (.call (.fn 17) false [.lend (.t 84), .lend (.t 85)])⟩,
                         ⟨(some 87), none, .q (.un .not (.t 86))⟩,
                         ⟨(some 88), none, .q (.mov (.t 87))⟩,
                         ⟨(some 89), (some (88, false)), .q (.mov (.t 15))⟩,
                         ⟨(some 90), (some (88, false)), .q (.mov (.t 7))⟩,
                         ⟨(some 91), (some (88, false)), .q (.bin true .neq (.t 89) (.t 90))⟩,
                         ⟨(some 92), none, .q (.pick (.t 88) (.c (.bool true)) (.t 91))⟩])
                       (.keep [9, 12, 30, 33, 34, 92]
                       (.cond (.t 92)
                        (.seq
                         (.reg [⟨(some 4), none, .a (.asg (.c (.bool false)))⟩])
                         .ret)
                        .skip)))
                      (.keep [9, 12, 30, 33, 34]
                      (.seq
                       (.reg [⟨(some 13), none, .a (.asg (.c (.int .i64 1)))⟩])
                       (.keep [9, 12, 13, 30, 33, 34]
                       (.seq
                        (.reg [⟨(some 93), none, .q (.mov (.t 9))⟩,
                          ⟨(some 94), none, .q (.mov (.t 13))⟩,
                          ⟨(some 95), none, .a (.call (.fn 21) false [.lend (.t 93), .lend (.t 94)])⟩,
                          ⟨(some 13), none, .a (.asg (.t 95))⟩])
                        (.keep [12, 13]
                        (.seq
                         (.seq
                          (.reg [⟨(some 96), none, .q (.mov (.t 13))⟩,
                            ⟨(some 97), none, .q (.bin false .lss (.t 96) (.c (.int .i64 0)))⟩])
                          (.keep [12, 13, 97]
                          (.cond (.t 97)
                           (.seq
                            (.reg [⟨(some 4), none, .a (.asg (.c (.bool false)))⟩])
                            .ret)
                           .skip)))
                         (.keep [12, 13]
                         (.seq
                          (.seq
                           (.reg [⟨(some 98), none, .q (.mov (.t 13))⟩,
                             ⟨(some 99), none, .q (.mov (.t 12))⟩,
                             ⟨(some 100), none, .q (.bin false .neq (.t 98) (.t 99))⟩])
                           (.keep [100]
                           (.cond (.t 100)
                            (.seq
                             (.reg [⟨(some 4), none, .a (.asg (.c (.bool false)))⟩])
                             .ret)
                            .skip)))
                          (.keep []
                          (.seq
                           (.reg [⟨(some 4), none, .a (.asg (.c (.bool true)))⟩])
                           .ret)))))))))))))))))))))))))))))))))))))))))))))))))

set_option maxHeartbeats 1000000 in
set_option maxRecDepth 100000 in
theorem d4 (a : List Ty) (n : Int) (ha : (a.length : Int) ≤ 9223372036854775807) (hoa : ∀ s ∈ a, s.ok) :
    Does Go.Proofs.Tryz.prog 4 [.fsl 6 (a.map Ty.z), .v (.int .i64 n)] false (.v (.bool true)) [.dead, .dead] := by
  refine does_intro (mc := m4) (N := 101) (rs := [4]) (fx := []) 2 rfl (by decide +kernel) ?_
  simp only [m4, EV, Nat.reduceEqDiff, Nat.reduceBEq, Nat.reduceLT, Nat.reduceLeDiff, Nat.reduceAdd, Nat.reduceSub, reduceIte]
  refine callK_i (d15 a 1048576 (by omega) (by omega) ha hoa) ?_
  simp only [EV, Nat.reduceEqDiff, Nat.reduceBEq, Nat.reduceLT, Nat.reduceLeDiff, Nat.reduceAdd, Nat.reduceSub, reduceIte]
  refine cK_cut (fun h => ?_) (fun h => ?_)
  · simp only [EV, Nat.reduceEqDiff, Nat.reduceBEq, Nat.reduceLT, Nat.reduceLeDiff, Nat.reduceAdd, Nat.reduceSub, reduceIte]
    simp only [EV, Nat.reduceEqDiff, Nat.reduceBEq, Nat.reduceLT, Nat.reduceLeDiff, Nat.reduceAdd, Nat.reduceSub, reduceIte, evRE, retVC, cellV', evR, nfz, nfzs, nfzss, List.contains_nil, List.contains_cons, Bool.or_false, or_true]
  have h0 : 0 ≤ szTyS a 1048576 := by simpa using h
  have h1 := szTyS_tot a _ h0
  have h2 := totTys_nn a
  have h3 : (a.length : Int) ≤ 1048576 := by omega
  have hx : ∀ s ∈ a, s.sm := fun s g => s.sm_of (by have := totTys_mem a s g; omega)
  clear h
  have d34' := d8 a n h3 hx
  have d35' := d7 a n h3 hx
  have hRl := layL_len a n
  have hRs := layL_sm hx n
  generalize hRe : layL a n = R at d34' d35' hRl hRs
  generalize (layO a n).isSome = R2 at d34' d35'
  have hR1 : (R.length : Int) ≤ 1048576 := by omega
  have hct := cnt_tot a hx
  have hcn := cntTys_nn a
  have hk1 : decide (1 + cntTys a < 0) = false := by simp; omega
  have hk2 : decide (1 + 3 * (R.length : Int) < 0) = false := by simp; omega
  simp only [EV, Nat.reduceEqDiff, Nat.reduceBEq, Nat.reduceLT, Nat.reduceLeDiff, Nat.reduceAdd, Nat.reduceSub, reduceIte]
  refine callK_i (d16 a h3 hx) ?_
  simp only [Ty.frz, Fd.frz, EV, Nat.reduceEqDiff, Nat.reduceBEq, Nat.reduceLT, Nat.reduceLeDiff, Nat.reduceAdd, Nat.reduceSub, reduceIte]
  refine callK_i d34' ?_
  simp only [Ty.frz, Fd.frz, EV, Nat.reduceEqDiff, Nat.reduceBEq, Nat.reduceLT, Nat.reduceLeDiff, Nat.reduceAdd, Nat.reduceSub, reduceIte]
  refine callK_i (d16 a h3 hx) ?_
  simp only [Ty.frz, Fd.frz, EV, Nat.reduceEqDiff, Nat.reduceBEq, Nat.reduceLT, Nat.reduceLeDiff, Nat.reduceAdd, Nat.reduceSub, reduceIte]
  refine callK_i d35' ?_
  simp only [Ty.frz, Fd.frz, EV, Nat.reduceEqDiff, Nat.reduceBEq, Nat.reduceLT, Nat.reduceLeDiff, Nat.reduceAdd, Nat.reduceSub, reduceIte]
  refine callK_i (d17 R hR1 hRs) ?_
  simp only [Ty.frz, Fd.frz, EV, Nat.reduceEqDiff, Nat.reduceBEq, Nat.reduceLT, Nat.reduceLeDiff, Nat.reduceAdd, Nat.reduceSub, reduceIte]
  refine callK_i (d16 a h3 hx) ?_
  simp only [Ty.frz, Fd.frz, EV, Nat.reduceEqDiff, Nat.reduceBEq, Nat.reduceLT, Nat.reduceLeDiff, Nat.reduceAdd, Nat.reduceSub, reduceIte]
  refine callK_i (d18 a h3 hx) ?_
  simp only [Ty.frz, Fd.frz, EV, Nat.reduceEqDiff, Nat.reduceBEq, Nat.reduceLT, Nat.reduceLeDiff, Nat.reduceAdd, Nat.reduceSub, reduceIte]
  refine callK2_i (d19 a 1 (by omega) (by omega) h3 hx) rfl (by simp [shapeOf, mkTyS_len]) ?_
  simp only [Ty.frz, Fd.frz, hk1, EV, Nat.reduceEqDiff, Nat.reduceBEq, Nat.reduceLT, Nat.reduceLeDiff, Nat.reduceAdd, Nat.reduceSub, reduceIte]
  refine callK_i (d17 R hR1 hRs) ?_
  simp only [Ty.frz, Fd.frz, hk1, EV, Nat.reduceEqDiff, Nat.reduceBEq, Nat.reduceLT, Nat.reduceLeDiff, Nat.reduceAdd, Nat.reduceSub, reduceIte]
  refine callK2_i (d20 R 1 (by omega) (by omega)) rfl (by simp [shapeOf, mkFdS_len]) ?_
  simp only [Ty.frz, Fd.frz, hk1, hk2, EV, Nat.reduceEqDiff, Nat.reduceBEq, Nat.reduceLT, Nat.reduceLeDiff, Nat.reduceAdd, Nat.reduceSub, reduceIte]
  refine callK_i (d21 R 1 (by omega) (by omega)) ?_
  simp only [Ty.frz, Fd.frz, hk1, hk2, EV, Nat.reduceEqDiff, Nat.reduceBEq, Nat.reduceLT, Nat.reduceLeDiff, Nat.reduceAdd, Nat.reduceSub, reduceIte]
  refine callK_i (d16 a h3 hx) ?_
  simp only [Ty.frz, Fd.frz, hk1, hk2, EV, Nat.reduceEqDiff, Nat.reduceBEq, Nat.reduceLT, Nat.reduceLeDiff, Nat.reduceAdd, Nat.reduceSub, reduceIte]
  refine callK_i d35' ?_
  simp only [Ty.frz, Fd.frz, hk1, hk2, EV, Nat.reduceEqDiff, Nat.reduceBEq, Nat.reduceLT, Nat.reduceLeDiff, Nat.reduceAdd, Nat.reduceSub, reduceIte]
  refine callK_i (d17 R hR1 hRs) ?_
  simp only [Ty.frz, Fd.frz, hk1, hk2, EV, Nat.reduceEqDiff, Nat.reduceBEq, Nat.reduceLT, Nat.reduceLeDiff, Nat.reduceAdd, Nat.reduceSub, reduceIte]
  refine callK_i (d21 R 1 (by omega) (by omega)) ?_
  simp only [Ty.frz, Fd.frz, hk1, hk2, EV, Nat.reduceEqDiff, Nat.reduceBEq, Nat.reduceLT, Nat.reduceLeDiff, Nat.reduceAdd, Nat.reduceSub, reduceIte]
  simp only [EV, Nat.reduceEqDiff, Nat.reduceBEq, Nat.reduceLT, Nat.reduceLeDiff, Nat.reduceAdd, Nat.reduceSub, reduceIte, evRE, retVC, cellV', evR, nfz, nfzs, nfzss, List.contains_nil, List.contains_cons, Bool.or_false, or_true]

end Go.AM
