/- Contracts of functions of the given program, for the law FnSizes: what they return and what they write, under the bounds that each theorem states. -/
import Derived.Test.YtjbmgopednpbmaaG4
import Derived.Laws.EntriesVeiled
import Derived.Shelf.Bits.Mul64
import Derived.Laws.MakeOwn
import Derived.Laws.CopyOwn
import Derived.RegionTactic
import Derived.ChangeAlike
namespace Go.Proofs.Sizes
open Go Go.AM Go.RowKit Go.Shelf Go.Proofs
attribute [local go_sem] Oper.semAt_some
set_option linter.unusedVariables false
set_option linter.unusedSimpArgs false

/-- What slices.Repeat does for us. -/
def Rep141 (len : Nat) : Prop := ∀ (w : World) (b : Nat), w.cell? ⟨b, 0, none⟩ = some (.int .i64 (-1)) → Calls Try.prog 141 #[.slice (some ⟨b, 0, none⟩) 1 1, .int .i64 (len : Int)] w fun e w' =>
  ∃ g, e = .returned (.slice (some ⟨g, 0, none⟩) len len) ∧ Ext w w' [] ∧ w.heap.size ≤ g ∧ w'.heap[g]? = some (.cells ((List.replicate len (-1 : Int)).map (Value.int .i64)).toArray 3 (0, 0))

set_option maxRecDepth 100000 in
set_option maxHeartbeats 4000000 in
theorem c104 (l : List Ty) (hl : (l.length : Int) ≤ 1048576) (hs : ∀ t ∈ l, t.sm) (ht : tabOk l = true) (h141 : Rep141 l.length) : Con Try.prog 104 [.fsl 6 (l.map Ty.z)] false (.usl 3 1 ((sizesL l).map iv)) [.dead] := by
  intro w Fz xs os hrep hos hfz hlt
  simp only [RepVs] at hrep
  obtain ⟨sv, _, o1, _, rfl, rfl, h1, rfl, rfl⟩ := hrep
  simp only [RepV] at h1
  have h1' := h1
  simp only [RepC] at h1
  obtain ⟨rfl, A, cap, rfl, hcap, hA⟩ := h1
  have h24 := tabOk_len ht
  have h3 := (tysOk_len (tabOk_tys ht)).1
  refine callsIn_wide (n := 9).1 (callsIn_of_wp Try.func104 rfl trivial ?_ rfl)
  simp only [Try.ntmps104, List.size_toArray, List.length_cons, List.length_nil, Nat.reduceAdd, Nat.reduceSub, Array.replicate_succ, Array.replicate_zero, List.push_toArray, List.append_toArray, List.nil_append, List.cons_append]
  obtain ⟨w4, hw4⟩ : ∃ w4, (w.alloc (Obj.cells #[Value.slice A l.length cap] 32)).alloc (Obj.cells #[Value.int .i64 (-1)] 3) = w4 := ⟨_, rfl⟩
  have hE4 : Ext w w4 [] := by rw [← hw4]; exact (Ext.alloc _ _ _).trans (Ext.alloc _ [] _) (by simp)
  have hb2 : w4.heap[w.heap.size]? = some (.cells #[Value.slice A l.length cap] 32) := by
    rw [← hw4, Below.heap_alloc _ _ _ (by simp)]
    exact World.alloc_heap_new _ _
  have hb3 : w4.heap[w.heap.size + 1]? = some (.cells #[Value.int .i64 (-1)] 3) := by
    rw [← hw4]
    have := World.alloc_heap_new (w.alloc (Obj.cells #[Value.slice A l.length cap] 32)) (.cells #[Value.int .i64 (-1)] 3)
    rwa [World.size_alloc] at this
  have hc2 : w4.cell? ⟨w.heap.size, 0, none⟩ = some (Value.slice A l.length cap) := by rw [cell_of_cells hb2]; rfl
  have hrepc := h141 w4 (w.heap.size + 1) (by rw [cell_of_cells hb3]; rfl)
  gi_wp2
  refine ⟨trivial, (callsIn_wide.2 hrepc).mono ?_⟩
  rintro e w5 ⟨g, rfl, hE5, hg4, hgc⟩
  have hgl := (Array.getElem?_eq_some_iff.1 hgc).1
  have hs4 : w4.heap.size = w.heap.size + 2 := by rw [← hw4]; simp
  have hs5 := hE5.size
  obtain ⟨w6, hw6⟩ : ∃ w6, (w5.alloc (Obj.cells #[Value.slice (some ⟨g, 0, none⟩) l.length l.length] 39)).alloc (Obj.cells #[Value.nilFunc] 122) = w6 := ⟨_, rfl⟩
  have hE56 : Ext w5 w6 [] := by rw [← hw6]; exact (Ext.alloc _ _ _).trans (Ext.alloc _ [] _) (by simp)
  have c3 : w6.heap[w5.heap.size]? = some (.cells #[Value.slice (some ⟨g, 0, none⟩) l.length l.length] 39) := by
    rw [← hw6, Below.heap_alloc _ _ _ (by simp)]
    exact World.alloc_heap_new _ _
  have c4 : w6.heap[w5.heap.size + 1]? = some (.cells #[Value.nilFunc] 122) := by
    rw [← hw6]
    have := World.alloc_heap_new (w5.alloc (Obj.cells #[Value.slice (some ⟨g, 0, none⟩) l.length l.length] 39)) (.cells #[Value.nilFunc] 122)
    rwa [World.size_alloc] at this
  have c4c : w6.cell? ⟨w5.heap.size + 1, 0, none⟩ = some Value.nilFunc := by rw [cell_of_cells c4]; rfl
  have c4f : w6.frozen? ⟨w5.heap.size + 1, 0, none⟩ = false := by simp [World.frozen?, c4]
  obtain ⟨w7, hw7⟩ : ∃ w7, w6.setCell ⟨w5.heap.size + 1, 0, none⟩ (Value.func (.func 142) #[] #[.pointer (some ⟨w5.heap.size, 0, none⟩), .pointer (some ⟨w.heap.size, 0, none⟩), .pointer (some ⟨w5.heap.size + 1, 0, none⟩)]) = w7 := ⟨_, rfl⟩
  have hE67 : Ext w6 w7 [w5.heap.size + 1] := by rw [← hw7]; exact ⟨rfl, rfl, rfl, by simp [World.setCell], fun b hb hn => Below.heap_setCell _ _ _ b (by simpa using hn)⟩
  have hE57 : Ext w5 w7 [] := hE56.trans hE67 fun b hb hlt => by simp at hb; omega
  have d3 : w7.heap[w5.heap.size]? = some (.cells #[Value.slice (some ⟨g, 0, none⟩) l.length l.length] 39) := (hE67.blk _ (Array.getElem?_eq_some_iff.1 c3).1 (by simp)).trans c3
  have d4 : w7.cell? ⟨w5.heap.size + 1, 0, none⟩ = some (Value.func (.func 142) #[] #[.pointer (some ⟨w5.heap.size, 0, none⟩), .pointer (some ⟨w.heap.size, 0, none⟩), .pointer (some ⟨w5.heap.size + 1, 0, none⟩)]) := by rw [← hw7]; exact World.cell?_setCell_same' _ _ _ (by rw [c4c]; rfl)
  have hE47 : Ext w4 w7 [] := hE5.trans hE57 (by simp)
  have hE7 : Ext w w7 [] := hE4.trans hE47 (by simp)
  have hl0 : ¬ List.map Ty.z l = [] := by intro h; have := congrArg List.length h; simp at this; subst this; simp at h3
  obtain ⟨gl, h, vs, rfl, hFg, hrs, hat⟩ := hA.resolve_left hl0
  have M7 : Mem w5.heap.size w.heap.size (w5.heap.size + 1) g gl h cap l.length Fz l (List.replicate l.length (-1)) w7 := by
    refine ⟨by rw [cell_of_cells d3]; rfl, by rw [cell_of_cells ((hE47.blk _ (by omega) (by simp)).trans hb2)]; rfl, d4, (hE57.blk g hgl (by simp)).trans hgc, by simp, AllF.keepW hlt hE7 (by simpa using h1'), fun b hb => ?_, by omega, by omega, by omega⟩
    have := hlt b hb
    have := hE7.size
    exact ⟨by omega, by omega⟩
  have hgr : ∀ j : Nat, j < l.length → getS (List.replicate l.length (-1)) (j : Int) = -1 := fun j hj => by simp [getS, hj]
  have m3 := M7.lb
  have hst : (store ⟨w5.heap.size + 1, 0, none⟩ (Value.func (.func 142) #[] #[.pointer (some ⟨w5.heap.size, 0, none⟩), .pointer (some ⟨w.heap.size, 0, none⟩), .pointer (some ⟨w5.heap.size + 1, 0, none⟩)])).run Try.prog w6 = .ok () w7 := by
    rw [run_store_func]
    simp [stored, go_sem, c4c, c4f, hw7]
  gi_wp2
  gi_loopw [13] (fun b wr => ∃ (i : Nat) (s2 : List Int), i ≤ l.length ∧ b = .int .i64 (i : Int) ∧ Mem w5.heap.size w.heap.size (w5.heap.size + 1) g gl h cap l.length Fz l s2 wr ∧ Som l s2 ∧ (∀ j : Nat, j < i → getS s2 (j : Int) = sz l (j : Int)) ∧ Ext w7 wr [g])
    (fun b _ => l.length - (intOf b).toNat)
  case atStart => exact ⟨0, _, Nat.zero_le _, rfl, M7, fun j hj => .inr (hgr j hj), fun j hj => absurd hj (by omega), Ext.refl _ _⟩
  case round =>
    obtain ⟨i, s2, hi, rfl, Ms, Ss, Di, EW⟩ := hrel
    by_cases hlt' : i < l.length
    · have hf := Ms.f
      gi_wp2
      refine ⟨trivial, (callsIn_wide.2 (c142 ht hs h24 (by simpa using hcap) (Nat.le_refl _) (rk l (i : Int) + 1) i hlt' (Nat.lt_succ_self _) wr s2 Ms Ss)).mono ?_⟩
      rintro e W3 ⟨rfl, s3, M3, S3, g3, Mo3, E3⟩
      gi_wp2
      exact ⟨⟨i + 1, s3, hlt', by simp, M3, S3, fun j hj => by
        by_cases e : j = i
        · rw [e]; exact g3
        · exact Mo3 j (by omega) (Di j (by omega)), EW.trans E3 fun b hb _ => hb⟩, by simp [intOf]; omega⟩
    · obtain rfl : i = l.length := by omega
      have o1 := Ms.o
      gi_wp2
      refine bodyPost_ret (results_tmp rfl _ _ _) rfl ?_
      have hs2 : s2 = sizesL l := by
        refine List.ext_getElem (by rw [Ms.len]; simp [sizesL]) fun j h1 h2 => ?_
        have hj : j < l.length := by rw [← Ms.len]; exact h1
        have := Di j hj
        rw [getS_at h1] at this
        simp [sizesL, this]
      refine ⟨_, [g], [], rfl, hE7.trans EW fun b hb hlt => by simp at hb; omega, ?_, ⟨_, _, [], [], rfl, rfl, rfl, rfl, rfl⟩, by simp, fun b hb => ?_⟩
      · rw [← hs2]
        simp only [RepV, RepC]
        refine .inr ⟨g, 0, l.length, _, s2.map (Value.int .i64), [], by simp [Ms.len], rfl, Ms.vals, by simp [Ms.len], by simp [Ms.len], cells_int s2, fun j u hj => ?_⟩
        rw [cell_of_cells Ms.vals]
        simpa using hj
      · simp at hb
        subst hb
        have := (Array.getElem?_eq_some_iff.1 Ms.vals).1
        exact ⟨.inr (by omega), this⟩
end Go.Proofs.Sizes

namespace Go.Proofs.Sizes
open Go Go.AM Go.RowKit Go.Shelf Go.Proofs
attribute [local go_sem] Oper.semAt_some
set_option linter.unusedVariables false
set_option linter.unusedSimpArgs false

theorem e_zero : bits .and .u64 0 4294967295 = 0 := by decide
theorem e_one : bits .and .u64 1 4294967295 = 1 := by decide
theorem e_n (k : Nat) (hk : k < 4294967296) : bits .and .u64 (k : Int) 4294967295 = (k : Int) := by
  rw [Go.Proofs.Mul64.maskN k (by omega)]
  omega

set_option maxRecDepth 100000 in
set_option maxHeartbeats 1000000 in
theorem mul198 (F : Fence) (n : Nat) (h : F.fn 198) (hro : F.round = none) (k : Nat) (hk : k < 4294967296) (w : World) : CallsIn F n Try.prog 198 #[.int .u64 1, .int .u64 (k : Int)] w fun e w' => e = .returned (.tuple #[.int .u64 0, .int .u64 (k : Int)]) ∧ w' = w := by
  refine callsIn_of_wp Try.func198 rfl h ?_ hro
  simp only [Try.ntmps198, List.size_toArray, List.length_cons, List.length_nil, Nat.reduceAdd, Nat.reduceSub, Array.replicate_succ, Array.replicate_zero, List.push_toArray, List.append_toArray, List.nil_append, List.cons_append]
  have w1 := Go.Proofs.Mul64.wrapN k (by omega)
  have e0 := e_zero
  have e1 := e_one
  have e2 := e_n k hk
  have e3 : (k : Int) / 4294967296 = 0 := by omega
  gi_wp2
  refine bodyPost_ret (results_tmp2 rfl _ _ _) rfl ?_
  exact ⟨rfl, rfl⟩

set_option maxRecDepth 100000 in
set_option maxHeartbeats 1000000 in
theorem mul173 (F : Fence) (n : Nat) (h : F.fn 198) (h2 : F.fn 173) (hro : F.round = none) (hd : F.depth = none) (k : Nat) (hk : k < 4294967296) (w : World) : CallsIn F n Try.prog 173 #[.int .u64 1, .int .u64 (k : Int)] w fun e w' => e = .returned (.tuple #[.int .u64 0, .int .u64 (k : Int)]) ∧ w' = w := by
  refine callsIn_of_wp Try.func173 rfl h2 ?_ hro
  simp only [Try.ntmps173, List.size_toArray, List.length_cons, List.length_nil, Nat.reduceAdd, Nat.reduceSub, Array.replicate_succ, Array.replicate_zero, List.push_toArray, List.append_toArray, List.nil_append, List.cons_append]
  gi_wp2_with (gi_at_call 198; refine (mul198 F _ h hro k hk _).mono ?_; rintro e w' ⟨rfl, rfl⟩)
  refine bodyPost_ret (results_tmp2 rfl _ _ _) rfl ?_
  exact ⟨rfl, rfl⟩
end Go.Proofs.Sizes

namespace Go.Proofs.Sizes
open Go Go.AM Go.RowKit Go.Shelf Go.Proofs
set_option linter.unusedVariables false
set_option linter.unusedSimpArgs false

theorem info3 : (Try.prog.info? 3).map (fun i => (i.zero, i.size, i.bytes)) = some (some (.int .i64 0), 1, 8) := by kernel_rfl
theorem made0 (n : Nat) : madeCells (Value.cells (.int .i64 0)) (n * 1) = (List.replicate n (Value.int .i64 0)).toArray := by
  apply Array.ext
  · simp [madeCells]
  · intro i h1 h2
    simp [madeCells, Value.cells, Nat.mod_one]

def RowN (len n : Nat) : List Value := List.replicate n (Value.int .i64 (-1)) ++ List.replicate (len - n) (Value.int .i64 0)
theorem RowN_copy {len n m : Nat} (h : n + m ≤ len) : (RowN len n).toArray.toList.take n ++ List.replicate m (Value.int .i64 (-1)) ++ (RowN len n).toArray.toList.drop (n + m) = RowN len (n + m) := by
  have e1 : (RowN len n).take n = List.replicate n (Value.int .i64 (-1)) := by simp [RowN]
  have e2 : (RowN len n).drop (n + m) = List.replicate (len - (n + m)) (Value.int .i64 0) := by
    rw [RowN, List.drop_append]
    simp
    omega
  simp only [e1, e2]
  rw [RowN, List.replicate_append_replicate]

set_option maxRecDepth 100000 in
set_option maxHeartbeats 2000000 in
theorem rep141 (len : Nat) (h0 : 0 < len) (hl : len ≤ 24) : Rep141 len := by
  intro w b hc
  refine calls_of_wp Try.func141 rfl ?_
  simp only [Try.ntmps141, List.size_toArray, List.length_cons, List.length_nil, Nat.reduceAdd, Nat.reduceSub, Array.replicate_succ, Array.replicate_zero, List.push_toArray, List.append_toArray, List.nil_append, List.cons_append]
  have w1 := Go.Proofs.Mul64.wrapN len (by omega)
  obtain ⟨i0, hi, hz0, hz1, hz2⟩ := info_parts info3
  have e3 : decide ((9223372036854775807 : Int) < (len : Int)) = false := by simp; omega
  have hmk := run_makeSlice (P := Try.prog) (w := w) 39 3 i0 _ Try.underlying39 hi hz0 .i64 .i64 (len : Int) (len : Int) (by omega) (by omega) (by rw [hz1]; simp; omega) (by rw [hz2]; omega) (by omega)
  rw [hz1, Int.toNat_natCast, made0] at hmk
  obtain ⟨w2, hw2⟩ : ∃ w2, w.alloc (.cells (List.replicate len (Value.int .i64 0)).toArray 3) = w2 := ⟨_, rfl⟩
  rw [hw2] at hmk
  have hgl : w.heap.size < w2.heap.size := by rw [← hw2]; simp
  have hg2 : w2.heap[w.heap.size]? = some (.cells (List.replicate len (Value.int .i64 0)).toArray 3 (0, 0)) := by rw [← hw2]; exact World.alloc_heap_new _ _
  have hcb : w2.cell? ⟨b, 0, none⟩ = some (.int .i64 (-1)) := by
    have hblt := World.block_lt_of_cell? w _ hc
    rw [← hw2]
    exact (World.cell?_of_block (Below.heap_alloc _ _ _ hblt)).trans hc
  have hsz : (Try.prog.info? 3).map (·.size) = some 1 := by rw [hi]; simp [hz1]
  have hcp := run_copy_row (P := Try.prog) w2 39 39 3 3 w.heap.size 0 len len ⟨b, 0, none⟩ 1 1 (List.replicate len (Value.int .i64 0)).toArray 3 [.int .i64 (-1)] Try.underlying39 hsz hg2 (by show 1 = min 1 len; omega) (by
    intro j v hj
    cases j with
    | zero => simp at hj; subst hj; simpa [Addr.add] using hcb
    | succ j => simp at hj) (by simp; omega) (by simp [Value.oneCell'])
  generalize hw3 : w2.setRow _ _ = w3 at hcp
  have hg3 : w3.heap[w.heap.size]? = some (.cells (RowN len 1).toArray 3 (0, 0)) := by
    rw [← hw3, setRow_heap _ _ _ _ _ _ hg2]
    simp [RowN]
  have hE3 : Ext w w3 [] := by
    rw [← hw3, ← hw2]
    exact ⟨rfl, rfl, rfl, by simp [World.setRow], fun k hk _ => (setRow_other _ _ k _ (by omega)).trans (Below.heap_alloc _ _ _ hk)⟩
  obtain ⟨g, hgd⟩ : ∃ g, w.heap.size = g := ⟨_, rfl⟩
  have hE2 : Ext w w2 [] := by rw [← hw2]; exact Ext.alloc _ _ _
  have hE23 : Ext w2 w3 [g] := by
    rw [← hw3]
    exact ⟨rfl, rfl, rfl, by simp [World.setRow], fun k hk hn => setRow_other _ _ k _ (by simp at hn; omega)⟩
  rw [hgd] at hmk hcp hg3
  go_wp2_with (go_at_call 173; refine (callsIn_wide.1 (mul173 Fence.wide 0 trivial trivial rfl rfl len (by omega) _)).mono ?_; rintro e w' ⟨rfl, rfl⟩)
  go_loopw [8] (fun a wr => ∃ n : Nat, 0 < n ∧ n ≤ len ∧ a = .int .i64 (n : Int) ∧ wr.heap[g]? = some (Obj.cells (RowN len n).toArray 3 (0, 0)) ∧ Ext w2 wr [g]) (fun a _ => len - (intOf a).toNat)
  case atStart => exact ⟨1, by omega, by omega, rfl, hg3, hE23⟩
  case round =>
    obtain ⟨n, n0, n1, rfl, hgr, hER⟩ := hrel
    by_cases hlt : n < len
    · have hcells : ∀ j v, (List.replicate (min n (len - n)) (Value.int .i64 (-1)))[j]? = some v → wr.cell? ((⟨g, 0, none⟩ : Addr).add j) = some v := by
        intro j v hj
        obtain ⟨hj1, rfl⟩ := List.getElem?_eq_some_iff.1 hj
        simp at hj1
        have ea : ((⟨g, 0, none⟩ : Addr).add j) = ⟨g, j, none⟩ := by cases j <;> simp [Addr.add]
        rw [ea, cell_of_cells hgr]
        simp only [List.getElem?_toArray, RowN]
        rw [List.getElem?_append_left (by simp; omega), List.getElem?_replicate, if_pos (by omega), List.getElem_replicate]
      have hcq := run_copy_row (P := Try.prog) wr.drew 39 39 3 3 g n (len - n) (len - n) ⟨g, 0, none⟩ n len (RowN len n).toArray 3 (List.replicate (min n (len - n)) (Value.int .i64 (-1))) Try.underlying39 hsz hgr (by simp) hcells (by simp [RowN]; omega) (by intro v hv; rw [(List.mem_replicate.1 hv).2]; rfl)
      generalize hw4 : wr.drew.setRow g _ = w4 at hcq
      have hg4 : w4.heap[g]? = some (.cells (RowN len (n + min n (len - n))).toArray 3 (0, 0)) := by
        rw [← hw4, setRow_heap _ _ _ _ _ _ (show wr.drew.heap[g]? = _ from hgr)]
        have := RowN_copy (len := len) (n := n) (m := min n (len - n)) (by omega)
        rw [← this]
        simp
      have hE4 : Ext wr w4 [g] := by
        rw [← hw4]
        exact ⟨rfl, rfl, rfl, by simp [World.setRow], fun k hk hn => setRow_other _ _ k _ (by simp at hn; omega)⟩
      rw [List.length_replicate] at hcq
      go_wp2
      go_region
      all_goals go_wp2
      exact ⟨⟨n + min n (len - n), by omega, by omega, by simp, hg4, hER.trans hE4 fun k hk _ => hk⟩, by simp [intOf]; omega⟩
    · obtain rfl : n = len := by omega
      go_wp2
      refine bodyPost_ret (results_tmp rfl _ _ _) rfl ?_
      refine ⟨g, rfl, hE2.trans hER fun k hk hlt => by simp at hk; omega, by omega, ?_⟩
      rw [hgr]
      simp [RowN]
end Go.Proofs.Sizes

namespace Go.AM
set_option linter.unusedVariables false
set_option linter.unusedSimpArgs false
theorem d104 (l : List Ty) (hl : (l.length : Int) ≤ 1048576) (hs : ∀ s ∈ l, s.sm) (ht : tabOk l = true) : Does Go.Proofs.Try.prog 104 [.fsl 6 (l.map Ty.z)] false (.usl 3 1 ((sizesL l).map iv)) [.dead] :=
  ⟨by decide +kernel, Go.Proofs.Sizes.c104 l hl hs ht (Go.Proofs.Sizes.rep141 l.length (by have := (tysOk_len (tabOk_tys ht)).1; omega) (tabOk_len ht))⟩

theorem d12 (code more : List Int) (hc : (code.length : Int) ≤ 9223372036854775807) (hm : (more.length : Int) ≤ 9223372036854775807) (hcb : ∀ b ∈ code, 0 ≤ b ∧ b ≤ 255) (hmb : ∀ b ∈ more, 0 ≤ b ∧ b ≤ 255) :
    Does Go.Proofs.Try.prog 12 [.fsl 1 (code.map bv), .fsl 1 (more.map bv)] false (.v (.bool true)) [.dead, .dead] :=
  d12_of d104 code more hc hm hcb hmb

end Go.AM
