/- Contracts of functions of the given program, for the law FnLayout: what they return and what they write, under the bounds that each theorem states. -/
import Derived.Test.YtkkopeadmnakfaaGreatG2
import Derived.RangeFuncBox
import Derived.RangeFuncLeaves
import Derived.RangeFuncNested
import Derived.Shelf.Abstract
import Derived.WalkKit
import Derived.OwnWalkIn
import Derived.TacticsInMore
import Derived.LoopNIn
import Derived.LoopIn
import Derived.Deep.RegionHeld3
import Derived.Laws.EntriesVeiled
import Derived.Shelf.Bits.Mul64
import Derived.Laws.MakeOwn
import Derived.Laws.CopyOwn
import Derived.RegionTactic
import Derived.ChangeAlike
namespace Go.Proofs.Backw
open Go Go.RowKit Go.Shelf Go.Proofs
attribute [local go_sem] Oper.semAt_some
set_option linter.unusedVariables false
set_option linter.unusedSimpArgs false
def upto {α : Type} (f : Nat → α) (k : Nat) : List α := (List.range k).map f
theorem upto_succ {α : Type} (f : Nat → α) (k : Nat) : upto f (k + 1) = upto f k ++ [f k] := by simp [upto, List.range_succ]
theorem upto_length {α : Type} (f : Nat → α) (k : Nat) : (upto f k).length = k := by simp [upto]
def Rd (Bs b off len cap : Nat) (zs : List Int) (W : World) : Prop := W.cell? ⟨Bs, 0, none⟩ = some (.slice (some ⟨b, off, none⟩) len cap) ∧ ∀ j, j < len → W.cell? ⟨b, off + j, none⟩ = some (.int .i64 (zs[j]?.getD 0))
set_option maxRecDepth 100000 in
set_option maxHeartbeats 2000000 in
theorem back1_in (F : Fence) (n : Nat) (h7 : F.fn 53) (hro : F.round = none) (hn : 1 ≤ n) (l Bs b off len cap : Nat) (zs : List Int) {α : Type} (encs : α → Array Value) (f : Nat → α)
    (hf : ∀ k j, j + k + 1 = len → encs (f k) = #[.int .i64 (j : Int), .int .i64 (zs[j]?.getD 0)]) (hreach : len * 8 ≤ 140737488351232) (J Jx : List α → World → Prop)
    (hY : ∀ pre x W, J pre W → pre.length < len → YieldAt F (n - 1) Tryz.prog l (encs x) W fun e W' =>
      (e = .returned (.bool true) ∧ J (pre ++ [x]) W' ∧ (Rd Bs b off len cap zs W → Rd Bs b off len cap zs W')) ∨ (e = .returned (.bool false) ∧ Jx (pre ++ [x]) W'))
    (W : World) (hR : Rd Bs b off len cap zs W) (h0 : J [] W) :
    CallsIn F n Tryz.prog 53 #[.func (.yield l) #[] #[], .pointer (some ⟨Bs, 0, none⟩)] W fun e W' => (∃ v, e = .returned v) ∧
      ((∃ ys, ys = upto f len ∧ J ys W') ∨ (∃ pre, (∃ k, k ≤ len ∧ pre = upto f k) ∧ Jx pre W')) := by
  refine callsIn_of_wp Tryz.func53 rfl h7 ?_ hro
  simp only [Tryz.ntmps53, List.size_toArray, List.length_cons, List.length_nil, Nat.reduceAdd, Nat.reduceSub, Array.replicate_succ, Array.replicate_zero, List.push_toArray, List.append_toArray, List.nil_append, List.cons_append]
  have hBs := hR.1
  gi_wp2
  gi_loopw [3] (fun i wr => ∃ k : Nat, k ≤ len ∧ i = .int .i64 ((len : Int) - 1 - (k : Int)) ∧ J (upto f k) wr ∧ Rd Bs b off len cap zs wr)
    (fun i _ => (intOf i + 1).toNat)
  case atStart => exact ⟨0, Nat.zero_le _, by simp, h0, hR⟩
  case round =>
    obtain ⟨k, hk, rfl, hJs, hR1, hR2⟩ := hrel
    by_cases hlt : k < len
    · obtain ⟨j, hj⟩ : ∃ j, j + k + 1 = len := ⟨len - k - 1, by omega⟩
      have hcx := hR2 j (by omega)
      obtain ⟨fn, tmps, assign, body, hy, hRR⟩ := hY _ (f k) wr hJs (by rw [upto_length]; exact hlt)
      rw [hf k j hj] at hy
      have hi : (len : Int) - 1 - (k : Int) = (j : Int) := by omega
      rw [hi]
      have hjl : j < len := by omega
      gi_wp2
      refine hRR.mono ?_
      rintro e W3 (⟨rfl, hJ3, hk3⟩ | ⟨rfl, hJx3⟩)
      · gi_wp2
        go_roundw
        case rel => exact ⟨k + 1, by omega, by simp; omega, by rw [upto_succ]; exact hJ3, hk3 ⟨hR1, hR2⟩⟩
        case measure => simp [intOf]
      · gi_wp2
        refine bodyPost_ret (results_none rfl _ _ _) rfl ?_
        exact ⟨⟨_, rfl⟩, .inr ⟨_, ⟨k + 1, by omega, (upto_succ _ _).symm⟩, hJx3⟩⟩
    · obtain rfl : k = len := by omega
      have hi : (k : Int) - 1 - (k : Int) = -1 := by omega
      rw [hi]
      gi_wp2
      go_end0
      exact ⟨⟨_, rfl⟩, .inl ⟨_, rfl, hJs⟩⟩
set_option maxHeartbeats 1000000 in
theorem back_in (F : Fence) (n : Nat) (h5 : F.fn 36) (hro : F.round = none) (a : Option Addr) (len cap : Nat) (w : World) :
    CallsIn F n Tryz.prog 36 #[.slice a len cap] w fun e w' => e = .returned (.func (.func 53) #[] #[.pointer (some ⟨w.heap.size, 0, none⟩)]) ∧ w' = w.alloc (.cells #[.slice a len cap] 44) := by
  refine callsIn_of_wp Tryz.func36 rfl h5 ?_ hro
  simp only [Tryz.ntmps36, List.size_toArray, List.length_cons, List.length_nil, Nat.reduceAdd, Nat.reduceSub, Array.replicate_succ, Array.replicate_zero, List.push_toArray, List.append_toArray, List.nil_append, List.cons_append]
  gi_wp2
  go_ret
  exact ⟨rfl, rfl⟩
theorem back_stops (F : Fence) (n : Nat) (h7 : F.fn 53) (hro : F.round = none) (hn : 1 ≤ n) (Bs b off len cap : Nat) (zs : List Int) {α : Type} (encs : α → Array Value) (f : Nat → α)
    (hf : ∀ k j, j + k + 1 = len → encs (f k) = #[.int .i64 (j : Int), .int .i64 (zs[j]?.getD 0)]) (hreach : len * 8 ≤ 140737488351232) (w : World) (hBs : Bs < w.heap.size) (hb : b < w.heap.size) (hR : Rd Bs b off len cap zs w) :
    SeqStopsK F n Tryz.prog 53 #[.pointer (some ⟨Bs, 0, none⟩)] encs (fun A B => Rd Bs b off len cap zs A → Rd Bs b off len cap zs B) (fun ys => ys = upto f len) (fun _ => True) len w := fun l J Jx W hW _ _ hY h0 => by
  have hR' : Rd Bs b off len cap zs W := ⟨(hW.cell (p := ⟨Bs, 0, none⟩) hBs).trans hR.1, fun j hj => (hW.cell (p := ⟨b, off + j, none⟩) hb).trans (hR.2 j hj)⟩
  refine (back1_in F n h7 hro hn l Bs b off len cap zs encs f hf hreach J Jx hY W hR' h0).mono ?_
  rintro e W' ⟨he, ⟨ys, rfl, hj⟩ | ⟨pre, _, hj⟩⟩
  · exact ⟨he, .inl ⟨_, rfl, hj⟩⟩
  · exact ⟨he, .inr ⟨_, trivial, hj⟩⟩
end Go.Proofs.Backw
namespace Go.Proofs.AllF
open Go Go.AM Go.RowKit Go.Shelf Go.Proofs Go.Proofs.Backw
attribute [local go_sem] Oper.semAt_some
set_option linter.unusedVariables false
set_option linter.unusedSimpArgs false
theorem rows_iv {w : World} {Fz : Nat → Prop} : ∀ {zs : List Int} {xs : List Value} {o : List Nat}, RepRows w Fz 1 (zs.map iv) xs o → xs = zs.map (fun k => Value.int .i64 k) ∧ o = []
  | [], xs, o, h => by simpa [RepRows] using h
  | z :: zs, xs, o, h => by
    simp only [List.map_cons, RepRows] at h
    obtain ⟨x1, x2, o1, o2, rfl, rfl, _, hr, hrs⟩ := h
    obtain ⟨rfl, rfl⟩ := rows_iv hrs
    simp only [iv, RepRow, RepC] at hr
    obtain ⟨x, xs', o3, o4, rfl, rfl, ⟨rfl, _, rfl⟩, rfl, rfl⟩ := hr
    exact ⟨rfl, rfl⟩
theorem keepW {w w' : World} {Fz : Nat → Prop} {av : AV} {x : Value} (hlt : ∀ b, Fz b → b < w.heap.size) (hE : Ext w w' []) (h : RepC w Fz av x []) : RepC w' Fz av x [] :=
  h.keep _ _ _ ⟨fun b hb => ⟨hb, hE.blk b (hlt b hb) (by simp)⟩, fun b hb => by simp at hb⟩
def InT (l : List Ty) : Type := { x : Int × Int // 0 ≤ x.2 ∧ x.2.toNat < l.length }
def flds (l : List Ty) (pre : List (InT l)) : List Go.AM.Fd := pre.flatMap fun x => fdsAt l x.1.2
theorem flds_snoc (l : List Ty) (pre : List (InT l)) (x : InT l) : flds l (pre ++ [x]) = flds l pre ++ fdsAt l x.1.2 := by simp [flds]
theorem flds_len {l : List Ty} (ht : tysOk l = true) : ∀ pre : List (InT l), (flds l pre).length ≤ 6 * pre.length
  | [] => by simp [flds]
  | x :: pre => by
    have h1 := flds_len ht pre
    have h2 := fdsAt_len ht x.1.2
    simp only [flds, List.flatMap_cons, List.length_append, List.length_cons] at h1 ⊢
    omega
theorem rows_fd {w : World} {Fz : Nat → Prop} : ∀ {fs : List Go.AM.Fd} {xs : List Value} {o : List Nat}, RepRows w Fz 3 (fs.map Go.AM.Fd.o) xs o → o = []
  | [], xs, o, h => by simp only [List.map_nil, RepRows] at h; exact h.2
  | f :: fs, xs, o, h => by
    simp only [List.map_cons, RepRows] at h
    obtain ⟨x1, x2, o1, o2, rfl, rfl, _, hr, hrs⟩ := h
    rw [rows_fd hrs, List.append_nil]
    simp only [Go.AM.Fd.o, RepRow, RepC] at hr
    obtain ⟨_, _, _, _, rfl, rfl, ⟨_, _, rfl⟩, _, _, _, _, rfl, rfl, ⟨_, _, rfl⟩, _, _, _, _, rfl, rfl, ⟨_, _, rfl⟩, _, rfl⟩ := hr
    rfl
theorem own_cells {w : World} {Fz : Nat → Prop} {fs : List Go.AM.Fd} {x : Value} {o : List Nat} (h : RepC w Fz (.box 32 [.usl 48 3 (fs.map Go.AM.Fd.o)]) x o) : ∀ b ∈ o, ∃ cur e p, w.heap[b]? = some (.cells cur e p) := by
  simp only [RepC, RepRow] at h
  obtain ⟨g, xs, o', rfl, rfl, hg, y, ys, o1, o2, rfl, rfl, hu, rfl, rfl⟩ := h
  intro b hb
  rcases List.mem_cons.1 hb with rfl | hb
  · exact ⟨_, _, _, hg⟩
  · simp only [List.append_nil] at hb
    rcases hu with ⟨_, _, rfl⟩ | ⟨g2, h2, c, cur, vs, o3, _, rfl, hg2, _, _, hr, _⟩
    · simp at hb
    · rw [rows_fd hr] at hb
      simp only [List.mem_singleton] at hb
      subst hb
      exact ⟨_, _, _, hg2⟩
def noF : Nat → Prop := fun _ => False
def LI (B : Nat) (w6 : World) (l : List Ty) (pre : List (InT l)) (W : World) : Prop := ∃ o5, RepC W noF (.box 32 [.usl 48 3 ((flds l pre).map Go.AM.Fd.o)]) (.pointer (some ⟨B + 1 + 1, 0, none⟩)) o5 ∧ o5.Nodup ∧
  (∀ b ∈ o5, (b = B + 1 + 1 ∨ b = B + 1 ∨ w6.heap.size ≤ b) ∧ b < W.heap.size) ∧ Ext w6 W [B + 1 + 1, B + 1]
theorem LI_own (B : Nat) (w6 : World) (l : List Ty) : OwnFrom w6.heap.size (LI B w6 l) := by
  rintro s W W' row ⟨o5, h1, h2, h3, h4⟩ hg hr
  have hsame : ∀ b, b < W.heap.size → (∀ r, row = some r → b ≠ r) → W'.heap[b]? = W.heap[b]? := fun b hb hn => hg.block b hb (by intro e; exact hn b e.symm rfl)
  refine ⟨o5, h1.keep _ _ _ ⟨fun b hb => hb.elim, fun b hb => hsame b (h3 b hb).2 ?_⟩, h2, fun b hb => ⟨(h3 b hb).1, Nat.lt_of_lt_of_le (h3 b hb).2 hg.size⟩, ⟨hg.os.trans h4.os, hg.tape.trans h4.tape, hg.output.trans h4.output, Nat.le_trans h4.size hg.size, fun b hb hn => (hsame b (Nat.lt_of_lt_of_le hb h4.size) ?_).trans (h4.blk b hb hn)⟩⟩
  · rintro r e rfl
    obtain ⟨_, o, ho, hc⟩ := hr b e
    obtain ⟨cur, e', p, hcur⟩ := own_cells h1 b hb
    rw [hcur] at ho
    cases ho
    simp [Obj.isCells] at hc
  · rintro r e rfl
    have := (hr b e).1
    omega
theorem Rd_of {Bs b off len cap : Nat} {zs : List Int} {W W' : World} (h1 : W'.heap[Bs]? = W.heap[Bs]?) (h2 : W'.heap[b]? = W.heap[b]?) (h : Rd Bs b off len cap zs W) : Rd Bs b off len cap zs W' := by
  refine ⟨?_, fun j hj => ?_⟩
  · rw [World.cell?_of_block (w := W) h1]; exact h.1
  · rw [World.cell?_of_block (w := W) h2]; exact h.2 j hj
def bCtx (W : World) (F0 : Nat → Prop) (o5 : List Nat) (v5 : Value) : Ctx := { w0 := W, Fz := F0, own0 := o5, fx := fun e => if e = 5 then some v5 else none }
def bSt (l : List Ty) (fs : List Go.AM.Fd) (k : Int) : St := stl [(2, .fptr [.fsl 6 (l.map Ty.z)]), (5, .box 32 [.usl 48 3 (fs.map Go.AM.Fd.o)]), (7, .v (.int .i64 k))]
theorem bSim' {l : List Ty} {fs : List Go.AM.Fd} {k : Int} {W : World} {F0 : Nat → Prop} {o5 : List Nat} {a : Act} (hd : a.defers = []) (hn : a.tmps.size = 23) (h2 : RepC W F0 (.fptr [.fsl 6 (l.map Ty.z)]) (tmOf a 2) []) (h5 : RepC W noF (.box 32 [.usl 48 3 (fs.map Go.AM.Fd.o)]) (tmOf a 5) o5)
    (h7 : tmOf a 7 = .int .i64 k) (hnd : o5.Nodup) (hlt : ∀ b ∈ o5, b < W.heap.size ∧ ¬ F0 b) (hF : ∀ b, F0 b → b < W.heap.size) : Sim (bCtx W F0 o5 (tmOf a 5)) 23 (bSt l fs k) a W := by
  refine ⟨hd, ⟨hn, fun k v h => ?_⟩, fun k => if k = 5 then o5 else [], Ext.refl _ _, fun k' => ?_, fun k => ?_, fun j k hjk b hb => ?_, by simp, by simp, ?_⟩
  · simp only [bCtx] at h
    split at h
    · rename_i e; subst e; exact Option.some.inj h
    · cases h
  · have hfz : ∀ b, F0 b → frz (bCtx W F0 o5 (tmOf a 5)) W (owned (fun k => if k = 5 then o5 else []) []) b := by
      intro b hb
      refine ⟨hF b hb, .inr (.inl hb), ?_⟩
      rintro (⟨k, hk⟩ | hk)
      · simp only at hk
        split at hk
        · exact (hlt b hk).2 hb
        · simp at hk
      · simp at hk
    by_cases e2 : k' = 2
    · subst e2
      exact (h2.keep (w' := W) (Fz' := frz (bCtx W F0 o5 (tmOf a 5)) W (owned (fun k => if k = 5 then o5 else []) [])) _ _ _ ⟨fun b hb => ⟨hfz b hb, rfl⟩, fun _ _ => rfl⟩).toV
    by_cases e5 : k' = 5
    · subst e5
      exact (h5.keep (w' := W) (Fz' := frz (bCtx W F0 o5 (tmOf a 5)) W (owned (fun k => if k = 5 then o5 else []) [])) _ _ _ ⟨fun b hb => hb.elim, fun _ _ => rfl⟩).toV
    by_cases e7 : k' = 7
    · subst e7
      rw [h7]
      simp [bSt, stl, RepV, RepC, Value.oneCell']
    · simp [bSt, stl, e2, e5, e7, RepV]
  · by_cases e : k = 5
    · simp [e, hnd]
    · simp [e]
  · by_cases e : j = 5
    · have hk : k ≠ 5 := fun h => hjk (e.trans h.symm)
      simp [hk]
    · simp [e] at hb
  · rintro b (⟨k, hk⟩ | hk)
    · simp only at hk
      split at hk
      · exact ⟨.inl hk, (hlt b hk).1⟩
      · simp at hk
    · simp at hk
theorem bSim {l : List Ty} {fs : List Go.AM.Fd} {k : Int} {W : World} {F0 : Nat → Prop} {o5 : List Nat} {a : Act} {v2 v5 : Value} (hd : a.defers = []) (hn : a.tmps.size = 23) (e2 : tmOf a 2 = v2) (e5 : tmOf a 5 = v5) (h7 : tmOf a 7 = .int .i64 k) (h2 : RepC W F0 (.fptr [.fsl 6 (l.map Ty.z)]) v2 []) (h5 : RepC W noF (.box 32 [.usl 48 3 (fs.map Go.AM.Fd.o)]) v5 o5)
    (hnd : o5.Nodup) (hlt : ∀ b ∈ o5, b < W.heap.size ∧ ¬ F0 b) (hF : ∀ b, F0 b → b < W.heap.size) : Sim (bCtx W F0 o5 v5) 23 (bSt l fs k) a W := by
  subst e2 e5
  exact bSim' hd hn h2 h5 h7 hnd hlt hF
end Go.Proofs.AllF
namespace Go.Proofs.AllF
open Go Go.AM Go.RowKit Go.Shelf Go.Proofs Go.Proofs.Backw
attribute [local go_sem] Oper.semAt_some
set_option linter.unusedVariables false
set_option linter.unusedSimpArgs false
def noDef (ops : Array Oper) : Bool := ops.all fun o => match o.op with
  | .defer _ => false
  | _ => true
theorem noDef_spec {ops : Array Oper} (h : noDef ops = true) (i : Nat) (o : Oper) (c : Call) (ho : ops[i]? = some o) : o.op ≠ .defer c := by
  intro e
  simp only [noDef, Array.all_eq_true] at h
  obtain ⟨hi, rfl⟩ := Array.getElem?_eq_some_iff.1 ho
  have := h i hi
  rw [e] at this
  simp at this
theorem allL_rev (l : List Ty) : ∀ zs : List Int, allL l zs = zs.reverse.flatMap (fdsAt l)
  | [] => rfl
  | z :: zs => by simp [allL, allL_rev l zs]
theorem flds_all {l : List Ty} {zs : List Int} {fr : Nat → InT l} (h : ∀ k, (fr k).1.2 = zs[zs.length - 1 - k]?.getD 0) : flds l (upto fr zs.length) = allL l zs := by
  have e : (upto fr zs.length).map (fun x => x.1.2) = zs.reverse := by
    apply List.ext_getElem
    · simp [upto]
    · intro i h1 h2
      have hi : i < zs.length := by simpa using h2
      have hj : zs.length - 1 - i < zs.length := by omega
      simp [upto, h, List.getElem_reverse, hj]
  rw [allL_rev, ← e, List.flatMap_map]
  rfl
def bodyT : TT := .alt (.step 0 ⟨(some 15), none, .q (.load false 1 (.t 5))⟩
           (.step 1 ⟨(some 16), none, .q (.load false 1 (.t 2))⟩
            (.step 3 ⟨(some 18), none, .q (.iad 6 (.t 16) (.t 17))⟩
             (.step 4 ⟨(some 19), none, .q (.fad 3 (.t 18))⟩
              (.step 5 ⟨(some 20), none, .q (.load false 1 (.t 19))⟩
               (.step 6 ⟨(some 21), none, .a (.app false 48 3 32 (.t 15) (.t 20))⟩
                (.step 7 ⟨none, none, .a (.store 1 (.t 5) (.t 21))⟩
                 .nil)))))))
           (.step 1 ⟨(some 16), none, .q (.load false 1 (.t 2))⟩
           (.step 3 ⟨(some 18), none, .q (.iad 6 (.t 16) (.t 17))⟩
            (.step 4 ⟨(some 19), none, .q (.fad 3 (.t 18))⟩
             (.alt (.step 0 ⟨(some 15), none, .q (.load false 1 (.t 5))⟩
              (.step 5 ⟨(some 20), none, .q (.load false 1 (.t 19))⟩
               (.step 6 ⟨(some 21), none, .a (.app false 48 3 32 (.t 15) (.t 20))⟩
                (.step 7 ⟨none, none, .a (.store 1 (.t 5) (.t 21))⟩
                 .nil))))
              (.step 5 ⟨(some 20), none, .q (.load false 1 (.t 19))⟩
              (.step 0 ⟨(some 15), none, .q (.load false 1 (.t 5))⟩
               (.step 6 ⟨(some 21), none, .a (.app false 48 3 32 (.t 15) (.t 20))⟩
                (.step 7 ⟨none, none, .a (.store 1 (.t 5) (.t 21))⟩
                 .nil))))))))
def bodyM : MC := .mixt [7] [2, 5] [] [] [2] [⟨(some 17), none, .q (.mov (.t 7))⟩] bodyT
set_option maxRecDepth 100000 in
theorem body_awp {l : List Ty} {fs : List Go.AM.Fd} {k : Int} (h0 : 0 ≤ k) (h1 : k.toNat < l.length) (hl : fs.length + (fdsAt l k).length ≤ 1000) :
    awp Tryz.prog bodyM (fun e st => st 5 = .box 32 [.usl 48 3 ((fs ++ fdsAt l k).map Go.AM.Fd.o)]) (bSt l fs k) := by
  have h2 : k < (l.length : Int) := by omega
  have he : (fs ++ fdsAt l k).map Go.AM.Fd.o = fs.map Go.AM.Fd.o ++ l[k.toNat].fields.map Go.AM.Fd.z := by rw [fdsAt_eq h1, List.map_append]; rfl
  rw [fdsAt_eq h1] at hl
  simp only [he, bodyM, bodyT, bSt, h0, h1, h2, nth_map h1, Ty.z, EV, Nat.reduceEqDiff, Nat.reduceBEq, Nat.reduceLT, Nat.reduceLeDiff, Nat.reduceAdd, Nat.reduceSub, reduceIte]
  exact ⟨.inl trivial, by omega, by omega⟩
set_option maxRecDepth 100000 in
set_option maxHeartbeats 2000000 in
theorem c17 (l : List Ty) (n : Int) (hl : (l.length : Int) ≤ 1048576) (ht : tabOk l = true) (hr : isRec l n = true) : Con Tryz.prog 17 [.fsl 6 (l.map Ty.z), .v (.int .i64 n)] false (.usl 48 3 ((allF l n).map Go.AM.Fd.o)) [.dead, .dead] := by
  intro w Fz xs os hrep hos hfz hlt
  simp only [RepVs] at hrep
  obtain ⟨sv, _, o1, _, rfl, rfl, h1, _, _, o2, _, rfl, rfl, h2, rfl, rfl⟩ := hrep
  simp only [RepV] at h1 h2
  have h1' := h1
  simp only [RepC] at h1 h2
  obtain ⟨rfl, A, cap, rfl, hcap, hA⟩ := h1
  obtain ⟨rfl, _, rfl⟩ := h2
  refine callsIn_wide (n := 9).1 (callsIn_of_wp_marks Tryz.func17 rfl trivial ?_ rfl)
  simp only [Tryz.ntmps17, List.size_toArray, List.length_cons, List.length_nil, Nat.reduceAdd, Nat.reduceSub, Array.replicate_succ, Array.replicate_zero, List.push_toArray, List.append_toArray, List.nil_append, List.cons_append]
  obtain ⟨w4, hw4⟩ : ∃ w4, (((w.alloc (Obj.cells #[Value.slice A l.length cap] 24)).alloc (Obj.cells #[] 48)).alloc (Obj.cells #[Value.slice (some { block := w.heap.size + 1, off := 0 }) 0 0] 32)) = w4 := ⟨_, rfl⟩
  have hE4 : Ext w w4 [] := by
    rw [← hw4]
    exact ((Ext.alloc _ _ _).trans (Ext.alloc _ [] _) (by simp)).trans (Ext.alloc _ [] _) (by simp)
  have hs4 : w4.heap.size = w.heap.size + 3 := by rw [← hw4]; simp
  have hb2 : w4.heap[w.heap.size]? = some (.cells #[Value.slice A l.length cap] 24) := by
    rw [← hw4]
    rw [Below.heap_alloc _ _ _ (by simp; omega), Below.heap_alloc _ _ _ (by simp)]
    exact World.alloc_heap_new _ _
  have hb3 : w4.heap[w.heap.size + 1]? = some (.cells #[] 48) := by
    rw [← hw4]
    rw [Below.heap_alloc _ _ _ (by simp)]
    have := World.alloc_heap_new (w.alloc (Obj.cells #[Value.slice A l.length cap] 24)) (.cells #[] 48)
    rwa [World.size_alloc] at this
  have hb5 : w4.heap[w.heap.size + 1 + 1]? = some (.cells #[Value.slice (some { block := w.heap.size + 1, off := 0 }) 0 0] 32) := by
    rw [← hw4]
    have := World.alloc_heap_new ((w.alloc (Obj.cells #[Value.slice A l.length cap] 24)).alloc (.cells #[] 48)) (Obj.cells #[Value.slice (some { block := w.heap.size + 1, off := 0 }) 0 0] 32)
    rwa [World.size_alloc, World.size_alloc] at this
  have hline := (d37 l n hl ht (.inr hr)).2 w4 Fz [Value.slice A l.length cap, Value.int IntKind.i64 n] [] ⟨_, _, [], [], rfl, rfl, (keepW hlt hE4 (by simpa using h1')).toV, _, _, [], [], rfl, rfl, by simp [RepV, RepC, Value.oneCell'], rfl, rfl⟩ List.nodup_nil (by simp) (fun b hb => by have := hlt b hb; omega)
  have hc2 : w4.cell? ⟨w.heap.size, 0, none⟩ = some (Value.slice A l.length cap) := by rw [cell_of_cells hb2]; rfl
  gi_wp2
  refine ⟨trivial, (callsIn_wide.2 hline).mono ?_⟩
  rintro e w5 ⟨x, ox, oo, rfl, hE5, hx, ho, hnd, hold⟩
  simp only [RepV] at hx
  have hlr := lineL_rec ht hr
  obtain ⟨zs, hzs⟩ : ∃ zs, lineL l n = zs := ⟨_, rfl⟩
  rw [hzs] at hx
  have hz0 : zs ≠ [] := by rw [← hzs, hlr]; simp
  simp only [RepC] at hx
  rcases hx with ⟨_, hx, _⟩ | ⟨g, h, c, cur, vs, o', rfl, rfl, hg, hc, hfit, hrw, hat⟩
  · exact absurd (List.map_eq_nil_iff.1 hx) hz0
  obtain ⟨rfl, rfl⟩ := rows_iv hrw
  simp only [List.length_map, Nat.mul_one] at hat ⊢
  gi_wp2
  refine ⟨trivial, (back_in Fence.wide _ trivial rfl _ _ _ _).mono ?_⟩
  rintro e w6 ⟨rfl, hw6⟩
  gi_wp2
  rw [← hw6]
  have hE56 : Ext w5 w6 [] := by rw [hw6]; exact Ext.alloc _ _ _
  have hE46 : Ext w4 w6 [] := hE5.trans hE56 (by simp)
  have hE6 : Ext w w6 [] := hE4.trans hE46 (by simp)
  have hs6 : w6.heap.size = w5.heap.size + 1 := by rw [hw6]; simp
  have hg5 : g < w5.heap.size := (hold g (by simp)).2
  have hg4 : w4.heap.size ≤ g := by rcases (hold g (by simp)).1 with h | h; simp at h; exact h
  have hs5 := hE5.size
  have hbs : w6.heap[w5.heap.size]? = some (.cells #[Value.slice (some { block := g, off := h }) zs.length c] 44) := by rw [hw6]; exact World.alloc_heap_new _ _
  have hRd : Rd w5.heap.size g h zs.length c zs w6 := by
    refine ⟨by rw [cell_of_cells hbs]; rfl, fun j hj => ?_⟩
    have := (hat.of_block (hE56.blk g hg5 (by simp))) j (.int .i64 zs[j]) (by simp [hj])
    rw [this]; simp [hj]
  have c2 : w6.heap[w.heap.size]? = some (Obj.cells #[Value.slice A l.length cap] 24) := (hE46.blk _ (by omega) (by simp)).trans hb2
  have c3 : w6.heap[w.heap.size + 1]? = some (.cells #[] 48) := (hE46.blk _ (by omega) (by simp)).trans hb3
  have c5 : w6.heap[w.heap.size + 1 + 1]? = some (Obj.cells #[Value.slice (some { block := w.heap.size + 1, off := 0 }) 0 0] 32) := (hE46.blk _ (by omega) (by simp)).trans hb5
  have h0 : LI w.heap.size w6 l [] w6 := by
    refine ⟨[w.heap.size + 1 + 1, w.heap.size + 1], ?_, by simp, ?_, Ext.refl _ _⟩
    · simp only [RepC, RepRow]
      refine ⟨_, [Value.slice (some { block := w.heap.size + 1, off := 0 }) 0 0], [w.heap.size + 1], rfl, rfl, c5, _, [], [w.heap.size + 1], [], rfl, rfl, .inr ⟨w.heap.size + 1, 0, 0, #[], [], [], by simp [flds], rfl, c3, by simp [flds], by simp, by simp [flds, RepRows], ?_⟩, rfl, rfl⟩
      intro j u hj; simp at hj
    · intro b hb
      simp only [List.mem_cons, List.not_mem_nil, or_false] at hb
      rcases hb with rfl | rfl
      · exact ⟨.inl rfl, by omega⟩
      · exact ⟨.inr (.inl rfl), by omega⟩
  let F0 : Nat → Prop := fun b => Fz b ∨ b = w.heap.size
  have hF0 : ∀ b, F0 b → b < w.heap.size + 1 := by rintro b (h | rfl); exact Nat.lt_succ_of_lt (hlt b h); omega
  have hl6 : RepC w6 Fz (.fsl 6 (l.map Ty.z)) (Value.slice A l.length cap) [] := keepW hlt hE6 (by simpa using h1')
  have f2 : RepC w6 F0 (.fptr [.fsl 6 (l.map Ty.z)]) (.pointer (some ⟨w.heap.size, 0, none⟩)) [] := by
    simp only [RepC, RepRow]
    refine ⟨trivial, w.heap.size, 0, [Value.slice A l.length cap], rfl, .inr rfl, ⟨_, [], [], [], rfl, rfl, ?_, rfl, rfl⟩, ?_⟩
    · have := hl6.keep (w' := w6) (Fz' := F0) _ _ _ ⟨fun b hb => ⟨.inl hb, rfl⟩, fun _ _ => rfl⟩
      simpa only [RepC] using this
    · intro j u hj
      rw [cell_of_cells c2]
      simpa using hj
  have hzin : ∀ j : Nat, 0 ≤ (zs[j]?.getD (0 : Int)) ∧ (zs[j]?.getD (0 : Int)).toNat < l.length := by
    intro j
    have h3 := (tysOk_len (tabOk_tys ht)).1
    by_cases hj : j < zs.length
    · have hm : zs[j] ∈ lineL l n := by rw [hzs]; exact List.getElem_mem hj
      obtain ⟨q0, q1, q2, _⟩ := isRec_in (lineL_in ht _ _ (.inr hr) _ hm)
      simp [hj, q0, q2]
    · simp [List.getElem?_eq_none (Nat.le_of_not_lt hj)]; omega
  have hz25 : zs.length ≤ 25 := by have h1 := lineL_len l n; have h2 := tabOk_len ht; rw [hzs] at h1; omega
  let fr : Nat → InT l := fun k => ⟨(((zs.length - 1 - k : Nat) : Int), zs[zs.length - 1 - k]?.getD 0), hzin _⟩
  have hstop := back_stops Fence.wide 8 trivial rfl (by omega) w5.heap.size g h zs.length c zs (fun x : InT l => #[Value.int .i64 x.1.1, Value.int .i64 x.1.2]) fr
    (fun k j hj => by have : zs.length - 1 - k = j := by omega
                      simp only [fr, this]) (by omega) w6 (by omega) (by omega) hRd
  refine wpIn_rangeFunc_ownF rfl (by omega) (gf := 53) (lb := #[.pointer (some ⟨w5.heap.size, 0, none⟩)]) rfl trivial (enters_of Tryz.func53 (by kernel_rfl) rfl) hstop (fun h k r => k (h r))
    (fun W lo o o' hlo _ _ _ h => Rd_of (World.putObj_heap_other (by omega)) (World.putObj_heap_other (by omega)) h) (Below.refl _ _) (fun _ => rfl)
    (LI w.heap.size w6 l) (fun _ _ _ => False) (LI_own _ _ _) (fun _ _ _ _ _ hs _ _ => hs) h0
    (fun x => { tmps := #[Value.slice A l.length cap, Value.int IntKind.i64 n, Value.pointer (some { block := w.heap.size, off := 0 }),
          undef, Value.slice none 0 0, Value.pointer (some { block := w.heap.size + 1 + 1, off := 0 }), undef, Value.int IntKind.i64 x.1.2,
          Value.slice (some { block := w.heap.size + 1, off := 0 }) 0 0, Value.slice A l.length cap,
          Value.int IntKind.i64 n, Value.slice (some { block := g, off := h }) zs.length c,
          Value.func (Fn.func 53) #[] #[Value.pointer (some { block := w5.heap.size, off := 0 })], Value.int IntKind.i64 x.1.1, Value.int IntKind.i64 x.1.2, undef,
          undef, undef, undef, undef, undef, undef, undef], defers := [] }) ?assign ?body ?done ?stop
  case assign =>
    intro l x W K hK
    gi_wp2
    exact hK
  case stop =>
    rintro D c pre W _ _ h _
    exact h.elim
  case done =>
    rintro D ys W hD rfl hI hK
    obtain ⟨o5, i1, i2, i3, i4⟩ := hI
    have hfl : flds l (upto fr zs.length) = allF l n := by
      rw [flds_all (fun k => rfl)]
      unfold allF
      rw [hzs]
    rw [hfl] at i1
    have hcl := own_cells i1
    simp only [RepC, RepRow] at i1
    obtain ⟨g5, xs5, o', hp, rfl, hg5', y, _, oy, _, rfl, rfl, hu, rfl, rfl⟩ := i1
    simp only [Value.pointer.injEq, Option.some.injEq, Addr.mk.injEq, and_true] at hp
    subst hp
    have hc5 : W.cell? ⟨w.heap.size + 1 + 1, 0, none⟩ = some y := by rw [cell_of_cells hg5']; rfl
    simp only [List.append_nil] at i2 i3
    gi_wp2
    refine ⟨by simp, .inl ⟨_, _, rfl, run_takeDeferred hK, ?_⟩⟩
    have hu' : RepC W noF (.usl 48 3 ((allF l n).map Go.AM.Fd.o)) y oy := by simp only [RepC]; exact hu
    have hW6 := i4.size
    have hEw : Ext w W [] := hE6.trans i4 fun b hb hlt => by simp only [List.mem_cons, List.not_mem_nil, or_false] at hb; omega
    have hEp : Ext w (W.putObj D (.deferred none)) [] := ⟨hEw.os, hEw.tape, hEw.output, by have := hEw.size; simpa using this, fun b hb hn => (World.putObj_heap_other (by omega)).trans (hEw.blk b hb hn)⟩
    have hsame : ∀ b ∈ oy, (W.putObj D (.deferred none)).heap[b]? = W.heap[b]? := fun b hb => World.putObj_heap_other (by
      rintro rfl
      obtain ⟨cur, e, p, hcur⟩ := hcl _ (List.mem_cons_of_mem _ (by simpa using hb))
      rw [hcur] at hK
      cases hK)
    have hk' := hu'.keep (w' := W.putObj D (.deferred none)) (Fz' := noF) _ _ _ ⟨fun b hb => hb.elim, hsame⟩
    refine ⟨_, results_tmp rfl _ _ _, y, oy, [], rfl, hEp, (nfzC _ hk' (by simp only [nfz, Go.AM.Fd.nfz])).toV, ⟨_, _, [], [], rfl, rfl, rfl, _, _, [], [], rfl, rfl, rfl, rfl, rfl⟩, by simpa using (List.nodup_cons.1 i2).2, fun b hb => ?_⟩
    have hb' : b ∈ oy := by simpa using hb
    obtain ⟨q1, q2⟩ := i3 b (List.mem_cons_of_mem _ hb')
    exact ⟨.inr (by omega), by simpa using q2⟩
  case body =>
    rintro lp pre x W ⟨o5, i1, i2, i3, i4⟩ hlen
    have hx := x.2
    have f2W : RepC W F0 (.fptr [.fsl 6 (l.map Ty.z)]) (.pointer (some ⟨w.heap.size, 0, none⟩)) [] :=
      f2.keep _ _ _ ⟨fun b hb => ⟨hb, i4.blk b (by have := hF0 b hb; omega) (by have := hF0 b hb; simp; omega)⟩, fun b hb => by simp at hb⟩
    have hW6 := i4.size
    have hnF : ∀ b ∈ o5, b < W.heap.size ∧ ¬ F0 b := fun b hb => ⟨(i3 b hb).2, fun hf => by have := hF0 b hf; have := (i3 b hb).1; omega⟩
    have hp1 := flds_len (tabOk_tys ht) pre
    have hp2 := fdsAt_len (tabOk_tys ht) x.1.2
    refine wpIn_block ?_
    refine mixt_round (N := 23) (fx := [5]) (c := bCtx W F0 o5 (.pointer (some ⟨w.heap.size + 1 + 1, 0, none⟩))) (noDef_spec (by decide +kernel)) ?_ (FL := [7]) (WL := [2, 5]) (RL := []) (B := []) (fi := [2]) (fs := [⟨(some 17), none, .q (.mov (.t 7))⟩]) (t := bodyT) (by decide +kernel)
      (bSim (l := l) (fs := flds l pre) (k := x.1.2) (F0 := F0) (o5 := o5) (by rfl) (by rfl) (by rfl) (by rfl) (by rfl) f2W i1 i2 hnF (fun b hb => by have := hF0 b hb; omega)) (body_awp (fs := flds l pre) hx.1 hx.2 (by omega)) ?_
    · intro e he
      simp only [bCtx] at he
      split at he
      · rename_i h; simp [h]
      · exact absurd rfl he
    · rintro st a' W' S' h5
      obtain ⟨own, C⟩ := S'.core
      have r5 := C.rep 5
      have hv5 : tmOf a' 5 = .pointer (some ⟨w.heap.size + 1 + 1, 0, none⟩) := S'.size.2 5 _ (by simp [bCtx])
      rw [h5, hv5] at r5
      have r5' := nfzC (Fz' := noF) _ (by simpa only [RepV] using r5) (by simp only [nfz, nfzs, Go.AM.Fd.nfz, Bool.and_self])
      have hE : Ext W W' o5 := C.fr
      refine ⟨⟨hE.size, fun k o hk hc => ?_⟩, fun hR => ?_, own 5, by rw [flds_snoc]; exact r5', C.nd 5, fun b hb => ?_, ?_⟩
      · have hkW := (Array.getElem?_eq_some_iff.1 hk).1
        refine (hE.blk k hkW fun hm => ?_).trans hk
        obtain ⟨cur, e, p, hcur⟩ := own_cells i1 k hm
        rw [hcur] at hk
        cases hk
        simp [Obj.isCells] at hc
      · refine Rd_of (hE.blk _ (by omega) fun hm => ?_) (hE.blk _ (by omega) fun hm => ?_) hR
        · have := (i3 _ hm).1; omega
        · have := (i3 _ hm).1; omega
      · obtain ⟨q1, q2⟩ := C.old b (.inl ⟨5, hb⟩)
        refine ⟨?_, q2⟩
        rcases q1 with q1 | q1
        · exact (i3 b q1).1
        · simp only [bCtx] at q1; exact .inr (.inr (by omega))
      · refine i4.trans hE fun b hb hlt => ?_
        have := (i3 b hb).1
        simp only [List.mem_cons, List.not_mem_nil, or_false]
        omega
end Go.Proofs.AllF
namespace Go.AM
theorem d17 (l : List Ty) (n : Int) (hl : (l.length : Int) ≤ 1048576) (ht : tabOk l = true) (hr : isRec l n = true) : Does Go.Proofs.Tryz.prog 17 [.fsl 6 (l.map Ty.z), .v (.int .i64 n)] false (.usl 48 3 ((allF l n).map Fd.o)) [.dead, .dead] :=
  ⟨by decide +kernel, Go.Proofs.AllF.c17 l n hl ht hr⟩
end Go.AM
namespace Go.AM
set_option linter.unusedVariables false
set_option linter.unusedSimpArgs false
def m4 : MC :=
 (.seq (.reg [Xb 4 (.asg .fb)]) (.seq (.reg [Xm 5 0, Xn 6 5, Xq 7 (.bin false .gtr (.t 6) (.i 1048576)), Xm 8 7, Xu 9 8 (.mov (.t 1)), Xu 10 8 (.len false (.t 9)), Xu 11 8 (.mov (.t 0)), Xu 12 8 (.len false (.t 11)), Xu 13 8 (.bin false .sub (.i 1048576) (.t 12)), Xu 14 8 (.bin false .gtr (.t 10) (.t 13)), Xq 15 (.pick (.t 8) .tb (.t 14)), Xa 4 15]) .ret))
theorem d4 (a b : List Int) (ha : (a.length : Int) ≤ 9223372036854775807) (hb : (b.length : Int) ≤ 9223372036854775807) : Does Go.Proofs.Tryz.prog 4 [.fsl 1 (a.map bv), .fsl 1 (b.map bv)] false (.v (.bool (decide (1048576 < (a.length : Int)) || decide (1048576 - (a.length : Int) < (b.length : Int))))) [.dead, .dead] := by
  refine does_intro (mc := m4) (N := 16) (rs := [4]) (fx := []) 2 rfl (by decide +kernel) ?_
  simp only [m4, EV, Nat.reduceEqDiff, Nat.reduceBEq, Nat.reduceLT, Nat.reduceLeDiff, Nat.reduceAdd, Nat.reduceSub, reduceIte]
  rcases e : decide (1048576 < (a.length : Int)) with _ | _
  · have h : ¬ 1048576 < (a.length : Int) := by simpa using e
    have w := w64 (1048576 - (a.length : Int)) (by omega)
    simp only [w, EV, Nat.reduceEqDiff, Nat.reduceBEq, Nat.reduceLT, Nat.reduceLeDiff, Nat.reduceAdd, Nat.reduceSub, reduceIte]
    simp only [Bool.false_or, EV, Nat.reduceEqDiff, Nat.reduceBEq, Nat.reduceLT, Nat.reduceLeDiff, Nat.reduceAdd, Nat.reduceSub, reduceIte, evRE, retVC, cellV', evR, nfz, nfzs, nfzss, List.contains_nil, List.contains_cons, Bool.or_false, or_true]
  · simp only [EV, Nat.reduceEqDiff, Nat.reduceBEq, Nat.reduceLT, Nat.reduceLeDiff, Nat.reduceAdd, Nat.reduceSub, reduceIte]
    simp only [Bool.true_or, EV, Nat.reduceEqDiff, Nat.reduceBEq, Nat.reduceLT, Nat.reduceLeDiff, Nat.reduceAdd, Nat.reduceSub, reduceIte, evRE, retVC, cellV', evR, nfz, nfzs, nfzss, List.contains_nil, List.contains_cons, Bool.or_false, or_true]
end Go.AM
namespace Go.AM
set_option linter.unusedVariables false
set_option linter.unusedSimpArgs false
theorem line_suf {l : List Ty} (ht : tabOk l = true) : ∀ (k : Nat) (a b : Int), (lineL l a).length < k → isRec l a = true → b ∈ lineL l a → ∃ pre, lineL l a = pre ++ lineL l b
  | 0, a, b, h, _, _ => absurd h (by omega)
  | k + 1, a, b, h, hr, hm => by
    have hlr := lineL_rec ht hr
    rw [hlr] at hm
    rcases List.mem_cons.1 hm with rfl | hm
    · exact ⟨[], rfl⟩
    · rcases (isRec_base (tabOk_tys ht) hr).1 with hb | hb
      · rw [lineL_neg hb] at hm; simp at hm
      · rw [hlr, List.length_cons] at h
        obtain ⟨pre, hp⟩ := line_suf ht k (baseAt l a) b (by omega) hb hm
        exact ⟨a :: pre, by rw [hlr, hp]; rfl⟩
theorem ext_suf {l : List Ty} {a b : Int} (ha : recOk l a = true) (h : extOk l a b = true) : ∃ pre, lineL l a = pre ++ lineL l b := by
  simp only [recOk, Bool.and_eq_true] at ha
  exact line_suf ha.1 _ a b (Nat.lt_succ_self _) ha.2 (List.contains_iff_mem.1 h)
theorem ext_all {l : List Ty} {a b : Int} (ha : recOk l a = true) (h : extOk l a b = true) : ∃ X, allF l a = allF l b ++ X := by
  obtain ⟨pre, hp⟩ := ext_suf ha h
  unfold allF
  rw [hp, allL_app]
  exact ⟨_, rfl⟩
end Go.AM
namespace Go.AM
set_option linter.unusedVariables false
set_option linter.unusedSimpArgs false
def capS (t : Ty) (s : Int) : Int := min 1000000001 (if (t.kind == 4) = true then s * t.long else s)
def sumZ (g : Int → Int) : List Int → Int
  | [] => 0
  | k :: ks => g k + sumZ g ks
def oneT (t : Ty) (g : Int → Int) : Int :=
  if (t.kind == 1) = true then 4 else if (t.kind == 2 || t.kind == 3) = true then 1 else if (t.kind == 6) = true then 8 else capS t (sumZ g (prt false t))
def szN (l : List Ty) : Nat → Int → Int
  | 0, _ => 0
  | f + 1, n => match l[n.toNat]? with
    | some t => oneT t (szN l f)
    | none => 0
def sz (l : List Ty) (n : Int) : Int := szN l (l.length + 1) n
theorem sumZ_congr {g g' : Int → Int} : ∀ {ks : List Int}, (∀ k ∈ ks, g k = g' k) → sumZ g ks = sumZ g' ks
  | [], _ => rfl
  | k :: ks, h => by rw [sumZ, sumZ, h k (by simp), sumZ_congr fun k hk => h k (by simp [hk])]
theorem oneT_congr {t : Ty} {g g' : Int → Int} (h : ∀ k ∈ prt false t, g k = g' k) : oneT t g = oneT t g' := by
  unfold oneT; rw [sumZ_congr h]
theorem szN_irr {l : List Ty} (ht : tabOk l = true) : ∀ (f f' : Nat) (n : Int), 0 ≤ n → n < (l.length : Int) → rk l n < f → rk l n < f' → szN l f n = szN l f' n
  | 0, _, n, _, _, h, _ => absurd h (by omega)
  | f + 1, 0, n, _, _, _, h => absurd h (by omega)
  | f + 1, f' + 1, n, h0, h1, h, h' => by
    have hn : n.toNat < l.length := by omega
    simp only [szN, List.getElem?_eq_getElem hn]
    refine oneT_congr fun k hk => ?_
    rw [← kids_at hn] at hk
    have hki := kids_ok (tabOk_tys ht) h0 h1 hk
    have hlt := rk_lt ht h0 h1 hk
    exact szN_irr ht f f' k hki.1 hki.2 (by omega) (by omega)
theorem sz_eq {l : List Ty} (ht : tabOk l = true) {n : Int} (h0 : 0 ≤ n) (h1 : n < (l.length : Int)) {hn : n.toNat < l.length} : sz l n = oneT l[n.toNat] (sz l) := by
  have hr := rk_le l n
  show szN l (l.length + 1) n = _
  rw [szN_irr ht _ (l.length + 2) n h0 h1 (by omega) (by omega)]
  simp only [szN, List.getElem?_eq_getElem hn]
  rfl
theorem rk_small {l : List Ty} (ht : tabOk l = true) {n : Int} (h0 : 0 ≤ n) (h1 : n < (l.length : Int)) : rk l n < l.length := by
  have hrd := tabOk_round ht h0 h1
  have hnm : n ∉ reachL l false (kids l false n) := by
    intro h
    simp [roundAt] at hrd
    exact hrd h
  have hnd : (n :: reachL l false (kids l false n)).Nodup := List.nodup_cons.2 ⟨hnm, up_nodup (reachL_up _ _ _)⟩
  have := nodup_le hnd (fun k hk => by
    rcases List.mem_cons.1 hk with rfl | hk
    · exact ⟨h0, h1⟩
    · exact (mem_reachL.1 hk).1)
  simp only [List.length_cons] at this
  unfold rk
  omega
theorem sumZ_nn {g : Int → Int} : ∀ {ks : List Int}, (∀ k ∈ ks, 0 ≤ g k) → 0 ≤ sumZ g ks
  | [], _ => by simp [sumZ]
  | k :: ks, h => by have := h k (by simp); have := sumZ_nn (ks := ks) fun k hk => h k (by simp [hk]); simp only [sumZ]; omega
theorem sumZ_le {g : Int → Int} {B : Int} : ∀ {ks : List Int}, (∀ k ∈ ks, g k ≤ B) → sumZ g ks ≤ B * ks.length
  | [], _ => by simp [sumZ]
  | k :: ks, h => by
    have h1 := h k (by simp)
    have h2 := sumZ_le (ks := ks) fun k hk => h k (by simp [hk])
    simp only [sumZ, List.length_cons]
    rw [Int.natCast_add, Int.mul_add]
    omega
theorem szN_nn {l : List Ty} (ht : tysOk l = true) : ∀ (f : Nat) (n : Int), 0 ≤ szN l f n ∧ szN l f n ≤ 1000000001
  | 0, n => by simp [szN]
  | f + 1, n => by
    unfold szN
    split
    · rename_i t e
      obtain ⟨hn, rfl⟩ := List.getElem?_eq_some_iff.1 e
      unfold oneT
      split
      · omega
      split
      · omega
      split
      · omega
      · have h1 : 0 ≤ sumZ (szN l f) (prt false l[n.toNat]) := sumZ_nn fun k _ => (szN_nn ht f k).1
        unfold capS
        split
        · rename_i hk
          have hl := (tysOk_good ht hn).arr (by simpa using hk)
          have : 0 ≤ sumZ (szN l f) (prt false l[n.toNat]) * l[n.toNat].long := Int.mul_nonneg h1 (by omega)
          omega
        · omega
    · omega
theorem sz_nn {l : List Ty} (ht : tysOk l = true) (n : Int) : 0 ≤ sz l n ∧ sz l n ≤ 1000000001 := szN_nn ht _ _
def getS (s : List Int) (k : Int) : Int := s[k.toNat]?.getD 0
def sumP (s : List Int) : List Int → Int → Option Int
  | [], a => some a
  | k :: ks, a => if getS s k < 0 then none else sumP s ks (a + getS s k)
def oneP (t : Ty) (s : List Int) : Int :=
  if (t.kind == 1) = true then 4 else if (t.kind == 2 || t.kind == 3) = true then 1 else if (t.kind == 6) = true then 8 else match sumP s (prt false t) 0 with
    | some x => capS t x
    | none => -1
theorem sumP_all {s : List Int} {g : Int → Int} (hg : ∀ k, 0 ≤ g k) : ∀ {ks : List Int} {a : Int}, (∀ k ∈ ks, getS s k = g k) → sumP s ks a = some (a + sumZ g ks)
  | [], a, _ => by simp [sumP, sumZ]
  | k :: ks, a, h => by
    have h1 := h k (by simp)
    have h2 := hg k
    rw [sumP, if_neg (by omega), sumP_all hg fun k hk => h k (by simp [hk]), sumZ, h1]
    congr 1; omega
theorem sumP_some {s : List Int} {g : Int → Int} (hg : ∀ k, 0 ≤ g k) : ∀ {ks : List Int} {a x : Int}, (∀ k ∈ ks, getS s k = g k ∨ getS s k = -1) → sumP s ks a = some x → x = a + sumZ g ks
  | [], a, x, _, h => by simp only [sumP, Option.some.injEq] at h; simp [sumZ, h]
  | k :: ks, a, x, h, hx => by
    have h1 := h k (by simp)
    unfold sumP at hx
    split at hx
    · cases hx
    · rw [sumP_some hg (fun k hk => h k (by simp [hk])) hx, sumZ]
      omega
theorem oneP_eq {t : Ty} {s : List Int} {g : Int → Int} (hg : ∀ k, 0 ≤ g k) (h : ∀ k ∈ prt false t, getS s k = g k) : oneP t s = oneT t g := by
  unfold oneP oneT
  rw [sumP_all hg h]
  simp
theorem oneP_or {t : Ty} {s : List Int} {g : Int → Int} (hg : ∀ k, 0 ≤ g k) (h : ∀ k ∈ prt false t, getS s k = g k ∨ getS s k = -1) : oneP t s = oneT t g ∨ oneP t s = -1 := by
  unfold oneP oneT
  rcases e : sumP s (prt false t) 0 with _ | x
  · split
    · exact .inl rfl
    split
    · exact .inl rfl
    split
    · exact .inl rfl
    · exact .inr rfl
  · rw [sumP_some hg h e]
    exact .inl (by simp)
end Go.AM
namespace Go.AM
set_option linter.unusedVariables false
set_option linter.unusedSimpArgs false
def m43 : MC :=
 (.seq (.reg [Xb 4 (.asg (.i 0))]) (.seq (.seq (.reg [Xm 5 0, Xm 6 1, Xq 7 (.bin false .lss (.t 5) (.t 6))]) (.cond (.t 7) (.seq (.reg [Xm 8 0, Xa 4 8]) .ret) .skip)) (.seq (.reg [Xm 9 1, Xa 4 9]) .ret)))
theorem d43 (a b : Int) : Does Go.Proofs.Tryz.prog 43 [.v (.int .i64 a), .v (.int .i64 b)] false (.v (.int .i64 (min a b))) [.dead, .dead] := by
  refine does_intro (mc := m43) (N := 10) (rs := [4]) (fx := []) 2 rfl (by decide +kernel) ?_
  simp only [m43, EV, Nat.reduceEqDiff, Nat.reduceBEq, Nat.reduceLT, Nat.reduceLeDiff, Nat.reduceAdd, Nat.reduceSub, reduceIte]
  refine cK_cut (fun h => ?_) (fun h => ?_)
  · have e : min a b = a := by have : a < b := by simpa using h
                               omega
    simp only [EV, Nat.reduceEqDiff, Nat.reduceBEq, Nat.reduceLT, Nat.reduceLeDiff, Nat.reduceAdd, Nat.reduceSub, reduceIte]
    simp only [e, EV, Nat.reduceEqDiff, Nat.reduceBEq, Nat.reduceLT, Nat.reduceLeDiff, Nat.reduceAdd, Nat.reduceSub, reduceIte, evRE, retVC, cellV', evR, nfz, nfzs, nfzss, List.contains_nil, List.contains_cons, Bool.or_false, or_true]
  · have e : min a b = b := by have : ¬ a < b := by simpa using h
                               omega
    simp only [EV, Nat.reduceEqDiff, Nat.reduceBEq, Nat.reduceLT, Nat.reduceLeDiff, Nat.reduceAdd, Nat.reduceSub, reduceIte]
    simp only [e, EV, Nat.reduceEqDiff, Nat.reduceBEq, Nat.reduceLT, Nat.reduceLeDiff, Nat.reduceAdd, Nat.reduceSub, reduceIte, evRE, retVC, cellV', evR, nfz, nfzs, nfzss, List.contains_nil, List.contains_cons, Bool.or_false, or_true]
theorem sumP_step {s : List Int} {ks : List Int} {i : Nat} {a : Int} (h : i < ks.length) : sumP s (ks.drop i) a = if getS s ks[i] < 0 then none else sumP s (ks.drop (i + 1)) (a + getS s ks[i]) := by
  rw [List.drop_eq_getElem_cons h, sumP]
def m56 : MC :=
 (.seq (.reg [Xb 2 (.box 34 (.t 0)), Xb 4 (.asg (.i 0))]) (.join [1, 2] (.seq (.reg [Xf 8 0 2, Xl 9 1 8]) (.block 0 (.seq (.reg [Xq 11 (.bin false .eql (.t 9) (.i 1)), Xa 10 11]) (.cond (.t 10) (.seq (.reg [Xb 4 (.asg (.i 4))]) .ret) (.join [1, 2, 9, 12] (.seq (.reg [Xq 13 (.bin false .eql (.t 9) (.i 2)), Xa 12 13]) (.cond (.t 12) .skip (.reg [Xq 14 (.bin false .eql (.t 9) (.i 3)), Xa 12 14])))
 (.cond (.t 12) (.seq (.reg [Xb 4 (.asg (.i 1))]) .ret) (.seq (.reg [Xq 16 (.bin false .eql (.t 9) (.i 6)), Xa 15 16]) (.cond (.t 15) (.seq (.reg [Xb 4 (.asg (.i 8))]) .ret) .skip)))))))) (.seq (.reg [Xb 5 (.asg (.i 0))]) (.seq (.seq (.reg [XL 17 6 2, Xb 18 (.call (.fn 75) false [.lend (.t 17)]), Xn 19 18, Xq 20 (.mov (.i 0))]) (.block 1 (.loop [1, 2, 5, 18, 19, 20] (.seq (.reg [Xq 21 (.bin false
 .lss (.t 20) (.t 19))]) (.seq (.cond (.t 21) .skip (.exit 1)) (.seq (.block 2 (.seq (.reg [Xi 22 1 18 20, Xl 23 1 22, Xa 7 23]) (.seq (.seq (.reg [Xm 24 1, Xm 25 7, Xi 26 1 24 25, Xl 27 1 26, Xq 28 (.bin false .lss (.t 27) (.i 0))]) (.cond (.t 28) (.seq (.reg [Xb 4 (.asg (.i (-1)))]) .ret) .skip)) (.reg [Xm 29 5, Xm 30 1, Xm 31 7, Xi 32 1 30 31, Xl 33 1 32, Xq 34 (.bin false .add (.t 29) (.t 33)),
 Xa 5 34])))) (.reg [Xq 35 (.bin false .add (.t 20) (.i 1)), Xm 20 35]))))))) (.join [5] (.seq (.reg [Xf 36 0 2, Xl 37 1 36, Xq 38 (.bin false .eql (.t 37) (.i 4))]) (.cond (.t 38) (.reg [Xm 39 5, Xf 40 1 2, Xl 41 1 40, Xq 42 (.bin false .mul (.t 39) (.t 41)), Xa 5 42]) .skip)) (.seq (.reg [Xm 43 5, Xb 44 (.call (.fn 43) false [.lend (.i 1000000001), .lend (.t 43)]), Xa 4 44]) .ret))))))
set_option maxHeartbeats 1000000 in
set_option maxRecDepth 100000 in
theorem d56 (t : Ty) (s : List Int) (ht : t.sm) (hk : ∀ k ∈ prt false t, 0 ≤ k ∧ k < (s.length : Int)) (h7 : (prt false t).length ≤ 7) (hl : (s.length : Int) ≤ 1048576) (hs : ∀ x ∈ s, x ≤ 1000000001) (hlong : (t.kind == 4) = true → 0 ≤ t.long ∧ t.long ≤ 1000) :
    Does Go.Proofs.Tryz.prog 56 [.agg t.z, .fsl 1 (s.map iv)] false (.v (.int .i64 (oneP t s))) [.dead, .dead] := by
  refine does_intro (mc := m56) (N := 45) (rs := [4]) (fx := []) 2 rfl (by decide +kernel) ?_
  simp only [m56, Ty.z, EV, Nat.reduceEqDiff, Nat.reduceBEq, Nat.reduceLT, Nat.reduceLeDiff, Nat.reduceAdd, Nat.reduceSub, reduceIte]
  refine awp_join (fun _ : Unit => (t.kind == 1) = false ∧ (t.kind == 2) = false ∧ (t.kind == 3) = false ∧ (t.kind == 6) = false) (fun _ => stl [(1, .fsl 1 (s.map iv)), (2, .box 34 t.z)]) ?_ ?_
  · simp only [Ty.z, EV, Nat.reduceEqDiff, Nat.reduceBEq, Nat.reduceLT, Nat.reduceLeDiff, Nat.reduceAdd, Nat.reduceSub, reduceIte]
    rcases e1 : (t.kind == 1) with _ | _
    rotate_left
    · have e : oneP t s = 4 := by unfold oneP; rw [if_pos e1]
      simp only [e1, EV, Nat.reduceEqDiff, Nat.reduceBEq, Nat.reduceLT, Nat.reduceLeDiff, Nat.reduceAdd, Nat.reduceSub, reduceIte]
      simp only [e, EV, Nat.reduceEqDiff, Nat.reduceBEq, Nat.reduceLT, Nat.reduceLeDiff, Nat.reduceAdd, Nat.reduceSub, reduceIte, evRE, retVC, cellV', evR, nfz, nfzs, nfzss, List.contains_nil, List.contains_cons, Bool.or_false, or_true]
    simp only [e1, Ty.z, EV, Nat.reduceEqDiff, Nat.reduceBEq, Nat.reduceLT, Nat.reduceLeDiff, Nat.reduceAdd, Nat.reduceSub, reduceIte]
    refine awp_join (fun b : Bool => b = (t.kind == 2 || t.kind == 3)) (fun b => stl [(1, .fsl 1 (s.map iv)), (2, .box 34 t.z), (9, .v (.int .i64 t.kind)), (12, .v (.bool b))]) ?_ ?_
    · simp only [Ty.z, EV, Nat.reduceEqDiff, Nat.reduceBEq, Nat.reduceLT, Nat.reduceLeDiff, Nat.reduceAdd, Nat.reduceSub, reduceIte]
      rcases e2 : (t.kind == 2) with _ | _
      · simp only [e2, EV, Nat.reduceEqDiff, Nat.reduceBEq, Nat.reduceLT, Nat.reduceLeDiff, Nat.reduceAdd, Nat.reduceSub, reduceIte]
        exact ⟨_, (Bool.false_or _).symm, rfl⟩
      · simp only [e2, EV, Nat.reduceEqDiff, Nat.reduceBEq, Nat.reduceLT, Nat.reduceLeDiff, Nat.reduceAdd, Nat.reduceSub, reduceIte]
        exact ⟨true, rfl, rfl⟩
    · rintro b rfl
      rcases e2 : (t.kind == 2 || t.kind == 3) with _ | _
      · simp only [Bool.or_eq_false_iff] at e2
        rcases e6 : (t.kind == 6) with _ | _
        · simp only [e6, Ty.z, EV, Nat.reduceEqDiff, Nat.reduceBEq, Nat.reduceLT, Nat.reduceLeDiff, Nat.reduceAdd, Nat.reduceSub, reduceIte]
          exact ⟨(), e2⟩
        · have e : oneP t s = 8 := by unfold oneP; rw [if_neg (by simp [e1]), if_neg (by simp [e2.1, e2.2]), if_pos e6]
          simp only [e6, Ty.z, EV, Nat.reduceEqDiff, Nat.reduceBEq, Nat.reduceLT, Nat.reduceLeDiff, Nat.reduceAdd, Nat.reduceSub, reduceIte]
          simp only [e, EV, Nat.reduceEqDiff, Nat.reduceBEq, Nat.reduceLT, Nat.reduceLeDiff, Nat.reduceAdd, Nat.reduceSub, reduceIte, evRE, retVC, cellV', evR, nfz, nfzs, nfzss, List.contains_nil, List.contains_cons, Bool.or_false, or_true]
      · have e : oneP t s = 1 := by unfold oneP; rw [if_neg (by simp [e1]), if_pos e2]
        simp only [Ty.z, EV, Nat.reduceEqDiff, Nat.reduceBEq, Nat.reduceLT, Nat.reduceLeDiff, Nat.reduceAdd, Nat.reduceSub, reduceIte]
        simp only [e, EV, Nat.reduceEqDiff, Nat.reduceBEq, Nat.reduceLT, Nat.reduceLeDiff, Nat.reduceAdd, Nat.reduceSub, reduceIte, evRE, retVC, cellV', evR, nfz, nfzs, nfzss, List.contains_nil, List.contains_cons, Bool.or_false, or_true]
  rintro _ ⟨e1, e2, e3, e6⟩
  have ho : oneP t s = match sumP s (prt false t) 0 with
    | some x => capS t x
    | none => -1 := by unfold oneP; rw [if_neg (by simp [e1]), if_neg (by simp [e2, e3]), if_neg (by simp [e6])]; all_goals (rcases sumP s (prt false t) 0 with _ | _ <;> rfl)
  simp only [Ty.z, EV, Nat.reduceEqDiff, Nat.reduceBEq, Nat.reduceLT, Nat.reduceLeDiff, Nat.reduceAdd, Nat.reduceSub, reduceIte]
  refine callK_i (d75 t ht) ?_
  simp only [Ty.z, EV, Nat.reduceEqDiff, Nat.reduceBEq, Nat.reduceLT, Nat.reduceLeDiff, Nat.reduceAdd, Nat.reduceSub, reduceIte]
  refine awp_loop (fun p : Nat × Int => p.1 ≤ (prt false t).length ∧ sumP s (prt false t) 0 = sumP s ((prt false t).drop p.1) p.2 ∧ p.2 ≤ 1000000001 * p.1 ∧ -1000000001 ≤ p.2) (fun p => stl [(1, .fsl 1 (s.map iv)), (2, .box 34 t.z), (5, .v (.int .i64 p.2)), (18, .usl 3 1 ((prt false t).map iv)), (19, .v (.int .i64 ((prt false t).length : Int))), (20, .v (.int .i64 (p.1 : Int)))]) (fun p => (prt false t).length - p.1) (0, 0) ⟨Nat.zero_le _, rfl, by simp, by omega⟩ ?_ ?_
  · simp only [Ty.z, EV, Nat.reduceEqDiff, Nat.reduceBEq, Nat.reduceLT, Nat.reduceLeDiff, Nat.reduceAdd, Nat.reduceSub, reduceIte]
    rfl
  · rintro ⟨i, a⟩ ⟨p1, p2, p3, p4⟩
    simp only at p1 p2 p3 p4
    simp only [Ty.z, EV, Nat.reduceEqDiff, Nat.reduceBEq, Nat.reduceLT, Nat.reduceLeDiff, Nat.reduceAdd, Nat.reduceSub, reduceIte]
    refine cK_cut (fun h => ?_) (fun h => ?_)
    · have q1 : i < (prt false t).length := by simpa using h
      have q2 : (i : Int) < ((prt false t).length : Int) := by omega
      obtain ⟨k0, k1⟩ := hk _ (List.getElem_mem q1)
      have kn : (prt false t)[i].toNat < s.length := by omega
      have hg : getS s (prt false t)[i] = s[(prt false t)[i].toNat] := by simp [getS, kn]
      have hle := hs _ (List.getElem_mem kn)
      rw [sumP_step q1, hg] at p2
      clear h
      simp only [nth_map q1, q1, q2, nth_map kn, kn, k0, k1, iv, Ty.z, EV, Nat.reduceEqDiff, Nat.reduceBEq, Nat.reduceLT, Nat.reduceLeDiff, Nat.reduceAdd, Nat.reduceSub, reduceIte]
      refine cK_cut (fun h => ?_) (fun h => ?_)
      · have hneg : s[(prt false t)[i].toNat] < 0 := by simpa using h
        rw [if_pos hneg] at p2
        have e : oneP t s = -1 := by rw [ho, p2]
        simp only [EV, Nat.reduceEqDiff, Nat.reduceBEq, Nat.reduceLT, Nat.reduceLeDiff, Nat.reduceAdd, Nat.reduceSub, reduceIte]
        simp only [e, EV, Nat.reduceEqDiff, Nat.reduceBEq, Nat.reduceLT, Nat.reduceLeDiff, Nat.reduceAdd, Nat.reduceSub, reduceIte, evRE, retVC, cellV', evR, nfz, nfzs, nfzss, List.contains_nil, List.contains_cons, Bool.or_false, or_true]
      · have hneg : ¬ s[(prt false t)[i].toNat] < 0 := by simpa using h
        rw [if_neg hneg] at p2
        simp only [nth_map kn, kn, k0, k1, iv, Ty.z, EV, Nat.reduceEqDiff, Nat.reduceBEq, Nat.reduceLT, Nat.reduceLeDiff, Nat.reduceAdd, Nat.reduceSub, reduceIte]
        rw [w64 _ (by omega), w64 _ (by omega)]
        exact ⟨(i + 1, a + s[(prt false t)[i].toNat]), ⟨q1, p2, by simp only; omega, by simp only; omega⟩, by simp only; omega, rfl⟩
    · have q1 : i = (prt false t).length := by have : ¬ (i : Int) < ((prt false t).length : Int) := by simpa using h
                                               omega
      subst q1
      rw [List.drop_length, sumP] at p2
      rw [p2] at ho
      clear h
      simp only [Ty.z, EV, Nat.reduceEqDiff, Nat.reduceBEq, Nat.reduceLT, Nat.reduceLeDiff, Nat.reduceAdd, Nat.reduceSub, reduceIte]
      refine awp_join (fun _ : Unit => True) (fun _ => stl [(5, .v (.int .i64 (if (t.kind == 4) = true then a * t.long else a)))]) ?_ ?_
      · simp only [Ty.z, EV, Nat.reduceEqDiff, Nat.reduceBEq, Nat.reduceLT, Nat.reduceLeDiff, Nat.reduceAdd, Nat.reduceSub, reduceIte]
        rcases e4 : (t.kind == 4) with _ | _
        · simp only [Ty.z, EV, Nat.reduceEqDiff, Nat.reduceBEq, Nat.reduceLT, Nat.reduceLeDiff, Nat.reduceAdd, Nat.reduceSub, reduceIte]
          first
            | exact ⟨(), rfl⟩
            | exact ⟨(), trivial⟩
        · obtain ⟨l0, l1⟩ := hlong e4
          have m1 : a * t.long ≤ 7000000007 * t.long := Int.mul_le_mul_of_nonneg_right (by omega) l0
          have m2 : -1000000001 * t.long ≤ a * t.long := Int.mul_le_mul_of_nonneg_right (by omega) l0
          simp only [Ty.z, EV, Nat.reduceEqDiff, Nat.reduceBEq, Nat.reduceLT, Nat.reduceLeDiff, Nat.reduceAdd, Nat.reduceSub, reduceIte]
          rw [w64 _ (by omega)]
          first
            | exact ⟨(), rfl⟩
            | exact ⟨(), trivial⟩
      · rintro _ _
        simp only [EV, Nat.reduceEqDiff, Nat.reduceBEq, Nat.reduceLT, Nat.reduceLeDiff, Nat.reduceAdd, Nat.reduceSub, reduceIte]
        refine callK_i (d43 _ _) ?_
        simp only [EV, Nat.reduceEqDiff, Nat.reduceBEq, Nat.reduceLT, Nat.reduceLeDiff, Nat.reduceAdd, Nat.reduceSub, reduceIte]
        simp only [ho, capS, EV, Nat.reduceEqDiff, Nat.reduceBEq, Nat.reduceLT, Nat.reduceLeDiff, Nat.reduceAdd, Nat.reduceSub, reduceIte, evRE, retVC, cellV', evR, nfz, nfzs, nfzss, List.contains_nil, List.contains_cons, Bool.or_false, or_true]
end Go.AM
namespace Go.AM
set_option linter.unusedVariables false
set_option linter.unusedSimpArgs false
def SzOk (l : List Ty) (s : List Int) (r i : Nat) : Prop := s.length = l.length ∧ ∀ j : Nat, j < l.length → (getS s j = sz l j ∨ getS s j = -1) ∧ ((rk l j < r ∨ (j < i ∧ rk l j < r + 1)) → getS s j = sz l j)
theorem getS_at {s : List Int} {j : Nat} (h : j < s.length) : getS s (j : Int) = s[j] := by simp [getS, h]
theorem getS_set {s : List Int} {i j : Nat} {v : Int} (hi : i < s.length) : getS (s.set i v) (j : Int) = if j = i then v else getS s (j : Int) := by
  simp only [getS, Int.toNat_natCast]
  by_cases e : j = i
  · subst e; simp [hi]
  · rw [if_neg e, List.getElem?_set_ne (fun h => e h.symm)]
theorem SzOk.at {l : List Ty} {s : List Int} {r i : Nat} (h : SzOk l s r i) {k : Int} (h0 : 0 ≤ k) (h1 : k < (l.length : Int)) : (getS s k = sz l k ∨ getS s k = -1) ∧ (rk l k < r → getS s k = sz l k) := by
  have := h.2 k.toNat (by omega)
  rw [Int.toNat_of_nonneg h0] at this
  exact ⟨this.1, fun hr => this.2 (.inl hr)⟩
theorem SzOk.step {l : List Ty} (ht : tabOk l = true) {s : List Int} {r i : Nat} (h : SzOk l s r i) (hi : i < l.length) : SzOk l (s.set i (oneP l[i] s)) r (i + 1) := by
  have hs : i < s.length := by rw [h.1]; exact hi
  have hk : ∀ k ∈ prt false l[i], 0 ≤ k ∧ k < (l.length : Int) ∧ rk l k < rk l (i : Int) := by
    intro k hk
    have hk' : k ∈ kids l false (i : Int) := by rw [kids_at (n := (i : Int)) (by simpa using hi)]; simpa using hk
    have h1 := kids_ok (tabOk_tys ht) (Int.natCast_nonneg i) (by omega) hk'
    exact ⟨h1.1, h1.2, rk_lt ht (Int.natCast_nonneg i) (by omega) hk'⟩
  have hnn : ∀ k, 0 ≤ sz l k := fun k => (sz_nn (tabOk_tys ht) k).1
  have hse : sz l (i : Int) = oneT l[i] (sz l) := by
    have := sz_eq (l := l) ht (n := (i : Int)) (Int.natCast_nonneg i) (by omega) (hn := by simpa using hi)
    simpa using this
  refine ⟨by rw [List.length_set]; exact h.1, fun j hj => ?_⟩
  rw [getS_set hs]
  by_cases e : j = i
  · subst e
    rw [if_pos rfl, hse]
    refine ⟨oneP_or hnn fun k hk' => (h.at (hk k hk').1 (hk k hk').2.1).1, fun hr => ?_⟩
    refine oneP_eq hnn fun k hk' => (h.at (hk k hk').1 (hk k hk').2.1).2 ?_
    have := (hk k hk').2.2
    omega
  · rw [if_neg e]
    refine ⟨(h.2 j hj).1, fun hr => (h.2 j hj).2 ?_⟩
    omega
theorem SzOk.next {l : List Ty} {s : List Int} {r : Nat} (h : SzOk l s r l.length) : SzOk l s (r + 1) 0 :=
  ⟨h.1, fun j hj => ⟨(h.2 j hj).1, fun hr => (h.2 j hj).2 (.inr ⟨hj, by omega⟩)⟩⟩
theorem SzOk.le {l : List Ty} (ht : tabOk l = true) {s : List Int} {r i : Nat} (h : SzOk l s r i) : ∀ x ∈ s, x ≤ 1000000001 := by
  intro x hx
  obtain ⟨j, hj, rfl⟩ := List.mem_iff_getElem.1 hx
  have := (h.2 j (by rw [← h.1]; exact hj)).1
  rw [getS_at hj] at this
  have := (sz_nn (tabOk_tys ht) (j : Int)).2
  omega
def m41 : MC :=
 (.seq (.reg [Xb 4 (.asg (.i 0))]) (.seq (.reg [Xm 9 0, Xn 10 9, Xb 11 (.mks 3 1 8 [.i] (.t 10) (.t 10)), Xa 5 11]) (.seq (.seq (.reg [Xm 12 5, Xn 13 12, Xq 14 (.mov (.i 0))]) (.block 0 (.loop [0, 1, 5, 11, 13, 14] (.seq (.reg [Xq 15 (.bin false .lss (.t 14) (.t 13))]) (.seq (.cond (.t 15) .skip (.exit 0)) (.seq (.block 1 (.seq (.reg [Xm 16 14, Xa 6 16]) (.reg [Xm 17 5, Xm 18 6, Xi 19 1 17 18, Xz
 (.store 1 (.t 19) (.i (-1)))]))) (.reg [Xq 20 (.bin false .add (.t 14) (.i 1)), Xm 14 20]))))))) (.seq (.seq (.reg [Xm 21 0, Xn 22 21, Xq 23 (.mov (.i 0))]) (.block 2 (.loop [0, 1, 5, 11, 22, 23] (.seq (.reg [Xq 24 (.bin false .lss (.t 23) (.t 22))]) (.seq (.cond (.t 24) .skip (.exit 2)) (.seq (.block 3 (.seq (.reg [Xm 25 0, Xn 26 25, Xq 27 (.mov (.i 0))]) (.block 4 (.loop [0, 1, 5, 11, 22, 23,
 25, 26, 27] (.seq (.reg [Xq 28 (.bin false .lss (.t 27) (.t 26))]) (.seq (.cond (.t 28) .skip (.exit 4)) (.seq (.block 5 (.seq (.reg [Xm 29 27, Xi 30 6 25 27, XL 31 6 30, Xb 8 (.alloc 34 [.i, .i, .i, .s 48 3, .z, .z]), Xa 7 29, Xz (.store 6 (.t 8) (.t 31))]) (.reg [Xm 32 5, Xm 33 7, XL 34 6 8, Xm 35 5, Xb 36 (.call (.fn 56) false [.lend (.t 34), .lend (.t 35)]), Xi 37 1 32 33, Xz (.store 1 (.t 37)
 (.t 36))]))) (.reg [Xq 38 (.bin false .add (.t 27) (.i 1)), Xm 27 38])))))))) (.reg [Xq 39 (.bin false .add (.t 23) (.i 1)), Xm 23 39]))))))) (.seq (.reg [Xm 40 5, Xm 41 1, Xi 42 1 40 41, Xl 43 1 42, Xa 4 43]) .ret)))))
set_option maxHeartbeats 1000000 in
set_option maxRecDepth 100000 in
theorem d41 (l : List Ty) (n : Int) (hl : (l.length : Int) ≤ 1048576) (hs : ∀ s ∈ l, s.sm) (ht : tabOk l = true) (hn : isNum l n = true) : Does Go.Proofs.Tryz.prog 41 [.fsl 6 (l.map Ty.z), .v (.int .i64 n)] false (.v (.int .i64 (sz l n))) [.dead, .dead] := by
  have h24 := tabOk_len ht
  obtain ⟨n0, n1⟩ := isNum_in.1 hn
  refine does_intro (mc := m41) (N := 44) (rs := [4]) (fx := []) 2 rfl (by decide +kernel) ?_
  simp only [m41, EV, Nat.reduceEqDiff, Nat.reduceBEq, Nat.reduceLT, Nat.reduceLeDiff, Nat.reduceAdd, Nat.reduceSub, reduceIte]
  refine ⟨by omega, by omega, ?_⟩
  refine awp_loop (fun p : List Int × Nat => p.2 ≤ l.length ∧ p.1.length = l.length ∧ ∀ j : Nat, j < p.2 → getS p.1 (j : Int) = -1) (fun p => stl [(0, .fsl 6 (l.map Ty.z)), (1, .v (.int .i64 n)), (5, .usl 3 1 (p.1.map iv)), (11, .dead), (13, .v (.int .i64 (l.length : Int))), (14, .v (.int .i64 (p.2 : Int)))]) (fun p => l.length - p.2) (List.replicate l.length 0, 0) ⟨Nat.zero_le _, by simp, fun j h => absurd h (by omega)⟩ ?_ ?_
  · simp only [List.map_replicate, List.length_replicate, iv, EV, Nat.reduceEqDiff, Nat.reduceBEq, Nat.reduceLT, Nat.reduceLeDiff, Nat.reduceAdd, Nat.reduceSub, reduceIte]
    rfl
  · rintro ⟨s, i⟩ ⟨p1, p2, p3⟩
    simp only at p1 p2 p3
    simp only [EV, Nat.reduceEqDiff, Nat.reduceBEq, Nat.reduceLT, Nat.reduceLeDiff, Nat.reduceAdd, Nat.reduceSub, reduceIte]
    refine cK_cut (fun h => ?_) (fun h => ?_)
    · have q1 : i < l.length := by simpa using h
      have q2 : (i : Int) < (l.length : Int) := by omega
      have q3 : i < s.length := by omega
      have q4 : (i : Int) < (s.length : Int) := by omega
      clear h
      simp only [nth_map q3, q3, q4, iv, EV, Nat.reduceEqDiff, Nat.reduceBEq, Nat.reduceLT, Nat.reduceLeDiff, Nat.reduceAdd, Nat.reduceSub, reduceIte]
      rw [w64 _ (by omega)]
      refine ⟨(s.set i (-1), i + 1), ⟨q1, by simp [p2], fun j hj => ?_⟩, by simp only; omega, by simp only [List.map_set]; rfl⟩
      rw [getS_set q3]
      simp only at hj
      split
      · rfl
      · exact p3 j (by omega)
    · have q1 : i = l.length := by have : ¬ (i : Int) < (l.length : Int) := by simpa using h
                                   omega
      subst q1
      clear h
      have h0 : SzOk l s 0 0 := ⟨p2, fun j hj => ⟨.inr (p3 j hj), fun h => by omega⟩⟩
      simp only [EV, Nat.reduceEqDiff, Nat.reduceBEq, Nat.reduceLT, Nat.reduceLeDiff, Nat.reduceAdd, Nat.reduceSub, reduceIte]
      refine awp_loop (fun p : List Int × Nat => p.2 ≤ l.length ∧ SzOk l p.1 p.2 0) (fun p => stl [(0, .fsl 6 (l.map Ty.z)), (1, .v (.int .i64 n)), (5, .usl 3 1 (p.1.map iv)), (11, .dead), (22, .v (.int .i64 (l.length : Int))), (23, .v (.int .i64 (p.2 : Int)))]) (fun p => l.length - p.2) (s, 0) ⟨Nat.zero_le _, h0⟩ ?_ ?_
      · simp only [EV, Nat.reduceEqDiff, Nat.reduceBEq, Nat.reduceLT, Nat.reduceLeDiff, Nat.reduceAdd, Nat.reduceSub, reduceIte]
        rfl
      · rintro ⟨s, r⟩ ⟨p1, p2⟩
        simp only at p1 p2
        simp only [EV, Nat.reduceEqDiff, Nat.reduceBEq, Nat.reduceLT, Nat.reduceLeDiff, Nat.reduceAdd, Nat.reduceSub, reduceIte]
        refine cK_cut (fun h => ?_) (fun h => ?_)
        · have r1 : r < l.length := by simpa using h
          clear h
          simp only [EV, Nat.reduceEqDiff, Nat.reduceBEq, Nat.reduceLT, Nat.reduceLeDiff, Nat.reduceAdd, Nat.reduceSub, reduceIte]
          refine awp_loop (fun p : List Int × Nat => p.2 ≤ l.length ∧ SzOk l p.1 r p.2) (fun p => stl [(0, .fsl 6 (l.map Ty.z)), (1, .v (.int .i64 n)), (5, .usl 3 1 (p.1.map iv)), (11, .dead), (22, .v (.int .i64 (l.length : Int))), (23, .v (.int .i64 (r : Int))), (25, .fsl 6 (l.map Ty.z)), (26, .v (.int .i64 (l.length : Int))), (27, .v (.int .i64 (p.2 : Int)))]) (fun p => l.length - p.2) (s, 0) ⟨Nat.zero_le _, p2⟩ ?_ ?_
          · simp only [EV, Nat.reduceEqDiff, Nat.reduceBEq, Nat.reduceLT, Nat.reduceLeDiff, Nat.reduceAdd, Nat.reduceSub, reduceIte]
            rfl
          · rintro ⟨s, i⟩ ⟨p3, p4⟩
            simp only at p3 p4
            simp only [EV, Nat.reduceEqDiff, Nat.reduceBEq, Nat.reduceLT, Nat.reduceLeDiff, Nat.reduceAdd, Nat.reduceSub, reduceIte]
            refine cK_cut (fun h => ?_) (fun h => ?_)
            · have q1 : i < l.length := by simpa using h
              have q2 : (i : Int) < (l.length : Int) := by omega
              have q3 : i < s.length := by rw [p4.1]; exact q1
              have q4 : (i : Int) < (s.length : Int) := by omega
              have hsm := hs _ (List.getElem_mem q1)
              have hk : ∀ k ∈ prt false l[i], 0 ≤ k ∧ k < (s.length : Int) := by
                intro k hk
                have hk' : k ∈ kids l false (i : Int) := by rw [kids_at (n := (i : Int)) (by simpa using q1)]; simpa using hk
                have h1 := kids_ok (tabOk_tys ht) (Int.natCast_nonneg i) (by omega) hk'
                rw [p4.1]; exact h1
              clear h
              simp only [iv_frz, nth_map q1, q1, q2, TyE, Ty.z, EV, Nat.reduceEqDiff, Nat.reduceBEq, Nat.reduceLT, Nat.reduceLeDiff, Nat.reduceAdd, Nat.reduceSub, reduceIte]
              refine callK_i (d56 l[i] s hsm hk (prt_len (tabOk_tys ht) false q1) (by rw [p4.1]; exact hl) (p4.le ht) fun h4 => by have := (tysOk_good (tabOk_tys ht) q1).arr (by simpa using h4); omega) ?_
              simp only [nth_map q3, q3, q4, iv, EV, Nat.reduceEqDiff, Nat.reduceBEq, Nat.reduceLT, Nat.reduceLeDiff, Nat.reduceAdd, Nat.reduceSub, reduceIte]
              rw [w64 _ (by omega)]
              exact ⟨(s.set i (oneP l[i] s), i + 1), ⟨q1, p4.step ht q1⟩, by simp only; omega, by simp only [List.map_set]; rfl⟩
            · have q1 : i = l.length := by have : ¬ (i : Int) < (l.length : Int) := by simpa using h
                                           omega
              subst q1
              simp only [EV, Nat.reduceEqDiff, Nat.reduceBEq, Nat.reduceLT, Nat.reduceLeDiff, Nat.reduceAdd, Nat.reduceSub, reduceIte]
              rw [w64 _ (by omega)]
              exact ⟨(s, r + 1), ⟨r1, p4.next⟩, by simp only; omega, rfl⟩
        · have q1 : r = l.length := by have : ¬ (r : Int) < (l.length : Int) := by simpa using h
                                       omega
          subst q1
          have hgs := (p2.at n0 n1).2 (rk_small ht n0 n1)
          have q3 : n.toNat < s.length := by rw [p2.1]; omega
          have q4 : n < (s.length : Int) := by rw [p2.1]; exact n1
          have hgn : s[n.toNat] = sz l n := by rw [← hgs]; simp [getS, q3]
          simp only [nth_map q3, q3, q4, n0, iv, EV, Nat.reduceEqDiff, Nat.reduceBEq, Nat.reduceLT, Nat.reduceLeDiff, Nat.reduceAdd, Nat.reduceSub, reduceIte]
          simp only [hgn, EV, Nat.reduceEqDiff, Nat.reduceBEq, Nat.reduceLT, Nat.reduceLeDiff, Nat.reduceAdd, Nat.reduceSub, reduceIte, evRE, retVC, cellV', evR, nfz, nfzs, nfzss, List.contains_nil, List.contains_cons, Bool.or_false, or_true]
end Go.AM
namespace Go.AM
set_option linter.unusedVariables false
set_option linter.unusedSimpArgs false
def sizesL (l : List Ty) : List Int := (List.range l.length).map fun k : Nat => sz l (k : Int)
end Go.AM
namespace Go.AM
set_option linter.unusedVariables false
set_option linter.unusedSimpArgs false
theorem sumZ_app {g : Int → Int} : ∀ {a b : List Int}, sumZ g (a ++ b) = sumZ g a + sumZ g b
  | [], b => by simp [sumZ]
  | x :: a, b => by simp only [List.cons_append, sumZ, sumZ_app (a := a)]; omega
end Go.AM
namespace Go.Proofs.Sizes
open Go Go.AM Go.RowKit Go.Shelf Go.Proofs
set_option linter.unusedVariables false
set_option linter.unusedSimpArgs false
theorem row_at {w : World} {Fz : Nat → Prop} {sz : Nat} : ∀ {rows : List (List AV)} {xs : List Value} {o : List Nat} {g h : Nat} {i : Nat} (hi : i < rows.length), RepRows w Fz sz rows xs o → At w g h xs → ∃ x1 o1, RepRow w Fz rows[i] x1 o1 ∧ rows[i].length = sz ∧ At w g (h + i * sz) x1
  | [], xs, o, g, h, i, hi, _, _ => absurd hi (by simp)
  | r :: rows, xs, o, g, h, i, hi, hr, ha => by
    simp only [RepRows] at hr
    obtain ⟨x1, x2, o1, o2, rfl, rfl, hl, h1, h2⟩ := hr
    have hx : x1.length = sz := by rw [← hl]; exact h1.length
    cases i with
    | zero => exact ⟨x1, o1, h1, hl, fun j u hj => by simpa using ha j u (by rw [List.getElem?_append_left (List.getElem?_eq_some_iff.1 hj).1]; exact hj)⟩
    | succ i =>
      have ha2 : At w g (h + sz) x2 := fun j u hj => by
        have := ha (sz + j) u (by rw [List.getElem?_append_right (by omega), hx, Nat.add_sub_cancel_left]; exact hj)
        rwa [← Nat.add_assoc] at this
      obtain ⟨y, oy, q1, q2, q3⟩ := row_at (rows := rows) (i := i) (by simpa using hi) h2 ha2
      refine ⟨y, oy, q1, q2, ?_⟩
      have e : h + (i + 1) * sz = h + sz + i * sz := by rw [Nat.succ_mul]; omega
      rw [e]
      exact q3
structure Mem (Bo Bl Bf g gl hl cap c : Nat) (Fz : Nat → Prop) (l : List Ty) (s : List Int) (W : World) : Prop where
  o : W.cell? ⟨Bo, 0, none⟩ = some (.slice (some ⟨g, 0, none⟩) l.length c)
  lb : W.cell? ⟨Bl, 0, none⟩ = some (.slice (some ⟨gl, hl, none⟩) l.length cap)
  f : W.cell? ⟨Bf, 0, none⟩ = some (.func (.func 34) #[] #[.pointer (some ⟨Bo, 0, none⟩), .pointer (some ⟨Bl, 0, none⟩), .pointer (some ⟨Bf, 0, none⟩)])
  vals : W.heap[g]? = some (.cells (s.map (Value.int .i64)).toArray 3 (0, 0))
  len : s.length = l.length
  rep : RepC W Fz (.fsl 6 (l.map Ty.z)) (.slice (some ⟨gl, hl, none⟩) l.length cap) []
  fz : ∀ b, Fz b → b < W.heap.size ∧ b ≠ g
  ne : Bo ≠ g ∧ Bl ≠ g ∧ Bf ≠ g
theorem Mem.at {Bo Bl Bf g gl hl cap c : Nat} {Fz : Nat → Prop} {l : List Ty} {s : List Int} {W : World} (M : Mem Bo Bl Bf g gl hl cap c Fz l s W) {j : Nat} (hj : j < l.length) : W.cell? ⟨g, j, none⟩ = some (.int .i64 (getS s j)) := by
  rw [cell_of_cells M.vals]
  have : j < s.length := by rw [M.len]; exact hj
  simp [getS_at this, this]
theorem Mem.row {Bo Bl Bf g gl hl cap c : Nat} {Fz : Nat → Prop} {l : List Ty} {s : List Int} {W : World} (M : Mem Bo Bl Bf g gl hl cap c Fz l s W) {n : Nat} (hn : n < l.length) :
    ∃ fv, RepC W Fz (.fsl 3 (l[n].fields.map Fd.z)) fv [] ∧ W.cell? ⟨gl, hl + n * 6, none⟩ = some (.int .i64 l[n].kind) ∧ W.cell? ⟨gl, hl + n * 6 + 1, none⟩ = some (.int .i64 l[n].long) ∧ W.cell? ⟨gl, hl + n * 6 + 2, none⟩ = some (.int .i64 l[n].base) ∧
      W.cell? ⟨gl, hl + n * 6 + 3, none⟩ = some fv ∧ W.cell? ⟨gl, hl + n * 6 + 4, none⟩ = some (.string l[n].owner) ∧ W.cell? ⟨gl, hl + n * 6 + 5, none⟩ = some (.string l[n].name) := by
  have hr := M.rep
  simp only [RepC] at hr
  obtain ⟨_, A, cc, he, _, hr⟩ := hr
  rcases hr with hr | ⟨g2, h2, xs, rfl, _, hrs, hat⟩
  · have : l = [] := List.map_eq_nil_iff.1 hr
    subst this
    simp at hn
  · simp only [Value.slice.injEq, Option.some.injEq, Addr.mk.injEq] at he
    obtain ⟨⟨rfl, rfl, _⟩, _, rfl⟩ := he
    obtain ⟨x1, o1, q1, _, q3⟩ := row_at (i := n) (by simpa using hn) hrs hat
    simp only [List.getElem_map, Ty.z, RepRow] at q1
    obtain ⟨_, _, _, _, rfl, rfl, ⟨rfl, _, rfl⟩, _, _, _, _, rfl, rfl, ⟨rfl, _, rfl⟩, _, _, _, _, rfl, rfl, ⟨rfl, _, rfl⟩, fv, _, _, _, rfl, rfl, hf, _, _, _, _, rfl, rfl, ⟨rfl, _, rfl⟩, _, _, _, _, rfl, rfl, ⟨rfl, _, rfl⟩, rfl, rfl⟩ := q1
    have hf0 : ∀ {o : List Nat}, RepC W Fz (.fsl 3 (l[n].fields.map Fd.z)) fv o → o = [] := fun h => by simp only [RepC] at h; exact h.1
    refine ⟨fv, ?_, q3 0 _ rfl, q3 1 _ rfl, q3 2 _ rfl, q3 3 _ rfl, q3 4 _ rfl, q3 5 _ rfl⟩
    have := hf0 hf
    subst this
    exact hf
end Go.Proofs.Sizes
namespace Go.Proofs.Sizes
open Go Go.AM Go.RowKit Go.Shelf Go.Proofs
attribute [local go_sem] Oper.semAt_some
set_option linter.unusedVariables false
set_option linter.unusedSimpArgs false
def Som (l : List Ty) (s : List Int) : Prop := ∀ j : Nat, j < l.length → getS s (j : Int) = sz l (j : Int) ∨ getS s (j : Int) = -1
def Mor (l : List Ty) (s s' : List Int) : Prop := ∀ j : Nat, j < l.length → getS s (j : Int) = sz l (j : Int) → getS s' (j : Int) = sz l (j : Int)
theorem Mem.ext {Bo Bl Bf g gl hl cap c : Nat} {Fz : Nat → Prop} {l : List Ty} {s : List Int} {W W' : World} (M : Mem Bo Bl Bf g gl hl cap c Fz l s W) (hE : Ext W W' []) : Mem Bo Bl Bf g gl hl cap c Fz l s W' := by
  have hb : ∀ {p : Addr} {v : Value}, W.cell? p = some v → W'.cell? p = some v := fun {p v} h => (World.cell?_of_block (hE.blk _ (World.block_lt_of_cell? W _ h) (by simp))).trans h
  exact ⟨hb M.o, hb M.lb, hb M.f, (hE.blk _ (Array.getElem?_eq_some_iff.1 M.vals).1 (by simp)).trans M.vals, M.len, M.rep.keep _ _ _ ⟨fun b h => ⟨h, hE.blk b (M.fz b h).1 (by simp)⟩, fun b h => by simp at h⟩,
    fun b h => ⟨Nat.lt_of_lt_of_le (M.fz b h).1 hE.size, (M.fz b h).2⟩, M.ne⟩
theorem Mem.put {Bo Bl Bf g gl hl cap c : Nat} {Fz : Nat → Prop} {l : List Ty} {s : List Int} {W : World} (M : Mem Bo Bl Bf g gl hl cap c Fz l s W) {n : Nat} (hn : n < l.length) (v : Int) : Mem Bo Bl Bf g gl hl cap c Fz l (s.set n v) (W.setCell ⟨g, n, none⟩ (.int .i64 v)) ∧ Ext W (W.setCell ⟨g, n, none⟩ (.int .i64 v)) [g] := by
  have hg := (Array.getElem?_eq_some_iff.1 M.vals).1
  have hh : (W.setCell ⟨g, n, none⟩ (.int .i64 v)).heap[g]? = some (.cells ((s.set n v).map (Value.int .i64)).toArray 3 (0, 0)) := by
    simp [World.setCell, Array.getElem?_modify, M.vals, List.map_set]
  have hE : Ext W (W.setCell ⟨g, n, none⟩ (.int .i64 v)) [g] :=
    ⟨rfl, rfl, rfl, by simp [World.setCell], fun b hb hn => Below.heap_setCell _ _ _ b (by simpa using hn)⟩
  have hb : ∀ {p : Addr} {u : Value}, p.block ≠ g → W.cell? p = some u → (W.setCell ⟨g, n, none⟩ (.int .i64 v)).cell? p = some u := fun {p u} hne h => (World.cell?_of_block (hE.blk _ (World.block_lt_of_cell? W _ h) (by simpa using hne))).trans h
  exact ⟨⟨hb M.ne.1 M.o, hb M.ne.2.1 M.lb, hb M.ne.2.2 M.f, hh, by rw [List.length_set]; exact M.len, M.rep.keep _ _ _ ⟨fun b h => ⟨h, hE.blk b (M.fz b h).1 (by simpa using (M.fz b h).2)⟩, fun b h => by simp at h⟩,
    fun b h => ⟨Nat.lt_of_lt_of_le (M.fz b h).1 hE.size, (M.fz b h).2⟩, M.ne⟩, hE⟩
set_option maxRecDepth 100000 in
set_option maxHeartbeats 4000000 in
theorem c34 {Bo Bl Bf g gl hl cap c : Nat} {Fz : Nat → Prop} {l : List Ty} (ht : tabOk l = true) (hsm0 : ∀ t ∈ l, t.sm) (hll : l.length ≤ 24) (hcc : l.length ≤ cap) (hc : l.length ≤ c) : ∀ (k n : Nat), n < l.length → rk l (n : Int) < k → ∀ (W : World) (s : List Int), Mem Bo Bl Bf g gl hl cap c Fz l s W → Som l s →
    Calls Tryz.prog 34 #[.int .i64 (n : Int), .pointer (some ⟨Bo, 0, none⟩), .pointer (some ⟨Bl, 0, none⟩), .pointer (some ⟨Bf, 0, none⟩)] W fun e W' => e = .returned (.int .i64 (sz l (n : Int))) ∧ ∃ s', Mem Bo Bl Bf g gl hl cap c Fz l s' W' ∧ Som l s' ∧ getS s' (n : Int) = sz l (n : Int) ∧ Mor l s s' ∧ Ext W W' [g]
  | 0, n, _, h, _, _, _, _ => absurd h (by omega)
  | k + 1, n, hn, hk, W, s, M, hS => by
    have ih := c34 (cap := cap) (c := c) (Bo := Bo) (Bl := Bl) (Bf := Bf) (g := g) (gl := gl) (hl := hl) (Fz := Fz) ht hsm0 hll hcc hc k
    refine callsIn_wide (n := 9).1 (callsIn_of_wp Tryz.func34 rfl trivial ?_ rfl)
    simp only [Tryz.ntmps34, List.size_toArray, List.length_cons, List.length_nil, Nat.reduceAdd, Nat.reduceSub, Array.replicate_succ, Array.replicate_zero, List.push_toArray, List.append_toArray, List.nil_append, List.cons_append]
    have m1 := M.o
    have m2 := M.at hn
    rcases hS n hn with h0 | h0
    · have hnn := (sz_nn (tabOk_tys ht) (n : Int)).1
      rw [h0] at m2
      gi_wp2
      refine bodyPost_ret (results_tmp rfl _ _ _) rfl ?_
      exact ⟨rfl, s, M, hS, h0, fun j _ h => h, Ext.refl _ _⟩
    · rw [h0] at m2
      have m3 := M.lb
      obtain ⟨fv, f0, r0, r1, r2, r3, r4, r5⟩ := M.row hn
      have f0' := f0
      simp only [RepC] at f0'
      obtain ⟨_, Af, cf, rfl, hcf, hAf⟩ := f0'
      have G := tysOk_good (tabOk_tys ht) hn
      have hse : sz l (n : Int) = oneT l[n] (sz l) := by
        have := sz_eq (l := l) ht (n := (n : Int)) (Int.natCast_nonneg n) (by omega) (hn := by simpa using hn)
        simpa using this
      obtain ⟨W1, hW1⟩ : ∃ W1, W.alloc (Obj.cells #[Value.int .i64 l[n].kind, Value.int .i64 l[n].long, Value.int .i64 l[n].base, Value.slice Af (List.map Fd.z l[n].fields).length cf, Value.string l[n].owner, Value.string l[n].name] 34) = W1 := ⟨_, rfl⟩
      have hE1 : Ext W W1 [] := by rw [← hW1]; exact Ext.alloc _ _ _
      have M1 := M.ext hE1
      have hb1 : W1.heap[W.heap.size]? = some (Obj.cells #[Value.int .i64 l[n].kind, Value.int .i64 l[n].long, Value.int .i64 l[n].base, Value.slice Af (List.map Fd.z l[n].fields).length cf, Value.string l[n].owner, Value.string l[n].name] 34) := by rw [← hW1]; exact World.alloc_heap_new _ _
      have k0 : W1.cell? ⟨W.heap.size, 0, none⟩ = some (.int .i64 l[n].kind) := by rw [cell_of_cells hb1]; rfl
      have k1 : W1.cell? ⟨W.heap.size, 1, none⟩ = some (.int .i64 l[n].long) := by rw [cell_of_cells hb1]; rfl
      have k2 : W1.cell? ⟨W.heap.size, 2, none⟩ = some (.int .i64 l[n].base) := by rw [cell_of_cells hb1]; rfl
      have k3 : W1.cell? ⟨W.heap.size, 3, none⟩ = some (.slice Af l[n].fields.length cf) := by rw [cell_of_cells hb1]; simp
      have k4 : W1.cell? ⟨W.heap.size, 4, none⟩ = some (.string l[n].owner) := by rw [cell_of_cells hb1]; rfl
      have k5 : W1.cell? ⟨W.heap.size, 5, none⟩ = some (.string l[n].name) := by rw [cell_of_cells hb1]; rfl
      have n1 := M1.o
      have n2 := M1.at hn
      rw [h0] at n2
      have n3 := M1.f
      have n4 : W1.frozen? ⟨g, n, none⟩ = false := by simp [World.frozen?, M1.vals]
      have hE1g : Ext W W1 [g] := hE1.mono (by simp)
      have hlt1 : W.heap.size < W1.heap.size := (Array.getElem?_eq_some_iff.1 hb1).1
      have hne1 : W.heap.size ∉ [g] := by have := (Array.getElem?_eq_some_iff.1 M.vals).1; simp; omega
      simp only [List.length_map] at hW1
      have fin : ∀ (v : Int) (W2 : World) (s2 : List Int), v = sz l (n : Int) → Mem Bo Bl Bf g gl hl cap c Fz l s2 W2 → Som l s2 → Mor l s s2 → Ext W W2 [g] →
          ∃ s', Mem Bo Bl Bf g gl hl cap c Fz l s' (W2.setCell ⟨g, n, none⟩ (.int .i64 v)) ∧ Som l s' ∧ getS s' (n : Int) = sz l (n : Int) ∧ Mor l s s' ∧ Ext W (W2.setCell ⟨g, n, none⟩ (.int .i64 v)) [g] := by
        intro v W2 s2 hv M2 hS2 hM2 hE2
        obtain ⟨q1, q2⟩ := M2.put hn v
        have hn2 : n < s2.length := by rw [M2.len]; exact hn
        refine ⟨_, q1, fun j hj => ?_, ?_, fun j hj h => ?_, hE2.trans q2 fun b hb _ => hb⟩
        · rw [getS_set hn2]
          split
          · rename_i e; rw [e]; exact .inl hv
          · exact hS2 j hj
        · rw [getS_set hn2, if_pos rfl]; exact hv
        · rw [getS_set hn2]
          split
          · rename_i e; rw [e]; exact hv
          · exact hM2 j hj h
      have one := G.one
      have hsm := hsm0 _ (List.getElem_mem hn)
      have hcase : l[n].kind = 1 ∨ l[n].kind = 2 ∨ l[n].kind = 3 ∨ l[n].kind = 6 ∨ l[n].kind = 4 ∨ l[n].kind = 5 := by omega
      rcases hcase with hg | hg | hg | hg | hg | hg
      · have hv : sz l (n : Int) = 4 := by rw [hse]; simp [oneT, hg]
        rw [hg] at r0 k0 hW1
        obtain ⟨s', F1, F2, F3, F4, F5⟩ := fin (min 4 1000000001) W1 s (by rw [hv]; rfl) M1 hS (fun j _ h => h) hE1g
        obtain ⟨W2, hW2⟩ : ∃ W2, W1.setCell ⟨g, n, none⟩ (.int .i64 (min 4 1000000001)) = W2 := ⟨_, rfl⟩
        rw [hW2] at F1 F5
        have p1 := F1.o
        have p2 := F1.at hn
        rw [F3] at p2
        clear hv hse
        gi_wp2
        refine bodyPost_ret (results_tmp rfl _ _ _) rfl ?_
        exact ⟨rfl, s', F1, F2, F3, F4, F5⟩
      · have hv : sz l (n : Int) = 1 := by rw [hse]; simp [oneT, hg]
        rw [hg] at r0 k0 hW1
        obtain ⟨s', F1, F2, F3, F4, F5⟩ := fin (min 1 1000000001) W1 s (by rw [hv]; rfl) M1 hS (fun j _ h => h) hE1g
        obtain ⟨W2, hW2⟩ : ∃ W2, W1.setCell ⟨g, n, none⟩ (.int .i64 (min 1 1000000001)) = W2 := ⟨_, rfl⟩
        rw [hW2] at F1 F5
        have p1 := F1.o
        have p2 := F1.at hn
        rw [F3] at p2
        clear hv hse
        gi_wp2
        refine bodyPost_ret (results_tmp rfl _ _ _) rfl ?_
        exact ⟨rfl, s', F1, F2, F3, F4, F5⟩
      · have hv : sz l (n : Int) = 1 := by rw [hse]; simp [oneT, hg]
        rw [hg] at r0 k0 hW1
        obtain ⟨s', F1, F2, F3, F4, F5⟩ := fin (min 1 1000000001) W1 s (by rw [hv]; rfl) M1 hS (fun j _ h => h) hE1g
        obtain ⟨W2, hW2⟩ : ∃ W2, W1.setCell ⟨g, n, none⟩ (.int .i64 (min 1 1000000001)) = W2 := ⟨_, rfl⟩
        rw [hW2] at F1 F5
        have p1 := F1.o
        have p2 := F1.at hn
        rw [F3] at p2
        clear hv hse
        gi_wp2
        refine bodyPost_ret (results_tmp rfl _ _ _) rfl ?_
        exact ⟨rfl, s', F1, F2, F3, F4, F5⟩
      · have hv : sz l (n : Int) = 8 := by rw [hse]; simp [oneT, hg]
        rw [hg] at r0 k0 hW1
        obtain ⟨s', F1, F2, F3, F4, F5⟩ := fin (min 8 1000000001) W1 s (by rw [hv]; rfl) M1 hS (fun j _ h => h) hE1g
        obtain ⟨W2, hW2⟩ : ∃ W2, W1.setCell ⟨g, n, none⟩ (.int .i64 (min 8 1000000001)) = W2 := ⟨_, rfl⟩
        rw [hW2] at F1 F5
        have p1 := F1.o
        have p2 := F1.at hn
        rw [F3] at p2
        clear hv hse
        gi_wp2
        refine bodyPost_ret (results_tmp rfl _ _ _) rfl ?_
        exact ⟨rfl, s', F1, F2, F3, F4, F5⟩
      · obtain ⟨a1, a2, a3⟩ := G.arr hg
        obtain ⟨b0, b1⟩ := isNum_in.1 a1
        obtain ⟨m, hm⟩ : ∃ m : Nat, l[n].base = (m : Int) := ⟨l[n].base.toNat, by omega⟩
        have hml : m < l.length := by omega
        have hmk : rk l (m : Int) < k := by
          have : (m : Int) ∈ kids l false (n : Int) := by
            rw [kids_at (n := (n : Int)) (by simpa using hn)]
            simp [prt, hg, hm]
          have := rk_lt ht (Int.natCast_nonneg n) (by omega) this
          omega
        have hcall : ∀ W', Ext W1 W' [] → _ := fun W' hE' => ih m hml hmk W' s (M1.ext hE') hS
        rw [hg] at r0 k0 hW1
        rw [hm] at r2 k2 hW1
        gi_wp2
        refine wpIn_wide.2 ?_
        go_region_held3 (fun w => w.cell? ⟨W.heap.size, 1, none⟩ = some (.int .i64 l[n].long) ∧ w.cell? ⟨W.heap.size, 2, none⟩ = some (.int .i64 (m : Int)) ∧ w.cell? ⟨Bf, 0, none⟩ = some (.func (.func 34) #[] #[.pointer (some ⟨Bo, 0, none⟩), .pointer (some ⟨Bl, 0, none⟩), .pointer (some ⟨Bf, 0, none⟩)])) (first | exact ⟨k1, k2, n3⟩ | exact ⟨by assumption, by assumption, by assumption⟩) (first | (go_at_call 34; refine (hcall _ (Ext.drew _ _)).mono ?_; rintro e W2 ⟨rfl, s2, M2, S2, g2, Mo2, E2⟩; have c1 : W2.cell? ⟨W.heap.size, 1, none⟩ = some (.int .i64 l[n].long) := (World.cell?_of_block (E2.blk W.heap.size hlt1 hne1)).trans k1; have c2 : W2.cell? ⟨W.heap.size, 2, none⟩ = some (.int .i64 (m : Int)) := (World.cell?_of_block (E2.blk W.heap.size hlt1 hne1)).trans k2; have c3 := M2.f))
        have hv : min (l[n].long * sz l (m : Int)) 1000000001 = sz l (n : Int) := by
          have hp : prt false l[n] = [(m : Int)] := by
            simp [prt, hg, hm, G.none (by rw [hg]; omega)]
          rw [hse]
          unfold oneT capS
          rw [hg, hp]
          simp only [sumZ, show ((4 : Int) == 1) = false from rfl, show ((4 : Int) == 2) = false from rfl, show ((4 : Int) == 3) = false from rfl, show ((4 : Int) == 6) = false from rfl, show ((4 : Int) == 4) = true from rfl, Bool.or_self, Bool.false_eq_true, if_false, if_true, Int.add_zero]
          rw [Int.mul_comm, Int.min_comm]
        have hb := sz_nn (tabOk_tys ht) (m : Int)
        have hw1 : l[n].long * sz l (m : Int) ≤ 1000 * sz l (m : Int) := Int.mul_le_mul_of_nonneg_right a3 hb.1
        have hw0 : 0 ≤ l[n].long * sz l (m : Int) := Int.mul_nonneg (by omega) hb.1
        have hw := w64 (l[n].long * sz l (m : Int)) (by omega)
        simp only [hw]
        obtain ⟨s', F1, F2, F3, F4, F5⟩ := fin (min (l[n].long * sz l (m : Int)) 1000000001) W2 s2 hv M2 S2 Mo2 (hE1g.trans ((Ext.drew W1 [g]).trans E2 fun b hb _ => hb) fun b hb _ => hb)
        obtain ⟨W3, hW3⟩ : ∃ W3, W2.setCell ⟨g, n, none⟩ (.int .i64 (min (l[n].long * sz l (m : Int)) 1000000001)) = W3 := ⟨_, rfl⟩
        rw [hW3] at F1 F5
        have p1 := F1.o
        have p2 := F1.at hn
        rw [F3] at p2
        have o1 := M2.o
        have o2 := M2.at hn
        have o3 : W2.frozen? ⟨g, n, none⟩ = false := by simp [World.frozen?, M2.vals]
        clear hv hse hw hw0 hw1
        gi_wp2
        refine bodyPost_ret (results_tmp rfl _ _ _) rfl ?_
        exact ⟨rfl, s', F1, F2, F3, F4, F5⟩
      · have hk6 : ∀ i (h : i < (prt false l[n]).length), ∃ m : Nat, (prt false l[n])[i] = (m : Int) ∧ m < l.length ∧ rk l (m : Int) < k := by
          intro i h
          have hm : (prt false l[n])[i] ∈ kids l false (n : Int) := by
            rw [kids_at (n := (n : Int)) (by simpa using hn)]
            simp only [Int.toNat_natCast]
            exact List.getElem_mem h
          obtain ⟨b0, b1⟩ := kids_ok (tabOk_tys ht) (Int.natCast_nonneg n) (by omega) hm
          have hlt := rk_lt ht (Int.natCast_nonneg n) (by omega) hm
          exact ⟨(prt false l[n])[i].toNat, by omega, by omega, by rw [Int.toNat_of_nonneg b0]; omega⟩
        have h7 := prt_len (tabOk_tys ht) false hn
        have hv : min (sumZ (sz l) (prt false l[n])) 1000000001 = sz l (n : Int) := by
          rw [hse]
          unfold oneT capS
          rw [hg]
          simp only [show ((5 : Int) == 1) = false from rfl, show ((5 : Int) == 2) = false from rfl, show ((5 : Int) == 3) = false from rfl, show ((5 : Int) == 6) = false from rfl, show ((5 : Int) == 4) = false from rfl, Bool.or_self, Bool.false_eq_true, if_false]
          rw [Int.min_comm]
        have h136 := (d35 l[n] false hsm).2 W1 Fz [.agg #[Value.int .i64 l[n].kind, Value.int .i64 l[n].long, Value.int .i64 l[n].base, Value.slice Af (List.map Fd.z l[n].fields).length cf, Value.string l[n].owner, Value.string l[n].name], .bool false] [] (by
          have f1 : RepC W1 Fz (.fsl 3 (l[n].fields.map Fd.z)) (Value.slice Af (List.map Fd.z l[n].fields).length cf) [] := f0.keep _ _ _ ⟨fun b h => ⟨h, hE1.blk b (M.fz b h).1 (by simp)⟩, fun b h => by simp at h⟩
          refine ⟨_, _, [], [], rfl, rfl, ⟨[Value.int .i64 l[n].kind, Value.int .i64 l[n].long, Value.int .i64 l[n].base, Value.slice Af (List.map Fd.z l[n].fields).length cf, Value.string l[n].owner, Value.string l[n].name], rfl, ?_⟩, _, _, [], [], rfl, rfl, by simp [RepV, RepC, Value.oneCell'], rfl, rfl⟩
          exact ⟨_, _, [], [], rfl, rfl, by simp [RepV, RepC, Value.oneCell'], _, _, [], [], rfl, rfl, by simp [RepV, RepC, Value.oneCell'], _, _, [], [], rfl, rfl, by simp [RepV, RepC, Value.oneCell'], _, _, [], [], rfl, rfl, f1.toV, _, _, [], [], rfl, rfl, by simp [RepV, RepC, Value.oneCell'], _, _, [], [], rfl, rfl, by simp [RepV, RepC, Value.oneCell'], rfl, rfl⟩) List.nodup_nil (by simp) (fun b hb => (M1.fz b hb).1)
        rw [hg] at r0 k0 hW1 h136
        generalize hps : prt false l[n] = ps at h136 hk6 h7 hv
        clear hse
        gi_wp2
        simp only [List.length_map] at h136
        refine ⟨trivial, (callsIn_wide.2 h136).mono ?_⟩
        rintro e Wp ⟨x, ox, oo, rfl, hEp, hx, _, _, hold⟩
        have Mp := M1.ext hEp
        have hgW := (Array.getElem?_eq_some_iff.1 M1.vals).1
        obtain ⟨A, cp, rfl, hA⟩ : ∃ A cp, x = .slice A ps.length cp ∧ (0 < ps.length → ps.length ≤ cp ∧ ∃ gp hp, A = some ⟨gp, hp, none⟩ ∧ W1.heap.size ≤ gp ∧ gp < Wp.heap.size ∧ ∀ i (h : i < ps.length), Wp.cell? ⟨gp, hp + i, none⟩ = some (.int .i64 ps[i])) := by
          simp only [RepV, RepC] at hx
          rcases hx with ⟨rfl, hx, _⟩ | ⟨gp, hp, cp, cur, vs, o', rfl, rfl, _, hc, _, hrw, hat⟩
          · have : ps = [] := List.map_eq_nil_iff.1 hx
            subst this
            exact ⟨none, 0, rfl, fun h => absurd h (by simp)⟩
          · obtain ⟨rfl, rfl⟩ := AllF.rows_iv hrw
            have hgp := hold gp (by simp)
            refine ⟨some ⟨gp, hp * 1, none⟩, cp, by rw [List.length_map], fun _ => ⟨by simpa using hc, gp, hp * 1, rfl, by rcases hgp.1 with h | h; simp at h; exact h, hgp.2, fun i h => hat i _ (by simp [h])⟩⟩
        gi_wp2
        gi_loopw [7, 46] (fun a b wr => ∃ (i : Nat) (s2 : List Int), i ≤ ps.length ∧ b = .int .i64 (i : Int) ∧ a = .int .i64 (sumZ (sz l) (ps.take i)) ∧ Mem Bo Bl Bf g gl hl cap c Fz l s2 wr ∧ Som l s2 ∧ Mor l s s2 ∧ Ext W wr [g] ∧ Ext Wp wr [g])
          (fun a b _ => ps.length - (intOf b).toNat)
        case atStart => exact ⟨0, s, Nat.zero_le _, rfl, rfl, Mp, hS, fun j _ h => h, hE1g.trans (hEp.mono (by simp)) (fun b hb _ => hb), Ext.refl _ _⟩
        case round =>
          obtain ⟨i, s2, hi, rfl, rfl, Ms, Ss, Mo, EW, EP⟩ := hrel
          by_cases hlt : i < ps.length
          · obtain ⟨hc', gp, hp, rfl, hg1, hg2, hat⟩ := hA (by omega)
            have hcx : wr.cell? ⟨gp, hp + i, none⟩ = some (.int .i64 ps[i]) := (World.cell?_of_block (EP.blk gp hg2 (by simp; omega))).trans (hat i hlt)
            obtain ⟨m, hm, hml, hmk⟩ := hk6 i hlt
            rw [hm] at hcx
            have hf := Ms.f
            have hb := sz_nn (tabOk_tys ht) (m : Int)
            have hs1 : sumZ (sz l) (ps.take (i + 1)) = sumZ (sz l) (ps.take i) + sz l (m : Int) := by
              rw [List.take_succ_eq_append_getElem hlt, sumZ_app, hm]; simp [sumZ]
            have hs2 : 0 ≤ sumZ (sz l) (ps.take i) ∧ sumZ (sz l) (ps.take i) ≤ 7000000007 := by
              have q1 := sumZ_nn (g := sz l) (ks := ps.take i) fun k _ => (sz_nn (tabOk_tys ht) k).1
              have q2 := sumZ_le (g := sz l) (B := 1000000001) (ks := ps.take i) fun k _ => (sz_nn (tabOk_tys ht) k).2
              simp only [List.length_take] at q2
              omega
            gi_wp2
            refine ⟨trivial, (callsIn_wide.2 (ih m hml hmk wr s2 Ms Ss)).mono ?_⟩
            rintro e W3 ⟨rfl, s3, M3, S3, g3, Mo3, E3⟩
            gi_wp2
            exact ⟨⟨i + 1, s3, hlt, by simp, by rw [hs1], M3, S3, fun j hj h => Mo3 j hj (Mo j hj h), EW.trans E3 fun b hb _ => hb, EP.trans E3 fun b hb _ => hb⟩, by simp [intOf]; omega⟩
          · obtain rfl : i = ps.length := by omega
            simp only [List.take_length]
            obtain ⟨s', F1, F2, F3, F4, F5⟩ := fin (min (sumZ (sz l) ps) 1000000001) wr s2 hv Ms Ss Mo EW
            obtain ⟨W4, hW4⟩ : ∃ W4, wr.setCell ⟨g, n, none⟩ (.int .i64 (min (sumZ (sz l) ps) 1000000001)) = W4 := ⟨_, rfl⟩
            rw [hW4] at F1 F5
            have p1 := F1.o
            have p2 := F1.at hn
            rw [F3] at p2
            have o1 := Ms.o
            have o2 := Ms.at hn
            have o3 : wr.frozen? ⟨g, n, none⟩ = false := by simp [World.frozen?, Ms.vals]
            clear hv
            gi_wp2
            refine bodyPost_ret (results_tmp rfl _ _ _) rfl ?_
            exact ⟨rfl, s', F1, F2, F3, F4, F5⟩
end Go.Proofs.Sizes
namespace Go.Proofs.Sizes
open Go Go.AM Go.RowKit Go.Shelf Go.Proofs
attribute [local go_sem] Oper.semAt_some
set_option linter.unusedVariables false
set_option linter.unusedSimpArgs false
def Rep141 (len : Nat) : Prop := ∀ (w : World) (b : Nat), w.cell? ⟨b, 0, none⟩ = some (.int .i64 (-1)) → Calls Tryz.prog 33 #[.slice (some ⟨b, 0, none⟩) 1 1, .int .i64 (len : Int)] w fun e w' =>
  ∃ g, e = .returned (.slice (some ⟨g, 0, none⟩) len len) ∧ Ext w w' [] ∧ w.heap.size ≤ g ∧ w'.heap[g]? = some (.cells ((List.replicate len (-1 : Int)).map (Value.int .i64)).toArray 3 (0, 0))
set_option maxRecDepth 100000 in
set_option maxHeartbeats 4000000 in
theorem c16 (l : List Ty) (hl : (l.length : Int) ≤ 1048576) (hs : ∀ t ∈ l, t.sm) (ht : tabOk l = true) (h141 : Rep141 l.length) : Con Tryz.prog 16 [.fsl 6 (l.map Ty.z)] false (.usl 3 1 ((sizesL l).map iv)) [.dead] := by
  intro w Fz xs os hrep hos hfz hlt
  simp only [RepVs] at hrep
  obtain ⟨sv, _, o1, _, rfl, rfl, h1, rfl, rfl⟩ := hrep
  simp only [RepV] at h1
  have h1' := h1
  simp only [RepC] at h1
  obtain ⟨rfl, A, cap, rfl, hcap, hA⟩ := h1
  have h24 := tabOk_len ht
  have h3 := (tysOk_len (tabOk_tys ht)).1
  refine callsIn_wide (n := 9).1 (callsIn_of_wp Tryz.func16 rfl trivial ?_ rfl)
  simp only [Tryz.ntmps16, List.size_toArray, List.length_cons, List.length_nil, Nat.reduceAdd, Nat.reduceSub, Array.replicate_succ, Array.replicate_zero, List.push_toArray, List.append_toArray, List.nil_append, List.cons_append]
  obtain ⟨w4, hw4⟩ : ∃ w4, (w.alloc (Obj.cells #[Value.slice A l.length cap] 24)).alloc (Obj.cells #[Value.int .i64 (-1)] 3) = w4 := ⟨_, rfl⟩
  have hE4 : Ext w w4 [] := by rw [← hw4]; exact (Ext.alloc _ _ _).trans (Ext.alloc _ [] _) (by simp)
  have hb2 : w4.heap[w.heap.size]? = some (.cells #[Value.slice A l.length cap] 24) := by
    rw [← hw4, Below.heap_alloc _ _ _ (by simp)]
    exact World.alloc_heap_new _ _
  have hb3 : w4.heap[w.heap.size + 1]? = some (.cells #[Value.int .i64 (-1)] 3) := by
    rw [← hw4]
    have := World.alloc_heap_new (w.alloc (Obj.cells #[Value.slice A l.length cap] 24)) (.cells #[Value.int .i64 (-1)] 3)
    rwa [World.size_alloc] at this
  have hc2 : w4.cell? ⟨w.heap.size, 0, none⟩ = some (Value.slice A l.length cap) := by rw [cell_of_cells hb2]; rfl
  have hrepc := h141 w4 (w.heap.size + 1) (by rw [cell_of_cells hb3]; rfl)
  gi_wp2
  refine ⟨trivial, (callsIn_wide.2 hrepc).mono ?_⟩
  rintro e w5 ⟨g, rfl, hE5, hg4, hgc⟩
  have hgl := (Array.getElem?_eq_some_iff.1 hgc).1
  have hs4 : w4.heap.size = w.heap.size + 2 := by rw [← hw4]; simp
  have hs5 := hE5.size
  obtain ⟨w6, hw6⟩ : ∃ w6, (w5.alloc (Obj.cells #[Value.slice (some ⟨g, 0, none⟩) l.length l.length] 44)).alloc (Obj.cells #[Value.nilFunc] 59) = w6 := ⟨_, rfl⟩
  have hE56 : Ext w5 w6 [] := by rw [← hw6]; exact (Ext.alloc _ _ _).trans (Ext.alloc _ [] _) (by simp)
  have c3 : w6.heap[w5.heap.size]? = some (.cells #[Value.slice (some ⟨g, 0, none⟩) l.length l.length] 44) := by
    rw [← hw6, Below.heap_alloc _ _ _ (by simp)]
    exact World.alloc_heap_new _ _
  have c4 : w6.heap[w5.heap.size + 1]? = some (.cells #[Value.nilFunc] 59) := by
    rw [← hw6]
    have := World.alloc_heap_new (w5.alloc (Obj.cells #[Value.slice (some ⟨g, 0, none⟩) l.length l.length] 44)) (.cells #[Value.nilFunc] 59)
    rwa [World.size_alloc] at this
  have c4c : w6.cell? ⟨w5.heap.size + 1, 0, none⟩ = some Value.nilFunc := by rw [cell_of_cells c4]; rfl
  have c4f : w6.frozen? ⟨w5.heap.size + 1, 0, none⟩ = false := by simp [World.frozen?, c4]
  obtain ⟨w7, hw7⟩ : ∃ w7, w6.setCell ⟨w5.heap.size + 1, 0, none⟩ (Value.func (.func 34) #[] #[.pointer (some ⟨w5.heap.size, 0, none⟩), .pointer (some ⟨w.heap.size, 0, none⟩), .pointer (some ⟨w5.heap.size + 1, 0, none⟩)]) = w7 := ⟨_, rfl⟩
  have hE67 : Ext w6 w7 [w5.heap.size + 1] := by rw [← hw7]; exact ⟨rfl, rfl, rfl, by simp [World.setCell], fun b hb hn => Below.heap_setCell _ _ _ b (by simpa using hn)⟩
  have hE57 : Ext w5 w7 [] := hE56.trans hE67 fun b hb hlt => by simp at hb; omega
  have d3 : w7.heap[w5.heap.size]? = some (.cells #[Value.slice (some ⟨g, 0, none⟩) l.length l.length] 44) := (hE67.blk _ (Array.getElem?_eq_some_iff.1 c3).1 (by simp)).trans c3
  have d4 : w7.cell? ⟨w5.heap.size + 1, 0, none⟩ = some (Value.func (.func 34) #[] #[.pointer (some ⟨w5.heap.size, 0, none⟩), .pointer (some ⟨w.heap.size, 0, none⟩), .pointer (some ⟨w5.heap.size + 1, 0, none⟩)]) := by rw [← hw7]; exact World.cell?_setCell_same' _ _ _ (by rw [c4c]; rfl)
  have hE47 : Ext w4 w7 [] := hE5.trans hE57 (by simp)
  have hE7 : Ext w w7 [] := hE4.trans hE47 (by simp)
  have hl0 : ¬ List.map Ty.z l = [] := by intro h; have := congrArg List.length h; simp at this; subst this; simp at h3
  obtain ⟨gl, h, vs, rfl, hFg, hrs, hat⟩ := hA.resolve_left hl0
  have M7 : Mem w5.heap.size w.heap.size (w5.heap.size + 1) g gl h cap l.length Fz l (List.replicate l.length (-1)) w7 := by
    refine ⟨by rw [cell_of_cells d3]; rfl, by rw [cell_of_cells ((hE47.blk _ (by omega) (by simp)).trans hb2)]; rfl, d4, (hE57.blk g hgl (by simp)).trans hgc, by simp, AllF.keepW hlt hE7 (by simpa using h1'), fun b hb => ?_, by omega, by omega, by omega⟩
    have := hlt b hb
    have := hE7.size
    exact ⟨by omega, by omega⟩
  have hgr : ∀ j : Nat, j < l.length → getS (List.replicate l.length (-1)) (j : Int) = -1 := fun j hj => by simp [getS, hj]
  have m3 := M7.lb
  have hst : (store ⟨w5.heap.size + 1, 0, none⟩ (Value.func (.func 34) #[] #[.pointer (some ⟨w5.heap.size, 0, none⟩), .pointer (some ⟨w.heap.size, 0, none⟩), .pointer (some ⟨w5.heap.size + 1, 0, none⟩)])).run Tryz.prog w6 = .ok () w7 := by
    rw [run_store_func]
    simp [stored, go_sem, c4c, c4f, hw7]
  gi_wp2
  gi_loopw [13] (fun b wr => ∃ (i : Nat) (s2 : List Int), i ≤ l.length ∧ b = .int .i64 (i : Int) ∧ Mem w5.heap.size w.heap.size (w5.heap.size + 1) g gl h cap l.length Fz l s2 wr ∧ Som l s2 ∧ (∀ j : Nat, j < i → getS s2 (j : Int) = sz l (j : Int)) ∧ Ext w7 wr [g])
    (fun b _ => l.length - (intOf b).toNat)
  case atStart => exact ⟨0, _, Nat.zero_le _, rfl, M7, fun j hj => .inr (hgr j hj), fun j hj => absurd hj (by omega), Ext.refl _ _⟩
  case round =>
    obtain ⟨i, s2, hi, rfl, Ms, Ss, Di, EW⟩ := hrel
    by_cases hlt' : i < l.length
    · have hf := Ms.f
      gi_wp2
      refine ⟨trivial, (callsIn_wide.2 (c34 ht hs h24 (by simpa using hcap) (Nat.le_refl _) (rk l (i : Int) + 1) i hlt' (Nat.lt_succ_self _) wr s2 Ms Ss)).mono ?_⟩
      rintro e W3 ⟨rfl, s3, M3, S3, g3, Mo3, E3⟩
      gi_wp2
      exact ⟨⟨i + 1, s3, hlt', by simp, M3, S3, fun j hj => by
        by_cases e : j = i
        · rw [e]; exact g3
        · exact Mo3 j (by omega) (Di j (by omega)), EW.trans E3 fun b hb _ => hb⟩, by simp [intOf]; omega⟩
    · obtain rfl : i = l.length := by omega
      have o1 := Ms.o
      gi_wp2
      refine bodyPost_ret (results_tmp rfl _ _ _) rfl ?_
      have hs2 : s2 = sizesL l := by
        refine List.ext_getElem (by rw [Ms.len]; simp [sizesL]) fun j h1 h2 => ?_
        have hj : j < l.length := by rw [← Ms.len]; exact h1
        have := Di j hj
        rw [getS_at h1] at this
        simp [sizesL, this]
      refine ⟨_, [g], [], rfl, hE7.trans EW fun b hb hlt => by simp at hb; omega, ?_, ⟨_, _, [], [], rfl, rfl, rfl, rfl, rfl⟩, by simp, fun b hb => ?_⟩
      · rw [← hs2]
        simp only [RepV, RepC]
        refine .inr ⟨g, 0, l.length, _, s2.map (Value.int .i64), [], by simp [Ms.len], rfl, Ms.vals, by simp [Ms.len], by simp [Ms.len], cells_int s2, fun j u hj => ?_⟩
        rw [cell_of_cells Ms.vals]
        simpa using hj
      · simp at hb
        subst hb
        have := (Array.getElem?_eq_some_iff.1 Ms.vals).1
        exact ⟨.inr (by omega), this⟩
end Go.Proofs.Sizes
namespace Go.Proofs.Sizes
open Go Go.AM Go.RowKit Go.Shelf Go.Proofs
attribute [local go_sem] Oper.semAt_some
set_option linter.unusedVariables false
set_option linter.unusedSimpArgs false
theorem e_zero : bits .and .u64 0 4294967295 = 0 := by decide
theorem e_one : bits .and .u64 1 4294967295 = 1 := by decide
theorem e_n (k : Nat) (hk : k < 4294967296) : bits .and .u64 (k : Int) 4294967295 = (k : Int) := by
  rw [Go.Proofs.Mul64.maskN k (by omega)]
  omega
set_option maxRecDepth 100000 in
set_option maxHeartbeats 1000000 in
theorem mul198 (F : Fence) (n : Nat) (h : F.fn 70) (hro : F.round = none) (k : Nat) (hk : k < 4294967296) (w : World) : CallsIn F n Tryz.prog 70 #[.int .u64 1, .int .u64 (k : Int)] w fun e w' => e = .returned (.tuple #[.int .u64 0, .int .u64 (k : Int)]) ∧ w' = w := by
  refine callsIn_of_wp Tryz.func70 rfl h ?_ hro
  simp only [Tryz.ntmps70, List.size_toArray, List.length_cons, List.length_nil, Nat.reduceAdd, Nat.reduceSub, Array.replicate_succ, Array.replicate_zero, List.push_toArray, List.append_toArray, List.nil_append, List.cons_append]
  have w1 := Go.Proofs.Mul64.wrapN k (by omega)
  have e0 := e_zero
  have e1 := e_one
  have e2 := e_n k hk
  have e3 : (k : Int) / 4294967296 = 0 := by omega
  gi_wp2
  refine bodyPost_ret (results_tmp2 rfl _ _ _) rfl ?_
  exact ⟨rfl, rfl⟩
set_option maxRecDepth 100000 in
set_option maxHeartbeats 1000000 in
theorem mul173 (F : Fence) (n : Nat) (h : F.fn 70) (h2 : F.fn 52) (hro : F.round = none) (hd : F.depth = none) (k : Nat) (hk : k < 4294967296) (w : World) : CallsIn F n Tryz.prog 52 #[.int .u64 1, .int .u64 (k : Int)] w fun e w' => e = .returned (.tuple #[.int .u64 0, .int .u64 (k : Int)]) ∧ w' = w := by
  refine callsIn_of_wp Tryz.func52 rfl h2 ?_ hro
  simp only [Tryz.ntmps52, List.size_toArray, List.length_cons, List.length_nil, Nat.reduceAdd, Nat.reduceSub, Array.replicate_succ, Array.replicate_zero, List.push_toArray, List.append_toArray, List.nil_append, List.cons_append]
  gi_wp2_with (gi_at_call 70; refine (mul198 F _ h hro k hk _).mono ?_; rintro e w' ⟨rfl, rfl⟩)
  refine bodyPost_ret (results_tmp2 rfl _ _ _) rfl ?_
  exact ⟨rfl, rfl⟩
end Go.Proofs.Sizes
namespace Go.Proofs.Sizes
open Go Go.AM Go.RowKit Go.Shelf Go.Proofs
set_option linter.unusedVariables false
set_option linter.unusedSimpArgs false
theorem info3 : (Tryz.prog.info? 3).map (fun i => (i.zero, i.size, i.bytes)) = some (some (.int .i64 0), 1, 8) := by kernel_rfl
theorem made0 (n : Nat) : madeCells (Value.cells (.int .i64 0)) (n * 1) = (List.replicate n (Value.int .i64 0)).toArray := by
  apply Array.ext
  · simp [madeCells]
  · intro i h1 h2
    simp [madeCells, Value.cells, Nat.mod_one]
def RowN (len n : Nat) : List Value := List.replicate n (Value.int .i64 (-1)) ++ List.replicate (len - n) (Value.int .i64 0)
theorem RowN_copy {len n m : Nat} (h : n + m ≤ len) : (RowN len n).toArray.toList.take n ++ List.replicate m (Value.int .i64 (-1)) ++ (RowN len n).toArray.toList.drop (n + m) = RowN len (n + m) := by
  have e1 : (RowN len n).take n = List.replicate n (Value.int .i64 (-1)) := by simp [RowN]
  have e2 : (RowN len n).drop (n + m) = List.replicate (len - (n + m)) (Value.int .i64 0) := by
    rw [RowN, List.drop_append]
    simp
    omega
  simp only [e1, e2]
  rw [RowN, List.replicate_append_replicate]
set_option maxRecDepth 100000 in
set_option maxHeartbeats 2000000 in
theorem rep141 (len : Nat) (h0 : 0 < len) (hl : len ≤ 24) : Rep141 len := by
  intro w b hc
  refine calls_of_wp Tryz.func33 rfl ?_
  simp only [Tryz.ntmps33, List.size_toArray, List.length_cons, List.length_nil, Nat.reduceAdd, Nat.reduceSub, Array.replicate_succ, Array.replicate_zero, List.push_toArray, List.append_toArray, List.nil_append, List.cons_append]
  have w1 := Go.Proofs.Mul64.wrapN len (by omega)
  obtain ⟨i0, hi, hz0, hz1, hz2⟩ := info_parts info3
  have e3 : decide ((9223372036854775807 : Int) < (len : Int)) = false := by simp; omega
  have hmk := run_makeSlice (P := Tryz.prog) (w := w) 44 3 i0 _ Tryz.underlying44 hi hz0 .i64 .i64 (len : Int) (len : Int) (by omega) (by omega) (by rw [hz1]; simp; omega) (by rw [hz2]; omega) (by omega)
  rw [hz1, Int.toNat_natCast, made0] at hmk
  obtain ⟨w2, hw2⟩ : ∃ w2, w.alloc (.cells (List.replicate len (Value.int .i64 0)).toArray 3) = w2 := ⟨_, rfl⟩
  rw [hw2] at hmk
  have hgl : w.heap.size < w2.heap.size := by rw [← hw2]; simp
  have hg2 : w2.heap[w.heap.size]? = some (.cells (List.replicate len (Value.int .i64 0)).toArray 3 (0, 0)) := by rw [← hw2]; exact World.alloc_heap_new _ _
  have hcb : w2.cell? ⟨b, 0, none⟩ = some (.int .i64 (-1)) := by
    have hblt := World.block_lt_of_cell? w _ hc
    rw [← hw2]
    exact (World.cell?_of_block (Below.heap_alloc _ _ _ hblt)).trans hc
  have hsz : (Tryz.prog.info? 3).map (·.size) = some 1 := by rw [hi]; simp [hz1]
  have hcp := run_copy_row (P := Tryz.prog) w2 44 44 3 3 w.heap.size 0 len len ⟨b, 0, none⟩ 1 1 (List.replicate len (Value.int .i64 0)).toArray 3 [.int .i64 (-1)] Tryz.underlying44 hsz hg2 (by show 1 = min 1 len; omega) (by
    intro j v hj
    cases j with
    | zero => simp at hj; subst hj; simpa [Addr.add] using hcb
    | succ j => simp at hj) (by simp; omega) (by simp [Value.oneCell'])
  generalize hw3 : w2.setRow _ _ = w3 at hcp
  have hg3 : w3.heap[w.heap.size]? = some (.cells (RowN len 1).toArray 3 (0, 0)) := by
    rw [← hw3, setRow_heap _ _ _ _ _ _ hg2]
    simp [RowN]
  have hE3 : Ext w w3 [] := by
    rw [← hw3, ← hw2]
    exact ⟨rfl, rfl, rfl, by simp [World.setRow], fun k hk _ => (setRow_other _ _ k _ (by omega)).trans (Below.heap_alloc _ _ _ hk)⟩
  obtain ⟨g, hgd⟩ : ∃ g, w.heap.size = g := ⟨_, rfl⟩
  have hE2 : Ext w w2 [] := by rw [← hw2]; exact Ext.alloc _ _ _
  have hE23 : Ext w2 w3 [g] := by
    rw [← hw3]
    exact ⟨rfl, rfl, rfl, by simp [World.setRow], fun k hk hn => setRow_other _ _ k _ (by simp at hn; omega)⟩
  rw [hgd] at hmk hcp hg3
  go_wp2_with (go_at_call 52; refine (callsIn_wide.1 (mul173 Fence.wide 0 trivial trivial rfl rfl len (by omega) _)).mono ?_; rintro e w' ⟨rfl, rfl⟩)
  go_loopw [8] (fun a wr => ∃ n : Nat, 0 < n ∧ n ≤ len ∧ a = .int .i64 (n : Int) ∧ wr.heap[g]? = some (Obj.cells (RowN len n).toArray 3 (0, 0)) ∧ Ext w2 wr [g]) (fun a _ => len - (intOf a).toNat)
  case atStart => exact ⟨1, by omega, by omega, rfl, hg3, hE23⟩
  case round =>
    obtain ⟨n, n0, n1, rfl, hgr, hER⟩ := hrel
    by_cases hlt : n < len
    · have hcells : ∀ j v, (List.replicate (min n (len - n)) (Value.int .i64 (-1)))[j]? = some v → wr.cell? ((⟨g, 0, none⟩ : Addr).add j) = some v := by
        intro j v hj
        obtain ⟨hj1, rfl⟩ := List.getElem?_eq_some_iff.1 hj
        simp at hj1
        have ea : ((⟨g, 0, none⟩ : Addr).add j) = ⟨g, j, none⟩ := by cases j <;> simp [Addr.add]
        rw [ea, cell_of_cells hgr]
        simp only [List.getElem?_toArray, RowN]
        rw [List.getElem?_append_left (by simp; omega), List.getElem?_replicate, if_pos (by omega), List.getElem_replicate]
      have hcq := run_copy_row (P := Tryz.prog) wr.drew 44 44 3 3 g n (len - n) (len - n) ⟨g, 0, none⟩ n len (RowN len n).toArray 3 (List.replicate (min n (len - n)) (Value.int .i64 (-1))) Tryz.underlying44 hsz hgr (by simp) hcells (by simp [RowN]; omega) (by intro v hv; rw [(List.mem_replicate.1 hv).2]; rfl)
      generalize hw4 : wr.drew.setRow g _ = w4 at hcq
      have hg4 : w4.heap[g]? = some (.cells (RowN len (n + min n (len - n))).toArray 3 (0, 0)) := by
        rw [← hw4, setRow_heap _ _ _ _ _ _ (show wr.drew.heap[g]? = _ from hgr)]
        have := RowN_copy (len := len) (n := n) (m := min n (len - n)) (by omega)
        rw [← this]
        simp
      have hE4 : Ext wr w4 [g] := by
        rw [← hw4]
        exact ⟨rfl, rfl, rfl, by simp [World.setRow], fun k hk hn => setRow_other _ _ k _ (by simp at hn; omega)⟩
      rw [List.length_replicate] at hcq
      go_wp2
      go_region
      all_goals go_wp2
      exact ⟨⟨n + min n (len - n), by omega, by omega, by simp, hg4, hER.trans hE4 fun k hk _ => hk⟩, by simp [intOf]; omega⟩
    · obtain rfl : n = len := by omega
      go_wp2
      refine bodyPost_ret (results_tmp rfl _ _ _) rfl ?_
      refine ⟨g, rfl, hE2.trans hER fun k hk hlt => by simp at hk; omega, by omega, ?_⟩
      rw [hgr]
      simp [RowN]
end Go.Proofs.Sizes
namespace Go.AM
set_option linter.unusedVariables false
set_option linter.unusedSimpArgs false
theorem d16 (l : List Ty) (hl : (l.length : Int) ≤ 1048576) (hs : ∀ s ∈ l, s.sm) (ht : tabOk l = true) : Does Go.Proofs.Tryz.prog 16 [.fsl 6 (l.map Ty.z)] false (.usl 3 1 ((sizesL l).map iv)) [.dead] :=
  ⟨by decide +kernel, Go.Proofs.Sizes.c16 l hl hs ht (Go.Proofs.Sizes.rep141 l.length (by have := (tysOk_len (tabOk_tys ht)).1; omega) (tabOk_len ht))⟩
end Go.AM
namespace Go.AM
set_option linter.unusedVariables false
set_option linter.unusedSimpArgs false
def upL (n b : Int) : Int := (n + b - 1) / b * b
theorem upL_le {n b : Int} (h0 : 0 ≤ n) (h1 : 1 ≤ b) : n ≤ upL n b ∧ upL n b < n + b := by
  unfold upL
  have e1 := Int.emod_add_mul_ediv (n + b - 1) b
  have e2 := Int.emod_nonneg (n + b - 1) (show b ≠ 0 by omega)
  have e3 := Int.emod_lt_of_pos (n + b - 1) (show 0 < b by omega)
  have e4 := Int.mul_comm b ((n + b - 1) / b)
  omega
theorem upL_nn {n b : Int} (h0 : 0 ≤ n) (h1 : 1 ≤ b) : 0 ≤ (n + b - 1) / b ∧ (n + b - 1) / b ≤ n + b - 1 := by
  exact ⟨Int.ediv_nonneg (by omega) (by omega), Int.ediv_le_self _ (by omega)⟩
def m18 : MC :=
 (.seq (.reg [Xb 4 (.asg (.i 0))]) (.seq (.reg [Xm 5 0, Xm 6 1, Xq 7 (.bin false .add (.t 5) (.t 6)), Xq 8 (.bin false .sub (.t 7) (.i 1)), Xm 9 1, Xq 10 (.bin false .quo (.t 8) (.t 9)), Xm 11 1, Xq 12 (.bin false .mul (.t 10) (.t 11)), Xa 4 12]) .ret))
theorem d18 (n b : Int) (h0 : 0 ≤ n) (h1 : n ≤ 1000000000000) (h2 : 1 ≤ b) (h3 : b ≤ 1000000000000) : Does Go.Proofs.Tryz.prog 18 [.v (.int .i64 n), .v (.int .i64 b)] false (.v (.int .i64 (upL n b))) [.dead, .dead] := by
  have e1 : (n + b - 1).tdiv b = (n + b - 1) / b := Int.tdiv_eq_ediv_of_nonneg (by omega)
  have g1 := upL_le h0 h2
  have g2 := upL_nn h0 h2
  have w1 := w64 (n + b) (by omega)
  have w2 := w64 (n + b - 1) (by omega)
  have w3 := w64 ((n + b - 1) / b) (by omega)
  have w4 : IntKind.i64.wrap ((n + b - 1) / b * b) = upL n b := w64 (upL n b) (by omega)
  have hb : b ≠ 0 := by omega
  refine does_intro (mc := m18) (N := 13) (rs := [4]) (fx := []) 2 rfl (by decide +kernel) ?_
  simp only [m18, w1, w2, e1, w3, w4, EV, Nat.reduceEqDiff, Nat.reduceBEq, Nat.reduceLT, Nat.reduceLeDiff, Nat.reduceAdd, Nat.reduceSub, reduceIte]
  refine ⟨hb, ?_⟩
  simp only [EV, Nat.reduceEqDiff, Nat.reduceBEq, Nat.reduceLT, Nat.reduceLeDiff, Nat.reduceAdd, Nat.reduceSub, reduceIte, evRE, retVC, cellV', evR, nfz, nfzs, nfzss, List.contains_nil, List.contains_cons, Bool.or_false, or_true]
def m28 : MC :=
 (.seq (.reg [Xb 4 (.asg (.i 0))]) (.seq (.reg [Xm 5 0, Xm 6 1, Xq 7 (.bin false .add (.t 5) (.t 6)), Xq 8 (.bin false .sub (.t 7) (.i 1)), Xm 9 1, Xq 10 (.bin false .quo (.t 8) (.t 9)), Xm 11 1, Xq 12 (.bin false .mul (.t 10) (.t 11)), Xa 4 12]) .ret))
theorem d28 (n b : Int) (h0 : 0 ≤ n) (h1 : n ≤ 1000000000000) (h2 : 1 ≤ b) (h3 : b ≤ 1000000000000) : Does Go.Proofs.Tryz.prog 28 [.v (.int .i64 n), .v (.int .i64 b)] false (.v (.int .i64 (upL n b))) [.dead, .dead] := by
  have e1 : (n + b - 1).tdiv b = (n + b - 1) / b := Int.tdiv_eq_ediv_of_nonneg (by omega)
  have g1 := upL_le h0 h2
  have g2 := upL_nn h0 h2
  have w1 := w64 (n + b) (by omega)
  have w2 := w64 (n + b - 1) (by omega)
  have w3 := w64 ((n + b - 1) / b) (by omega)
  have w4 : IntKind.i64.wrap ((n + b - 1) / b * b) = upL n b := w64 (upL n b) (by omega)
  have hb : b ≠ 0 := by omega
  refine does_intro (mc := m28) (N := 13) (rs := [4]) (fx := []) 2 rfl (by decide +kernel) ?_
  simp only [m28, w1, w2, e1, w3, w4, EV, Nat.reduceEqDiff, Nat.reduceBEq, Nat.reduceLT, Nat.reduceLeDiff, Nat.reduceAdd, Nat.reduceSub, reduceIte]
  refine ⟨hb, ?_⟩
  simp only [EV, Nat.reduceEqDiff, Nat.reduceBEq, Nat.reduceLT, Nat.reduceLeDiff, Nat.reduceAdd, Nat.reduceSub, reduceIte, evRE, retVC, cellV', evR, nfz, nfzs, nfzss, List.contains_nil, List.contains_cons, Bool.or_false, or_true]
end Go.AM
namespace Go.AM
set_option linter.unusedVariables false
set_option linter.unusedSimpArgs false
def byOf (g : Int) : Int := max 1 (min 8 g)
theorem byOf_in (g : Int) : 1 ≤ byOf g ∧ byOf g ≤ 8 := by unfold byOf; omega
def layStep (g : Int → Int) (s : Option (List Fd × Int)) (f : Fd) : Option (List Fd × Int) := match s with
  | none => none
  | some (out, e) => if (decide (1000000000 < g f.typ) || decide (1000000000 < upL e (byOf (g f.typ)))) = true then none
    else some (out ++ [⟨f.name, upL e (byOf (g f.typ)), g f.typ⟩], upL e (byOf (g f.typ)) + g f.typ)
def layS (g : Int → Int) (fs : List Fd) : Option (List Fd × Int) := fs.foldl (layStep g) (some ([], 0))
theorem lay_none (g : Int → Int) : ∀ fs : List Fd, fs.foldl (layStep g) none = none
  | [] => rfl
  | f :: fs => lay_none g fs
theorem layS_app (g : Int → Int) (a b : List Fd) : layS g (a ++ b) = b.foldl (layStep g) (layS g a) := by unfold layS; rw [List.foldl_append]
theorem layS_take (g : Int → Int) {fs : List Fd} {i : Nat} (h : i < fs.length) : layS g (fs.take (i + 1)) = layStep g (layS g (fs.take i)) fs[i] := by
  rw [List.take_succ_eq_append_getElem h, layS_app]; rfl
theorem layS_cut (g : Int → Int) {fs : List Fd} {i : Nat} (h : layS g (fs.take i) = none) : layS g fs = none := by
  rw [← List.take_append_drop i fs, layS_app, h]; exact lay_none g _
theorem layS_ok {g : Int → Int} (hg : ∀ k, 0 ≤ g k) (fs : List Fd) : ∀ (i : Nat), i ≤ fs.length → ∀ {out : List Fd} {e : Int}, layS g (fs.take i) = some (out, e) → out.length = i ∧ 0 ≤ e ∧ e ≤ 2000000000
  | 0, _, out, e, h => by
    simp only [List.take_zero, layS, List.foldl_nil, Option.some.injEq, Prod.mk.injEq] at h
    obtain ⟨rfl, rfl⟩ := h
    simp
  | i + 1, hi, out, e, h => by
    rw [layS_take g (by omega)] at h
    cases hl : layS g (fs.take i) with
    | none => rw [hl] at h; simp [layStep] at h
    | some p =>
      obtain ⟨o, e'⟩ := p
      obtain ⟨h1, h2, h3⟩ := layS_ok hg fs i (by omega) hl
      rw [hl] at h
      simp only [layStep] at h
      split at h
      · cases h
      · rename_i hn
        simp only [Bool.or_eq_true, decide_eq_true_eq, not_or] at hn
        simp only [Option.some.injEq, Prod.mk.injEq] at h
        obtain ⟨rfl, rfl⟩ := h
        have b1 := byOf_in (g fs[i].typ)
        have u := upL_le h2 b1.1
        have := hg fs[i].typ
        refine ⟨by simp [h1], by omega, by omega⟩
noncomputable def layO (l : List Ty) (n : Int) : Option (List Fd) := if recOk l n = true then (layS (sz l) (allF l n)).map (·.1) else none
theorem allL_typ {l : List Ty} (ht : tysOk l = true) : ∀ (ns : List Int), ∀ f ∈ allL l ns, isNum l f.typ = true
  | [], f, hf => by simp [allL] at hf
  | n :: ns, f, hf => by
    simp only [allL, List.mem_append] at hf
    rcases hf with hf | hf
    · exact allL_typ ht ns f hf
    · unfold fdsAt at hf
      split at hf
      · rename_i t h
        obtain ⟨hn, rfl⟩ := List.getElem?_eq_some_iff.1 h
        exact (tysOk_good ht hn).flds f hf
      · simp at hf
def m20 : MC :=
 (.seq (.reg [Xb 4 (.asg (.nils 31 3)), Xb 5 (.asg .fb)]) (.seq (.reg [Xb 6 (.asg (.nils 31 3))]) (.seq (.reg [Xb 7 (.asg (.i 0))]) (.seq (.seq (.reg [Xm 12 0, Xm 13 1, Xb 14 (.call (.fn 40) false [.lend (.t 12), .lend (.t 13)]), Xn 15 14, Xq 16 (.mov (.i 0))]) (.block 0 (.loop [0, 6, 7, 14, 15, 16, 42] (.seq (.reg [Xq 17 (.bin false .lss (.t 16) (.t 15))]) (.seq (.cond (.t 17) .skip (.exit 0))
 (.seq (.block 1 (.seq (.reg [Xi 18 3 14 16, XL 19 3 18, Xb 9 (.alloc 48 [.z, .i, .i]), Xz (.store 3 (.t 9) (.t 19))]) (.seq (.reg [Xm 20 0, Xf 21 2 9, Xl 22 1 21, Xb 23 (.call (.fn 41) false [.lend (.t 20), .lend (.t 22)]), Xa 10 23]) (.seq (.reg [Xm 24 7, Xm 25 10, Xb 26 (.call (.fn 43) false [.lend (.i 8), .lend (.t 25)]), Xb 27 (.call (.fn 42) false [.lend (.i 1), .lend (.t 26)]), Xb 28 (.call
 (.fn 28) false [.lend (.t 24), .lend (.t 27)]), Xa 11 28]) (.seq (.seq (.reg [Xm 29 10, Xq 30 (.bin false .gtr (.t 29) (.i 1000000000)), Xm 31 30, Xu 32 31 (.mov (.t 11)), Xu 33 31 (.bin false .gtr (.t 32) (.i 1000000000)), Xq 34 (.pick (.t 31) .tb (.t 33))]) (.cond (.t 34) (.seq (.reg [Xb 4 (.asg (.nils 31 3)), Xb 5 (.asg .fb)]) .ret) .skip)) (.seq (.reg [Xm 35 6, Xf 36 0 9, Xl 37 1 36, Xm 38 11,
 Xm 39 10, Xb 40 (.build [0, 1, 2] [0, 1, 2] [1, 1, 1] [.z, .i, .i] [.t 37, .t 38, .t 39]), Xb 41 (.bsl 31 3 [.t 40]), Xb 42 (.app true 31 3 32 (.t 35) (.t 41)), Xa 6 42]) (.reg [Xm 43 11, Xm 44 10, Xq 45 (.bin false .add (.t 43) (.t 44)), Xa 7 45]))))))) (.reg [Xq 46 (.bin false .add (.t 16) (.i 1)), Xm 16 46]))))))) (.seq (.reg [Xm 47 6, Xa 4 47, Xb 5 (.asg .tb)]) .ret)))))
set_option maxHeartbeats 1000000 in
set_option maxRecDepth 100000 in
theorem d20 (l : List Ty) (n : Int) (hl : (l.length : Int) ≤ 1048576) (hs : ∀ s ∈ l, s.sm) (ht : tabOk l = true) (hr : isRec l n = true) :
    Does Go.Proofs.Tryz.prog 20 [.fsl 6 (l.map Ty.z), .v (.int .i64 n)] false (.tup [.usl 31 3 ((((layS (sz l) (allF l n)).map (·.1)).getD []).map Fd.o), .v (.bool (layS (sz l) (allF l n)).isSome)]) [.dead, .dead] := by
  have hA := allF_len ht n
  have hT : ∀ f ∈ allF l n, isNum l f.typ = true := allL_typ (tabOk_tys ht) _
  have hg : ∀ k, 0 ≤ sz l k := fun k => (sz_nn (tabOk_tys ht) k).1
  have hg1 : ∀ k, sz l k ≤ 1000000001 := fun k => (sz_nn (tabOk_tys ht) k).2
  refine does_intro (mc := m20) (N := 48) (rs := [4, 5]) (fx := []) 2 rfl (by decide +kernel) ?_
  simp only [m20, EV, Nat.reduceEqDiff, Nat.reduceBEq, Nat.reduceLT, Nat.reduceLeDiff, Nat.reduceAdd, Nat.reduceSub, reduceIte]
  refine callK_i (d40 l hl ht _ n (Nat.lt_succ_self _) (.inr hr)) ?_
  generalize allF l n = fs at hA hT ⊢
  simp only [EV, Nat.reduceEqDiff, Nat.reduceBEq, Nat.reduceLT, Nat.reduceLeDiff, Nat.reduceAdd, Nat.reduceSub, reduceIte]
  refine awp_loop (fun p : List Fd × Int × Nat => p.2.2 ≤ fs.length ∧ layS (sz l) (fs.take p.2.2) = some (p.1, p.2.1)) (fun p => stl [(0, .fsl 6 (l.map Ty.z)), (6, .usl 31 3 (p.1.map Fd.o)), (7, .v (.int .i64 p.2.1)), (14, .usl 48 3 (fs.map Fd.o)), (15, .v (.int .i64 (fs.length : Int))), (16, .v (.int .i64 (p.2.2 : Int))), (42, .dead)]) (fun p => fs.length - p.2.2) ([], 0, 0) ⟨Nat.zero_le _, rfl⟩ ?_ ?_
  · simp only [EV, Nat.reduceEqDiff, Nat.reduceBEq, Nat.reduceLT, Nat.reduceLeDiff, Nat.reduceAdd, Nat.reduceSub, reduceIte]
    rfl
  · rintro ⟨out, e, i⟩ ⟨g1, g2⟩
    simp only at g1 g2
    obtain ⟨o1, o2, o3⟩ := layS_ok hg fs i g1 g2
    simp only [EV, Nat.reduceEqDiff, Nat.reduceBEq, Nat.reduceLT, Nat.reduceLeDiff, Nat.reduceAdd, Nat.reduceSub, reduceIte]
    refine cK_cut (fun h => ?_) (fun h => ?_)
    · have h1 : i < fs.length := by simpa using h
      have h2 : (i : Int) < (fs.length : Int) := by omega
      have hf := hT _ (List.getElem_mem h1)
      have s0 := hg fs[i].typ
      have s1 := hg1 fs[i].typ
      have b1 := byOf_in (sz l fs[i].typ)
      have u1 := upL_le o2 b1.1
      have st := layS_take (sz l) h1
      rw [g2] at st
      simp only [layStep] at st
      clear h
      simp only [h1, h2, nth_map h1, FdE, Fd.o, EV, Nat.reduceEqDiff, Nat.reduceBEq, Nat.reduceLT, Nat.reduceLeDiff, Nat.reduceAdd, Nat.reduceSub, reduceIte]
      refine callK_i (d41 l fs[i].typ hl hs ht hf) ?_
      simp only [EV, Nat.reduceEqDiff, Nat.reduceBEq, Nat.reduceLT, Nat.reduceLeDiff, Nat.reduceAdd, Nat.reduceSub, reduceIte]
      refine callK_i (d43 8 (sz l fs[i].typ)) ?_
      simp only [EV, Nat.reduceEqDiff, Nat.reduceBEq, Nat.reduceLT, Nat.reduceLeDiff, Nat.reduceAdd, Nat.reduceSub, reduceIte]
      refine callK_i (d42 1 (min 8 (sz l fs[i].typ))) ?_
      simp only [EV, Nat.reduceEqDiff, Nat.reduceBEq, Nat.reduceLT, Nat.reduceLeDiff, Nat.reduceAdd, Nat.reduceSub, reduceIte]
      refine callK_i (d28 e (byOf (sz l fs[i].typ)) o2 (by omega) b1.1 (by omega)) ?_
      simp only [EV, Nat.reduceEqDiff, Nat.reduceBEq, Nat.reduceLT, Nat.reduceLeDiff, Nat.reduceAdd, Nat.reduceSub, reduceIte]
      rcases c1 : decide (1000000000 < sz l fs[i].typ) with _ | _
      · rw [c1] at st
        simp only [EV, Nat.reduceEqDiff, Nat.reduceBEq, Nat.reduceLT, Nat.reduceLeDiff, Nat.reduceAdd, Nat.reduceSub, reduceIte]
        rcases c2 : decide (1000000000 < upL e (byOf (sz l fs[i].typ))) with _ | _
        · rw [c2, Bool.false_or, if_neg (by decide)] at st
          have c3 : upL e (byOf (sz l fs[i].typ)) ≤ 1000000000 := by simpa using c2
          have c4 : sz l fs[i].typ ≤ 1000000000 := by simpa using c1
          have w1 := w64 (upL e (byOf (sz l fs[i].typ)) + sz l fs[i].typ) (by omega)
          have w2 := w64 ((i : Int) + 1) (by omega)
          simp only [FdE, Fd.o, List.length_map, w1, w2, EV, Nat.reduceEqDiff, Nat.reduceBEq, Nat.reduceLT, Nat.reduceLeDiff, Nat.reduceAdd, Nat.reduceSub, reduceIte]
          exact ⟨by omega, by omega, (out ++ [⟨fs[i].name, upL e (byOf (sz l fs[i].typ)), sz l fs[i].typ⟩], upL e (byOf (sz l fs[i].typ)) + sz l fs[i].typ, i + 1), ⟨h1, st⟩, by simp only; omega, by rw [List.map_append]; rfl⟩
        · rw [c2, Bool.false_or, if_pos rfl] at st
          have hn := layS_cut (sz l) st
          simp only [EV, Nat.reduceEqDiff, Nat.reduceBEq, Nat.reduceLT, Nat.reduceLeDiff, Nat.reduceAdd, Nat.reduceSub, reduceIte]
          simp only [hn, Option.map_none, Option.getD_none, Option.isSome_none, List.map_nil, EV, Nat.reduceEqDiff, Nat.reduceBEq, Nat.reduceLT, Nat.reduceLeDiff, Nat.reduceAdd, Nat.reduceSub, reduceIte, evRE, retVC, cellV', evR, nfz, nfzs, nfzss, List.contains_nil, List.contains_cons, Bool.or_false, or_true]
      · rw [c1, Bool.true_or, if_pos rfl] at st
        have hn := layS_cut (sz l) st
        simp only [EV, Nat.reduceEqDiff, Nat.reduceBEq, Nat.reduceLT, Nat.reduceLeDiff, Nat.reduceAdd, Nat.reduceSub, reduceIte]
        simp only [hn, Option.map_none, Option.getD_none, Option.isSome_none, List.map_nil, EV, Nat.reduceEqDiff, Nat.reduceBEq, Nat.reduceLT, Nat.reduceLeDiff, Nat.reduceAdd, Nat.reduceSub, reduceIte, evRE, retVC, cellV', evR, nfz, nfzs, nfzss, List.contains_nil, List.contains_cons, Bool.or_false, or_true]
    · have h1 : i = fs.length := by have : ¬ (i : Int) < (fs.length : Int) := by simpa using h
                                    omega
      subst h1
      rw [List.take_length] at g2
      simp only [EV, Nat.reduceEqDiff, Nat.reduceBEq, Nat.reduceLT, Nat.reduceLeDiff, Nat.reduceAdd, Nat.reduceSub, reduceIte]
      simp only [g2, Option.map_some, Option.getD_some, Option.isSome_some, Fd.nfz, Fd.frz, EV, Nat.reduceEqDiff, Nat.reduceBEq, Nat.reduceLT, Nat.reduceLeDiff, Nat.reduceAdd, Nat.reduceSub, reduceIte, evRE, retVC, cellV', evR, nfz, nfzs, nfzss, List.contains_nil, List.contains_cons, Bool.or_false, or_true]
noncomputable def layL (l : List Ty) (n : Int) : List Fd := (layO l n).getD []
def m7 : MC :=
 (.seq (.reg [Xb 4 (.asg (.nils 31 3)), Xb 5 (.asg .fb)]) (.seq (.seq (.reg [Xm 6 0, Xm 7 1, Xb 8 (.call (.fn 19) false [.lend (.t 6), .lend (.t 7)]), Xq 9 (.un .not (.t 8))]) (.cond (.t 9) (.seq (.reg [Xb 4 (.asg (.nils 31 3)), Xb 5 (.asg .fb)]) .ret) .skip)) (.seq (.reg [Xm 10 0, Xm 11 1, Xb 12 (.call (.fn 20) false [.lend (.t 10), .lend (.t 11)]), Xq 13 (.ext 12 0), Xq 14 (.ext 12 1), Xa 4 13,
 Xa 5 14]) .ret)))
set_option maxRecDepth 100000 in
theorem d7 (l : List Ty) (n : Int) (hl : (l.length : Int) ≤ 1048576) (hs : ∀ s ∈ l, s.sm) :
    Does Go.Proofs.Tryz.prog 7 [.fsl 6 (l.map Ty.z), .v (.int .i64 n)] false (.tup [.usl 31 3 ((layL l n).map Fd.o), .v (.bool (layO l n).isSome)]) [.dead, .dead] := by
  refine does_intro (mc := m7) (N := 15) (rs := [4, 5]) (fx := []) 2 rfl (by decide +kernel) ?_
  simp only [m7, EV, Nat.reduceEqDiff, Nat.reduceBEq, Nat.reduceLT, Nat.reduceLeDiff, Nat.reduceAdd, Nat.reduceSub, reduceIte]
  refine callK_i (d19 l n hl hs) ?_
  simp only [EV, Nat.reduceEqDiff, Nat.reduceBEq, Nat.reduceLT, Nat.reduceLeDiff, Nat.reduceAdd, Nat.reduceSub, reduceIte]
  rcases e : recOk l n with _ | _
  · simp only [Bool.not_false, EV, Nat.reduceEqDiff, Nat.reduceBEq, Nat.reduceLT, Nat.reduceLeDiff, Nat.reduceAdd, Nat.reduceSub, reduceIte]
    simp only [layL, layO, e, if_false, Option.getD_none, Option.isSome_none, List.map_nil, EV, Nat.reduceEqDiff, Nat.reduceBEq, Nat.reduceLT, Nat.reduceLeDiff, Nat.reduceAdd, Nat.reduceSub, reduceIte, evRE, retVC, cellV', evR, nfz, nfzs, nfzss, List.contains_nil, List.contains_cons, Bool.or_false, or_true]
  · have e' := e
    simp only [recOk, Bool.and_eq_true] at e'
    simp only [Bool.not_true, EV, Nat.reduceEqDiff, Nat.reduceBEq, Nat.reduceLT, Nat.reduceLeDiff, Nat.reduceAdd, Nat.reduceSub, reduceIte]
    refine callK_i (d20 l n hl hs e'.1 e'.2) ?_
    simp only [EV, Nat.reduceEqDiff, Nat.reduceBEq, Nat.reduceLT, Nat.reduceLeDiff, Nat.reduceAdd, Nat.reduceSub, reduceIte]
    simp only [layL, layO, e, if_true, Option.isSome_map, Fd.nfz, Fd.frz, EV, Nat.reduceEqDiff, Nat.reduceBEq, Nat.reduceLT, Nat.reduceLeDiff, Nat.reduceAdd, Nat.reduceSub, reduceIte, evRE, retVC, cellV', evR, nfz, nfzs, nfzss, List.contains_nil, List.contains_cons, Bool.or_false, or_true]
def m6 : MC :=
 (.seq (.reg [Xb 4 (.asg (.nils 31 3)), Xb 5 (.asg .fb)]) (.seq (.seq (.reg [Xm 13 0, Xm 14 1, Xb 15 (.call (.fn 15) false [.lend (.t 13), .lend (.t 14)]), Xq 16 (.un .not (.t 15))]) (.cond (.t 16) (.seq (.reg [Xb 4 (.asg (.nils 31 3)), Xb 5 (.asg .fb)]) .ret) .skip)) (.seq (.reg [Xb 17 (.bsl 31 3 []), Xm 18 0, Xb 19 (.call (.fn 16) false [.lend (.t 18)]), Xa 6 17, Xb 7 (.asg (.i 0)), Xa 8 19])
 (.seq (.seq (.reg [Xm 20 0, Xm 21 1, Xb 22 (.call (.fn 17) false [.lend (.t 20), .lend (.t 21)]), Xn 23 22, Xq 24 (.mov (.i 0))]) (.block 0 (.loop [6, 7, 8, 17, 19, 22, 23, 24, 51] (.seq (.reg [Xq 25 (.bin false .lss (.t 24) (.t 23))]) (.seq (.cond (.t 25) .skip (.exit 0)) (.seq (.block 1 (.seq (.reg [Xi 26 3 22 24, XL 27 3 26, Xb 10 (.alloc 48 [.z, .i, .i]), Xz (.store 3 (.t 10) (.t 27))]) (.seq
 (.reg [Xm 28 8, Xf 29 2 10, Xl 30 1 29, Xi 31 1 28 30, Xl 32 1 31, Xa 11 32]) (.seq (.reg [Xm 33 7, Xm 34 11, Xq 35 (.mm false (.t 34) (.i 8)), Xq 36 (.mm true (.t 35) (.i 1)), Xb 37 (.call (.fn 18) false [.lend (.t 33), .lend (.t 36)]), Xa 12 37]) (.seq (.seq (.reg [Xm 38 11, Xq 39 (.bin false .gtr (.t 38) (.i 1000000000)), Xm 40 39, Xu 41 40 (.mov (.t 12)), Xu 42 40 (.bin false .gtr (.t 41) (.i
 1000000000)), Xq 43 (.pick (.t 40) .tb (.t 42))]) (.cond (.t 43) (.seq (.reg [Xb 4 (.asg (.nils 31 3)), Xb 5 (.asg .fb)]) .ret) .skip)) (.seq (.reg [Xm 44 6, Xf 45 0 10, Xl 46 1 45, Xm 47 12, Xm 48 11, Xb 49 (.build [0, 1, 2] [0, 1, 2] [1, 1, 1] [.z, .i, .i] [.t 46, .t 47, .t 48]), Xb 50 (.bsl 31 3 [.t 49]), Xb 51 (.app true 31 3 32 (.t 44) (.t 50)), Xa 6 51]) (.reg [Xm 52 12, Xm 53 11, Xq 54
 (.bin false .add (.t 52) (.t 53)), Xa 7 54]))))))) (.reg [Xq 55 (.bin false .add (.t 24) (.i 1)), Xm 24 55]))))))) (.seq (.reg [Xm 56 6, Xa 4 56, Xb 5 (.asg .tb)]) .ret)))))
set_option maxHeartbeats 1000000 in
set_option maxRecDepth 100000 in
theorem d6 (l : List Ty) (n : Int) (hl : (l.length : Int) ≤ 1048576) (hs : ∀ s ∈ l, s.sm) :
    Does Go.Proofs.Tryz.prog 6 [.fsl 6 (l.map Ty.z), .v (.int .i64 n)] false (.tup [.usl 31 3 ((layL l n).map Fd.o), .v (.bool (layO l n).isSome)]) [.dead, .dead] := by
  refine does_intro (mc := m6) (N := 57) (rs := [4, 5]) (fx := []) 2 rfl (by decide +kernel) ?_
  simp only [m6, EV, Nat.reduceEqDiff, Nat.reduceBEq, Nat.reduceLT, Nat.reduceLeDiff, Nat.reduceAdd, Nat.reduceSub, reduceIte]
  refine callK_i (d15 l n hl hs) ?_
  simp only [EV, Nat.reduceEqDiff, Nat.reduceBEq, Nat.reduceLT, Nat.reduceLeDiff, Nat.reduceAdd, Nat.reduceSub, reduceIte]
  rcases e : recOk l n with _ | _
  · simp only [Bool.not_false, EV, Nat.reduceEqDiff, Nat.reduceBEq, Nat.reduceLT, Nat.reduceLeDiff, Nat.reduceAdd, Nat.reduceSub, reduceIte]
    simp only [layL, layO, e, if_false, Option.getD_none, Option.isSome_none, List.map_nil, EV, Nat.reduceEqDiff, Nat.reduceBEq, Nat.reduceLT, Nat.reduceLeDiff, Nat.reduceAdd, Nat.reduceSub, reduceIte, evRE, retVC, cellV', evR, nfz, nfzs, nfzss, List.contains_nil, List.contains_cons, Bool.or_false, or_true]
  have e' := e
  simp only [recOk, Bool.and_eq_true] at e'
  obtain ⟨ht, hr⟩ := e'
  have eL : layL l n = ((layS (sz l) (allF l n)).map (·.1)).getD [] := by simp [layL, layO, e]
  have eO : (layO l n).isSome = (layS (sz l) (allF l n)).isSome := by simp [layO, e]
  rw [eL, eO]
  simp only [Bool.not_true, EV, Nat.reduceEqDiff, Nat.reduceBEq, Nat.reduceLT, Nat.reduceLeDiff, Nat.reduceAdd, Nat.reduceSub, reduceIte]
  refine callK_i (d16 l hl hs ht) ?_
  simp only [EV, Nat.reduceEqDiff, Nat.reduceBEq, Nat.reduceLT, Nat.reduceLeDiff, Nat.reduceAdd, Nat.reduceSub, reduceIte]
  refine callK_i (d17 l n hl ht hr) ?_
  have hA := allF_len ht n
  have hT : ∀ f ∈ allF l n, isNum l f.typ = true := allL_typ (tabOk_tys ht) _
  have hg : ∀ k, 0 ≤ sz l k := fun k => (sz_nn (tabOk_tys ht) k).1
  have hg1 : ∀ k, sz l k ≤ 1000000001 := fun k => (sz_nn (tabOk_tys ht) k).2
  have h24 := tabOk_len ht
  generalize allF l n = fs at hA hT ⊢
  simp only [EV, Nat.reduceEqDiff, Nat.reduceBEq, Nat.reduceLT, Nat.reduceLeDiff, Nat.reduceAdd, Nat.reduceSub, reduceIte]
  refine awp_loop (fun p : List Fd × Int × Nat => p.2.2 ≤ fs.length ∧ layS (sz l) (fs.take p.2.2) = some (p.1, p.2.1)) (fun p => stl [(6, .usl 31 3 (p.1.map Fd.o)), (7, .v (.int .i64 p.2.1)), (8, .usl 3 1 ((sizesL l).map iv)), (17, .dead), (19, .dead), (22, .usl 48 3 (fs.map Fd.o)), (23, .v (.int .i64 (fs.length : Int))), (24, .v (.int .i64 (p.2.2 : Int))), (51, .dead)]) (fun p => fs.length - p.2.2) ([], 0, 0) ⟨Nat.zero_le _, rfl⟩ ?_ ?_
  · simp only [EV, Nat.reduceEqDiff, Nat.reduceBEq, Nat.reduceLT, Nat.reduceLeDiff, Nat.reduceAdd, Nat.reduceSub, reduceIte]
    rfl
  · rintro ⟨out, e, i⟩ ⟨g1, g2⟩
    simp only at g1 g2
    obtain ⟨o1, o2, o3⟩ := layS_ok hg fs i g1 g2
    simp only [EV, Nat.reduceEqDiff, Nat.reduceBEq, Nat.reduceLT, Nat.reduceLeDiff, Nat.reduceAdd, Nat.reduceSub, reduceIte]
    refine cK_cut (fun h => ?_) (fun h => ?_)
    · have h1 : i < fs.length := by simpa using h
      have h2 : (i : Int) < (fs.length : Int) := by omega
      have hf := hT _ (List.getElem_mem h1)
      obtain ⟨n0, n1⟩ := isNum_in.1 hf
      have s0 := hg fs[i].typ
      have s1 := hg1 fs[i].typ
      have b1 := byOf_in (sz l fs[i].typ)
      have u1 := upL_le o2 b1.1
      have eb : max (min (sz l fs[i].typ) 8) 1 = byOf (sz l fs[i].typ) := by unfold byOf; omega
      have st := layS_take (sz l) h1
      rw [g2] at st
      simp only [layStep] at st
      clear h
      have q3 : fs[i].typ.toNat < (sizesL l).length := by simp [sizesL]; omega
      have q4 : fs[i].typ < ((sizesL l).length : Int) := by simp [sizesL]; omega
      have hgz : (sizesL l)[fs[i].typ.toNat] = sz l fs[i].typ := by simp only [sizesL, List.getElem_map, List.getElem_range]; rw [Int.toNat_of_nonneg n0]
      simp only [h1, h2, nth_map h1, FdE, Fd.o, EV, Nat.reduceEqDiff, Nat.reduceBEq, Nat.reduceLT, Nat.reduceLeDiff, Nat.reduceAdd, Nat.reduceSub, reduceIte]
      simp only [n0, q4, q3, nth_map q3, hgz, iv, eb, EV, Nat.reduceEqDiff, Nat.reduceBEq, Nat.reduceLT, Nat.reduceLeDiff, Nat.reduceAdd, Nat.reduceSub, reduceIte]
      refine callK_i (d18 e (byOf (sz l fs[i].typ)) o2 (by omega) b1.1 (by omega)) ?_
      simp only [EV, Nat.reduceEqDiff, Nat.reduceBEq, Nat.reduceLT, Nat.reduceLeDiff, Nat.reduceAdd, Nat.reduceSub, reduceIte]
      rcases c1 : decide (1000000000 < sz l fs[i].typ) with _ | _
      · rw [c1] at st
        simp only [EV, Nat.reduceEqDiff, Nat.reduceBEq, Nat.reduceLT, Nat.reduceLeDiff, Nat.reduceAdd, Nat.reduceSub, reduceIte]
        rcases c2 : decide (1000000000 < upL e (byOf (sz l fs[i].typ))) with _ | _
        · rw [c2, Bool.false_or, if_neg (by decide)] at st
          have c3 : upL e (byOf (sz l fs[i].typ)) ≤ 1000000000 := by simpa using c2
          have c4 : sz l fs[i].typ ≤ 1000000000 := by simpa using c1
          have w1 := w64 (upL e (byOf (sz l fs[i].typ)) + sz l fs[i].typ) (by omega)
          have w2 := w64 ((i : Int) + 1) (by omega)
          simp only [FdE, Fd.o, List.length_map, w1, w2, EV, Nat.reduceEqDiff, Nat.reduceBEq, Nat.reduceLT, Nat.reduceLeDiff, Nat.reduceAdd, Nat.reduceSub, reduceIte]
          exact ⟨by omega, by omega, (out ++ [⟨fs[i].name, upL e (byOf (sz l fs[i].typ)), sz l fs[i].typ⟩], upL e (byOf (sz l fs[i].typ)) + sz l fs[i].typ, i + 1), ⟨h1, st⟩, by simp only; omega, by rw [List.map_append]; rfl⟩
        · rw [c2, Bool.false_or, if_pos rfl] at st
          have hn := layS_cut (sz l) st
          simp only [EV, Nat.reduceEqDiff, Nat.reduceBEq, Nat.reduceLT, Nat.reduceLeDiff, Nat.reduceAdd, Nat.reduceSub, reduceIte]
          simp only [hn, Option.map_none, Option.getD_none, Option.isSome_none, List.map_nil, EV, Nat.reduceEqDiff, Nat.reduceBEq, Nat.reduceLT, Nat.reduceLeDiff, Nat.reduceAdd, Nat.reduceSub, reduceIte, evRE, retVC, cellV', evR, nfz, nfzs, nfzss, List.contains_nil, List.contains_cons, Bool.or_false, or_true]
      · rw [c1, Bool.true_or, if_pos rfl] at st
        have hn := layS_cut (sz l) st
        simp only [EV, Nat.reduceEqDiff, Nat.reduceBEq, Nat.reduceLT, Nat.reduceLeDiff, Nat.reduceAdd, Nat.reduceSub, reduceIte]
        simp only [hn, Option.map_none, Option.getD_none, Option.isSome_none, List.map_nil, EV, Nat.reduceEqDiff, Nat.reduceBEq, Nat.reduceLT, Nat.reduceLeDiff, Nat.reduceAdd, Nat.reduceSub, reduceIte, evRE, retVC, cellV', evR, nfz, nfzs, nfzss, List.contains_nil, List.contains_cons, Bool.or_false, or_true]
    · have h1 : i = fs.length := by have : ¬ (i : Int) < (fs.length : Int) := by simpa using h
                                    omega
      subst h1
      rw [List.take_length] at g2
      simp only [EV, Nat.reduceEqDiff, Nat.reduceBEq, Nat.reduceLT, Nat.reduceLeDiff, Nat.reduceAdd, Nat.reduceSub, reduceIte]
      simp only [g2, Option.map_some, Option.getD_some, Option.isSome_some, Fd.nfz, Fd.frz, EV, Nat.reduceEqDiff, Nat.reduceBEq, Nat.reduceLT, Nat.reduceLeDiff, Nat.reduceAdd, Nat.reduceSub, reduceIte, evRE, retVC, cellV', evR, nfz, nfzs, nfzss, List.contains_nil, List.contains_cons, Bool.or_false, or_true]
end Go.AM
namespace Go.AM
set_option linter.unusedVariables false
set_option linter.unusedSimpArgs false
theorem layS_nm {g : Int → Int} (fs : List Fd) : ∀ (i : Nat), i ≤ fs.length → ∀ {out : List Fd} {e : Int}, layS g (fs.take i) = some (out, e) → ∀ p ∈ out, ∃ f ∈ fs, p.name = f.name
  | 0, _, out, e, h => by
    simp only [List.take_zero, layS, List.foldl_nil, Option.some.injEq, Prod.mk.injEq] at h
    obtain ⟨rfl, rfl⟩ := h
    simp
  | i + 1, hi, out, e, h => by
    rw [layS_take g (by omega)] at h
    cases hl : layS g (fs.take i) with
    | none => rw [hl] at h; simp [layStep] at h
    | some p =>
      obtain ⟨o, e'⟩ := p
      have ih := layS_nm fs i (by omega) hl
      rw [hl] at h
      simp only [layStep] at h
      split at h
      · cases h
      · simp only [Option.some.injEq, Prod.mk.injEq] at h
        obtain ⟨rfl, rfl⟩ := h
        intro p hp
        rcases List.mem_append.1 hp with hp | hp
        · exact ih p hp
        · rw [List.mem_singleton] at hp
          exact ⟨fs[i], List.getElem_mem _, by rw [hp]⟩
theorem layL_cases (l : List Ty) (n : Int) : layL l n = [] ∨ (tabOk l = true ∧ isRec l n = true ∧ ∃ out e, layS (sz l) (allF l n) = some (out, e) ∧ layL l n = out ∧ (layO l n).isSome = true) := by
  unfold layL layO
  split
  · rename_i h
    simp only [recOk, Bool.and_eq_true] at h
    cases hl : layS (sz l) (allF l n) with
    | none => left; rfl
    | some p => right; exact ⟨h.1, h.2, p.1, p.2, rfl, rfl, rfl⟩
  · left; rfl
theorem layL_len (l : List Ty) (n : Int) : (layL l n).length ≤ 150 := by
  rcases layL_cases l n with h | ⟨ht, hr, out, e, h, ho, _⟩
  · rw [h]; simp
  · rw [ho]
    have := layS_ok (fun k => (sz_nn (tabOk_tys ht) k).1) (allF l n) (allF l n).length (Nat.le_refl _) (by rw [List.take_length]; exact h)
    have := allF_len ht n
    omega
end Go.AM
namespace Go.AM
set_option linter.unusedVariables false
set_option linter.unusedSimpArgs false
theorem lay_pre {g : Int → Int} : ∀ (X : List Fd) {o o' : List Fd} {e e' : Int}, X.foldl (layStep g) (some (o, e)) = some (o', e') → ∃ Y, o' = o ++ Y
  | [], o, o', e, e', h => by
    simp only [List.foldl_nil, Option.some.injEq, Prod.mk.injEq] at h
    exact ⟨[], by rw [h.1, List.append_nil]⟩
  | f :: X, o, o', e, e', h => by
    simp only [List.foldl_cons, layStep] at h
    split at h
    · rw [lay_none] at h; cases h
    · obtain ⟨Y, hY⟩ := lay_pre X h
      exact ⟨_ :: Y, by rw [hY, List.append_assoc]; rfl⟩
theorem layO_ext {l : List Ty} {a b : Int} {X : List Fd} (ha : recOk l a = true) (hb : recOk l b = true) (hX : allF l a = allF l b ++ X) (h : (layO l a).isSome = true) : (layO l b).isSome = true ∧ ∃ Y, layL l a = layL l b ++ Y := by
  unfold layL
  simp only [layO, ha, hb, if_true] at h ⊢
  rw [hX, layS_app] at h ⊢
  cases hl : layS (sz l) (allF l b) with
  | none => rw [hl, lay_none] at h; simp at h
  | some p =>
    obtain ⟨o, e⟩ := p
    rw [hl] at h
    cases hr : X.foldl (layStep (sz l)) (some (o, e)) with
    | none => rw [hr] at h; simp at h
    | some q =>
      obtain ⟨o', e'⟩ := q
      obtain ⟨Y, hY⟩ := lay_pre X hr
      exact ⟨rfl, Y, hY⟩
def m5 : MC :=
 (.seq (.reg [Xq 2 (.mov (.nils 34 6)), Xb 3 (.asg (.i 0))]) (.seq (.reg [Xm 4 0, Xb 5 (.call (.fn 14) true [.lend (.t 4)]), Xq 6 (.ext 5 0), Xq 7 (.ext 5 1), Xm 2 6, Xa 3 7]) .ret))
set_option maxRecDepth 100000 in
theorem p5 (code : List Int) (hl : (code.length : Int) ≤ 1048576) (hb : ∀ b ∈ code, 0 ≤ b ∧ b ≤ 255) :
    DoesE Go.Proofs.Tryz.prog 5 [.fsl 1 (code.map bv)] true fun r o => o = [.dead] ∧ ∃ (l : List Ty) (n : Int), r = .tup [.fsl 6 (l.map Ty.z), .v (.int .i64 n)] ∧ l.length ≤ 9 ∧ ∀ t ∈ l, t.sm := by
  refine doesE_intro (mc := m5) (N := 8) (rs := [2, 3]) (fx := []) 1 rfl (by decide +kernel) ?_
  simp only [m5, EV, Nat.reduceEqDiff, Nat.reduceBEq, Nat.reduceLT, Nat.reduceLeDiff, Nat.reduceAdd, Nat.reduceSub, reduceIte]
  refine callE_i (p14 code hl hb) (fun r o h => ⟨h.2, h.1⟩) ?_
  rintro _ ⟨l, n, rfl, l9, hs⟩
  simp only [pbeq, EV, Nat.reduceEqDiff, Nat.reduceBEq, Nat.reduceLT, Nat.reduceLeDiff, Nat.reduceAdd, Nat.reduceSub, reduceIte]
  simp only [EV, Nat.reduceEqDiff, Nat.reduceBEq, Nat.reduceLT, Nat.reduceLeDiff, Nat.reduceAdd, Nat.reduceSub, reduceIte, evRE, retVC, cellV', evR, nfz, nfzs, nfzss, List.contains_nil, List.contains_cons, Bool.or_false, or_true]
  exact ⟨⟨l, n, rfl, l9, hs⟩, Or.inl trivial⟩
end Go.AM
namespace Go.AM
set_option linter.unusedVariables false
set_option linter.unusedSimpArgs false
def endOf (out : List Fd) : Int := match out.getLast? with
  | some p => p.mark + p.typ
  | none => 0
theorem endOf_snoc (out : List Fd) (p : Fd) : endOf (out ++ [p]) = p.mark + p.typ := by simp [endOf]
def LayOk (e : Int) (p : Fd) : Prop := 0 ≤ e ∧ e ≤ p.mark ∧ 0 ≤ p.typ ∧ p.mark + p.typ ≤ 2000000000 ∧ (0 < p.typ → p.mark % min p.typ 8 = 0)
def Laid (out : List Fd) : Prop := ∀ k (h : k < out.length), LayOk (endOf (out.take k)) out[k]
theorem laid_nil : Laid [] := fun k h => absurd h (by simp)
theorem laid_snoc {out : List Fd} {p : Fd} (h : Laid out) (hp : LayOk (endOf out) p) : Laid (out ++ [p]) := by
  intro k hk
  rw [List.length_append, List.length_singleton] at hk
  by_cases e : k < out.length
  · rw [List.getElem_append_left e, List.take_append_of_le_length (by omega)]
    exact h k e
  · have : k = out.length := by omega
    subst this
    rw [List.getElem_append_right (Nat.le_refl _), List.take_append_of_le_length (Nat.le_refl _), List.take_length]
    simpa using hp
theorem layS_laid {g : Int → Int} (hg : ∀ k, 0 ≤ g k) (fs : List Fd) : ∀ (i : Nat), i ≤ fs.length → ∀ {out : List Fd} {e : Int}, layS g (fs.take i) = some (out, e) → e = endOf out ∧ Laid out
  | 0, _, out, e, h => by
    simp only [List.take_zero, layS, List.foldl_nil, Option.some.injEq, Prod.mk.injEq] at h
    obtain ⟨rfl, rfl⟩ := h
    exact ⟨rfl, laid_nil⟩
  | i + 1, hi, out, e, h => by
    have hOk := layS_ok hg fs (i + 1) hi h
    rw [layS_take g (show i < fs.length from hi)] at h
    cases hl : layS g (fs.take i) with
    | none => rw [hl] at h; simp [layStep] at h
    | some p =>
      obtain ⟨o, e'⟩ := p
      obtain ⟨h1, h2⟩ := layS_laid hg fs i (Nat.le_of_succ_le hi) hl
      obtain ⟨_, k2, k3⟩ := layS_ok hg fs i (Nat.le_of_succ_le hi) hl
      rw [hl] at h
      simp only [layStep] at h
      split at h
      · cases h
      · rename_i hn
        simp only [Bool.or_eq_true, decide_eq_true_eq, not_or] at hn
        simp only [Option.some.injEq, Prod.mk.injEq] at h
        obtain ⟨rfl, rfl⟩ := h
        have b1 := byOf_in (g fs[i].typ)
        have u := upL_le k2 b1.1
        have g0 := hg fs[i].typ
        refine ⟨by rw [endOf_snoc], laid_snoc h2 ⟨by omega, by simp only; omega, by simp only; omega, by simp only; omega, fun hp => ?_⟩⟩
        simp only at hp ⊢
        have eb : min (g fs[i].typ) 8 = byOf (g fs[i].typ) := by unfold byOf; omega
        rw [eb]
        unfold upL
        exact Int.mul_emod_left _ _
theorem layL_laid (l : List Ty) (n : Int) : Laid (layL l n) := by
  rcases layL_cases l n with h | ⟨ht, hr, out, e, h, ho, _⟩
  · rw [h]; exact laid_nil
  · rw [ho]
    exact (layS_laid (fun k => (sz_nn (tabOk_tys ht) k).1) (allF l n) (allF l n).length (Nat.le_refl _) (by rw [List.take_length]; exact h)).2
theorem lay_base {l : List Ty} {n : Int} (h : (layO l n).isSome = true) (hb : 0 ≤ baseAt l n) : (layO l (baseAt l n)).isSome = true ∧ ∃ Y, layL l n = layL l (baseAt l n) ++ Y := by
  have hr : recOk l n = true := by
    unfold layO at h
    split at h
    · assumption
    · simp at h
  have hr' := hr
  simp only [recOk, Bool.and_eq_true] at hr'
  have hB : isRec l (baseAt l n) = true := (isRec_base (tabOk_tys hr'.1) hr'.2).1.resolve_left (by omega)
  have hrb : recOk l (baseAt l n) = true := by simp only [recOk, hr'.1, hB, Bool.and_self]
  have he : extOk l n (baseAt l n) = true := by
    unfold extOk
    rw [lineL_rec hr'.1 hr'.2, lineL_rec hr'.1 hB]
    simp
  obtain ⟨X, hX⟩ := ext_all hr he
  exact layO_ext hr hrb hX h
def lastN (nm : ByteArray) (l : List Fd) : Option Fd := l.reverse.find? fun p => p.name.toList == nm.toList
def noFd : Fd := ⟨⟨#[]⟩, 0, 0⟩
theorem lastN_snoc (nm : ByteArray) (l : List Fd) (p : Fd) : lastN nm (l ++ [p]) = if (p.name.toList == nm.toList) = true then some p else lastN nm l := by
  unfold lastN
  rw [List.reverse_append]
  simp only [List.reverse_cons, List.reverse_nil, List.nil_append, List.singleton_append, List.find?_cons]
  split <;> simp_all
theorem lastN_none {nm : ByteArray} {l : List Fd} (h : ∀ p ∈ l, (p.name.toList == nm.toList) = false) : lastN nm l = none := by
  unfold lastN
  rw [List.find?_eq_none]
  intro p hp
  rw [h p (List.mem_reverse.1 hp)]
  simp
theorem allF_nm {l : List Ty} (hs : ∀ t ∈ l, t.dr) : ∀ ns : List Int, ∀ f ∈ allL l ns, 0 < (f.name.size : Int)
  | [], f, hf => by simp [allL] at hf
  | n :: ns, f, hf => by
    simp only [allL, List.mem_append] at hf
    rcases hf with hf | hf
    · exact allF_nm hs ns f hf
    · unfold fdsAt at hf
      split at hf
      · rename_i t h
        obtain ⟨hn, rfl⟩ := List.getElem?_eq_some_iff.1 h
        exact ((hs _ (List.getElem_mem hn)).2.1 f hf).1
      · simp at hf
theorem lastN_empty {l : List Ty} (hs : ∀ t ∈ l, t.dr) (n : Int) : lastN ⟨#[]⟩ (layL l n) = none := by
  refine lastN_none fun p hp => ?_
  rcases layL_cases l n with h | ⟨ht, hr, out, e, h, ho, _⟩
  · rw [h] at hp; simp at hp
  · rw [ho] at hp
    obtain ⟨f, hf, he⟩ := layS_nm (allF l n) (allF l n).length (Nat.le_refl _) (by rw [List.take_length]; exact h) p hp
    have := allF_nm hs _ f hf
    rw [he]
    rcases e : (f.name.toList == (⟨#[]⟩ : ByteArray).toList) with _ | _
    · rfl
    · have h2 : f.name = ⟨#[]⟩ := by
        have : f.name.toList = (⟨#[]⟩ : ByteArray).toList := by simpa using e
        simpa [ByteArray.toList_eq, ByteArray.ext_iff] using this
      rw [h2] at this
      exact absurd this (by decide)
end Go.AM
namespace Go.Proofs.BackP
open Go Go.RowKit Go.Shelf Go.Proofs
attribute [local go_sem] Oper.semAt_some
set_option linter.unusedVariables false
set_option linter.unusedSimpArgs false
def upto {α : Type} (f : Nat → α) (k : Nat) : List α := (List.range k).map f
theorem upto_succ {α : Type} (f : Nat → α) (k : Nat) : upto f (k + 1) = upto f k ++ [f k] := by simp [upto, List.range_succ]
theorem upto_length {α : Type} (f : Nat → α) (k : Nat) : (upto f k).length = k := by simp [upto]
abbrev Pl := ByteArray × Int × Int
def plV (p : Pl) : Value := .agg #[.string p.1, .int .i64 p.2.1, .int .i64 p.2.2]
def noP : Pl := (⟨#[]⟩, 0, 0)
def Rd (Bs b off len cap : Nat) (A : Option Addr) (zs : List Pl) (W : World) : Prop := W.cell? ⟨Bs, 0, none⟩ = some (.slice A len cap) ∧ (0 < len → A = some ⟨b, off, none⟩) ∧
  ∀ j, j < len → W.cell? ⟨b, off + j * 3, none⟩ = some (.string (zs[j]?.getD noP).1) ∧ W.cell? ⟨b, off + j * 3 + 1, none⟩ = some (.int .i64 (zs[j]?.getD noP).2.1) ∧ W.cell? ⟨b, off + j * 3 + 2, none⟩ = some (.int .i64 (zs[j]?.getD noP).2.2)
set_option maxRecDepth 100000 in
set_option maxHeartbeats 2000000 in
theorem back1_in (F : Fence) (n : Nat) (h7 : F.fn 45) (hro : F.round = none) (hn : 1 ≤ n) (l Bs b off len cap : Nat) (A : Option Addr) (zs : List Pl) {α : Type} (encs : α → Array Value) (f : Nat → α)
    (hf : ∀ k j, j + k + 1 = len → encs (f k) = #[.int .i64 (j : Int), plV (zs[j]?.getD noP)]) (hreach : len * 24 ≤ 140737488351232) (J Jx : List α → World → Prop)
    (hY : ∀ pre x W, J pre W → pre.length < len → YieldAt F (n - 1) Tryz.prog l (encs x) W fun e W' =>
      (e = .returned (.bool true) ∧ J (pre ++ [x]) W' ∧ (Rd Bs b off len cap A zs W → Rd Bs b off len cap A zs W')) ∨ (e = .returned (.bool false) ∧ Jx (pre ++ [x]) W'))
    (W : World) (hR : Rd Bs b off len cap A zs W) (h0 : J [] W) :
    CallsIn F n Tryz.prog 45 #[.func (.yield l) #[] #[], .pointer (some ⟨Bs, 0, none⟩)] W fun e W' => (∃ v, e = .returned v) ∧
      ((∃ ys, ys = upto f len ∧ J ys W') ∨ (∃ pre, (∃ k, k ≤ len ∧ pre = upto f k) ∧ Jx pre W')) := by
  refine callsIn_of_wp Tryz.func45 rfl h7 ?_ hro
  simp only [Tryz.ntmps45, List.size_toArray, List.length_cons, List.length_nil, Nat.reduceAdd, Nat.reduceSub, Array.replicate_succ, Array.replicate_zero, List.push_toArray, List.append_toArray, List.nil_append, List.cons_append]
  have hBs := hR.1
  gi_wp2
  gi_loopw [3] (fun i wr => ∃ k : Nat, k ≤ len ∧ i = .int .i64 ((len : Int) - 1 - (k : Int)) ∧ J (upto f k) wr ∧ Rd Bs b off len cap A zs wr)
    (fun i _ => (intOf i + 1).toNat)
  case atStart => exact ⟨0, Nat.zero_le _, by simp, h0, hR⟩
  case round =>
    obtain ⟨k, hk, rfl, hJs, hR⟩ := hrel
    have hR0 := hR
    obtain ⟨hR1, hR2⟩ := hR
    by_cases hlt : k < len
    · obtain ⟨j, hj⟩ : ∃ j, j + k + 1 = len := ⟨len - k - 1, by omega⟩
      obtain ⟨hA, hR3⟩ := hR2
      have hA' := hA (by omega)
      subst hA'
      obtain ⟨hc1, hc2, hc3⟩ := hR3 j (by omega)
      obtain ⟨fn, tmps, assign, body, hy, hRR⟩ := hY _ (f k) wr hJs (by rw [upto_length]; exact hlt)
      rw [hf k j hj] at hy
      unfold plV at hy
      have hi : (len : Int) - 1 - (k : Int) = (j : Int) := by omega
      rw [hi]
      have hjl : j < len := by omega
      gi_wp2
      refine hRR.mono ?_
      rintro e W3 (⟨rfl, hJ3, hk3⟩ | ⟨rfl, hJx3⟩)
      · gi_wp2
        go_roundw
        case rel => exact ⟨k + 1, by omega, by simp; omega, by rw [upto_succ]; exact hJ3, hk3 hR0⟩
        case measure => simp [intOf]
      · gi_wp2
        refine bodyPost_ret (results_none rfl _ _ _) rfl ?_
        exact ⟨⟨_, rfl⟩, .inr ⟨_, ⟨k + 1, by omega, (upto_succ _ _).symm⟩, hJx3⟩⟩
    · obtain rfl : k = len := by omega
      have hi : (k : Int) - 1 - (k : Int) = -1 := by omega
      rw [hi]
      gi_wp2
      go_end0
      exact ⟨⟨_, rfl⟩, .inl ⟨_, rfl, hJs⟩⟩
set_option maxHeartbeats 1000000 in
theorem back_in (F : Fence) (n : Nat) (h5 : F.fn 22) (hro : F.round = none) (a : Option Addr) (len cap : Nat) (w : World) :
    CallsIn F n Tryz.prog 22 #[.slice a len cap] w fun e w' => e = .returned (.func (.func 45) #[] #[.pointer (some ⟨w.heap.size, 0, none⟩)]) ∧ w' = w.alloc (.cells #[.slice a len cap] 27) := by
  refine callsIn_of_wp Tryz.func22 rfl h5 ?_ hro
  simp only [Tryz.ntmps22, List.size_toArray, List.length_cons, List.length_nil, Nat.reduceAdd, Nat.reduceSub, Array.replicate_succ, Array.replicate_zero, List.push_toArray, List.append_toArray, List.nil_append, List.cons_append]
  gi_wp2
  go_ret
  exact ⟨rfl, rfl⟩
theorem back_stops (F : Fence) (n : Nat) (h7 : F.fn 45) (hro : F.round = none) (hn : 1 ≤ n) (Bs b off len cap : Nat) (A : Option Addr) (zs : List Pl) {α : Type} (encs : α → Array Value) (f : Nat → α)
    (hf : ∀ k j, j + k + 1 = len → encs (f k) = #[.int .i64 (j : Int), plV (zs[j]?.getD noP)]) (hreach : len * 24 ≤ 140737488351232) (w : World) (hBs : Bs < w.heap.size) (hb : 0 < len → b < w.heap.size) (hR : Rd Bs b off len cap A zs w) :
    SeqStopsK F n Tryz.prog 45 #[.pointer (some ⟨Bs, 0, none⟩)] encs (fun X Y => Rd Bs b off len cap A zs X → Rd Bs b off len cap A zs Y) (fun ys => ys = upto f len) (fun ys => ∃ k, k ≤ len ∧ ys = upto f k) len w := fun l J Jx W hW _ _ hY h0 => by
  have hR' : Rd Bs b off len cap A zs W := ⟨(hW.cell (p := ⟨Bs, 0, none⟩) hBs).trans hR.1, hR.2.1, fun j hj => ⟨(hW.cell (p := ⟨b, off + j * 3, none⟩) (hb (by omega))).trans (hR.2.2 j hj).1, (hW.cell (p := ⟨b, off + j * 3 + 1, none⟩) (hb (by omega))).trans (hR.2.2 j hj).2.1, (hW.cell (p := ⟨b, off + j * 3 + 2, none⟩) (hb (by omega))).trans (hR.2.2 j hj).2.2⟩⟩
  refine (back1_in F n h7 hro hn l Bs b off len cap A zs encs f hf hreach J Jx hY W hR' h0).mono ?_
  rintro e W' ⟨he, ⟨ys, rfl, hj⟩ | ⟨pre, hp, hj⟩⟩
  · exact ⟨he, .inl ⟨_, rfl, hj⟩⟩
  · exact ⟨he, .inr ⟨_, hp, hj⟩⟩
end Go.Proofs.BackP
namespace Go.Proofs.PlaceF
open Go Go.AM Go.RowKit Go.Shelf Go.Proofs Go.Proofs.BackP
attribute [local go_sem] Oper.semAt_some
set_option linter.unusedVariables false
set_option linter.unusedSimpArgs false
theorem layL_ok (l : List Ty) (n : Int) : layL l n ≠ [] → (layO l n).isSome = true := by
  intro h
  rcases layL_cases l n with h1 | ⟨_, _, _, _, _, _, h1⟩
  · exact absurd h1 h
  · exact h1
def plOf (f : Go.AM.Fd) : Pl := (f.name, f.mark, f.typ)
theorem rows_pl {w : World} {Fz : Nat → Prop} : ∀ {fs : List Go.AM.Fd} {xs : List Value} {o : List Nat}, RepRows w Fz 3 (fs.map Go.AM.Fd.o) xs o → o = [] ∧
    ∀ j (h : j < fs.length), xs[j * 3]? = some (.string fs[j].name) ∧ xs[j * 3 + 1]? = some (.int .i64 fs[j].mark) ∧ xs[j * 3 + 2]? = some (.int .i64 fs[j].typ)
  | [], xs, o, h => by simp only [List.map_nil, RepRows] at h; exact ⟨h.2, fun j hj => absurd hj (by simp)⟩
  | f :: fs, xs, o, h => by
    simp only [List.map_cons, RepRows] at h
    obtain ⟨x1, x2, o1, o2, rfl, rfl, _, hr, hrs⟩ := h
    obtain ⟨h1, h2⟩ := rows_pl hrs
    simp only [Go.AM.Fd.o, RepRow, RepC] at hr
    obtain ⟨_, _, _, _, rfl, rfl, ⟨rfl, _, rfl⟩, _, _, _, _, rfl, rfl, ⟨rfl, _, rfl⟩, _, _, _, _, rfl, rfl, ⟨rfl, _, rfl⟩, rfl, rfl⟩ := hr
    refine ⟨by simp [h1], fun j hj => ?_⟩
    cases j with
    | zero => simp
    | succ j =>
      have h3 := h2 j (by simpa using hj)
      have e0 : (j + 1) * 3 = j * 3 + 1 + 1 + 1 := by omega
      have e1 : (j + 1) * 3 + 1 = j * 3 + 1 + 1 + 1 + 1 := by omega
      have e2 : (j + 1) * 3 + 2 = j * 3 + 2 + 1 + 1 + 1 := by omega
      simp only [List.cons_append, List.nil_append, List.getElem_cons_succ]
      rw [e2, e1, e0]
      simp only [List.getElem?_cons_succ]
      exact h3
theorem keepW {w w' : World} {Fz : Nat → Prop} {av : AV} {x : Value} (hlt : ∀ b, Fz b → b < w.heap.size) (hE : Ext w w' []) (h : RepC w Fz av x []) : RepC w' Fz av x [] :=
  h.keep _ _ _ ⟨fun b hb => ⟨hb, hE.blk b (hlt b hb) (by simp)⟩, fun b hb => by simp at hb⟩
theorem Rd_of {Bs b off len cap : Nat} {A : Option Addr} {zs : List Pl} {W W' : World} (h1 : W'.heap[Bs]? = W.heap[Bs]?) (h2 : 0 < len → W'.heap[b]? = W.heap[b]?) (h : Rd Bs b off len cap A zs W) : Rd Bs b off len cap A zs W' := by
  refine ⟨?_, h.2.1, fun j hj => ?_⟩
  · rw [World.cell?_of_block (w := W) h1]; exact h.1
  · have h3 := h.2.2 j hj
    have h4 := h2 (by omega)
    exact ⟨(World.cell?_of_block (w := W) h4).trans h3.1, (World.cell?_of_block (w := W) h4).trans h3.2.1, (World.cell?_of_block (w := W) h4).trans h3.2.2⟩
theorem upto_pre {α : Type} (f : Nat → α) {k m : Nat} (h : k ≤ m) : ∃ r, upto f m = upto f k ++ r := by
  refine ⟨(upto f m).drop k, ?_⟩
  have : upto f k = (upto f m).take k := by
    unfold upto
    rw [← List.map_take, List.take_range, Nat.min_eq_left h]
  rw [this, List.take_append_drop]
theorem upto_rev {zs : List Go.AM.Fd} {fr : Nat → Int × Go.AM.Fd} (h : ∀ k (hk : k < zs.length), (fr k).2 = zs[zs.length - 1 - k]) : (upto fr zs.length).map (·.2) = zs.reverse := by
  apply List.ext_getElem
  · simp [upto]
  · intro i h1 h2
    have hi : i < zs.length := by simpa using h2
    simp [upto, h i hi, List.getElem_reverse]
def hit (s : ByteArray) (x : Int × Go.AM.Fd) : Bool := x.2.name.toList == s.toList
theorem last_done {zs : List Go.AM.Fd} {fr : Nat → Int × Go.AM.Fd} {s : ByteArray} (h : ∀ k (hk : k < zs.length), (fr k).2 = zs[zs.length - 1 - k]) (hn : ∀ x ∈ upto fr zs.length, hit s x = false) : lastN s zs = none := by
  refine lastN_none fun p hp => ?_
  have : p ∈ (upto fr zs.length).map (·.2) := by rw [upto_rev h]; simpa using hp
  obtain ⟨x, hx, rfl⟩ := List.mem_map.1 this
  exact hn x hx
theorem last_hit {zs : List Go.AM.Fd} {fr : Nat → Int × Go.AM.Fd} {s : ByteArray} (h : ∀ k (hk : k < zs.length), (fr k).2 = zs[zs.length - 1 - k]) {pre : List (Int × Go.AM.Fd)} {x : Int × Go.AM.Fd} {k : Nat} (hk : k ≤ zs.length) (he : pre ++ [x] = upto fr k)
    (hn : ∀ x ∈ pre, hit s x = false) (hx : hit s x = true) : lastN s zs = some x.2 := by
  obtain ⟨r, hr⟩ := upto_pre fr hk
  unfold lastN
  rw [← upto_rev h, hr, ← he, List.map_append, List.map_append, List.find?_append, List.find?_append]
  have h1 : List.find? (fun p => p.name.toList == s.toList) (pre.map (·.2)) = none := by
    rw [List.find?_eq_none]
    intro p hp
    obtain ⟨y, hy, rfl⟩ := List.mem_map.1 hp
    have := hn y hy
    unfold hit at this
    simp [this]
  have h2 : List.find? (fun p => p.name.toList == s.toList) ([x].map (·.2)) = some x.2 := by
    unfold hit at hx
    simp [List.find?_cons, hx]
  rw [h1, h2]
  rfl
def noF : Nat → Prop := fun _ => False
def LI (s : ByteArray) (w7 : World) (pre : List (Int × Go.AM.Fd)) (W : World) : Prop := (∀ x ∈ pre, hit s x = false) ∧ Ext w7 W []
def LX (B : Nat) (s : ByteArray) (ok : Bool) (w7 : World) (c : Code) (pre : List (Int × Go.AM.Fd)) (W : World) : Prop := c = .ret ∧ ∃ pre' x, pre = pre' ++ [x] ∧ (∀ x ∈ pre', hit s x = false) ∧ hit s x = true ∧
  W.heap[B + 1]? = some (.cells #[.string x.2.name, .int .i64 x.2.mark, .int .i64 x.2.typ] 31 (0, 0)) ∧ W.heap[B + 1 + 1]? = some (.cells #[.bool ok] 4 (0, 0)) ∧ Ext w7 W [B + 1, B + 1 + 1]
theorem ext_own {β : Type} {w7 : World} {o : List Nat} : OwnFrom w7.heap.size (fun (_ : β) W => Ext w7 W o) := by
  intro s W W' row h hg hr
  refine ⟨hg.os.trans h.os, hg.tape.trans h.tape, hg.output.trans h.output, Nat.le_trans h.size hg.size, fun b hb hn => (hg.block b (Nat.lt_of_lt_of_le hb h.size) (fun e => ?_)).trans (h.blk b hb hn)⟩
  have := (hr b e.symm).1
  omega
theorem LI_own (s : ByteArray) (w7 : World) : OwnFrom w7.heap.size (LI s w7) := fun p W W' row h hg hr => ⟨h.1, ext_own (β := Unit) () W W' row h.2 hg hr⟩
theorem LX_own {B : Nat} {w7 : World} (hB : B + 1 + 1 < w7.heap.size) (s : ByteArray) (ok : Bool) (c : Code) : OwnFrom w7.heap.size (LX B s ok w7 c) := by
  rintro p W W' row ⟨h1, pre', x, h2, h3, h4, h5, h6, h7⟩ hg hr
  have hl := h7.size
  refine ⟨h1, pre', x, h2, h3, h4, (hg.block _ (by omega) (fun e => ?_)).trans h5, (hg.block _ (by omega) (fun e => ?_)).trans h6, ext_own (β := Unit) () W W' row h7 hg hr⟩
  · have := (hr _ e.symm).1; omega
  · have := (hr _ e.symm).1; omega
theorem res_place {W : World} {B : Nat} {tmps : Array Value} {nm : ByteArray} {m t : Int} {b : Bool} (h6 : tmps.getD 6 undef = .pointer (some ⟨B + 1, 0, none⟩)) (h7 : tmps.getD 7 undef = .pointer (some ⟨B + 1 + 1, 0, none⟩))
    (c6 : W.heap[B + 1]? = some (.cells #[.string nm, .int .i64 m, .int .i64 t] 31 (0, 0))) (c7 : W.heap[B + 1 + 1]? = some (.cells #[.bool b] 4 (0, 0))) :
    (results Tryz.f9 tmps).run Tryz.prog W = .ok (.tuple #[.agg #[.string nm, .int .i64 m, .int .i64 t], .bool b]) W := by
  have hok : loadOk Tryz.prog 31 true 3 = true := by decide +kernel
  have hok' : loadOk Tryz.prog 4 false 1 = true := by decide +kernel
  simp only [loadOk, aggB, Bool.and_eq_true, Bool.or_eq_true, beq_iff_eq, Option.map_eq_some_iff] at hok hok'
  obtain ⟨⟨d, hu, hd⟩, hsz⟩ := hok
  obtain ⟨⟨d', hu', hd'⟩, hsz'⟩ := hok'
  have a6 : At W (B + 1) 0 [.string nm, .int .i64 m, .int .i64 t] := by
    intro j u hj
    rw [cell_of_cells c6]
    simpa using hj
  have a7 : W.cell? ⟨B + 1 + 1, 0, none⟩ = some (.bool b) := by rw [cell_of_cells c7]; rfl
  have e1 := run_loadVar_agg hu hd (by simpa using hsz) (xs := [.string nm, .int .i64 m, .int .i64 t]) rfl a6
  have e2 := run_loadVar_one hu' hd' a7
  refine results_eq (vs := [_, _]) ?_
  have e : (Tryz.f9).results.toList = [.cell 6 31, .cell 7 4] := rfl
  rw [e]
  simp only [List.mapM_cons, List.mapM_nil, resW, h6, h7, asAddr, Sem.run_bind, Sem.run_pure, Result.andThen_ok, e1, e2]
theorem st_place {W : World} {B : Nat} {T T' : TypeId} {a0 a1 a2 a3 x0 x1 x2 x3 : Value} (c6 : W.heap[B + 1]? = some (.cells #[a0, a1, a2] T (0, 0))) (c7 : W.heap[B + 1 + 1]? = some (.cells #[a3] T' (0, 0))) :
    let W' := (((W.setCell ⟨B + 1, 0, none⟩ x0).setCell ⟨B + 1, 1, none⟩ x1).setCell ⟨B + 1, 2, none⟩ x2).setCell ⟨B + 1 + 1, 0, none⟩ x3
    W'.heap[B + 1]? = some (.cells #[x0, x1, x2] T (0, 0)) ∧ W'.heap[B + 1 + 1]? = some (.cells #[x3] T' (0, 0)) ∧ Ext W W' [B + 1, B + 1 + 1] := by
  have h1 : B + 1 < W.heap.size := (Array.getElem?_eq_some_iff.1 c6).1
  have h2 : B + 1 + 1 < W.heap.size := (Array.getElem?_eq_some_iff.1 c7).1
  have s1 : ∀ (X : World) (b o : Nat) (v : Value) (k : Nat), k ≠ b → (X.setCell ⟨b, o, none⟩ v).heap[k]? = X.heap[k]? := fun X b o v k hk => Below.heap_setCell _ _ _ k hk
  have s2 : ∀ (X : World) (b o : Nat) (v : Value) (cs : Array Value) (t : TypeId), X.heap[b]? = some (.cells cs t (0, 0)) → (X.setCell ⟨b, o, none⟩ v).heap[b]? = some (.cells (cs.setIfInBounds o v) t (0, 0)) := by
    intro X b o v cs t h
    obtain ⟨hlt, hk⟩ := Array.getElem?_eq_some_iff.1 h
    show (X.heap.modify b _)[b]? = _
    rw [Array.getElem?_eq_getElem (by rw [Array.size_modify]; exact hlt), Array.getElem_modify_self, hk]
    rfl
  have sz : ∀ (X : World) (b o : Nat) (v : Value), (X.setCell ⟨b, o, none⟩ v).heap.size = X.heap.size := fun X b o v => by show (X.heap.modify b _).size = _; rw [Array.size_modify]
  intro W'
  refine ⟨?_, ?_, ⟨rfl, rfl, rfl, ?_, ?_⟩⟩
  · rw [s1 _ _ _ _ _ (by omega)]
    exact s2 _ _ _ _ _ _ (s2 _ _ _ _ _ _ (s2 _ _ _ _ _ _ c6))
  · refine s2 _ _ _ _ #[a3] _ ?_
    rw [s1 _ _ _ _ _ (by omega), s1 _ _ _ _ _ (by omega), s1 _ _ _ _ _ (by omega)]
    exact c7
  · show W.heap.size ≤ W'.heap.size
    rw [sz, sz, sz, sz]
    exact Nat.le_refl _
  · intro b hb hn
    simp only [List.mem_cons, List.not_mem_nil, or_false, not_or] at hn
    show W'.heap[b]? = _
    rw [s1 _ _ _ _ _ hn.2, s1 _ _ _ _ _ hn.1, s1 _ _ _ _ _ hn.1, s1 _ _ _ _ _ hn.1]
theorem rep_place {W : World} {Fz : Nat → Prop} {L : Locs} (f : Go.AM.Fd) (b : Bool) : RepV W Fz L (.tup [.agg f.z, .v (.bool b)]) (.tuple #[.agg #[.string f.name, .int .i64 f.mark, .int .i64 f.typ], .bool b]) [] := by
  simp only [RepV, RepVs, RepC, Go.AM.Fd.z]
  exact ⟨[_, _], rfl, _, _, [], [], rfl, rfl, ⟨[_, _, _], rfl, _, _, [], [], rfl, rfl, ⟨rfl, rfl, rfl⟩, _, _, [], [], rfl, rfl, ⟨rfl, rfl, rfl⟩, _, _, [], [], rfl, rfl, ⟨rfl, rfl, rfl⟩, rfl, rfl⟩, _, _, [], [], rfl, rfl, ⟨rfl, rfl, rfl⟩, rfl, rfl⟩
end Go.Proofs.PlaceF
