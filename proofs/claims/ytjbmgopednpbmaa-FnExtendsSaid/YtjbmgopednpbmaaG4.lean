/- Contracts of functions of the given program, for the law FnExtends: what they return and what they write, under the bounds that each theorem states. -/
import Derived.Test.YtjbmgopednpbmaaG3
import Derived.RangeFuncNested
import Derived.RangeFuncBound
import Derived.RangeFuncCalls
import Derived.RangeFuncLeaves
import Derived.RangeFuncBox
import Derived.Shelf.Abstract
import Derived.WalkKit
import Derived.OwnWalkIn
import Derived.TacticsInMore
import Derived.LoopNIn
import Derived.LoopIn
namespace Go.AM
set_option linter.unusedVariables false
set_option linter.unusedSimpArgs false
def fdsAt (l : List Ty) (n : Int) : List Fd := match l[n.toNat]? with
  | some t => t.fields
  | none => []

theorem fdsAt_eq {l : List Ty} {n : Int} (h : n.toNat < l.length) : fdsAt l n = l[n.toNat].fields := by simp [fdsAt, h]

def allL (l : List Ty) : List Int → List Fd
  | [] => []
  | n :: ns => allL l ns ++ fdsAt l n

def allF (l : List Ty) (n : Int) : List Fd := allL l (lineL l n)

theorem allL_app (l : List Ty) : ∀ a b : List Int, allL l (a ++ b) = allL l b ++ allL l a
  | [], b => by simp [allL]
  | n :: a, b => by simp only [List.cons_append, allL]; rw [allL_app l a b, List.append_assoc]

theorem fdsAt_len {l : List Ty} (ht : tysOk l = true) (n : Int) : (fdsAt l n).length ≤ 6 := by
  unfold fdsAt
  split
  · rename_i t h
    obtain ⟨hn, rfl⟩ := List.getElem?_eq_some_iff.1 h
    exact (tysOk_good ht hn).few
  · simp

theorem allL_len {l : List Ty} (ht : tysOk l = true) : ∀ ns : List Int, (allL l ns).length ≤ 6 * ns.length
  | [] => by simp [allL]
  | n :: ns => by
    have h1 := allL_len ht ns
    have h2 := fdsAt_len ht n
    simp only [allL, List.length_append, List.length_cons]
    omega

theorem allF_len {l : List Ty} (ht : tabOk l = true) (n : Int) : (allF l n).length ≤ 150 := by
  have h1 := allL_len (tabOk_tys ht) (lineL l n)
  have h2 := lineL_len l n
  have h3 := tabOk_len ht
  unfold allF
  omega

/-- loop.example/g00837/impl.AllFields -/
def m35 : MC :=
  (.seq
   (.reg [⟨(some 4), none, .a (.asg (.nils 57 3))⟩,
     ⟨(some 5), none, .a (.asg (.c (.bool false)))⟩])
   (.seq
    (.seq
     (.reg [⟨(some 6), none, .q (.mov (.t 0))⟩,
       ⟨(some 7), none, .q (.mov (.t 1))⟩,
       ⟨(some 8), none, .a (.call (.fn 73) false [.lend (.t 6), .lend (.t 7)])⟩,
       ⟨(some 9), none, .q (.un .not (.t 8))⟩])
     (.cond (.t 9)
      (.seq
       (.reg [⟨(some 4), none, .a (.asg (.nils 57 3))⟩,
         ⟨(some 5), none, .a (.asg (.c (.bool false)))⟩])
       .ret)
      .skip))
    (.seq
     (.reg [⟨(some 10), none, .q (.mov (.t 0))⟩,
       ⟨(some 11), none, .q (.mov (.t 1))⟩,
       ⟨(some 12), none, .a (.call (.fn 91) false [.lend (.t 10), .lend (.t 11)])⟩,
       ⟨(some 4), none, .a (.asg (.t 12))⟩,
       ⟨(some 5), none, .a (.asg (.c (.bool true)))⟩])
     .ret)))

set_option maxRecDepth 100000 in
theorem d35_of (l : List Ty) (n : Int) (hl : (l.length : Int) ≤ 1048576) (hs : ∀ s ∈ l, s.sm)
    (h91 : tabOk l = true → isRec l n = true → Does Go.Proofs.Try.prog 91 [.fsl 6 (l.map Ty.z), .v (.int .i64 n)] false (.usl 57 3 ((allF l n).map Fd.o)) [.dead, .dead]) : Does Go.Proofs.Try.prog 35 [.fsl 6 (l.map Ty.z), .v (.int .i64 n)] false (.tup [.usl 57 3 ((if recOk l n = true then allF l n else []).map Fd.o), .v (.bool (recOk l n))]) [.dead, .dead] := by
  refine does_intro (mc := m35) (N := 13) (rs := [4, 5]) (fx := []) 2 rfl (by decide +kernel) ?_
  simp only [m35, EV, Nat.reduceEqDiff, Nat.reduceBEq, Nat.reduceLT, Nat.reduceLeDiff, Nat.reduceAdd, Nat.reduceSub, reduceIte]
  refine callK_i (d73 l n hl hs) ?_
  simp only [EV, Nat.reduceEqDiff, Nat.reduceBEq, Nat.reduceLT, Nat.reduceLeDiff, Nat.reduceAdd, Nat.reduceSub, reduceIte]
  rcases e : recOk l n with _ | _
  · simp only [Bool.not_false, EV, Nat.reduceEqDiff, Nat.reduceBEq, Nat.reduceLT, Nat.reduceLeDiff, Nat.reduceAdd, Nat.reduceSub, reduceIte]
    simp only [List.map_nil, EV, Nat.reduceEqDiff, Nat.reduceBEq, Nat.reduceLT, Nat.reduceLeDiff, Nat.reduceAdd, Nat.reduceSub, reduceIte, evRE, retVC, cellV', evR, nfz, nfzs, nfzss, List.contains_nil, List.contains_cons, Bool.or_false, or_true]
  · have e' := e
    simp only [recOk, Bool.and_eq_true] at e'
    obtain ⟨ht, hr⟩ := e'
    simp only [Bool.not_true, EV, Nat.reduceEqDiff, Nat.reduceBEq, Nat.reduceLT, Nat.reduceLeDiff, Nat.reduceAdd, Nat.reduceSub, reduceIte]
    refine callK_i (h91 ht hr) ?_
    simp only [EV, Nat.reduceEqDiff, Nat.reduceBEq, Nat.reduceLT, Nat.reduceLeDiff, Nat.reduceAdd, Nat.reduceSub, reduceIte]
    simp only [Fd.nfz, Fd.frz, EV, Nat.reduceEqDiff, Nat.reduceBEq, Nat.reduceLT, Nat.reduceLeDiff, Nat.reduceAdd, Nat.reduceSub, reduceIte, evRE, retVC, cellV', evR, nfz, nfzs, nfzss, List.contains_nil, List.contains_cons, Bool.or_false, or_true]

end Go.AM
namespace Go.AM
open Go.RowKit
set_option linter.unusedVariables false
set_option linter.unusedSimpArgs false
theorem rows_in {P : Program} {row : String} {args : Array Value} {w : World} {R : Value → World → Prop} {l n : Nat} (h : Rows P row args w R) : RowsIn (Fence.wide.inRound l) n P row args w R :=
  fun c cs _ => let ⟨v, w', r, s⟩ := h c cs; ⟨v, w', r, stepsIn_wide.2 s⟩

theorem op_in {P : Program} {o : Oper} {a : Act} {w : World} {K : Act → World → Prop} {Q : Exit → Act → World → Prop} {l n : Nat} (hd : ∀ c, o.op ≠ .defer c) (hL : ¬ LetsOut Q) (h : o.wp P a w K Q) : o.wpIn (Fence.wide.inRound l) n P a w K Q := by
  refine ⟨fun _ _ => trivial, ?_⟩
  rw [Oper.semAt_eq _ _ _ hd]
  unfold Oper.wp at h
  generalize (execOp a.eval o).run P w = r at h
  cases r with
  | ok x w' =>
    cases x with
    | value v => exact h
    | skip => exact h
    | defer d => exact h
    | enter f args =>
      refine ⟨fun hh => by simp [Fence.wide] at hh, CallsIn.inRound l (callsIn_wide.2 ?_)⟩
      exact h
    | row r args => exact ⟨fun hh => by simp [Fence.wide] at hh, rows_in h⟩
    | _ => exact h.elim
  | halt x w' =>
    cases x with
    | panic v => exact h
    | _ => exact h.elim

theorem any_in {P : Program} {md : Region.Mode} {ops : Array Oper} {Q : Exit → Act → World → Prop} {l n : Nat} (hd : ∀ (i : Nat) (o : Oper) c, ops[i]? = some o → o.op ≠ .defer c) (hL : ¬ LetsOut Q) :
    ∀ (fuel : Nat) (listed : Array Bool) (a : Act) (w : World), wpAny P md ops Q fuel listed a w → wpAnyIn (Fence.wide.inRound l) n P md ops Q fuel listed a w
  | 0, _, _, _, h => h
  | fuel + 1, listed, a, w, h => by
    refine ⟨h.1, fun i hi => ?_⟩
    have := h.2 i hi
    unfold wpOp at this
    unfold wpOpIn
    cases ho : ops[i]? with
    | none => rw [ho] at this; exact any_in hd hL fuel _ _ _ this
    | some o =>
      rw [ho] at this
      simp only at this ⊢
      split
      · rename_i hw
        rw [if_pos hw] at this
        rcases this with this | this
        · exact Oper.wpIn_mono (fun a' w' h' => any_in hd hL fuel _ _ _ h') (op_in (fun c => hd i o c ho) hL this)
        · exact absurd this.2 hL
      · rename_i hw
        rw [if_neg hw] at this
        exact ⟨fun _ _ => trivial, any_in hd hL fuel _ _ _ this⟩

theorem mixt_any {P : Program} {N : Nat} {fx : List Nat} {ops : Array Oper} {Q : Exit → Act → World → Prop} {c : Ctx} {st : St} {a : Act} {w : World} (hfx : ∀ e, c.fx e ≠ none → e ∈ fx) {FL WL RL B fi : List Nat} {fs : List MO} {t : TT} (hm : mixtOk P N fx ops FL WL RL B fi fs t = true) (S : Sim c N st a w) {k : K} (h : mixtV P FL WL RL B fs t k st)
    (hQ : ∀ st a w, Sim c N st a w → k st → Q .normal a w) : P.follows .mixedOrders = true ∧ wpAny P .any ops (fun e a w => e = .normal ∧ Q .normal a w) ops.size (Array.replicate ops.size false) a w.drew := by
  simp only [mixtOk, Bool.and_eq_true] at hm
  obtain ⟨⟨⟨⟨⟨hsel, hfol⟩, hlen⟩, hFW⟩, hRW⟩, hm⟩ := hm
  have S1 : Sim c N st a w.drew := S.world (Ext.drew w [])
  obtain ⟨hB, h⟩ := h
  obtain ⟨hd, hs, own, C⟩ := S1
  have hbare : ∀ k ∈ B, own k = [] := fun k hk => bare_own (st k) (C.rep k) (by simpa using List.all_eq_true.1 hB k hk)
  have hno : ∀ (l : List Nat), notFl B l WL = true → ∀ k ∈ l, ∀ b ∈ own k, b ∉ WL.flatMap own := by
    intro l hl k hk b hb hb2
    obtain ⟨j, hj, hbj⟩ := List.mem_flatMap.1 hb2
    by_cases e : k = j
    · subst e
      have h1 := List.all_eq_true.1 hl k hk
      simp only [Bool.or_eq_true, Bool.not_eq_true', List.contains_eq_mem, decide_eq_true_eq, decide_eq_false_iff_not] at h1
      rcases h1 with h1 | h1
      · exact h1 hj
      · rw [hbare k h1] at hb; simp at hb
    · exact C.dj k j e b hb hbj
  have hdj : ∀ b ∈ FL.flatMap own, b ∉ WL.flatMap own := by
    intro b hb
    obtain ⟨k, hk, hbk⟩ := List.mem_flatMap.1 hb
    exact hno FL hFW k hk b hbk
  have hfx' : ∀ (l : List Nat) e, (ctxL c w.drew own l RL a).fx e ≠ none → e ∈ RL ++ fx := by
    intro l e he
    simp only [ctxL] at he
    split at he
    · rename_i h'; simp [h']
    · have := hfx e he; simp [this]
  have hslots : ∀ l, Slots (ctxL c w.drew own l RL a) N a := by
    intro l
    refine ⟨hs.1, ?_⟩
    intro k v hk
    simp only [ctxL] at hk
    split at hk
    · simpa using hk
    · exact hs.2 k v hk
  have SW : Sim (ctxL c w.drew own WL RL a) N (keepL WL st) a w.drew := ⟨hd, hslots WL, _, core_part C WL RL⟩
  refine ⟨hfol, wpAny_of_held (S := held w.drew (WL.flatMap own)) _ _ _ _ ?_⟩
  · have hsz : ops.size = fi.length + t.sz := by simp only [beq_iff_eq] at hlen; exact hlen.symm
    show wpAnyH P .any ops _ _ ops.size (Array.replicate ops.size false) a w.drew
    have key := f_sound (Q := fun e a w => e = .normal ∧ Q .normal a w) (n := t.sz) C (hfx' FL) hsel (by rintro _ _ _ ⟨h, _⟩; cases h) hdj
      (kk := fun _ sW => ttV P (fun s3 => k (backS RL st s3)) t sW) (F := fun listed => (headsOk ops listed t && ttOk P N (RL ++ fx) ops t listed))
      (fun listed a' sF sW hF SW' h' => tt_sound (cW := ctxL c w.drew own WL RL a) rfl rfl (hfx' WL) hsel (k := fun s3 => k (backS RL st s3))
        (fun s3 a3 w3 S3 h3 => ⟨rfl, hQ _ _ _ (back_sound C hs (hno RL hRW) S3) h3⟩) (by rintro _ _ _ ⟨h, _⟩; cases h) t.sz t listed sW a' _ rfl (by simp only [Bool.and_eq_true] at hF; exact hF.1) (by simp only [Bool.and_eq_true] at hF; exact hF.2) SW' h')
      fi fs (Array.replicate ops.size false) (keepL FL st) (keepL WL st) a (ownL FL own) hm (core_part C FL RL) (fun b hb => ownL_mem.2 hb) SW h
    rw [← hsz] at key
    exact key

theorem mixt_round {P : Program} {N : Nat} {fx : List Nat} {ops : Array Oper} {Q : Exit → Act → World → Prop} {c : Ctx} {l n id : Nat} {st : St} {a : Act} {w : World} (hd : ∀ (i : Nat) (o : Oper) c, ops[i]? = some o → o.op ≠ .defer c) (hfx : ∀ e, c.fx e ≠ none → e ∈ fx) {FL WL RL B fi : List Nat} {fs : List MO} {t : TT} (hm : mixtOk P N fx ops FL WL RL B fi fs t = true) (S : Sim c N st a w) {k : K} (h : mixtV P FL WL RL B fs t k st)
    (hQ : ∀ st a w, Sim c N st a w → k st → Q .normal a w) : (Code.region id ops true).wpIn (Fence.wide.inRound l) n P Q a w := by
  obtain ⟨hf, h⟩ := mixt_any hfx hm S h hQ
  refine wpIn_mono (Q := fun e a w => e = .normal ∧ Q .normal a w) ?_ ?_
  · exact wpIn_region_any hf (any_in hd (by rintro ⟨_, _, h, _⟩; cases h) _ _ _ _ h)
  · rintro e a w ⟨rfl, h⟩; exact h

end Go.AM
namespace Go.Proofs.Backw
open Go Go.RowKit Go.Shelf Go.Proofs
attribute [local go_sem] Oper.semAt_some
set_option linter.unusedVariables false
set_option linter.unusedSimpArgs false

/-- What has come when k rounds are over. -/
def upto {α : Type} (f : Nat → α) (k : Nat) : List α := (List.range k).map f
theorem upto_succ {α : Type} (f : Nat → α) (k : Nat) : upto f (k + 1) = upto f k ++ [f k] := by simp [upto, List.range_succ]
theorem upto_length {α : Type} (f : Nat → α) (k : Nat) : (upto f k).length = k := by simp [upto]
/-- The slice of ints, and the box that holds it. -/
def Rd (Bs b off len cap : Nat) (zs : List Int) (W : World) : Prop := W.cell? ⟨Bs, 0, none⟩ = some (.slice (some ⟨b, off, none⟩) len cap) ∧ ∀ j, j < len → W.cell? ⟨b, off + j, none⟩ = some (.int .i64 (zs[j]?.getD 0))

set_option maxRecDepth 100000 in
set_option maxHeartbeats 2000000 in
theorem back1_in (F : Fence) (n : Nat) (h7 : F.fn 170) (hro : F.round = none) (hn : 1 ≤ n) (l Bs b off len cap : Nat) (zs : List Int) {α : Type} (encs : α → Array Value) (f : Nat → α)
    (hf : ∀ k j, j + k + 1 = len → encs (f k) = #[.int .i64 (j : Int), .int .i64 (zs[j]?.getD 0)]) (hreach : len * 8 ≤ 140737488351232) (J Jx : List α → World → Prop)
    (hY : ∀ pre x W, J pre W → pre.length < len → YieldAt F (n - 1) Try.prog l (encs x) W fun e W' =>
      (e = .returned (.bool true) ∧ J (pre ++ [x]) W' ∧ (Rd Bs b off len cap zs W → Rd Bs b off len cap zs W')) ∨ (e = .returned (.bool false) ∧ Jx (pre ++ [x]) W'))
    (W : World) (hR : Rd Bs b off len cap zs W) (h0 : J [] W) :
    CallsIn F n Try.prog 170 #[.func (.yield l) #[] #[], .pointer (some ⟨Bs, 0, none⟩)] W fun e W' => (∃ v, e = .returned v) ∧
      ((∃ ys, ys = upto f len ∧ J ys W') ∨ (∃ pre, (∃ k, k ≤ len ∧ pre = upto f k) ∧ Jx pre W')) := by
  refine callsIn_of_wp Try.func170 rfl h7 ?_ hro
  simp only [Try.ntmps170, List.size_toArray, List.length_cons, List.length_nil, Nat.reduceAdd, Nat.reduceSub, Array.replicate_succ, Array.replicate_zero, List.push_toArray, List.append_toArray, List.nil_append, List.cons_append]
  have hBs := hR.1
  gi_wp2
  gi_loopw [3] (fun i wr => ∃ k : Nat, k ≤ len ∧ i = .int .i64 ((len : Int) - 1 - (k : Int)) ∧ J (upto f k) wr ∧ Rd Bs b off len cap zs wr)
    (fun i _ => (intOf i + 1).toNat)
  case atStart => exact ⟨0, Nat.zero_le _, by simp, h0, hR⟩
  case round =>
    obtain ⟨k, hk, rfl, hJs, hR1, hR2⟩ := hrel
    by_cases hlt : k < len
    · obtain ⟨j, hj⟩ : ∃ j, j + k + 1 = len := ⟨len - k - 1, by omega⟩
      have hcx := hR2 j (by omega)
      obtain ⟨fn, tmps, assign, body, hy, hRR⟩ := hY _ (f k) wr hJs (by rw [upto_length]; exact hlt)
      rw [hf k j hj] at hy
      have hi : (len : Int) - 1 - (k : Int) = (j : Int) := by omega
      rw [hi]
      have hjl : j < len := by omega
      gi_wp2
      refine hRR.mono ?_
      rintro e W3 (⟨rfl, hJ3, hk3⟩ | ⟨rfl, hJx3⟩)
      · gi_wp2
        go_roundw
        case rel => exact ⟨k + 1, by omega, by simp; omega, by rw [upto_succ]; exact hJ3, hk3 ⟨hR1, hR2⟩⟩
        case measure => simp [intOf]
      · gi_wp2
        refine bodyPost_ret (results_none rfl _ _ _) rfl ?_
        exact ⟨⟨_, rfl⟩, .inr ⟨_, ⟨k + 1, by omega, (upto_succ _ _).symm⟩, hJx3⟩⟩
    · obtain rfl : k = len := by omega
      have hi : (k : Int) - 1 - (k : Int) = -1 := by omega
      rw [hi]
      gi_wp2
      go_end0
      exact ⟨⟨_, rfl⟩, .inl ⟨_, rfl, hJs⟩⟩

set_option maxHeartbeats 1000000 in
theorem back_in (F : Fence) (n : Nat) (h5 : F.fn 139) (hro : F.round = none) (a : Option Addr) (len cap : Nat) (w : World) :
    CallsIn F n Try.prog 139 #[.slice a len cap] w fun e w' => e = .returned (.func (.func 170) #[] #[.pointer (some ⟨w.heap.size, 0, none⟩)]) ∧ w' = w.alloc (.cells #[.slice a len cap] 39) := by
  refine callsIn_of_wp Try.func139 rfl h5 ?_ hro
  simp only [Try.ntmps139, List.size_toArray, List.length_cons, List.length_nil, Nat.reduceAdd, Nat.reduceSub, Array.replicate_succ, Array.replicate_zero, List.push_toArray, List.append_toArray, List.nil_append, List.cons_append]
  gi_wp2
  go_ret
  exact ⟨rfl, rfl⟩

/-- What it hands back: a function to range over. -/
theorem back_stops (F : Fence) (n : Nat) (h7 : F.fn 170) (hro : F.round = none) (hn : 1 ≤ n) (Bs b off len cap : Nat) (zs : List Int) {α : Type} (encs : α → Array Value) (f : Nat → α)
    (hf : ∀ k j, j + k + 1 = len → encs (f k) = #[.int .i64 (j : Int), .int .i64 (zs[j]?.getD 0)]) (hreach : len * 8 ≤ 140737488351232) (w : World) (hBs : Bs < w.heap.size) (hb : b < w.heap.size) (hR : Rd Bs b off len cap zs w) :
    SeqStopsK F n Try.prog 170 #[.pointer (some ⟨Bs, 0, none⟩)] encs (fun A B => Rd Bs b off len cap zs A → Rd Bs b off len cap zs B) (fun ys => ys = upto f len) (fun _ => True) len w := fun l J Jx W hW _ _ hY h0 => by
  have hR' : Rd Bs b off len cap zs W := ⟨(hW.cell (p := ⟨Bs, 0, none⟩) hBs).trans hR.1, fun j hj => (hW.cell (p := ⟨b, off + j, none⟩) hb).trans (hR.2 j hj)⟩
  refine (back1_in F n h7 hro hn l Bs b off len cap zs encs f hf hreach J Jx hY W hR' h0).mono ?_
  rintro e W' ⟨he, ⟨ys, rfl, hj⟩ | ⟨pre, _, hj⟩⟩
  · exact ⟨he, .inl ⟨_, rfl, hj⟩⟩
  · exact ⟨he, .inr ⟨_, trivial, hj⟩⟩
end Go.Proofs.Backw

namespace Go.Proofs.AllF
open Go Go.AM Go.RowKit Go.Shelf Go.Proofs Go.Proofs.Backw
attribute [local go_sem] Oper.semAt_some
set_option linter.unusedVariables false
set_option linter.unusedSimpArgs false

theorem rows_iv {w : World} {Fz : Nat → Prop} : ∀ {zs : List Int} {xs : List Value} {o : List Nat}, RepRows w Fz 1 (zs.map iv) xs o → xs = zs.map (fun k => Value.int .i64 k) ∧ o = []
  | [], xs, o, h => by simpa [RepRows] using h
  | z :: zs, xs, o, h => by
    simp only [List.map_cons, RepRows] at h
    obtain ⟨x1, x2, o1, o2, rfl, rfl, _, hr, hrs⟩ := h
    obtain ⟨rfl, rfl⟩ := rows_iv hrs
    simp only [iv, RepRow, RepC] at hr
    obtain ⟨x, xs', o3, o4, rfl, rfl, ⟨rfl, _, rfl⟩, rfl, rfl⟩ := hr
    exact ⟨rfl, rfl⟩
theorem keepW {w w' : World} {Fz : Nat → Prop} {av : AV} {x : Value} (hlt : ∀ b, Fz b → b < w.heap.size) (hE : Ext w w' []) (h : RepC w Fz av x []) : RepC w' Fz av x [] :=
  h.keep _ _ _ ⟨fun b hb => ⟨hb, hE.blk b (hlt b hb) (by simp)⟩, fun b hb => by simp at hb⟩

/-- What a round is handed: the index, and the number of a type. -/
def InT (l : List Ty) : Type := { x : Int × Int // 0 ≤ x.2 ∧ x.2.toNat < l.length }
def flds (l : List Ty) (pre : List (InT l)) : List Go.AM.Fd := pre.flatMap fun x => fdsAt l x.1.2
theorem flds_snoc (l : List Ty) (pre : List (InT l)) (x : InT l) : flds l (pre ++ [x]) = flds l pre ++ fdsAt l x.1.2 := by simp [flds]
theorem flds_len {l : List Ty} (ht : tysOk l = true) : ∀ pre : List (InT l), (flds l pre).length ≤ 6 * pre.length
  | [] => by simp [flds]
  | x :: pre => by
    have h1 := flds_len ht pre
    have h2 := fdsAt_len ht x.1.2
    simp only [flds, List.flatMap_cons, List.length_append, List.length_cons] at h1 ⊢
    omega
theorem rows_fd {w : World} {Fz : Nat → Prop} : ∀ {fs : List Go.AM.Fd} {xs : List Value} {o : List Nat}, RepRows w Fz 3 (fs.map Go.AM.Fd.o) xs o → o = []
  | [], xs, o, h => by simp only [List.map_nil, RepRows] at h; exact h.2
  | f :: fs, xs, o, h => by
    simp only [List.map_cons, RepRows] at h
    obtain ⟨x1, x2, o1, o2, rfl, rfl, _, hr, hrs⟩ := h
    rw [rows_fd hrs, List.append_nil]
    simp only [Go.AM.Fd.o, RepRow, RepC] at hr
    obtain ⟨_, _, _, _, rfl, rfl, ⟨_, _, rfl⟩, _, _, _, _, rfl, rfl, ⟨_, _, rfl⟩, _, _, _, _, rfl, rfl, ⟨_, _, rfl⟩, _, rfl⟩ := hr
    rfl
/-- Whatever is owned here is cells. -/
theorem own_cells {w : World} {Fz : Nat → Prop} {fs : List Go.AM.Fd} {x : Value} {o : List Nat} (h : RepC w Fz (.box 47 [.usl 57 3 (fs.map Go.AM.Fd.o)]) x o) : ∀ b ∈ o, ∃ cur e p, w.heap[b]? = some (.cells cur e p) := by
  simp only [RepC, RepRow] at h
  obtain ⟨g, xs, o', rfl, rfl, hg, y, ys, o1, o2, rfl, rfl, hu, rfl, rfl⟩ := h
  intro b hb
  rcases List.mem_cons.1 hb with rfl | hb
  · exact ⟨_, _, _, hg⟩
  · simp only [List.append_nil] at hb
    rcases hu with ⟨_, _, rfl⟩ | ⟨g2, h2, c, cur, vs, o3, _, rfl, hg2, _, _, hr, _⟩
    · simp at hb
    · rw [rows_fd hr] at hb
      simp only [List.mem_singleton] at hb
      subst hb
      exact ⟨_, _, _, hg2⟩

def noF : Nat → Prop := fun _ => False
/-- Between two rounds. -/
def LI (B : Nat) (w6 : World) (l : List Ty) (pre : List (InT l)) (W : World) : Prop := ∃ o5, RepC W noF (.box 47 [.usl 57 3 ((flds l pre).map Go.AM.Fd.o)]) (.pointer (some ⟨B + 1 + 1, 0, none⟩)) o5 ∧ o5.Nodup ∧
  (∀ b ∈ o5, (b = B + 1 + 1 ∨ b = B + 1 ∨ w6.heap.size ≤ b) ∧ b < W.heap.size) ∧ Ext w6 W [B + 1 + 1, B + 1]
theorem LI_own (B : Nat) (w6 : World) (l : List Ty) : OwnFrom w6.heap.size (LI B w6 l) := by
  rintro s W W' row ⟨o5, h1, h2, h3, h4⟩ hg hr
  have hsame : ∀ b, b < W.heap.size → (∀ r, row = some r → b ≠ r) → W'.heap[b]? = W.heap[b]? := fun b hb hn => hg.block b hb (by intro e; exact hn b e.symm rfl)
  refine ⟨o5, h1.keep _ _ _ ⟨fun b hb => hb.elim, fun b hb => hsame b (h3 b hb).2 ?_⟩, h2, fun b hb => ⟨(h3 b hb).1, Nat.lt_of_lt_of_le (h3 b hb).2 hg.size⟩, ⟨hg.os.trans h4.os, hg.tape.trans h4.tape, hg.output.trans h4.output, Nat.le_trans h4.size hg.size, fun b hb hn => (hsame b (Nat.lt_of_lt_of_le hb h4.size) ?_).trans (h4.blk b hb hn)⟩⟩
  · rintro r e rfl
    obtain ⟨_, o, ho, hc⟩ := hr b e
    obtain ⟨cur, e', p, hcur⟩ := own_cells h1 b hb
    rw [hcur] at ho
    cases ho
    simp [Obj.isCells] at hc
  · rintro r e rfl
    have := (hr b e).1
    omega
theorem Rd_of {Bs b off len cap : Nat} {zs : List Int} {W W' : World} (h1 : W'.heap[Bs]? = W.heap[Bs]?) (h2 : W'.heap[b]? = W.heap[b]?) (h : Rd Bs b off len cap zs W) : Rd Bs b off len cap zs W' := by
  refine ⟨?_, fun j hj => ?_⟩
  · rw [World.cell?_of_block (w := W) h1]; exact h.1
  · rw [World.cell?_of_block (w := W) h2]; exact h.2 j hj
/-- How the body of a round is read. -/
def bCtx (W : World) (F0 : Nat → Prop) (o5 : List Nat) (v5 : Value) : Ctx := { w0 := W, Fz := F0, own0 := o5, fx := fun e => if e = 5 then some v5 else none }
def bSt (l : List Ty) (fs : List Go.AM.Fd) (k : Int) : St := stl [(2, .fptr [.fsl 6 (l.map Ty.z)]), (5, .box 47 [.usl 57 3 (fs.map Go.AM.Fd.o)]), (7, .v (.int .i64 k))]
theorem bSim' {l : List Ty} {fs : List Go.AM.Fd} {k : Int} {W : World} {F0 : Nat → Prop} {o5 : List Nat} {a : Act} (hd : a.defers = []) (hn : a.tmps.size = 23) (h2 : RepC W F0 (.fptr [.fsl 6 (l.map Ty.z)]) (tmOf a 2) []) (h5 : RepC W noF (.box 47 [.usl 57 3 (fs.map Go.AM.Fd.o)]) (tmOf a 5) o5)
    (h7 : tmOf a 7 = .int .i64 k) (hnd : o5.Nodup) (hlt : ∀ b ∈ o5, b < W.heap.size ∧ ¬ F0 b) (hF : ∀ b, F0 b → b < W.heap.size) : Sim (bCtx W F0 o5 (tmOf a 5)) 23 (bSt l fs k) a W := by
  refine ⟨hd, ⟨hn, fun k v h => ?_⟩, fun k => if k = 5 then o5 else [], Ext.refl _ _, fun k' => ?_, fun k => ?_, fun j k hjk b hb => ?_, by simp, by simp, ?_⟩
  · simp only [bCtx] at h
    split at h
    · rename_i e; subst e; exact Option.some.inj h
    · cases h
  · have hfz : ∀ b, F0 b → frz (bCtx W F0 o5 (tmOf a 5)) W (owned (fun k => if k = 5 then o5 else []) []) b := by
      intro b hb
      refine ⟨hF b hb, .inr (.inl hb), ?_⟩
      rintro (⟨k, hk⟩ | hk)
      · simp only at hk
        split at hk
        · exact (hlt b hk).2 hb
        · simp at hk
      · simp at hk
    by_cases e2 : k' = 2
    · subst e2
      exact (h2.keep (w' := W) (Fz' := frz (bCtx W F0 o5 (tmOf a 5)) W (owned (fun k => if k = 5 then o5 else []) [])) _ _ _ ⟨fun b hb => ⟨hfz b hb, rfl⟩, fun _ _ => rfl⟩).toV
    by_cases e5 : k' = 5
    · subst e5
      exact (h5.keep (w' := W) (Fz' := frz (bCtx W F0 o5 (tmOf a 5)) W (owned (fun k => if k = 5 then o5 else []) [])) _ _ _ ⟨fun b hb => hb.elim, fun _ _ => rfl⟩).toV
    by_cases e7 : k' = 7
    · subst e7
      rw [h7]
      simp [bSt, stl, RepV, RepC, Value.oneCell']
    · simp [bSt, stl, e2, e5, e7, RepV]
  · by_cases e : k = 5
    · simp [e, hnd]
    · simp [e]
  · by_cases e : j = 5
    · have hk : k ≠ 5 := fun h => hjk (e.trans h.symm)
      simp [hk]
    · simp [e] at hb
  · rintro b (⟨k, hk⟩ | hk)
    · simp only at hk
      split at hk
      · exact ⟨.inl hk, (hlt b hk).1⟩
      · simp at hk
    · simp at hk
theorem bSim {l : List Ty} {fs : List Go.AM.Fd} {k : Int} {W : World} {F0 : Nat → Prop} {o5 : List Nat} {a : Act} {v2 v5 : Value} (hd : a.defers = []) (hn : a.tmps.size = 23) (e2 : tmOf a 2 = v2) (e5 : tmOf a 5 = v5) (h7 : tmOf a 7 = .int .i64 k) (h2 : RepC W F0 (.fptr [.fsl 6 (l.map Ty.z)]) v2 []) (h5 : RepC W noF (.box 47 [.usl 57 3 (fs.map Go.AM.Fd.o)]) v5 o5)
    (hnd : o5.Nodup) (hlt : ∀ b ∈ o5, b < W.heap.size ∧ ¬ F0 b) (hF : ∀ b, F0 b → b < W.heap.size) : Sim (bCtx W F0 o5 v5) 23 (bSt l fs k) a W := by
  subst e2 e5
  exact bSim' hd hn h2 h5 h7 hnd hlt hF
end Go.Proofs.AllF

namespace Go.Proofs.AllF
open Go Go.AM Go.RowKit Go.Shelf Go.Proofs Go.Proofs.Backw
attribute [local go_sem] Oper.semAt_some
set_option linter.unusedVariables false
set_option linter.unusedSimpArgs false

def noDef (ops : Array Oper) : Bool := ops.all fun o => match o.op with
  | .defer _ => false
  | _ => true
theorem noDef_spec {ops : Array Oper} (h : noDef ops = true) (i : Nat) (o : Oper) (c : Call) (ho : ops[i]? = some o) : o.op ≠ .defer c := by
  intro e
  simp only [noDef, Array.all_eq_true] at h
  obtain ⟨hi, rfl⟩ := Array.getElem?_eq_some_iff.1 ho
  have := h i hi
  rw [e] at this
  simp at this
theorem allL_rev (l : List Ty) : ∀ zs : List Int, allL l zs = zs.reverse.flatMap (fdsAt l)
  | [] => rfl
  | z :: zs => by simp [allL, allL_rev l zs]
theorem flds_all {l : List Ty} {zs : List Int} {fr : Nat → InT l} (h : ∀ k, (fr k).1.2 = zs[zs.length - 1 - k]?.getD 0) : flds l (upto fr zs.length) = allL l zs := by
  have e : (upto fr zs.length).map (fun x => x.1.2) = zs.reverse := by
    apply List.ext_getElem
    · simp [upto]
    · intro i h1 h2
      have hi : i < zs.length := by simpa using h2
      have hj : zs.length - 1 - i < zs.length := by omega
      simp [upto, h, List.getElem_reverse, hj]
  rw [allL_rev, ← e, List.flatMap_map]
  rfl
def bodyT : TT := .alt (.step 0 ⟨(some 15), none, .q (.load false 1 (.t 5))⟩
           (.step 1 ⟨(some 16), none, .q (.load false 1 (.t 2))⟩
            (.step 3 ⟨(some 18), none, .q (.iad 6 (.t 16) (.t 17))⟩
             (.step 4 ⟨(some 19), none, .q (.fad 3 (.t 18))⟩
              (.step 5 ⟨(some 20), none, .q (.load false 1 (.t 19))⟩
               (.step 6 ⟨(some 21), none, .a (.app false 57 3 32 (.t 15) (.t 20))⟩
                (.step 7 ⟨none, none, .a (.store 1 (.t 5) (.t 21))⟩
                 .nil)))))))
           (.step 1 ⟨(some 16), none, .q (.load false 1 (.t 2))⟩
           (.step 3 ⟨(some 18), none, .q (.iad 6 (.t 16) (.t 17))⟩
            (.step 4 ⟨(some 19), none, .q (.fad 3 (.t 18))⟩
             (.alt (.step 0 ⟨(some 15), none, .q (.load false 1 (.t 5))⟩
              (.step 5 ⟨(some 20), none, .q (.load false 1 (.t 19))⟩
               (.step 6 ⟨(some 21), none, .a (.app false 57 3 32 (.t 15) (.t 20))⟩
                (.step 7 ⟨none, none, .a (.store 1 (.t 5) (.t 21))⟩
                 .nil))))
              (.step 5 ⟨(some 20), none, .q (.load false 1 (.t 19))⟩
              (.step 0 ⟨(some 15), none, .q (.load false 1 (.t 5))⟩
               (.step 6 ⟨(some 21), none, .a (.app false 57 3 32 (.t 15) (.t 20))⟩
                (.step 7 ⟨none, none, .a (.store 1 (.t 5) (.t 21))⟩
                 .nil))))))))
def bodyM : MC := .mixt [7] [2, 5] [] [] [2] [⟨(some 17), none, .q (.mov (.t 7))⟩] bodyT
set_option maxRecDepth 100000 in
/-- What a round does. -/
theorem body_awp {l : List Ty} {fs : List Go.AM.Fd} {k : Int} (h0 : 0 ≤ k) (h1 : k.toNat < l.length) (hl : fs.length + (fdsAt l k).length ≤ 1000) :
    awp Try.prog bodyM (fun e st => st 5 = .box 47 [.usl 57 3 ((fs ++ fdsAt l k).map Go.AM.Fd.o)]) (bSt l fs k) := by
  have h2 : k < (l.length : Int) := by omega
  have he : (fs ++ fdsAt l k).map Go.AM.Fd.o = fs.map Go.AM.Fd.o ++ l[k.toNat].fields.map Go.AM.Fd.z := by rw [fdsAt_eq h1, List.map_append]; rfl
  rw [fdsAt_eq h1] at hl
  simp only [he, bodyM, bodyT, bSt, h0, h1, h2, nth_map h1, Ty.z, EV, Nat.reduceEqDiff, Nat.reduceBEq, Nat.reduceLT, Nat.reduceLeDiff, Nat.reduceAdd, Nat.reduceSub, reduceIte]
  exact ⟨.inl trivial, by omega, by omega⟩

set_option maxRecDepth 100000 in
set_option maxHeartbeats 2000000 in
theorem c91 (l : List Ty) (n : Int) (hl : (l.length : Int) ≤ 1048576) (ht : tabOk l = true) (hr : isRec l n = true) : Con Try.prog 91 [.fsl 6 (l.map Ty.z), .v (.int .i64 n)] false (.usl 57 3 ((allF l n).map Go.AM.Fd.o)) [.dead, .dead] := by
  intro w Fz xs os hrep hos hfz hlt
  simp only [RepVs] at hrep
  obtain ⟨sv, _, o1, _, rfl, rfl, h1, _, _, o2, _, rfl, rfl, h2, rfl, rfl⟩ := hrep
  simp only [RepV] at h1 h2
  have h1' := h1
  simp only [RepC] at h1 h2
  obtain ⟨rfl, A, cap, rfl, hcap, hA⟩ := h1
  obtain ⟨rfl, _, rfl⟩ := h2
  refine callsIn_wide (n := 9).1 (callsIn_of_wp_marks Try.func91 rfl trivial ?_ rfl)
  simp only [Try.ntmps91, List.size_toArray, List.length_cons, List.length_nil, Nat.reduceAdd, Nat.reduceSub, Array.replicate_succ, Array.replicate_zero, List.push_toArray, List.append_toArray, List.nil_append, List.cons_append]
  obtain ⟨w4, hw4⟩ : ∃ w4, (((w.alloc (Obj.cells #[Value.slice A l.length cap] 32)).alloc (Obj.cells #[] 57)).alloc (Obj.cells #[Value.slice (some { block := w.heap.size + 1, off := 0 }) 0 0] 47)) = w4 := ⟨_, rfl⟩
  have hE4 : Ext w w4 [] := by
    rw [← hw4]
    exact ((Ext.alloc _ _ _).trans (Ext.alloc _ [] _) (by simp)).trans (Ext.alloc _ [] _) (by simp)
  have hs4 : w4.heap.size = w.heap.size + 3 := by rw [← hw4]; simp
  have hb2 : w4.heap[w.heap.size]? = some (.cells #[Value.slice A l.length cap] 32) := by
    rw [← hw4]
    rw [Below.heap_alloc _ _ _ (by simp; omega), Below.heap_alloc _ _ _ (by simp)]
    exact World.alloc_heap_new _ _
  have hb3 : w4.heap[w.heap.size + 1]? = some (.cells #[] 57) := by
    rw [← hw4]
    rw [Below.heap_alloc _ _ _ (by simp)]
    have := World.alloc_heap_new (w.alloc (Obj.cells #[Value.slice A l.length cap] 32)) (.cells #[] 57)
    rwa [World.size_alloc] at this
  have hb5 : w4.heap[w.heap.size + 1 + 1]? = some (.cells #[Value.slice (some { block := w.heap.size + 1, off := 0 }) 0 0] 47) := by
    rw [← hw4]
    have := World.alloc_heap_new ((w.alloc (Obj.cells #[Value.slice A l.length cap] 32)).alloc (.cells #[] 57)) (Obj.cells #[Value.slice (some { block := w.heap.size + 1, off := 0 }) 0 0] 47)
    rwa [World.size_alloc, World.size_alloc] at this
  have hline := (d74 l n hl ht (.inr hr)).2 w4 Fz [Value.slice A l.length cap, Value.int IntKind.i64 n] [] ⟨_, _, [], [], rfl, rfl, (keepW hlt hE4 (by simpa using h1')).toV, _, _, [], [], rfl, rfl, by simp [RepV, RepC, Value.oneCell'], rfl, rfl⟩ List.nodup_nil (by simp) (fun b hb => by have := hlt b hb; omega)
  have hc2 : w4.cell? ⟨w.heap.size, 0, none⟩ = some (Value.slice A l.length cap) := by rw [cell_of_cells hb2]; rfl
  gi_wp2
  refine ⟨trivial, (callsIn_wide.2 hline).mono ?_⟩
  rintro e w5 ⟨x, ox, oo, rfl, hE5, hx, ho, hnd, hold⟩
  simp only [RepV] at hx
  have hlr := lineL_rec ht hr
  obtain ⟨zs, hzs⟩ : ∃ zs, lineL l n = zs := ⟨_, rfl⟩
  rw [hzs] at hx
  have hz0 : zs ≠ [] := by rw [← hzs, hlr]; simp
  simp only [RepC] at hx
  rcases hx with ⟨_, hx, _⟩ | ⟨g, h, c, cur, vs, o', rfl, rfl, hg, hc, hfit, hrw, hat⟩
  · exact absurd (List.map_eq_nil_iff.1 hx) hz0
  obtain ⟨rfl, rfl⟩ := rows_iv hrw
  simp only [List.length_map, Nat.mul_one] at hat ⊢
  gi_wp2
  refine ⟨trivial, (back_in Fence.wide _ trivial rfl _ _ _ _).mono ?_⟩
  rintro e w6 ⟨rfl, hw6⟩
  gi_wp2
  rw [← hw6]
  have hE56 : Ext w5 w6 [] := by rw [hw6]; exact Ext.alloc _ _ _
  have hE46 : Ext w4 w6 [] := hE5.trans hE56 (by simp)
  have hE6 : Ext w w6 [] := hE4.trans hE46 (by simp)
  have hs6 : w6.heap.size = w5.heap.size + 1 := by rw [hw6]; simp
  have hg5 : g < w5.heap.size := (hold g (by simp)).2
  have hg4 : w4.heap.size ≤ g := by rcases (hold g (by simp)).1 with h | h; simp at h; exact h
  have hs5 := hE5.size
  have hbs : w6.heap[w5.heap.size]? = some (.cells #[Value.slice (some { block := g, off := h }) zs.length c] 39) := by rw [hw6]; exact World.alloc_heap_new _ _
  have hRd : Rd w5.heap.size g h zs.length c zs w6 := by
    refine ⟨by rw [cell_of_cells hbs]; rfl, fun j hj => ?_⟩
    have := (hat.of_block (hE56.blk g hg5 (by simp))) j (.int .i64 zs[j]) (by simp [hj])
    rw [this]; simp [hj]
  have c2 : w6.heap[w.heap.size]? = some (Obj.cells #[Value.slice A l.length cap] 32) := (hE46.blk _ (by omega) (by simp)).trans hb2
  have c3 : w6.heap[w.heap.size + 1]? = some (.cells #[] 57) := (hE46.blk _ (by omega) (by simp)).trans hb3
  have c5 : w6.heap[w.heap.size + 1 + 1]? = some (Obj.cells #[Value.slice (some { block := w.heap.size + 1, off := 0 }) 0 0] 47) := (hE46.blk _ (by omega) (by simp)).trans hb5
  have h0 : LI w.heap.size w6 l [] w6 := by
    refine ⟨[w.heap.size + 1 + 1, w.heap.size + 1], ?_, by simp, ?_, Ext.refl _ _⟩
    · simp only [RepC, RepRow]
      refine ⟨_, [Value.slice (some { block := w.heap.size + 1, off := 0 }) 0 0], [w.heap.size + 1], rfl, rfl, c5, _, [], [w.heap.size + 1], [], rfl, rfl, .inr ⟨w.heap.size + 1, 0, 0, #[], [], [], by simp [flds], rfl, c3, by simp [flds], by simp, by simp [flds, RepRows], ?_⟩, rfl, rfl⟩
      intro j u hj; simp at hj
    · intro b hb
      simp only [List.mem_cons, List.not_mem_nil, or_false] at hb
      rcases hb with rfl | rfl
      · exact ⟨.inl rfl, by omega⟩
      · exact ⟨.inr (.inl rfl), by omega⟩
  let F0 : Nat → Prop := fun b => Fz b ∨ b = w.heap.size
  have hF0 : ∀ b, F0 b → b < w.heap.size + 1 := by rintro b (h | rfl); exact Nat.lt_succ_of_lt (hlt b h); omega
  have hl6 : RepC w6 Fz (.fsl 6 (l.map Ty.z)) (Value.slice A l.length cap) [] := keepW hlt hE6 (by simpa using h1')
  have f2 : RepC w6 F0 (.fptr [.fsl 6 (l.map Ty.z)]) (.pointer (some ⟨w.heap.size, 0, none⟩)) [] := by
    simp only [RepC, RepRow]
    refine ⟨trivial, w.heap.size, 0, [Value.slice A l.length cap], rfl, .inr rfl, ⟨_, [], [], [], rfl, rfl, ?_, rfl, rfl⟩, ?_⟩
    · have := hl6.keep (w' := w6) (Fz' := F0) _ _ _ ⟨fun b hb => ⟨.inl hb, rfl⟩, fun _ _ => rfl⟩
      simpa only [RepC] using this
    · intro j u hj
      rw [cell_of_cells c2]
      simpa using hj
  have hzin : ∀ j : Nat, 0 ≤ (zs[j]?.getD (0 : Int)) ∧ (zs[j]?.getD (0 : Int)).toNat < l.length := by
    intro j
    have h3 := (tysOk_len (tabOk_tys ht)).1
    by_cases hj : j < zs.length
    · have hm : zs[j] ∈ lineL l n := by rw [hzs]; exact List.getElem_mem hj
      obtain ⟨q0, q1, q2, _⟩ := isRec_in (lineL_in ht _ _ (.inr hr) _ hm)
      simp [hj, q0, q2]
    · simp [List.getElem?_eq_none (Nat.le_of_not_lt hj)]; omega
  have hz25 : zs.length ≤ 25 := by have h1 := lineL_len l n; have h2 := tabOk_len ht; rw [hzs] at h1; omega
  let fr : Nat → InT l := fun k => ⟨(((zs.length - 1 - k : Nat) : Int), zs[zs.length - 1 - k]?.getD 0), hzin _⟩
  have hstop := back_stops Fence.wide 8 trivial rfl (by omega) w5.heap.size g h zs.length c zs (fun x : InT l => #[Value.int .i64 x.1.1, Value.int .i64 x.1.2]) fr
    (fun k j hj => by have : zs.length - 1 - k = j := by omega
                      simp only [fr, this]) (by omega) w6 (by omega) (by omega) hRd
  refine wpIn_rangeFunc_ownF rfl (by omega) (gf := 170) (lb := #[.pointer (some ⟨w5.heap.size, 0, none⟩)]) rfl trivial (enters_of Try.func170 (by kernel_rfl) rfl) hstop (fun h k r => k (h r))
    (fun W lo o o' hlo _ _ _ h => Rd_of (World.putObj_heap_other (by omega)) (World.putObj_heap_other (by omega)) h) (Below.refl _ _) (fun _ => rfl)
    (LI w.heap.size w6 l) (fun _ _ _ => False) (LI_own _ _ _) (fun _ _ _ _ _ hs _ _ => hs) h0
    (fun x => { tmps := #[Value.slice A l.length cap, Value.int IntKind.i64 n, Value.pointer (some { block := w.heap.size, off := 0 }),
          undef, Value.slice none 0 0, Value.pointer (some { block := w.heap.size + 1 + 1, off := 0 }), undef, Value.int IntKind.i64 x.1.2,
          Value.slice (some { block := w.heap.size + 1, off := 0 }) 0 0, Value.slice A l.length cap,
          Value.int IntKind.i64 n, Value.slice (some { block := g, off := h }) zs.length c,
          Value.func (Fn.func 170) #[] #[Value.pointer (some { block := w5.heap.size, off := 0 })], Value.int IntKind.i64 x.1.1, Value.int IntKind.i64 x.1.2, undef,
          undef, undef, undef, undef, undef, undef, undef], defers := [] }) ?assign ?body ?done ?stop
  case assign =>
    intro l x W K hK
    gi_wp2
    exact hK
  case stop =>
    rintro D c pre W _ _ h _
    exact h.elim
  case done =>
    rintro D ys W hD rfl hI hK
    obtain ⟨o5, i1, i2, i3, i4⟩ := hI
    have hfl : flds l (upto fr zs.length) = allF l n := by
      rw [flds_all (fun k => rfl)]
      unfold allF
      rw [hzs]
    rw [hfl] at i1
    have hcl := own_cells i1
    simp only [RepC, RepRow] at i1
    obtain ⟨g5, xs5, o', hp, rfl, hg5', y, _, oy, _, rfl, rfl, hu, rfl, rfl⟩ := i1
    simp only [Value.pointer.injEq, Option.some.injEq, Addr.mk.injEq, and_true] at hp
    subst hp
    have hc5 : W.cell? ⟨w.heap.size + 1 + 1, 0, none⟩ = some y := by rw [cell_of_cells hg5']; rfl
    simp only [List.append_nil] at i2 i3
    gi_wp2
    refine ⟨by simp, .inl ⟨_, _, rfl, run_takeDeferred hK, ?_⟩⟩
    have hu' : RepC W noF (.usl 57 3 ((allF l n).map Go.AM.Fd.o)) y oy := by simp only [RepC]; exact hu
    have hW6 := i4.size
    have hEw : Ext w W [] := hE6.trans i4 fun b hb hlt => by simp only [List.mem_cons, List.not_mem_nil, or_false] at hb; omega
    have hEp : Ext w (W.putObj D (.deferred none)) [] := ⟨hEw.os, hEw.tape, hEw.output, by have := hEw.size; simpa using this, fun b hb hn => (World.putObj_heap_other (by omega)).trans (hEw.blk b hb hn)⟩
    have hsame : ∀ b ∈ oy, (W.putObj D (.deferred none)).heap[b]? = W.heap[b]? := fun b hb => World.putObj_heap_other (by
      rintro rfl
      obtain ⟨cur, e, p, hcur⟩ := hcl _ (List.mem_cons_of_mem _ (by simpa using hb))
      rw [hcur] at hK
      cases hK)
    have hk' := hu'.keep (w' := W.putObj D (.deferred none)) (Fz' := noF) _ _ _ ⟨fun b hb => hb.elim, hsame⟩
    refine ⟨_, results_tmp rfl _ _ _, y, oy, [], rfl, hEp, (nfzC _ hk' (by simp only [nfz, Go.AM.Fd.nfz])).toV, ⟨_, _, [], [], rfl, rfl, rfl, _, _, [], [], rfl, rfl, rfl, rfl, rfl⟩, by simpa using (List.nodup_cons.1 i2).2, fun b hb => ?_⟩
    have hb' : b ∈ oy := by simpa using hb
    obtain ⟨q1, q2⟩ := i3 b (List.mem_cons_of_mem _ hb')
    exact ⟨.inr (by omega), by simpa using q2⟩
  case body =>
    rintro lp pre x W ⟨o5, i1, i2, i3, i4⟩ hlen
    have hx := x.2
    have f2W : RepC W F0 (.fptr [.fsl 6 (l.map Ty.z)]) (.pointer (some ⟨w.heap.size, 0, none⟩)) [] :=
      f2.keep _ _ _ ⟨fun b hb => ⟨hb, i4.blk b (by have := hF0 b hb; omega) (by have := hF0 b hb; simp; omega)⟩, fun b hb => by simp at hb⟩
    have hW6 := i4.size
    have hnF : ∀ b ∈ o5, b < W.heap.size ∧ ¬ F0 b := fun b hb => ⟨(i3 b hb).2, fun hf => by have := hF0 b hf; have := (i3 b hb).1; omega⟩
    have hp1 := flds_len (tabOk_tys ht) pre
    have hp2 := fdsAt_len (tabOk_tys ht) x.1.2
    refine wpIn_block ?_
    refine mixt_round (N := 23) (fx := [5]) (c := bCtx W F0 o5 (.pointer (some ⟨w.heap.size + 1 + 1, 0, none⟩))) (noDef_spec (by decide +kernel)) ?_ (FL := [7]) (WL := [2, 5]) (RL := []) (B := []) (fi := [2]) (fs := [⟨(some 17), none, .q (.mov (.t 7))⟩]) (t := bodyT) (by decide +kernel)
      (bSim (l := l) (fs := flds l pre) (k := x.1.2) (F0 := F0) (o5 := o5) (by rfl) (by rfl) (by rfl) (by rfl) (by rfl) f2W i1 i2 hnF (fun b hb => by have := hF0 b hb; omega)) (body_awp (fs := flds l pre) hx.1 hx.2 (by omega)) ?_
    · intro e he
      simp only [bCtx] at he
      split at he
      · rename_i h; simp [h]
      · exact absurd rfl he
    · rintro st a' W' S' h5
      obtain ⟨own, C⟩ := S'.core
      have r5 := C.rep 5
      have hv5 : tmOf a' 5 = .pointer (some ⟨w.heap.size + 1 + 1, 0, none⟩) := S'.size.2 5 _ (by simp [bCtx])
      rw [h5, hv5] at r5
      have r5' := nfzC (Fz' := noF) _ (by simpa only [RepV] using r5) (by simp only [nfz, nfzs, Go.AM.Fd.nfz, Bool.and_self])
      have hE : Ext W W' o5 := C.fr
      refine ⟨⟨hE.size, fun k o hk hc => ?_⟩, fun hR => ?_, own 5, by rw [flds_snoc]; exact r5', C.nd 5, fun b hb => ?_, ?_⟩
      · have hkW := (Array.getElem?_eq_some_iff.1 hk).1
        refine (hE.blk k hkW fun hm => ?_).trans hk
        obtain ⟨cur, e, p, hcur⟩ := own_cells i1 k hm
        rw [hcur] at hk
        cases hk
        simp [Obj.isCells] at hc
      · refine Rd_of (hE.blk _ (by omega) fun hm => ?_) (hE.blk _ (by omega) fun hm => ?_) hR
        · have := (i3 _ hm).1; omega
        · have := (i3 _ hm).1; omega
      · obtain ⟨q1, q2⟩ := C.old b (.inl ⟨5, hb⟩)
        refine ⟨?_, q2⟩
        rcases q1 with q1 | q1
        · exact (i3 b q1).1
        · simp only [bCtx] at q1; exact .inr (.inr (by omega))
      · refine i4.trans hE fun b hb hlt => ?_
        have := (i3 b hb).1
        simp only [List.mem_cons, List.not_mem_nil, or_false]
        omega
end Go.Proofs.AllF

namespace Go.AM
theorem d91 (l : List Ty) (n : Int) (hl : (l.length : Int) ≤ 1048576) (ht : tabOk l = true) (hr : isRec l n = true) : Does Go.Proofs.Try.prog 91 [.fsl 6 (l.map Ty.z), .v (.int .i64 n)] false (.usl 57 3 ((allF l n).map Fd.o)) [.dead, .dead] :=
  ⟨by decide +kernel, Go.Proofs.AllF.c91 l n hl ht hr⟩

theorem d35 (l : List Ty) (n : Int) (hl : (l.length : Int) ≤ 1048576) (hs : ∀ s ∈ l, s.sm) : Does Go.Proofs.Try.prog 35 [.fsl 6 (l.map Ty.z), .v (.int .i64 n)] false (.tup [.usl 57 3 ((if recOk l n = true then allF l n else []).map Fd.o), .v (.bool (recOk l n))]) [.dead, .dead] :=
  d35_of l n hl hs fun ht hr => d91 l n hl ht hr

end Go.AM
namespace Go.AM
set_option linter.unusedVariables false
set_option linter.unusedSimpArgs false
/-- loop.example/g00837/laws.toIntS -/
def m28 : MC :=
  (.seq
   (.reg [⟨(some 2), none, .a (.asg (.nils 3 1))⟩])
   (.seq
    (.reg [⟨(some 5), none, .q (.mov (.t 0))⟩,
      ⟨(some 6), none, .q (.len false (.t 5))⟩,
      ⟨(some 7), none, .a (.mks 3 1 8 [.v (.int .i64 0)] (.t 6) (.t 6))⟩,
      ⟨(some 3), none, .a (.asg (.t 7))⟩])
    (.seq
     (.seq
      (.reg [⟨(some 4), none, .a (.asg (.c (.int .i64 0)))⟩])
      (.block 0
       (.loop [0, 3, 4, 7]
        (.seq
         (.seq
          (.reg [⟨(some 8), none, .q (.mov (.t 4))⟩,
            ⟨(some 9), none, .q (.mov (.t 0))⟩,
            ⟨(some 10), none, .q (.len false (.t 9))⟩,
            ⟨(some 11), none, .q (.bin false .lss (.t 8) (.t 10))⟩])
          (.cond (.t 11)
           .skip
           (.exit 0)))
         (.seq
          (.block 1
           (.reg [⟨(some 14), none, .q (.mov (.t 3))⟩,
             ⟨(some 15), none, .q (.mov (.t 4))⟩,
             ⟨(some 16), none, .q (.mov (.t 0))⟩,
             ⟨(some 17), none, .q (.mov (.t 4))⟩,
             ⟨(some 18), none, .q (.iad 1 (.t 16) (.t 17))⟩,
             ⟨(some 19), none, .q (.load false 1 (.t 18))⟩,
             ⟨(some 20), none, .q (.iad 1 (.t 14) (.t 15))⟩,
             ⟨none, none, .a (.store 1 (.t 20) (.t 19))⟩]))
          (.reg [⟨(some 12), none, .q (.mov (.t 4))⟩,
            ⟨(some 13), none, .q (.bin false .add (.t 12) (.c (.int .i64 1)))⟩,
            ⟨(some 4), none, .a (.asg (.t 13))⟩]))))))
     (.seq
      (.reg [⟨(some 21), none, .q (.mov (.t 3))⟩,
        ⟨(some 2), none, .a (.asg (.t 21))⟩])
      .ret))))

theorem d28 (l : List Int) (hl : (l.length : Int) ≤ 1048576) : Does Go.Proofs.Try.prog 28 [.fsl 1 (l.map iv)] false (.usl 3 1 (l.map iv)) [.dead] := by
  refine does_intro (mc := m28) (N := 22) (rs := [2]) (fx := []) 1 rfl (by decide +kernel) ?_
  simp only [m28, EV, Nat.reduceEqDiff, Nat.reduceBEq, Nat.reduceLT, Nat.reduceLeDiff, Nat.reduceAdd, Nat.reduceSub, reduceIte]
  refine ⟨by omega, by omega, ?_⟩
  refine awp_loop (fun i : Nat => i ≤ l.length) (fun i => stl [(0, .fsl 1 (l.map iv)), (3, .usl 3 1 ((l.take i).map iv ++ List.replicate (l.length - i) [.v (.int .i64 0)])), (4, .v (.int .i64 (i : Int))), (7, .dead)]) (fun i => l.length - i) 0 (Nat.zero_le _) ?_ ?_
  · simp only [EV, Nat.reduceEqDiff, Nat.reduceBEq, Nat.reduceLT, Nat.reduceLeDiff, Nat.reduceAdd, Nat.reduceSub, reduceIte]
    rfl
  · intro i hi
    simp only [EV, Nat.reduceEqDiff, Nat.reduceBEq, Nat.reduceLT, Nat.reduceLeDiff, Nat.reduceAdd, Nat.reduceSub, reduceIte]
    refine cK_cut (fun h => ?_) (fun h => ?_)
    · have h1 : i < l.length := by simpa using h
      have h2 : (i : Int) < (l.length : Int) := by omega
      have h3 : ((l.take i).map iv ++ List.replicate (l.length - i) [AV.v (.int .i64 0)]).length = l.length := by simp; omega
      have ei : iv l[i] = [.v (.int .i64 l[i])] := rfl
      simp only [nth_map h1, ei, h1, h2, h3, EV, Nat.reduceEqDiff, Nat.reduceBEq, Nat.reduceLT, Nat.reduceLeDiff, Nat.reduceAdd, Nat.reduceSub, reduceIte]
      try refine ⟨h1, ?_⟩
      refine ⟨i + 1, by omega, by omega, ?_⟩
      have ef := fill_set (g := iv) (l := l) (z := [AV.v (.int .i64 0)]) h1
      rw [fill_nth h1, w64 _ (by omega)]
      rw [← ef]
      rfl
    · have h1 : i = l.length := by have : ¬ (i : Int) < l.length := by simpa using h
                                   omega
      subst h1
      simp only [EV, Nat.reduceEqDiff, Nat.reduceBEq, Nat.reduceLT, Nat.reduceLeDiff, Nat.reduceAdd, Nat.reduceSub, reduceIte]
      simp only [Nat.sub_self, List.replicate_zero, iv_nfz, EV, Nat.reduceEqDiff, Nat.reduceBEq, Nat.reduceLT, Nat.reduceLeDiff, Nat.reduceAdd, Nat.reduceSub, reduceIte, evRE, retVC, cellV', evR, nfz, nfzs, nfzss, List.contains_nil, List.contains_cons, Bool.or_false, or_true]

/-- loop.example/g00837/laws.eqIntS -/
def m30 : MC :=
  (.seq
   (.reg [⟨(some 4), none, .a (.asg (.c (.bool false)))⟩])
   (.seq
    (.seq
     (.reg [⟨(some 6), none, .q (.mov (.t 0))⟩,
       ⟨(some 7), none, .q (.len false (.t 6))⟩,
       ⟨(some 8), none, .q (.mov (.t 1))⟩,
       ⟨(some 9), none, .q (.len false (.t 8))⟩,
       ⟨(some 10), none, .q (.bin false .neq (.t 7) (.t 9))⟩])
     (.cond (.t 10)
      (.seq
       (.reg [⟨(some 4), none, .a (.asg (.c (.bool false)))⟩])
       .ret)
      .skip))
    (.seq
     (.seq
      (.reg [⟨(some 5), none, .a (.asg (.c (.int .i64 0)))⟩])
      (.block 0
       (.loop [0, 1, 5]
        (.seq
         (.seq
          (.reg [⟨(some 11), none, .q (.mov (.t 5))⟩,
            ⟨(some 12), none, .q (.mov (.t 0))⟩,
            ⟨(some 13), none, .q (.len false (.t 12))⟩,
            ⟨(some 14), none, .q (.bin false .lss (.t 11) (.t 13))⟩])
          (.cond (.t 14)
           .skip
           (.exit 0)))
         (.seq
          (.block 1
           (.seq
            (.dreg [⟨(some 17), none, .q (.mov (.t 0))⟩,
              ⟨(some 18), none, .q (.mov (.t 5))⟩,
              ⟨(some 19), none, .q (.iad 1 (.t 17) (.t 18))⟩,
              ⟨(some 20), none, .q (.load false 1 (.t 19))⟩,
              ⟨(some 21), none, .q (.mov (.t 1))⟩,
              ⟨(some 22), none, .q (.mov (.t 5))⟩,
              ⟨(some 23), none, .q (.iad 1 (.t 21) (.t 22))⟩,
              ⟨(some 24), none, .q (.load false 1 (.t 23))⟩,
              ⟨(some 25), none, .q (.bin false .neq (.t 20) (.t 24))⟩])
            (.cond (.t 25)
             (.seq
              (.reg [⟨(some 4), none, .a (.asg (.c (.bool false)))⟩])
              .ret)
             .skip)))
          (.reg [⟨(some 15), none, .q (.mov (.t 5))⟩,
            ⟨(some 16), none, .q (.bin false .add (.t 15) (.c (.int .i64 1)))⟩,
            ⟨(some 5), none, .a (.asg (.t 16))⟩]))))))
     (.seq
      (.reg [⟨(some 4), none, .a (.asg (.c (.bool true)))⟩])
      .ret))))

theorem d30 (l : List Int) (hl : (l.length : Int) ≤ 1048576) : Does Go.Proofs.Try.prog 30 [.fsl 1 (l.map iv), .fsl 1 (l.map iv)] false (.v (.bool true)) [.dead, .dead] := by
  refine does_intro (mc := m30) (N := 26) (rs := [4]) (fx := []) 2 rfl (by decide +kernel) ?_
  simp only [m30, EV, Nat.reduceEqDiff, Nat.reduceBEq, Nat.reduceLT, Nat.reduceLeDiff, Nat.reduceAdd, Nat.reduceSub, reduceIte]
  refine awp_loop (fun i : Nat => i ≤ l.length) (fun i => stl [(0, .fsl 1 (l.map iv)), (1, .fsl 1 (l.map iv)), (5, .v (.int .i64 (i : Int)))]) (fun i => l.length - i) 0 (Nat.zero_le _) ?_ ?_
  · simp only [EV, Nat.reduceEqDiff, Nat.reduceBEq, Nat.reduceLT, Nat.reduceLeDiff, Nat.reduceAdd, Nat.reduceSub, reduceIte]
    rfl
  · intro i hi
    simp only [EV, Nat.reduceEqDiff, Nat.reduceBEq, Nat.reduceLT, Nat.reduceLeDiff, Nat.reduceAdd, Nat.reduceSub, reduceIte]
    refine cK_cut (fun h => ?_) (fun h => ?_)
    · have h1 : i < l.length := by simpa using h
      have h2 : (i : Int) < (l.length : Int) := by omega
      have ei : iv l[i] = [.v (.int .i64 l[i])] := rfl
      simp only [nth_map h1, ei, h2, EV, Nat.reduceEqDiff, Nat.reduceBEq, Nat.reduceLT, Nat.reduceLeDiff, Nat.reduceAdd, Nat.reduceSub, reduceIte]
      rw [w64 _ (by omega)]
      exact ⟨i + 1, by omega, by omega, rfl⟩
    · have h1 : i = l.length := by have : ¬ (i : Int) < l.length := by simpa using h
                                   omega
      simp only [EV, Nat.reduceEqDiff, Nat.reduceBEq, Nat.reduceLT, Nat.reduceLeDiff, Nat.reduceAdd, Nat.reduceSub, reduceIte]
      simp only [EV, Nat.reduceEqDiff, Nat.reduceBEq, Nat.reduceLT, Nat.reduceLeDiff, Nat.reduceAdd, Nat.reduceSub, reduceIte, evRE, retVC, cellV', evR, nfz, nfzs, nfzss, List.contains_nil, List.contains_cons, Bool.or_false, or_true]

def upI : Nat → Int → List Int
  | 0, _ => []
  | n + 1, k => k :: upI n (k + 1)

theorem upI_len : ∀ (n : Nat) (k : Int), (upI n k).length = n
  | 0, _ => rfl
  | n + 1, k => by simp [upI, upI_len n]

/-- loop.example/g00837/laws.markIntS -/
def m32 : MC :=
  (.seq
   (.reg [⟨(some 4), none, .a (.asg (.c (.int .i64 0)))⟩])
   (.seq
    (.seq
     (.reg [⟨(some 5), none, .a (.asg (.c (.int .i64 0)))⟩])
     (.block 0
      (.loop [0, 1, 5]
       (.seq
        (.seq
         (.reg [⟨(some 6), none, .q (.mov (.t 5))⟩,
           ⟨(some 7), none, .q (.mov (.t 0))⟩,
           ⟨(some 8), none, .q (.len false (.t 7))⟩,
           ⟨(some 9), none, .q (.bin false .lss (.t 6) (.t 8))⟩])
         (.cond (.t 9)
          .skip
          (.exit 0)))
        (.seq
         (.block 1
          (.seq
           (.reg [⟨(some 12), none, .q (.mov (.t 0))⟩,
             ⟨(some 13), none, .q (.mov (.t 5))⟩,
             ⟨(some 14), none, .q (.mov (.t 1))⟩,
             ⟨(some 15), none, .q (.iad 1 (.t 12) (.t 13))⟩,
             ⟨none, none, .a (.store 1 (.t 15) (.t 14))⟩])
           (.reg [⟨(some 16), none, .q (.mov (.t 1))⟩,
             ⟨(some 17), none, .q (.bin false .add (.t 16) (.c (.int .i64 1)))⟩,
             ⟨(some 1), none, .a (.asg (.t 17))⟩])))
         (.reg [⟨(some 10), none, .q (.mov (.t 5))⟩,
           ⟨(some 11), none, .q (.bin false .add (.t 10) (.c (.int .i64 1)))⟩,
           ⟨(some 5), none, .a (.asg (.t 11))⟩]))))))
    (.seq
     (.reg [⟨(some 18), none, .q (.mov (.t 1))⟩,
       ⟨(some 4), none, .a (.asg (.t 18))⟩])
     .ret)))

theorem d32 (l : List Int) (k : Int) (h0 : 0 ≤ k) (h1 : k + l.length ≤ 4611686018427387904) :
    Does Go.Proofs.Try.prog 32 [.usl 3 1 (l.map iv), .v (.int .i64 k)] false (.v (.int .i64 (k + l.length))) [.usl 3 1 ((upI l.length k).map iv), .dead] := by
  refine does_intro (mc := m32) (N := 19) (rs := [4]) (fx := [0]) 2 rfl (by decide +kernel) ?_
  simp only [m32, EV, Nat.reduceEqDiff, Nat.reduceBEq, Nat.reduceLT, Nat.reduceLeDiff, Nat.reduceAdd, Nat.reduceSub, reduceIte]
  refine awp_loop (fun p : List Int × List Int × Int => p.1 ++ upI p.2.1.length p.2.2 = upI l.length k ∧ p.2.2 + p.2.1.length = k + l.length ∧ 0 ≤ p.2.2 ∧ p.1.length + p.2.1.length = l.length)
    (fun p => stl [(0, .usl 3 1 ((p.1 ++ p.2.1).map iv)), (1, .v (.int .i64 p.2.2)), (5, .v (.int .i64 (p.1.length : Int)))]) (fun p => p.2.1.length) ([], l, k) ⟨rfl, rfl, h0, by simp⟩ ?_ ?_
  · simp only [EV, Nat.reduceEqDiff, Nat.reduceBEq, Nat.reduceLT, Nat.reduceLeDiff, Nat.reduceAdd, Nat.reduceSub, reduceIte]
    rfl
  · rintro ⟨pre, post, n⟩ ⟨p0, p1, p2, p3⟩
    cases post with
    | nil =>
      simp only [EV, Nat.reduceEqDiff, Nat.reduceBEq, Nat.reduceLT, Nat.reduceLeDiff, Nat.reduceAdd, Nat.reduceSub, reduceIte]
      refine cK_cut (fun h => ?_) (fun h => ?_)
      · simp at h
      · simp only [EV, Nat.reduceEqDiff, Nat.reduceBEq, Nat.reduceLT, Nat.reduceLeDiff, Nat.reduceAdd, Nat.reduceSub, reduceIte]
        simp only [List.append_nil, upI, List.length_nil] at p0 p1
        have e : n = k + l.length := by simp at p1; omega
        simp only [p0, ← e, EV, Nat.reduceEqDiff, Nat.reduceBEq, Nat.reduceLT, Nat.reduceLeDiff, Nat.reduceAdd, Nat.reduceSub, reduceIte, evRE, retVC, cellV', evR, nfz, nfzs, nfzss, List.contains_nil, List.contains_cons, Bool.or_false, or_true]
    | cons f post =>
      simp only [EV, Nat.reduceEqDiff, Nat.reduceBEq, Nat.reduceLT, Nat.reduceLeDiff, Nat.reduceAdd, Nat.reduceSub, reduceIte]
      refine cK_cut (fun h => ?_) (fun h => ?_)
      rotate_left
      · simp at h; omega
      simp only at p0 p1 p2 p3
      simp only [List.length_cons] at p1 p3
      have h3 : (pre.length : Int) < ((pre ++ f :: post).length : Int) := by simp; omega
      have h4 : pre.length < ((pre ++ f :: post).map iv).length := by simp
      have e1 : nth ((pre ++ f :: post).map iv) pre.length = [.v (.int .i64 f)] := nth_mid
      have e2 := set_mid (g := iv) (pre := pre) (post := post) (t := f) n
      generalize hR : (pre ++ f :: post).map iv = R at h4 e1 e2 ⊢
      have hRl : R.length = l.length := by rw [← hR]; simp; omega
      have h5 : (pre.length : Int) < (R.length : Int) := by omega
      have w0 := w64 ((pre.length : Int) + 1) (by omega)
      have w1 := w64 (n + 1) (by omega)
      simp only [h4, h5, e1, nth_set h4, List.getElem?_set_self h4, modify_set, w0, w1, EV, Nat.reduceEqDiff, Nat.reduceBEq, Nat.reduceLT, Nat.reduceLeDiff, Nat.reduceAdd, Nat.reduceSub, reduceIte]
      refine ⟨(pre ++ [n], post, n + 1), ⟨?_, ?_, ?_, ?_⟩, ?_, ?_⟩
      · rw [← p0]; simp [upI]
      · simp only; omega
      · simp only; omega
      · simp only [List.length_append, List.length_cons, List.length_nil]; omega
      · simp only; omega
      · simp only [iv] at e2
        simp only [← e2, List.length_append, List.length_cons, List.length_nil]
        rfl

/-- loop.example/g00837/laws.heldIntS -/
def m33 : MC :=
  (.seq
   (.reg [⟨(some 4), none, .a (.asg (.c (.int .i64 0)))⟩])
   (.seq
    (.seq
     (.reg [⟨(some 5), none, .a (.asg (.c (.int .i64 0)))⟩])
     (.block 0
      (.loop [0, 1, 5]
       (.seq
        (.seq
         (.reg [⟨(some 6), none, .q (.mov (.t 5))⟩,
           ⟨(some 7), none, .q (.mov (.t 0))⟩,
           ⟨(some 8), none, .q (.len false (.t 7))⟩,
           ⟨(some 9), none, .q (.bin false .lss (.t 6) (.t 8))⟩])
         (.cond (.t 9)
          .skip
          (.exit 0)))
        (.seq
         (.block 1
          (.seq
           (.seq
            (.reg [⟨(some 12), none, .q (.mov (.t 0))⟩,
              ⟨(some 13), none, .q (.mov (.t 5))⟩,
              ⟨(some 14), none, .q (.iad 1 (.t 12) (.t 13))⟩,
              ⟨(some 15), none, .q (.load false 1 (.t 14))⟩,
              ⟨(some 16), none, .q (.mov (.t 1))⟩,
              ⟨(some 17), none, .q (.bin false .neq (.t 15) (.t 16))⟩])
            (.cond (.t 17)
             (.seq
              (.reg [⟨(some 4), none, .a (.asg (.c (.int .i64 (-1))))⟩])
              .ret)
             .skip))
           (.reg [⟨(some 18), none, .q (.mov (.t 1))⟩,
             ⟨(some 19), none, .q (.bin false .add (.t 18) (.c (.int .i64 1)))⟩,
             ⟨(some 1), none, .a (.asg (.t 19))⟩])))
         (.reg [⟨(some 10), none, .q (.mov (.t 5))⟩,
           ⟨(some 11), none, .q (.bin false .add (.t 10) (.c (.int .i64 1)))⟩,
           ⟨(some 5), none, .a (.asg (.t 11))⟩]))))))
    (.seq
     (.reg [⟨(some 20), none, .q (.mov (.t 1))⟩,
       ⟨(some 4), none, .a (.asg (.t 20))⟩])
     .ret)))

theorem d33 (m : Nat) (k : Int) (h0 : 0 ≤ k) (h1 : k + m ≤ 4611686018427387904) :
    Does Go.Proofs.Try.prog 33 [.fsl 1 ((upI m k).map iv), .v (.int .i64 k)] false (.v (.int .i64 (k + m))) [.dead, .dead] := by
  have hl : (upI m k).length = m := upI_len m k
  generalize hM0 : upI m k = M at hl ⊢
  refine does_intro (mc := m33) (N := 21) (rs := [4]) (fx := []) 2 rfl (by decide +kernel) ?_
  simp only [m33, EV, Nat.reduceEqDiff, Nat.reduceBEq, Nat.reduceLT, Nat.reduceLeDiff, Nat.reduceAdd, Nat.reduceSub, reduceIte]
  refine awp_loop (fun p : List Int × Nat × Int => M = p.1 ++ upI p.2.1 p.2.2 ∧ p.2.2 + p.2.1 = k + m ∧ 0 ≤ p.2.2 ∧ p.1.length + p.2.1 = m)
    (fun p => stl [(0, .fsl 1 (M.map iv)), (1, .v (.int .i64 p.2.2)), (5, .v (.int .i64 (p.1.length : Int)))]) (fun p => p.2.1) ([], m, k) ⟨by rw [← hM0]; rfl, rfl, h0, by simp⟩ ?_ ?_
  · simp only [EV, Nat.reduceEqDiff, Nat.reduceBEq, Nat.reduceLT, Nat.reduceLeDiff, Nat.reduceAdd, Nat.reduceSub, reduceIte]
    rfl
  · rintro ⟨pre, post, n⟩ ⟨p0, p1, p2, p3⟩
    simp only at p0 p1 p2 p3
    cases post with
    | zero =>
      simp only [EV, Nat.reduceEqDiff, Nat.reduceBEq, Nat.reduceLT, Nat.reduceLeDiff, Nat.reduceAdd, Nat.reduceSub, reduceIte]
      refine cK_cut (fun h => ?_) (fun h => ?_)
      · simp at h p3; omega
      · simp only [EV, Nat.reduceEqDiff, Nat.reduceBEq, Nat.reduceLT, Nat.reduceLeDiff, Nat.reduceAdd, Nat.reduceSub, reduceIte]
        have e : n = k + m := by simp at p1; omega
        simp only [← e, EV, Nat.reduceEqDiff, Nat.reduceBEq, Nat.reduceLT, Nat.reduceLeDiff, Nat.reduceAdd, Nat.reduceSub, reduceIte, evRE, retVC, cellV', evR, nfz, nfzs, nfzss, List.contains_nil, List.contains_cons, Bool.or_false, or_true]
    | succ post =>
      simp only [EV, Nat.reduceEqDiff, Nat.reduceBEq, Nat.reduceLT, Nat.reduceLeDiff, Nat.reduceAdd, Nat.reduceSub, reduceIte]
      refine cK_cut (fun h => ?_) (fun h => ?_)
      rotate_left
      · simp at h; omega
      have h5 : (pre.length : Int) < (M.length : Int) := by omega
      have e1 : nth (M.map iv) pre.length = [.v (.int .i64 n)] := by rw [p0]; exact nth_mid
      have w0 := w64 ((pre.length : Int) + 1) (by omega)
      have w1 := w64 (n + 1) (by omega)
      simp only [h5, e1, w0, w1, bne_self_eq_false, EV, Nat.reduceEqDiff, Nat.reduceBEq, Nat.reduceLT, Nat.reduceLeDiff, Nat.reduceAdd, Nat.reduceSub, reduceIte]
      refine ⟨(pre ++ [n], post, n + 1), ⟨?_, ?_, ?_, ?_⟩, ?_, ?_⟩
      · rw [p0]; simp [upI]
      · simp only; omega
      · simp only; omega
      · simp only [List.length_append, List.length_cons, List.length_nil]; omega
      · simp only; omega
      · simp only [List.length_append, List.length_cons, List.length_nil]
        rfl

end Go.AM
namespace Go.AM
set_option linter.unusedVariables false
set_option linter.unusedSimpArgs false
/-- loop.example/g00837/laws.markText -/
def m89 : MC :=
  (.seq
   (.reg [⟨(some 2), none, .a (.asg (.c (.string ({ data := #[] }))))⟩])
   (.seq
    (.seq
     (.reg [⟨(some 4), none, .q (.mov (.t 0))⟩,
       ⟨(some 5), none, .q (.bin false .leq (.t 4) (.c (.int .i64 0)))⟩])
     (.cond (.t 5)
      (.seq
       (.reg [⟨(some 2), none, .a (.asg (.c (.string ({ data := #[109, 48] }))))⟩])
       .ret)
      .skip))
    (.seq
     (.reg [⟨(some 3), none, .a (.asg (.c (.string ({ data := #[] }))))⟩])
     (.seq
      (.block 0
       (.loop [0, 3]
        (.seq
         (.seq
          (.reg [⟨(some 6), none, .q (.mov (.t 0))⟩,
            ⟨(some 7), none, .q (.bin false .gtr (.t 6) (.c (.int .i64 0)))⟩])
          (.cond (.t 7)
           .skip
           (.exit 0)))
         (.block 1
          (.seq
           (.reg [⟨(some 8), none, .q (.mov (.t 0))⟩,
             ⟨(some 9), none, .q (.bin false .rem (.t 8) (.c (.int .i64 10)))⟩,
             ⟨(some 10), none, .q (.bin false .add (.c (.int .i64 48)) (.t 9))⟩,
             ⟨(some 11), none, .q (.conv .u8 (.t 10))⟩,
             ⟨(some 12), none, .a (.bsl 5 1 [.t 11])⟩,
             ⟨(some 13), none, .q (.b2s (.t 12))⟩,
             ⟨(some 14), none, .q (.mov (.t 3))⟩,
             ⟨(some 15), none, .q (.bin false .add (.t 13) (.t 14))⟩,
             ⟨(some 3), none, .a (.asg (.t 15))⟩])
           (.reg [⟨(some 16), none, .q (.mov (.t 0))⟩,
             ⟨(some 17), none, .q (.bin false .quo (.t 16) (.c (.int .i64 10)))⟩,
             ⟨(some 0), none, .a (.asg (.t 17))⟩]))))))
      (.seq
       (.reg [⟨(some 18), none, .q (.mov (.t 3))⟩,
         ⟨(some 19), none, .q (.bin false .add (.c (.string ({ data := #[109] }))) (.t 18))⟩,
         ⟨(some 2), none, .a (.asg (.t 19))⟩])
       .ret)))))

def mtL (k : Int) (s : ByteArray) : ByteArray := if h : 0 < k then mtL (k.tdiv 10) (strA [IntKind.u8.wrap (48 + k.tmod 10)] ++ s) else s
  termination_by k.toNat
  decreasing_by
  have : k.tdiv 10 = k / 10 := Int.tdiv_eq_ediv_of_nonneg (by omega)
  rw [this]; omega

def mt (k : Int) : ByteArray := if k ≤ 0 then ⟨#[109, 48]⟩ else ⟨#[109]⟩ ++ mtL k ⟨#[]⟩

theorem d89 (k : Int) (h0 : -9223372036854775808 ≤ k) (h1 : k ≤ 4611686018427387904) : Does Go.Proofs.Try.prog 89 [.v (.int .i64 k)] false (.v (.string (mt k))) [.dead] := by
  refine does_intro (mc := m89) (N := 20) (rs := [2]) (fx := []) 1 rfl (by decide +kernel) ?_
  simp only [m89, EV, Nat.reduceEqDiff, Nat.reduceBEq, Nat.reduceLT, Nat.reduceLeDiff, Nat.reduceAdd, Nat.reduceSub, reduceIte]
  refine cK_cut (fun h => ?_) (fun h => ?_)
  · have h2 : k ≤ 0 := by simpa using h
    simp only [EV, Nat.reduceEqDiff, Nat.reduceBEq, Nat.reduceLT, Nat.reduceLeDiff, Nat.reduceAdd, Nat.reduceSub, reduceIte]
    simp only [mt, h2, EV, Nat.reduceEqDiff, Nat.reduceBEq, Nat.reduceLT, Nat.reduceLeDiff, Nat.reduceAdd, Nat.reduceSub, reduceIte, evRE, retVC, cellV', evR, nfz, nfzs, nfzss, List.contains_nil, List.contains_cons, Bool.or_false, or_true]
  · have h2 : ¬ k ≤ 0 := by simpa using h
    simp only [EV, Nat.reduceEqDiff, Nat.reduceBEq, Nat.reduceLT, Nat.reduceLeDiff, Nat.reduceAdd, Nat.reduceSub, reduceIte]
    refine awp_loop (fun p : Int × ByteArray => 0 ≤ p.1 ∧ p.1 ≤ k ∧ (p.2.size : Int) + p.1 ≤ k ∧ mtL p.1 p.2 = mtL k ⟨#[]⟩) (fun p => stl [(0, .v (.int .i64 p.1)), (3, .v (.string p.2))]) (fun p => p.1.toNat) (k, ⟨#[]⟩) ⟨by omega, by omega, by show (((⟨#[]⟩ : ByteArray).size : Nat) : Int) + k ≤ k; simp [ByteArray.size], rfl⟩ ?_ ?_
    · simp only [EV, Nat.reduceEqDiff, Nat.reduceBEq, Nat.reduceLT, Nat.reduceLeDiff, Nat.reduceAdd, Nat.reduceSub, reduceIte]
    · rintro ⟨n, s⟩ ⟨p0, p1, p2, p3⟩
      simp only [EV, Nat.reduceEqDiff, Nat.reduceBEq, Nat.reduceLT, Nat.reduceLeDiff, Nat.reduceAdd, Nat.reduceSub, reduceIte]
      refine cK_cut (fun h => ?_) (fun h => ?_)
      · have h3 : 0 < n := by simpa using h
        have ed : n.tdiv 10 = n / 10 := Int.tdiv_eq_ediv_of_nonneg (by omega)
        have em : n.tmod 10 = n % 10 := Int.tmod_eq_emod_of_nonneg (by omega)
        have w1 : IntKind.i64.wrap (48 + n.tmod 10) = 48 + n.tmod 10 := w64 _ (by omega)
        have w2 : IntKind.i64.wrap (n.tdiv 10) = n.tdiv 10 := w64 _ (by omega)
        simp only [w1, w2, EV, Nat.reduceEqDiff, Nat.reduceBEq, Nat.reduceLT, Nat.reduceLeDiff, Nat.reduceAdd, Nat.reduceSub, reduceIte]
        simp only at p0 p1 p2 p3
        have hs : (strA [IntKind.u8.wrap (48 + n.tmod 10)]).size = 1 := rfl
        refine ⟨by decide, ?_, by decide, (n.tdiv 10, strA [IntKind.u8.wrap (48 + n.tmod 10)] ++ s), ⟨?_, ?_, ?_, ?_⟩, ?_, rfl⟩
        · rw [hs]; omega
        · show 0 ≤ n.tdiv 10; omega
        · show n.tdiv 10 ≤ k; omega
        · show (((strA [IntKind.u8.wrap (48 + n.tmod 10)] ++ s).size : Nat) : Int) + n.tdiv 10 ≤ k
          rw [ByteArray.size_append, hs]; omega
        · show mtL (n.tdiv 10) (strA [IntKind.u8.wrap (48 + n.tmod 10)] ++ s) = _
          rw [← p3, mtL.eq_def n, dif_pos h3]
        · show (n.tdiv 10).toNat < n.toNat; omega
      · have h3 : ¬ 0 < n := by simpa using h
        simp only at p0 p1 p2 p3
        have e : mtL k ⟨#[]⟩ = s := by rw [← p3, mtL.eq_def, dif_neg h3]
        have hs : ((⟨#[109]⟩ : ByteArray).size : Nat) = 1 := rfl
        simp only [EV, Nat.reduceEqDiff, Nat.reduceBEq, Nat.reduceLT, Nat.reduceLeDiff, Nat.reduceAdd, Nat.reduceSub, reduceIte]
        refine ⟨?_, ?_⟩
        · rw [hs]; omega
        · simp only [mt, h2, e, EV, Nat.reduceEqDiff, Nat.reduceBEq, Nat.reduceLT, Nat.reduceLeDiff, Nat.reduceAdd, Nat.reduceSub, reduceIte, evRE, retVC, cellV', evR, nfz, nfzs, nfzss, List.contains_nil, List.contains_cons, Bool.or_false, or_true]

def mkFd (k : Int) : Fd := ⟨mt (k), k + 1, k + 2⟩

def mkFdS : List Fd → Int → List Fd
  | [], _ => []
  | f :: fs, k => mkFd k :: mkFdS fs (k + 3)

theorem mkFdS_len : ∀ (l : List Fd) (k : Int), (mkFdS l k).length = l.length
  | [], _ => rfl
  | f :: fs, k => by simp [mkFdS, mkFdS_len fs]

/-- loop.example/g00837/laws.markFieldS -/
def m37 : MC :=
  (.seq
   (.reg [⟨(some 4), none, .a (.asg (.c (.int .i64 0)))⟩])
   (.seq
    (.seq
     (.reg [⟨(some 5), none, .a (.asg (.c (.int .i64 0)))⟩])
     (.block 0
      (.loop [0, 1, 5]
       (.seq
        (.seq
         (.reg [⟨(some 6), none, .q (.mov (.t 5))⟩,
           ⟨(some 7), none, .q (.mov (.t 0))⟩,
           ⟨(some 8), none, .q (.len false (.t 7))⟩,
           ⟨(some 9), none, .q (.bin false .lss (.t 6) (.t 8))⟩])
         (.cond (.t 9)
          .skip
          (.exit 0)))
        (.seq
         (.block 1
          (.seq
           (.reg [⟨(some 12), none, .q (.mov (.t 0))⟩,
             ⟨(some 13), none, .q (.mov (.t 5))⟩,
             ⟨(some 14), none, .q (.mov (.t 1))⟩,
             ⟨(some 15), none, .a (.call (.fn 89) false [.lend (.t 14)])⟩,
             ⟨(some 16), none, .q (.iad 3 (.t 12) (.t 13))⟩,
             ⟨(some 17), none, .q (.fad 0 (.t 16))⟩,
             ⟨none, none, .a (.store 1 (.t 17) (.t 15))⟩])
           (.seq
            (.reg [⟨(some 18), none, .q (.mov (.t 1))⟩,
              ⟨(some 19), none, .q (.bin false .add (.t 18) (.c (.int .i64 1)))⟩,
              ⟨(some 1), none, .a (.asg (.t 19))⟩])
            (.seq
             (.reg [⟨(some 20), none, .q (.mov (.t 0))⟩,
               ⟨(some 21), none, .q (.mov (.t 5))⟩,
               ⟨(some 22), none, .q (.mov (.t 1))⟩,
               ⟨(some 23), none, .q (.iad 3 (.t 20) (.t 21))⟩,
               ⟨(some 24), none, .q (.fad 1 (.t 23))⟩,
               ⟨none, none, .a (.store 1 (.t 24) (.t 22))⟩])
             (.seq
              (.reg [⟨(some 25), none, .q (.mov (.t 1))⟩,
                ⟨(some 26), none, .q (.bin false .add (.t 25) (.c (.int .i64 1)))⟩,
                ⟨(some 1), none, .a (.asg (.t 26))⟩])
              (.seq
               (.reg [⟨(some 27), none, .q (.mov (.t 0))⟩,
                 ⟨(some 28), none, .q (.mov (.t 5))⟩,
                 ⟨(some 29), none, .q (.mov (.t 1))⟩,
                 ⟨(some 30), none, .q (.iad 3 (.t 27) (.t 28))⟩,
                 ⟨(some 31), none, .q (.fad 2 (.t 30))⟩,
                 ⟨none, none, .a (.store 1 (.t 31) (.t 29))⟩])
               (.reg [⟨(some 32), none, .q (.mov (.t 1))⟩,
                 ⟨(some 33), none, .q (.bin false .add (.t 32) (.c (.int .i64 1)))⟩,
                 ⟨(some 1), none, .a (.asg (.t 33))⟩])))))))
         (.reg [⟨(some 10), none, .q (.mov (.t 5))⟩,
           ⟨(some 11), none, .q (.bin false .add (.t 10) (.c (.int .i64 1)))⟩,
           ⟨(some 5), none, .a (.asg (.t 11))⟩]))))))
    (.seq
     (.reg [⟨(some 34), none, .q (.mov (.t 1))⟩,
       ⟨(some 4), none, .a (.asg (.t 34))⟩])
     .ret)))

theorem d37 (l : List Fd) (k : Int) (h0 : 0 ≤ k) (h1 : k + 3 * l.length ≤ 4611686018427387904) :
    Does Go.Proofs.Try.prog 37 [.usl 57 3 (l.map Fd.o), .v (.int .i64 k)] false (.v (.int .i64 (k + 3 * l.length))) [.usl 57 3 ((mkFdS l k).map Fd.o), .dead] := by
  refine does_intro (mc := m37) (N := 35) (rs := [4]) (fx := [0]) 2 rfl (by decide +kernel) ?_
  simp only [m37, EV, Nat.reduceEqDiff, Nat.reduceBEq, Nat.reduceLT, Nat.reduceLeDiff, Nat.reduceAdd, Nat.reduceSub, reduceIte]
  refine awp_loop (fun p : List Fd × List Fd × Int => p.1 ++ mkFdS p.2.1 p.2.2 = mkFdS l k ∧ p.2.2 + 3 * p.2.1.length = k + 3 * l.length ∧ 0 ≤ p.2.2 ∧ p.1.length + p.2.1.length = l.length)
    (fun p => stl [(0, .usl 57 3 ((p.1 ++ p.2.1).map Fd.o)), (1, .v (.int .i64 p.2.2)), (5, .v (.int .i64 (p.1.length : Int)))]) (fun p => p.2.1.length) ([], l, k) ⟨rfl, rfl, h0, by simp⟩ ?_ ?_
  · simp only [EV, Nat.reduceEqDiff, Nat.reduceBEq, Nat.reduceLT, Nat.reduceLeDiff, Nat.reduceAdd, Nat.reduceSub, reduceIte]
    rfl
  · rintro ⟨pre, post, n⟩ ⟨p0, p1, p2, p3⟩
    cases post with
    | nil =>
      simp only [EV, Nat.reduceEqDiff, Nat.reduceBEq, Nat.reduceLT, Nat.reduceLeDiff, Nat.reduceAdd, Nat.reduceSub, reduceIte]
      refine cK_cut (fun h => ?_) (fun h => ?_)
      · simp at h
      · simp only [EV, Nat.reduceEqDiff, Nat.reduceBEq, Nat.reduceLT, Nat.reduceLeDiff, Nat.reduceAdd, Nat.reduceSub, reduceIte]
        simp only [List.append_nil, mkFdS, List.length_nil] at p0 p1
        have e : n = k + 3 * l.length := by simp at p1; omega
        simp only [p0, ← e, EV, Nat.reduceEqDiff, Nat.reduceBEq, Nat.reduceLT, Nat.reduceLeDiff, Nat.reduceAdd, Nat.reduceSub, reduceIte, evRE, retVC, cellV', evR, nfz, nfzs, nfzss, List.contains_nil, List.contains_cons, Bool.or_false, or_true]
    | cons f post =>
      simp only [EV, Nat.reduceEqDiff, Nat.reduceBEq, Nat.reduceLT, Nat.reduceLeDiff, Nat.reduceAdd, Nat.reduceSub, reduceIte]
      refine cK_cut (fun h => ?_) (fun h => ?_)
      rotate_left
      · simp at h; omega
      simp only at p0 p1 p2 p3
      simp only [List.length_cons] at p1 p3
      have h3 : (pre.length : Int) < ((pre ++ f :: post).length : Int) := by simp; omega
      have h4 : pre.length < ((pre ++ f :: post).map Fd.o).length := by simp
      have e1 : nth ((pre ++ f :: post).map Fd.o) pre.length = f.o := nth_mid
      generalize hR : (pre ++ f :: post).map Fd.o = R at h4 e1 ⊢
      have hRl : R.length = l.length := by rw [← hR]; simp; omega
      have h5 : (pre.length : Int) < (R.length : Int) := by omega
      have w0 := w64 ((pre.length : Int) + 1) (by omega)
      have w1 := w64 (n + 1) (by omega)
      have w2 := w64 (n + 1 + 1) (by omega)
      have w3 := w64 (n + 1 + 1 + 1) (by omega)
      simp only [h4, h5, e1, nth_set h4, List.getElem?_set_self h4, modify_set, Fd.o, w1, w2, w3, w0, EV, Nat.reduceEqDiff, Nat.reduceBEq, Nat.reduceLT, Nat.reduceLeDiff, Nat.reduceAdd, Nat.reduceSub, reduceIte]
      refine callK_i (d89 (n) (by omega) (by omega)) ?_
      simp only [h4, h5, e1, nth_set h4, List.getElem?_set_self h4, modify_set, Fd.o, w1, w2, w3, w0, EV, Nat.reduceEqDiff, Nat.reduceBEq, Nat.reduceLT, Nat.reduceLeDiff, Nat.reduceAdd, Nat.reduceSub, reduceIte]
      refine ⟨(pre ++ [mkFd n], post, n + 3), ⟨?_, ?_, ?_, ?_⟩, ?_, ?_⟩
      · rw [← p0]; simp [mkFdS]
      · simp only; omega
      · simp only; omega
      · simp only [List.length_append, List.length_cons, List.length_nil]; omega
      · simp only; omega
      · have e2 := set_mid (g := Fd.o) (pre := pre) (post := post) (t := f) (mkFd n)
        rw [hR] at e2
        simp only [Fd.o, mkFd] at e2
        simp only [← e2, mkFd, List.length_append, List.length_cons, List.length_nil, Int.add_assoc]
        rfl

end Go.AM
namespace Go.AM
set_option linter.unusedVariables false
set_option linter.unusedSimpArgs false
def mkTy (t : Ty) (k : Int) : Ty := ⟨k, k + 1, k + 2, mkFdS t.fields (k + 3), mt (k + 3 + 3 * t.fields.length), mt (k + 3 + 3 * t.fields.length + 1)⟩

def cntTy (t : Ty) : Int := 5 + 3 * t.fields.length

def cntTys : List Ty → Int
  | [] => 0
  | t :: l => cntTy t + cntTys l

theorem cntTys_nn : ∀ l : List Ty, 0 ≤ cntTys l
  | [] => Int.le_refl _
  | t :: l => by have := cntTys_nn l; unfold cntTys cntTy; omega

def mkTyS : List Ty → Int → List Ty
  | [], _ => []
  | t :: l, k => mkTy t k :: mkTyS l (k + cntTy t)

theorem mkTyS_len : ∀ (l : List Ty) (k : Int), (mkTyS l k).length = l.length
  | [], _ => rfl
  | f :: fs, k => by simp [mkTyS, mkTyS_len fs]

theorem mkTy_o (f : Ty) (n : Int) : Ty.o (mkTy f n) = [.v (.int .i64 n), .v (.int .i64 (n + 1)), .v (.int .i64 (n + 2)), .usl 57 3 ((mkFdS f.fields (n + 3)).map Fd.o), .v (.string (mt (n + 3 + 3 * f.fields.length))), .v (.string (mt (n + 3 + 3 * f.fields.length + 1)))] := rfl

/-- loop.example/g00837/laws.markTypeS -/
def m31 : MC :=
  (.seq
   (.reg [⟨(some 4), none, .a (.asg (.c (.int .i64 0)))⟩])
   (.seq
    (.seq
     (.reg [⟨(some 5), none, .a (.asg (.c (.int .i64 0)))⟩])
     (.block 0
      (.loop [0, 1, 5]
       (.seq
        (.seq
         (.reg [⟨(some 6), none, .q (.mov (.t 5))⟩,
           ⟨(some 7), none, .q (.mov (.t 0))⟩,
           ⟨(some 8), none, .q (.len false (.t 7))⟩,
           ⟨(some 9), none, .q (.bin false .lss (.t 6) (.t 8))⟩])
         (.cond (.t 9)
          .skip
          (.exit 0)))
        (.seq
         (.block 1
          (.seq
           (.reg [⟨(some 12), none, .q (.mov (.t 0))⟩,
             ⟨(some 13), none, .q (.mov (.t 5))⟩,
             ⟨(some 14), none, .q (.mov (.t 1))⟩,
             ⟨(some 15), none, .q (.iad 6 (.t 12) (.t 13))⟩,
             ⟨(some 16), none, .q (.fad 0 (.t 15))⟩,
             ⟨none, none, .a (.store 1 (.t 16) (.t 14))⟩])
           (.seq
            (.reg [⟨(some 17), none, .q (.mov (.t 1))⟩,
              ⟨(some 18), none, .q (.bin false .add (.t 17) (.c (.int .i64 1)))⟩,
              ⟨(some 1), none, .a (.asg (.t 18))⟩])
            (.seq
             (.reg [⟨(some 19), none, .q (.mov (.t 0))⟩,
               ⟨(some 20), none, .q (.mov (.t 5))⟩,
               ⟨(some 21), none, .q (.mov (.t 1))⟩,
               ⟨(some 22), none, .q (.iad 6 (.t 19) (.t 20))⟩,
               ⟨(some 23), none, .q (.fad 1 (.t 22))⟩,
               ⟨none, none, .a (.store 1 (.t 23) (.t 21))⟩])
             (.seq
              (.reg [⟨(some 24), none, .q (.mov (.t 1))⟩,
                ⟨(some 25), none, .q (.bin false .add (.t 24) (.c (.int .i64 1)))⟩,
                ⟨(some 1), none, .a (.asg (.t 25))⟩])
              (.seq
               (.reg [⟨(some 26), none, .q (.mov (.t 0))⟩,
                 ⟨(some 27), none, .q (.mov (.t 5))⟩,
                 ⟨(some 28), none, .q (.mov (.t 1))⟩,
                 ⟨(some 29), none, .q (.iad 6 (.t 26) (.t 27))⟩,
                 ⟨(some 30), none, .q (.fad 2 (.t 29))⟩,
                 ⟨none, none, .a (.store 1 (.t 30) (.t 28))⟩])
               (.seq
                (.reg [⟨(some 31), none, .q (.mov (.t 1))⟩,
                  ⟨(some 32), none, .q (.bin false .add (.t 31) (.c (.int .i64 1)))⟩,
                  ⟨(some 1), none, .a (.asg (.t 32))⟩])
                (.seq
                 (.reg [⟨(some 33), none, .q (.mov (.t 0))⟩,
                   ⟨(some 34), none, .q (.mov (.t 5))⟩,
                   ⟨(some 35), none, .q (.iad 6 (.t 33) (.t 34))⟩,
                   ⟨(some 36), none, .q (.fad 3 (.t 35))⟩,
                   ⟨(some 37), none, .q (.load false 1 (.t 36))⟩,
                   ⟨(some 38), none, .q (.mov (.t 1))⟩,
                   ⟨(some 39), none, .a (.call (.fn 37) false [.io (.t 37), .lend (.t 38)])⟩,
                   ⟨(some 1), none, .a (.asg (.t 39))⟩])
                 (.seq
                  (.reg [⟨(some 40), none, .q (.mov (.t 0))⟩,
                    ⟨(some 41), none, .q (.mov (.t 5))⟩,
                    ⟨(some 42), none, .q (.mov (.t 1))⟩,
                    ⟨(some 43), none, .a (.call (.fn 89) false [.lend (.t 42)])⟩,
                    ⟨(some 44), none, .q (.iad 6 (.t 40) (.t 41))⟩,
                    ⟨(some 45), none, .q (.fad 4 (.t 44))⟩,
                    ⟨none, none, .a (.store 1 (.t 45) (.t 43))⟩])
                  (.seq
                   (.reg [⟨(some 46), none, .q (.mov (.t 1))⟩,
                     ⟨(some 47), none, .q (.bin false .add (.t 46) (.c (.int .i64 1)))⟩,
                     ⟨(some 1), none, .a (.asg (.t 47))⟩])
                   (.seq
                    (.reg [⟨(some 48), none, .q (.mov (.t 0))⟩,
                      ⟨(some 49), none, .q (.mov (.t 5))⟩,
                      ⟨(some 50), none, .q (.mov (.t 1))⟩,
                      ⟨(some 51), none, .a (.call (.fn 89) false [.lend (.t 50)])⟩,
                      ⟨(some 52), none, .q (.iad 6 (.t 48) (.t 49))⟩,
                      ⟨(some 53), none, .q (.fad 5 (.t 52))⟩,
                      ⟨none, none, .a (.store 1 (.t 53) (.t 51))⟩])
                    (.reg [⟨(some 54), none, .q (.mov (.t 1))⟩,
                      ⟨(some 55), none, .q (.bin false .add (.t 54) (.c (.int .i64 1)))⟩,
                      ⟨(some 1), none, .a (.asg (.t 55))⟩]))))))))))))
         (.reg [⟨(some 10), none, .q (.mov (.t 5))⟩,
           ⟨(some 11), none, .q (.bin false .add (.t 10) (.c (.int .i64 1)))⟩,
           ⟨(some 5), none, .a (.asg (.t 11))⟩]))))))
    (.seq
     (.reg [⟨(some 56), none, .q (.mov (.t 1))⟩,
       ⟨(some 4), none, .a (.asg (.t 56))⟩])
     .ret)))

set_option maxHeartbeats 1000000 in
set_option maxRecDepth 100000 in
theorem d31 (l : List Ty) (k : Int) (h0 : 0 ≤ k) (h1 : k + cntTys l ≤ 4611686018427387904) (hl : (l.length : Int) ≤ 1048576) (hs : ∀ s ∈ l, s.sm) :
    Does Go.Proofs.Try.prog 31 [.usl 59 6 (l.map Ty.o), .v (.int .i64 k)] false (.v (.int .i64 (k + cntTys l))) [.usl 59 6 ((mkTyS l k).map Ty.o), .dead] := by
  refine does_intro (mc := m31) (N := 57) (rs := [4]) (fx := [0]) 2 rfl (by decide +kernel) ?_
  simp only [m31, EV, Nat.reduceEqDiff, Nat.reduceBEq, Nat.reduceLT, Nat.reduceLeDiff, Nat.reduceAdd, Nat.reduceSub, reduceIte]
  refine awp_loop (fun p : List Ty × List Ty × Int => p.1 ++ mkTyS p.2.1 p.2.2 = mkTyS l k ∧ p.2.2 + cntTys p.2.1 = k + cntTys l ∧ 0 ≤ p.2.2 ∧ p.1.length + p.2.1.length = l.length ∧ ∀ s ∈ p.2.1, s.sm)
    (fun p => stl [(0, .usl 59 6 ((p.1 ++ p.2.1).map Ty.o)), (1, .v (.int .i64 p.2.2)), (5, .v (.int .i64 (p.1.length : Int)))]) (fun p => p.2.1.length) ([], l, k) ⟨rfl, rfl, h0, by simp, hs⟩ ?_ ?_
  · simp only [EV, Nat.reduceEqDiff, Nat.reduceBEq, Nat.reduceLT, Nat.reduceLeDiff, Nat.reduceAdd, Nat.reduceSub, reduceIte]
    rfl
  · rintro ⟨pre, post, n⟩ ⟨p0, p1, p2, p3, p4⟩
    cases post with
    | nil =>
      simp only [EV, Nat.reduceEqDiff, Nat.reduceBEq, Nat.reduceLT, Nat.reduceLeDiff, Nat.reduceAdd, Nat.reduceSub, reduceIte]
      refine cK_cut (fun h => ?_) (fun h => ?_)
      · simp at h
      · simp only [EV, Nat.reduceEqDiff, Nat.reduceBEq, Nat.reduceLT, Nat.reduceLeDiff, Nat.reduceAdd, Nat.reduceSub, reduceIte]
        simp only [List.append_nil, mkTyS] at p0
        have e : n = k + cntTys l := by simp [cntTys] at p1; omega
        simp only [p0, ← e, EV, Nat.reduceEqDiff, Nat.reduceBEq, Nat.reduceLT, Nat.reduceLeDiff, Nat.reduceAdd, Nat.reduceSub, reduceIte, evRE, retVC, cellV', evR, nfz, nfzs, nfzss, List.contains_nil, List.contains_cons, Bool.or_false, or_true]
    | cons f post =>
      simp only [EV, Nat.reduceEqDiff, Nat.reduceBEq, Nat.reduceLT, Nat.reduceLeDiff, Nat.reduceAdd, Nat.reduceSub, reduceIte]
      refine cK_cut (fun h => ?_) (fun h => ?_)
      rotate_left
      · simp at h; omega
      simp only at p0 p1 p2 p3
      have hsm := p4 f (by simp)
      unfold Ty.sm at hsm
      have hfl := hsm.2.2.2.1.1
      have hnn := cntTys_nn post
      simp only [List.length_cons] at p3
      simp only [cntTys, cntTy] at p1
      have h4 : pre.length < ((pre ++ f :: post).map Ty.o).length := by simp
      have e1 : nth ((pre ++ f :: post).map Ty.o) pre.length = f.o := nth_mid
      have e2 := set_mid (g := Ty.o) (pre := pre) (post := post) (t := f) (mkTy f n)
      generalize hR : (pre ++ f :: post).map Ty.o = R at h4 e1 e2 ⊢
      have hRl : R.length = l.length := by rw [← hR]; simp; omega
      have h5 : (pre.length : Int) < (R.length : Int) := by omega
      have w0 := w64 ((pre.length : Int) + 1) (by omega)
      have w1 := w64 (n + 1) (by omega)
      have w2 := w64 (n + 1 + 1) (by omega)
      have w3 := w64 (n + 1 + 1 + 1) (by omega)
      simp only [h4, h5, e1, nth_set h4, List.getElem?_set_self h4, modify_set, Ty.o, w0, w1, w2, w3, EV, Nat.reduceEqDiff, Nat.reduceBEq, Nat.reduceLT, Nat.reduceLeDiff, Nat.reduceAdd, Nat.reduceSub, reduceIte]
      refine callK2_i (d37 f.fields (n + 1 + 1 + 1) (by omega) (by omega)) rfl ?_ ?_
      · simp only [mkFdS_len, EV, Nat.reduceEqDiff, Nat.reduceBEq, Nat.reduceLT, Nat.reduceLeDiff, Nat.reduceAdd, Nat.reduceSub, reduceIte]
      have g1 : n + 1 + 1 = n + 2 := by omega
      have g2 : n + 2 + 1 = n + 3 := by omega
      have w4 := w64 (n + 3 + 3 * (f.fields.length : Int) + 1) (by omega)
      have w5 := w64 (n + 3 + 3 * (f.fields.length : Int) + 1 + 1) (by omega)
      simp only [g1, g2, h4, h5, e1, nth_set h4, List.getElem?_set_self h4, modify_set, w4, EV, Nat.reduceEqDiff, Nat.reduceBEq, Nat.reduceLT, Nat.reduceLeDiff, Nat.reduceAdd, Nat.reduceSub, reduceIte]
      refine callK_i (d89 (n + 3 + 3 * (f.fields.length : Int)) (by omega) (by omega)) ?_
      simp only [g1, g2, h4, h5, e1, nth_set h4, List.getElem?_set_self h4, modify_set, w4, EV, Nat.reduceEqDiff, Nat.reduceBEq, Nat.reduceLT, Nat.reduceLeDiff, Nat.reduceAdd, Nat.reduceSub, reduceIte]
      refine callK_i (d89 (n + 3 + 3 * (f.fields.length : Int) + 1) (by omega) (by omega)) ?_
      simp only [g1, g2, h4, h5, e1, nth_set h4, List.getElem?_set_self h4, modify_set, w4, w5, EV, Nat.reduceEqDiff, Nat.reduceBEq, Nat.reduceLT, Nat.reduceLeDiff, Nat.reduceAdd, Nat.reduceSub, reduceIte]
      refine ⟨(pre ++ [mkTy f n], post, n + cntTy f), ⟨?_, ?_, ?_, ?_, ?_⟩, ?_, ?_⟩
      · rw [← p0]; simp [mkTyS]
      · simp only [cntTy]; omega
      · simp only [cntTy]; omega
      · simp only [List.length_append, List.length_cons, List.length_nil]; omega
      · intro s hs'; exact p4 s (by simp; exact .inr hs')
      · simp only; omega
      · rw [mkTy_o] at e2
        have g3 : n + 3 + 3 * (f.fields.length : Int) + 1 + 1 = n + cntTy f := by unfold cntTy; omega
        have g4 : (((pre ++ [mkTy f n]).length : Nat) : Int) = (pre.length : Int) + 1 := by simp
        simp only [← e2, g3, g4, w0]

end Go.AM
namespace Go.AM
set_option linter.unusedVariables false
set_option linter.unusedSimpArgs false
/-- Numbers rise up to a place. -/
def riseTo (n : List Int) (i : Nat) : Prop := ∀ j (h : j + 1 < n.length), j + 1 < i → n[j] < n[j + 1]

theorem riseTo_up {n : List Int} (h : riseTo n n.length) : n.Pairwise (· < ·) := by
  induction n with
  | nil => exact List.Pairwise.nil
  | cons x n ih =>
    have h2 : riseTo n n.length := fun j hj hji => by have := h (j + 1) (by simp; omega) (by simp; omega); simpa using this
    refine List.pairwise_cons.2 ⟨?_, ih h2⟩
    have hp := ih h2
    cases n with
    | nil => simp
    | cons y n =>
      have h0 : x < y := h 0 (by simp) (by simp)
      intro a ha
      rcases List.mem_cons.1 ha with rfl | ha
      · exact h0
      · have := (List.pairwise_cons.1 hp).1 a ha; omega

theorem up_rise {n : List Int} (h : n.Pairwise (· < ·)) : ∀ j (hj : j + 1 < n.length), n[j] < n[j + 1] := fun j hj => List.pairwise_iff_getElem.1 h j (j + 1) (by omega) hj (by omega)

open Classical in
noncomputable def upB (n : List Int) : Bool := decide (n.Pairwise (· < ·))

/-- loop.example/g00837/impl.areRising -/
def m85 : MC :=
  (.seq
   (.reg [⟨(some 2), none, .a (.asg (.c (.bool false)))⟩])
   (.seq
    (.seq
     (.reg [⟨(some 3), none, .a (.asg (.c (.int .i64 1)))⟩])
     (.block 0
      (.loop [0, 3]
       (.seq
        (.seq
         (.reg [⟨(some 4), none, .q (.mov (.t 3))⟩,
           ⟨(some 5), none, .q (.mov (.t 0))⟩,
           ⟨(some 6), none, .q (.len false (.t 5))⟩,
           ⟨(some 7), none, .q (.bin false .lss (.t 4) (.t 6))⟩])
         (.cond (.t 7)
          .skip
          (.exit 0)))
        (.seq
         (.block 1
          (.seq
           (.dreg [⟨(some 10), none, .q (.mov (.t 0))⟩,
             ⟨(some 11), none, .q (.mov (.t 3))⟩,
             ⟨(some 12), none, .q (.bin false .sub (.t 11) (.c (.int .i64 1)))⟩,
             ⟨(some 13), none, .q (.iad 1 (.t 10) (.t 12))⟩,
             ⟨(some 14), none, .q (.load false 1 (.t 13))⟩,
             ⟨(some 15), none, .q (.mov (.t 0))⟩,
             ⟨(some 16), none, .q (.mov (.t 3))⟩,
             ⟨(some 17), none, .q (.iad 1 (.t 15) (.t 16))⟩,
             ⟨(some 18), none, .q (.load false 1 (.t 17))⟩,
             ⟨(some 19), none, .q (.bin false .geq (.t 14) (.t 18))⟩])
           (.cond (.t 19)
            (.seq
             (.reg [⟨(some 2), none, .a (.asg (.c (.bool false)))⟩])
             .ret)
            .skip)))
         (.reg [⟨(some 8), none, .q (.mov (.t 3))⟩,
           ⟨(some 9), none, .q (.bin false .add (.t 8) (.c (.int .i64 1)))⟩,
           ⟨(some 3), none, .a (.asg (.t 9))⟩]))))))
    (.seq
     (.reg [⟨(some 2), none, .a (.asg (.c (.bool true)))⟩])
     .ret)))

set_option maxRecDepth 100000 in
theorem d85 (n : List Int) (hl : (n.length : Int) ≤ 1048576) : Does Go.Proofs.Try.prog 85 [.fsl 1 (n.map iv)] false (.v (.bool (upB n))) [.dead] := by
  refine does_intro (mc := m85) (N := 20) (rs := [2]) (fx := []) 1 rfl (by decide +kernel) ?_
  simp only [m85, EV, Nat.reduceEqDiff, Nat.reduceBEq, Nat.reduceLT, Nat.reduceLeDiff, Nat.reduceAdd, Nat.reduceSub, reduceIte]
  refine awp_loop (fun i : Nat => riseTo n (i + 1)) (fun i => stl [(0, .fsl 1 (n.map iv)), (3, .v (.int .i64 ((i : Int) + 1)))]) (fun i => n.length - i) 0 (fun j hj h => absurd h (by omega)) ?_ ?_
  · simp only [EV, Nat.reduceEqDiff, Nat.reduceBEq, Nat.reduceLT, Nat.reduceLeDiff, Nat.reduceAdd, Nat.reduceSub, reduceIte]
    rfl
  · rintro i hr
    simp only [EV, Nat.reduceEqDiff, Nat.reduceBEq, Nat.reduceLT, Nat.reduceLeDiff, Nat.reduceAdd, Nat.reduceSub, reduceIte]
    refine cK_cut (fun h => ?_) (fun h => ?_)
    · have h1 : i + 1 < n.length := by have : (i : Int) + 1 < (n.length : Int) := by simpa using h
                                       omega
      have h2 : i < n.length := by omega
      have w0 : IntKind.i64.wrap ((i : Int) + 1 - 1) = (i : Int) := by rw [w64 _ (by omega)]; omega
      have w1 : IntKind.i64.wrap ((i : Int) + 1 + 1) = ((i + 1 : Nat) : Int) + 1 := by rw [w64 _ (by omega)]; omega
      have t1 : ((i : Int) + 1).toNat = i + 1 := by omega
      have g1 : 0 ≤ (i : Int) + 1 := by omega
      have g2 : (i : Int) + 1 < (n.length : Int) := by omega
      have g3 : (i : Int) < (n.length : Int) := by omega
      simp only [w0, t1, g1, g2, g3, nth_map h1, nth_map h2, iv, EV, Nat.reduceEqDiff, Nat.reduceBEq, Nat.reduceLT, Nat.reduceLeDiff, Nat.reduceAdd, Nat.reduceSub, reduceIte]
      refine cK_cut (fun h3 => ?_) (fun h3 => ?_)
      · have e : upB n = false := by
          simp only [upB, decide_eq_false_iff_not]
          intro hp
          have := up_rise hp i h1
          have h4 : n[i + 1] ≤ n[i] := by simpa using h3
          omega
        simp only [EV, Nat.reduceEqDiff, Nat.reduceBEq, Nat.reduceLT, Nat.reduceLeDiff, Nat.reduceAdd, Nat.reduceSub, reduceIte]
        simp only [e, EV, Nat.reduceEqDiff, Nat.reduceBEq, Nat.reduceLT, Nat.reduceLeDiff, Nat.reduceAdd, Nat.reduceSub, reduceIte, evRE, retVC, cellV', evR, nfz, nfzs, nfzss, List.contains_nil, List.contains_cons, Bool.or_false, or_true]
      · simp only [EV, Nat.reduceEqDiff, Nat.reduceBEq, Nat.reduceLT, Nat.reduceLeDiff, Nat.reduceAdd, Nat.reduceSub, reduceIte]
        rw [w1]
        refine ⟨i + 1, ?_, by omega, rfl⟩
        intro j hj hji
        by_cases ej : j = i
        · subst ej
          have h4 : ¬ n[j + 1] ≤ n[j] := by simpa using h3
          omega
        · exact hr j hj (by omega)
    · have h1 : n.length ≤ i + 1 := by have : ¬ (i : Int) + 1 < (n.length : Int) := by simpa using h
                                       omega
      have e : upB n = true := by
        simp only [upB, decide_eq_true_eq]
        exact riseTo_up fun j hj hji => hr j hj (by omega)
      simp only [EV, Nat.reduceEqDiff, Nat.reduceBEq, Nat.reduceLT, Nat.reduceLeDiff, Nat.reduceAdd, Nat.reduceSub, reduceIte]
      simp only [e, EV, Nat.reduceEqDiff, Nat.reduceBEq, Nat.reduceLT, Nat.reduceLeDiff, Nat.reduceAdd, Nat.reduceSub, reduceIte, evRE, retVC, cellV', evR, nfz, nfzs, nfzss, List.contains_nil, List.contains_cons, Bool.or_false, or_true]

open Classical in
/-- Rising, and all of them between two. -/
noncomputable def upIn (n : List Int) (lo hi : Int) : Bool := decide (n.Pairwise (· < ·) ∧ ∀ k ∈ n, lo ≤ k ∧ k ≤ hi)

def inTo (n : List Int) (lo hi : Int) (i : Nat) : Prop := ∀ j (h : j < n.length), j < i → lo ≤ n[j] ∧ n[j] ≤ hi

/-- loop.example/g00837/spec.l1Rising -/
def m83 : MC :=
  (.seq
   (.reg [⟨(some 6), none, .a (.asg (.c (.bool false)))⟩])
   (.seq
    (.seq
     (.reg [⟨(some 9), none, .q (.mov (.t 0))⟩,
       ⟨(some 10), none, .q (.len false (.t 9))⟩,
       ⟨(some 11), none, .q (.mov (.c (.int .i64 0)))⟩])
     (.block 0
      (.loop [0, 1, 2, 9, 10, 11]
       (.seq
        (.reg [⟨(some 12), none, .q (.bin false .lss (.t 11) (.t 10))⟩])
        (.seq
         (.cond (.t 12)
          .skip
          (.exit 0))
         (.seq
          (.block 1
           (.seq
            (.reg [⟨(some 13), none, .q (.mov (.t 11))⟩,
              ⟨(some 14), none, .q (.iad 1 (.t 9) (.t 11))⟩,
              ⟨(some 15), none, .q (.load false 1 (.t 14))⟩,
              ⟨(some 7), none, .a (.asg (.t 13))⟩,
              ⟨(some 8), none, .a (.asg (.t 15))⟩])
            (.seq
             (.reg [⟨(some 16), none, .q (.mov (.t 8))⟩,
               ⟨(some 17), none, .q (.mov (.t 1))⟩,
               ⟨(some 18), none, .q (.mov (.t 2))⟩,
               ⟨(some 19), none, .a (.call (.fn 77) false [.lend (.t 16), .lend (.t 17), .lend (.t 18)])⟩,
               ⟨(some 20), none, .q (.un .not (.t 19))⟩,
               ⟨(some 21), none, .q (.mov (.t 20))⟩,
               ⟨(some 22), (some (21, false)), .q (.mov (.t 7))⟩,
               ⟨(some 23), (some (21, false)), .q (.bin false .gtr (.t 22) (.c (.int .i64 0)))⟩,
               ⟨(some 24), (some (21, false)), .q (.mov (.t 23))⟩,
               ⟨(some 25), (some (24, true)), .q (.mov (.t 0))⟩,
               ⟨(some 26), (some (24, true)), .q (.mov (.t 7))⟩,
               ⟨(some 27), (some (24, true)), .q (.bin false .sub (.t 26) (.c (.int .i64 1)))⟩,
               ⟨(some 28), (some (24, true)), .q (.iad 1 (.t 25) (.t 27))⟩,
               ⟨(some 29), (some (24, true)), .q (.load false 1 (.t 28))⟩,
               ⟨(some 30), (some (24, true)), .q (.mov (.t 8))⟩,
               ⟨(some 31), (some (24, true)), .q (.bin false .geq (.t 29) (.t 30))⟩,
               ⟨(some 32), (some (21, false)), .q (.pick (.t 24) (.t 31) (.c (.bool false)))⟩,
               ⟨(some 33), none, .q (.pick (.t 21) (.c (.bool true)) (.t 32))⟩])
             (.cond (.t 33)
              (.seq
               (.reg [⟨(some 6), none, .a (.asg (.c (.bool false)))⟩])
               .ret)
              .skip))))
          (.reg [⟨(some 34), none, .q (.bin false .add (.t 11) (.c (.int .i64 1)))⟩,
            ⟨(some 11), none, .q (.mov (.t 34))⟩])))))))
    (.seq
     (.reg [⟨(some 6), none, .a (.asg (.c (.bool true)))⟩])
     .ret)))

set_option maxRecDepth 100000 in
theorem d83 (n : List Int) (lo hi : Int) (hl : (n.length : Int) ≤ 1048576) : Does Go.Proofs.Try.prog 83 [.fsl 1 (n.map iv), .v (.int .i64 lo), .v (.int .i64 hi)] false (.v (.bool (upIn n lo hi))) [.dead, .dead, .dead] := by
  refine does_intro (mc := m83) (N := 35) (rs := [6]) (fx := []) 3 rfl (by decide +kernel) ?_
  simp only [m83, EV, Nat.reduceEqDiff, Nat.reduceBEq, Nat.reduceLT, Nat.reduceLeDiff, Nat.reduceAdd, Nat.reduceSub, reduceIte]
  refine awp_loop (fun i : Nat => i ≤ n.length ∧ riseTo n i ∧ inTo n lo hi i) (fun i => stl [(0, .fsl 1 (n.map iv)), (1, .v (.int .i64 lo)), (2, .v (.int .i64 hi)), (9, .fsl 1 (n.map iv)), (10, .v (.int .i64 (n.length : Int))), (11, .v (.int .i64 (i : Int)))]) (fun i => n.length - i) 0 ⟨Nat.zero_le _, fun j hj h => absurd h (by omega), fun j hj h => absurd h (by omega)⟩ ?_ ?_
  · simp only [EV, Nat.reduceEqDiff, Nat.reduceBEq, Nat.reduceLT, Nat.reduceLeDiff, Nat.reduceAdd, Nat.reduceSub, reduceIte]
    rfl
  · rintro i ⟨hi', hr, hn⟩
    simp only [EV, Nat.reduceEqDiff, Nat.reduceBEq, Nat.reduceLT, Nat.reduceLeDiff, Nat.reduceAdd, Nat.reduceSub, reduceIte]
    refine cK_cut (fun h => ?_) (fun h => ?_)
    · have h1 : i < n.length := by simpa using h
      have h2 : (i : Int) < (n.length : Int) := by omega
      have nx : (lo ≤ n[i] ∧ n[i] ≤ hi) → (∀ h : 0 < i, n[i - 1] < n[i]) → riseTo n (i + 1) ∧ inTo n lo hi (i + 1) := by
        intro q1 q2
        constructor
        · intro j hj hji
          by_cases e : j + 1 = i
          · subst e; exact q2 (by omega)
          · exact hr j hj (by omega)
        · intro j hj hji
          by_cases e : j = i
          · subst e; exact q1
          · exact hn j hj (by omega)
      clear h
      simp only [nth_map h1, h2, iv, EV, Nat.reduceEqDiff, Nat.reduceBEq, Nat.reduceLT, Nat.reduceLeDiff, Nat.reduceAdd, Nat.reduceSub, reduceIte]
      refine callK_i (d77 _ _ _) ?_
      simp only [EV, Nat.reduceEqDiff, Nat.reduceBEq, Nat.reduceLT, Nat.reduceLeDiff, Nat.reduceAdd, Nat.reduceSub, reduceIte]
      rcases e1 : (decide (lo ≤ n[i]) && decide (n[i] ≤ hi)) with _ | _
      · have e : upIn n lo hi = false := by
          simp only [upIn, decide_eq_false_iff_not]
          rintro ⟨_, hp⟩
          have := hp n[i] (List.getElem_mem h1)
          simp [this.1, this.2] at e1
        simp only [Bool.not_false, EV, Nat.reduceEqDiff, Nat.reduceBEq, Nat.reduceLT, Nat.reduceLeDiff, Nat.reduceAdd, Nat.reduceSub, reduceIte]
        simp only [e, EV, Nat.reduceEqDiff, Nat.reduceBEq, Nat.reduceLT, Nat.reduceLeDiff, Nat.reduceAdd, Nat.reduceSub, reduceIte, evRE, retVC, cellV', evR, nfz, nfzs, nfzss, List.contains_nil, List.contains_cons, Bool.or_false, or_true]
      have q1 : lo ≤ n[i] ∧ n[i] ≤ hi := by simpa using e1
      simp only [Bool.not_true, EV, Nat.reduceEqDiff, Nat.reduceBEq, Nat.reduceLT, Nat.reduceLeDiff, Nat.reduceAdd, Nat.reduceSub, reduceIte]
      refine gK_cut (fun h => ?_) (fun h => ?_)
      · have i0 : 0 < i := by have : 0 < (i : Int) := by simpa using h
                              omega
        have w0 : IntKind.i64.wrap ((i : Int) - 1) = ((i - 1 : Nat) : Int) := by rw [w64 _ (by omega)]; omega
        have g1 : i - 1 < n.length := by omega
        have g2 : ((i - 1 : Nat) : Int) < (n.length : Int) := by omega
        have t1 : (((i - 1 : Nat) : Int)).toNat = i - 1 := by omega
        simp only [h, w0, t1, g1, g2, nth_map g1, iv, EV, Nat.reduceEqDiff, Nat.reduceBEq, Nat.reduceLT, Nat.reduceLeDiff, Nat.reduceAdd, Nat.reduceSub, reduceIte]
        refine cK_cut (fun h3 => ?_) (fun h3 => ?_)
        · have e : upIn n lo hi = false := by
            simp only [upIn, decide_eq_false_iff_not]
            rintro ⟨hp, _⟩
            have := List.pairwise_iff_getElem.1 hp (i - 1) i g1 h1 (by omega)
            have h4 : n[i] ≤ n[i - 1] := by simpa using h3
            omega
          simp only [EV, Nat.reduceEqDiff, Nat.reduceBEq, Nat.reduceLT, Nat.reduceLeDiff, Nat.reduceAdd, Nat.reduceSub, reduceIte]
          simp only [e, EV, Nat.reduceEqDiff, Nat.reduceBEq, Nat.reduceLT, Nat.reduceLeDiff, Nat.reduceAdd, Nat.reduceSub, reduceIte, evRE, retVC, cellV', evR, nfz, nfzs, nfzss, List.contains_nil, List.contains_cons, Bool.or_false, or_true]
        · simp only [EV, Nat.reduceEqDiff, Nat.reduceBEq, Nat.reduceLT, Nat.reduceLeDiff, Nat.reduceAdd, Nat.reduceSub, reduceIte]
          rw [w64 _ (by omega)]
          have h4 : ¬ n[i] ≤ n[i - 1] := by simpa using h3
          exact ⟨i + 1, ⟨h1, nx q1 fun _ => by omega⟩, by omega, rfl⟩
      · have i0 : ¬ 0 < i := by have : ¬ 0 < (i : Int) := by simpa using h
                                omega
        simp only [h, EV, Nat.reduceEqDiff, Nat.reduceBEq, Nat.reduceLT, Nat.reduceLeDiff, Nat.reduceAdd, Nat.reduceSub, reduceIte]
        rw [w64 _ (by omega)]
        exact ⟨i + 1, ⟨h1, nx q1 fun h => absurd h i0⟩, by omega, rfl⟩
    · have h1 : i = n.length := by have : ¬ (i : Int) < n.length := by simpa using h
                                   omega
      subst h1
      have e : upIn n lo hi = true := by
        simp only [upIn, decide_eq_true_eq]
        refine ⟨riseTo_up hr, fun k hk => ?_⟩
        obtain ⟨j, hj, rfl⟩ := List.mem_iff_getElem.1 hk
        exact hn j hj hj
      simp only [EV, Nat.reduceEqDiff, Nat.reduceBEq, Nat.reduceLT, Nat.reduceLeDiff, Nat.reduceAdd, Nat.reduceSub, reduceIte]
      simp only [e, EV, Nat.reduceEqDiff, Nat.reduceBEq, Nat.reduceLT, Nat.reduceLeDiff, Nat.reduceAdd, Nat.reduceSub, reduceIte, evRE, retVC, cellV', evR, nfz, nfzs, nfzss, List.contains_nil, List.contains_cons, Bool.or_false, or_true]

/-- slices.IndexFunc[[]int,int] -/
def m134 : MC :=
  (.seq
   (.reg [⟨(some 4), none, .a (.asg (.c (.int .i64 0)))⟩])
   (.seq
    (.seq
     (.reg [⟨(some 6), none, .q (.mov (.t 0))⟩,
       ⟨(some 7), none, .q (.len false (.t 6))⟩,
       ⟨(some 8), none, .q (.mov (.c (.int .i64 0)))⟩])
     (.block 0
      (.loop [0, 1, 7, 8]
       (.seq
        (.reg [⟨(some 9), none, .q (.bin false .lss (.t 8) (.t 7))⟩])
        (.seq
         (.cond (.t 9)
          .skip
          (.exit 0))
         (.seq
          (.block 1
           (.seq
            (.reg [⟨(some 10), none, .q (.mov (.t 8))⟩,
              ⟨(some 5), none, .a (.asg (.t 10))⟩])
            (.seq
             (.reg [⟨(some 11), none, .q (.mov (.t 1))⟩,
               ⟨(some 12), none, .q (.mov (.t 0))⟩,
               ⟨(some 13), none, .q (.mov (.t 5))⟩,
               ⟨(some 14), none, .q (.iad 1 (.t 12) (.t 13))⟩,
               ⟨(some 15), none, .q (.load false 1 (.t 14))⟩,
               ⟨(some 16), none, .a (.call (.t 11) false [.lend (.t 15)])⟩])
             (.cond (.t 16)
              (.seq
               (.reg [⟨(some 17), none, .q (.mov (.t 5))⟩,
                 ⟨(some 4), none, .a (.asg (.t 17))⟩])
               .ret)
              .skip))))
          (.reg [⟨(some 18), none, .q (.bin false .add (.t 8) (.c (.int .i64 1)))⟩,
            ⟨(some 8), none, .q (.mov (.t 18))⟩])))))))
    (.seq
     (.reg [⟨(some 4), none, .a (.asg (.c (.int .i64 (-1))))⟩])
     .ret)))

theorem d134 (l : List Int) (hl : l.length < 9223372036854775807) (f : Nat) (caps : List AV) (q : Int → Bool) (hp : plains caps = true) (hb : bares caps = true) (hk : ∀ K, killVs K caps = caps) (hf : ∀ (st : St), frzBs st caps = caps)
    (hq : ∀ s ∈ l, Does Go.Proofs.Try.prog f (.v (.int .i64 s) :: caps) false (.v (.bool (q s))) (.dead :: caps.map fun _ => .dead)) :
    Does Go.Proofs.Try.prog 134 [.fsl 1 (l.map iv), .clo f caps] false (.v (.int .i64 (findI q l))) [.dead, .dead] := by
  refine does_intro (mc := m134) (N := 19) (rs := [4]) (fx := []) 2 rfl (by decide +kernel) ?_
  simp only [m134, EV, Nat.reduceEqDiff, Nat.reduceBEq, Nat.reduceLT, Nat.reduceLeDiff, Nat.reduceAdd, Nat.reduceSub, reduceIte]
  refine awp_loop (fun i : Nat => i ≤ l.length ∧ ∀ j (hj : j < l.length), j < i → q l[j] = false) (fun i => stl [(0, .fsl 1 (l.map iv)), (1, .clo f caps), (7, .v (.int .i64 (l.length : Int))), (8, .v (.int .i64 (i : Int)))]) (fun i => l.length - i) 0 ⟨Nat.zero_le _, fun j hj h => absurd h (by omega)⟩ ?_ ?_
  · simp only [hp, hb, hk, EV, Nat.reduceEqDiff, Nat.reduceBEq, Nat.reduceLT, Nat.reduceLeDiff, Nat.reduceAdd, Nat.reduceSub, reduceIte]
    rfl
  · rintro i ⟨hi, hno⟩
    simp only [EV, Nat.reduceEqDiff, Nat.reduceBEq, Nat.reduceLT, Nat.reduceLeDiff, Nat.reduceAdd, Nat.reduceSub, reduceIte]
    refine cK_cut (fun h => ?_) (fun h => ?_)
    · have h1 : i < l.length := by simpa using h
      have h2 : (i : Int) < (l.length : Int) := by omega
      simp only [nth_map h1, h2, iv, hp, hb, EV, Nat.reduceEqDiff, Nat.reduceBEq, Nat.reduceLT, Nat.reduceLeDiff, Nat.reduceAdd, Nat.reduceSub, reduceIte]
      refine callK_i (hq l[i] (List.getElem_mem h1)) ?_
      simp only [EV, Nat.reduceEqDiff, Nat.reduceBEq, Nat.reduceLT, Nat.reduceLeDiff, Nat.reduceAdd, Nat.reduceSub, reduceIte]
      refine cK_cut (fun h => ?_) (fun h => ?_)
      · simp only [EV, Nat.reduceEqDiff, Nat.reduceBEq, Nat.reduceLT, Nat.reduceLeDiff, Nat.reduceAdd, Nat.reduceSub, reduceIte]
        simp only [findI_at h1 h hno, EV, Nat.reduceEqDiff, Nat.reduceBEq, Nat.reduceLT, Nat.reduceLeDiff, Nat.reduceAdd, Nat.reduceSub, reduceIte, evRE, retVC, cellV', evR, nfz, nfzs, nfzss, List.contains_nil, List.contains_cons, Bool.or_false, or_true]
      · simp only [hp, hb, hk, EV, Nat.reduceEqDiff, Nat.reduceBEq, Nat.reduceLT, Nat.reduceLeDiff, Nat.reduceAdd, Nat.reduceSub, reduceIte]
        rw [w64 _ (by omega)]
        refine ⟨i + 1, ⟨by omega, ?_⟩, by omega, rfl⟩
        intro j hj hji
        by_cases e : j = i
        · subst e; exact h
        · exact hno j hj (by omega)
    · have h1 : i = l.length := by have : ¬ (i : Int) < l.length := by simpa using h
                                   omega
      subst h1
      simp only [EV, Nat.reduceEqDiff, Nat.reduceBEq, Nat.reduceLT, Nat.reduceLeDiff, Nat.reduceAdd, Nat.reduceSub, reduceIte]
      simp only [findI_no (fun j hj => hno j hj hj), EV, Nat.reduceEqDiff, Nat.reduceBEq, Nat.reduceLT, Nat.reduceLeDiff, Nat.reduceAdd, Nat.reduceSub, reduceIte, evRE, retVC, cellV', evR, nfz, nfzs, nfzss, List.contains_nil, List.contains_cons, Bool.or_false, or_true]

/-- slices.ContainsFunc[[]int,int] -/
def m86 : MC :=
  (.seq
   (.reg [⟨(some 4), none, .a (.asg (.c (.bool false)))⟩])
   (.seq
    (.reg [⟨(some 5), none, .q (.mov (.t 0))⟩,
      ⟨(some 6), none, .q (.mov (.t 1))⟩,
      ⟨(some 7), none, .a (.call (.fn 134) false [.lend (.t 5), .lend (.t 6)])⟩,
      ⟨(some 8), none, .q (.bin false .geq (.t 7) (.c (.int .i64 0)))⟩,
      ⟨(some 4), none, .a (.asg (.t 8))⟩])
    .ret))

theorem d86 (l : List Int) (hl : l.length < 9223372036854775807) (f : Nat) (caps : List AV) (q : Int → Bool) (hp : plains caps = true) (hb : bares caps = true) (hk : ∀ K, killVs K caps = caps) (hf : ∀ (st : St), frzBs st caps = caps)
    (hq : ∀ s ∈ l, Does Go.Proofs.Try.prog f (.v (.int .i64 s) :: caps) false (.v (.bool (q s))) (.dead :: caps.map fun _ => .dead)) :
    Does Go.Proofs.Try.prog 86 [.fsl 1 (l.map iv), .clo f caps] false (.v (.bool (l.any q))) [.dead, .dead] := by
  refine does_intro (mc := m86) (N := 9) (rs := [4]) (fx := []) 2 rfl (by decide +kernel) ?_
  simp only [m86, hp, hb, hk, hf, EV, Nat.reduceEqDiff, Nat.reduceBEq, Nat.reduceLT, Nat.reduceLeDiff, Nat.reduceAdd, Nat.reduceSub, reduceIte]
  refine callK_i (d134 l hl f caps q hp hb hk hf hq) ?_
  simp only [EV, Nat.reduceEqDiff, Nat.reduceBEq, Nat.reduceLT, Nat.reduceLeDiff, Nat.reduceAdd, Nat.reduceSub, reduceIte]
  simp only [findI_any, EV, Nat.reduceEqDiff, Nat.reduceBEq, Nat.reduceLT, Nat.reduceLeDiff, Nat.reduceAdd, Nat.reduceSub, reduceIte, evRE, retVC, cellV', evR, nfz, nfzs, nfzss, List.contains_nil, List.contains_cons, Bool.or_false, or_true]

/-- loop.example/g00837/impl.ReachedOf$1 -/
def m87 : MC :=
  (.seq
   (.reg [⟨(some 3), none, .a (.asg (.c (.bool false)))⟩])
   (.seq
    (.reg [⟨(some 4), none, .q (.load false 1 (.t 1))⟩,
      ⟨(some 5), none, .q (.mov (.t 0))⟩,
      ⟨(some 6), none, .a (.call (.fn 80) false [.lend (.t 4), .lend (.t 5)])⟩,
      ⟨(some 7), none, .q (.un .not (.t 6))⟩,
      ⟨(some 3), none, .a (.asg (.t 7))⟩])
    .ret))

theorem d87 (l : List Ty) (n : Int) (hl : (l.length : Int) ≤ 1048576) : Does Go.Proofs.Try.prog 87 [.v (.int .i64 n), .fptr [.fsl 6 (l.map Ty.z)]] false (.v (.bool (!isNum l n))) [.dead, .dead] := by
  refine does_intro (mc := m87) (N := 8) (rs := [3]) (fx := []) 2 rfl (by decide +kernel) ?_
  simp only [m87, EV, Nat.reduceEqDiff, Nat.reduceBEq, Nat.reduceLT, Nat.reduceLeDiff, Nat.reduceAdd, Nat.reduceSub, reduceIte]
  refine callK_i (d80 l n hl) ?_
  simp only [EV, Nat.reduceEqDiff, Nat.reduceBEq, Nat.reduceLT, Nat.reduceLeDiff, Nat.reduceAdd, Nat.reduceSub, reduceIte]
  simp only [EV, Nat.reduceEqDiff, Nat.reduceBEq, Nat.reduceLT, Nat.reduceLeDiff, Nat.reduceAdd, Nat.reduceSub, reduceIte, evRE, retVC, cellV', evR, nfz, nfzs, nfzss, List.contains_nil, List.contains_cons, Bool.or_false, or_true]

noncomputable def rchOk (l : List Ty) (n : List Int) : Bool := tabOk l && upIn n 0 ((l.length : Int) - 1)

theorem upIn_eq (n : List Int) (l : List Ty) : upIn n 0 ((l.length : Int) - 1) = (upB n && !(n.any fun k => !isNum l k)) := by
  unfold upIn upB
  rw [Bool.eq_iff_iff]
  simp only [decide_eq_true_eq, Bool.and_eq_true, Bool.not_eq_true', List.any_eq_false, Bool.not_eq_true, Bool.not_eq_false']
  constructor
  · rintro ⟨h1, h2⟩
    refine ⟨h1, fun k hk => ?_⟩
    have h3 := h2 k hk
    rw [isNum_in.2 (show 0 ≤ k ∧ k < (l.length : Int) by omega)]
    simp
  · rintro ⟨h1, h2⟩
    refine ⟨h1, fun k hk => ?_⟩
    have := isNum_in.1 (show isNum l k = true by simpa using h2 k hk)
    omega

theorem rchOk_spec {l : List Ty} {n : List Int} (h : rchOk l n = true) : tabOk l = true ∧ n.Nodup ∧ ∀ k ∈ n, 0 ≤ k ∧ k < (l.length : Int) := by
  simp only [rchOk, Bool.and_eq_true, upIn, decide_eq_true_eq] at h
  exact ⟨h.1, up_nodup h.2.1, fun k hk => by have := h.2.2 k hk; omega⟩

/-- loop.example/g00837/impl.ReachedOf -/
def m29 : MC :=
  (.seq
   (.reg [⟨(some 2), none, .a (.box 32 (.t 0))⟩,
     ⟨(some 4), none, .a (.asg (.nils 3 1))⟩,
     ⟨(some 5), none, .a (.asg (.c (.bool false)))⟩])
   (.seq
    (.seq
     (.reg [⟨(some 6), none, .q (.load false 1 (.t 2))⟩,
       ⟨(some 7), none, .a (.call (.fn 79) false [.lend (.t 6)])⟩,
       ⟨(some 8), none, .q (.un .not (.t 7))⟩,
       ⟨(some 9), none, .q (.mov (.t 8))⟩,
       ⟨(some 10), (some (9, false)), .q (.mov (.t 1))⟩,
       ⟨(some 11), (some (9, false)), .a (.call (.fn 85) false [.lend (.t 10)])⟩,
       ⟨(some 12), (some (9, false)), .q (.un .not (.t 11))⟩,
       ⟨(some 13), none, .q (.pick (.t 9) (.c (.bool true)) (.t 12))⟩,
       ⟨(some 14), none, .q (.mov (.t 13))⟩,
       ⟨(some 15), (some (14, false)), .q (.mov (.t 1))⟩,
       ⟨(some 16), (some (14, false)), .q (.mkf 87 [.t 2])⟩,
       ⟨(some 17), (some (14, false)), .a (.call (.fn 86) false [.lend (.t 15), .lend (.t 16)])⟩,
       ⟨(some 18), none, .q (.pick (.t 14) (.c (.bool true)) (.t 17))⟩])
     (.cond (.t 18)
      (.seq
       (.reg [⟨(some 4), none, .a (.asg (.nils 3 1))⟩,
         ⟨(some 5), none, .a (.asg (.c (.bool false)))⟩])
       .ret)
      .skip))
    (.seq
     (.reg [⟨(some 19), none, .q (.load false 1 (.t 2))⟩,
       ⟨(some 20), none, .q (.mov (.t 1))⟩,
       ⟨(some 21), none, .a (.call (.fn 88) false [.lend (.t 19), .lend (.t 20), .lend (.c (.bool true))])⟩,
       ⟨(some 4), none, .a (.asg (.t 21))⟩,
       ⟨(some 5), none, .a (.asg (.c (.bool true)))⟩])
     .ret)))

set_option maxRecDepth 100000 in
theorem d29 (l : List Ty) (n : List Int) (hl : (l.length : Int) ≤ 1048576) (hs : ∀ s ∈ l, s.sm) (hn : (n.length : Int) ≤ 1048576) :
    Does Go.Proofs.Try.prog 29 [.fsl 6 (l.map Ty.z), .fsl 1 (n.map iv)] false (.tup [.usl 3 1 ((if rchOk l n = true then reachL l true n else []).map iv), .v (.bool (rchOk l n))]) [.dead, .dead] := by
  refine does_intro (mc := m29) (N := 22) (rs := [4, 5]) (fx := []) 2 rfl (by decide +kernel) ?_
  simp only [m29, EV, Nat.reduceEqDiff, Nat.reduceBEq, Nat.reduceLT, Nat.reduceLeDiff, Nat.reduceAdd, Nat.reduceSub, reduceIte]
  refine callK_i (d79 l hl hs) ?_
  simp only [EV, Nat.reduceEqDiff, Nat.reduceBEq, Nat.reduceLT, Nat.reduceLeDiff, Nat.reduceAdd, Nat.reduceSub, reduceIte]
  rcases ht : tabOk l with _ | _
  · have e : rchOk l n = false := by unfold rchOk; rw [ht]; rfl
    simp only [Bool.not_false, EV, Nat.reduceEqDiff, Nat.reduceBEq, Nat.reduceLT, Nat.reduceLeDiff, Nat.reduceAdd, Nat.reduceSub, reduceIte]
    simp only [e, List.map_nil, EV, Nat.reduceEqDiff, Nat.reduceBEq, Nat.reduceLT, Nat.reduceLeDiff, Nat.reduceAdd, Nat.reduceSub, reduceIte, evRE, retVC, cellV', evR, nfz, nfzs, nfzss, List.contains_nil, List.contains_cons, Bool.or_false, or_true]
  simp only [Bool.not_true, EV, Nat.reduceEqDiff, Nat.reduceBEq, Nat.reduceLT, Nat.reduceLeDiff, Nat.reduceAdd, Nat.reduceSub, reduceIte]
  refine callK_i (d85 n hn) ?_
  simp only [EV, Nat.reduceEqDiff, Nat.reduceBEq, Nat.reduceLT, Nat.reduceLeDiff, Nat.reduceAdd, Nat.reduceSub, reduceIte]
  have hu := upIn_eq n l
  rcases hb : upB n with _ | _
  · have e : rchOk l n = false := by unfold rchOk; rw [ht, hu, hb]; rfl
    simp only [Bool.not_false, EV, Nat.reduceEqDiff, Nat.reduceBEq, Nat.reduceLT, Nat.reduceLeDiff, Nat.reduceAdd, Nat.reduceSub, reduceIte]
    simp only [e, List.map_nil, EV, Nat.reduceEqDiff, Nat.reduceBEq, Nat.reduceLT, Nat.reduceLeDiff, Nat.reduceAdd, Nat.reduceSub, reduceIte, evRE, retVC, cellV', evR, nfz, nfzs, nfzss, List.contains_nil, List.contains_cons, Bool.or_false, or_true]
  simp only [Bool.not_true, EV, Nat.reduceEqDiff, Nat.reduceBEq, Nat.reduceLT, Nat.reduceLeDiff, Nat.reduceAdd, Nat.reduceSub, reduceIte]
  refine callK_i (d86 n (by omega) 87 [.fptr [.fsl 6 (l.map Ty.z)]] (fun k => !isNum l k) rfl rfl (fun _ => rfl) (fun _ => rfl) (fun s _ => d87 l s hl)) ?_
  simp only [EV, Nat.reduceEqDiff, Nat.reduceBEq, Nat.reduceLT, Nat.reduceLeDiff, Nat.reduceAdd, Nat.reduceSub, reduceIte]
  rcases ha : (n.any fun k => !isNum l k) with _ | _
  rotate_left
  · have e : rchOk l n = false := by unfold rchOk; rw [ht, hu, hb, ha]; rfl
    simp only [EV, Nat.reduceEqDiff, Nat.reduceBEq, Nat.reduceLT, Nat.reduceLeDiff, Nat.reduceAdd, Nat.reduceSub, reduceIte]
    simp only [e, List.map_nil, EV, Nat.reduceEqDiff, Nat.reduceBEq, Nat.reduceLT, Nat.reduceLeDiff, Nat.reduceAdd, Nat.reduceSub, reduceIte, evRE, retVC, cellV', evR, nfz, nfzs, nfzss, List.contains_nil, List.contains_cons, Bool.or_false, or_true]
  have e : rchOk l n = true := by unfold rchOk; rw [ht, hu, hb, ha]; rfl
  obtain ⟨_, hnd, hin⟩ := rchOk_spec e
  simp only [EV, Nat.reduceEqDiff, Nat.reduceBEq, Nat.reduceLT, Nat.reduceLeDiff, Nat.reduceAdd, Nat.reduceSub, reduceIte]
  refine callK_i (d88 l n true hl hs (tabOk_tys ht) hin hnd) ?_
  simp only [EV, Nat.reduceEqDiff, Nat.reduceBEq, Nat.reduceLT, Nat.reduceLeDiff, Nat.reduceAdd, Nat.reduceSub, reduceIte]
  simp only [e, iv_nfz, EV, Nat.reduceEqDiff, Nat.reduceBEq, Nat.reduceLT, Nat.reduceLeDiff, Nat.reduceAdd, Nat.reduceSub, reduceIte, evRE, retVC, cellV', evR, nfz, nfzs, nfzss, List.contains_nil, List.contains_cons, Bool.or_false, or_true]

/-- loop.example/g00837/spec.ReachedOf -/
def m27 : MC :=
  (.seq
   (.reg [⟨(some 4), none, .a (.asg (.nils 3 1))⟩,
     ⟨(some 5), none, .a (.asg (.c (.bool false)))⟩])
   (.seq
    (.seq
     (.reg [⟨(some 6), none, .q (.mov (.t 0))⟩,
       ⟨(some 7), none, .a (.call (.fn 82) false [.lend (.t 6)])⟩,
       ⟨(some 8), none, .q (.un .not (.t 7))⟩,
       ⟨(some 9), none, .q (.mov (.t 8))⟩,
       ⟨(some 10), (some (9, false)), .q (.mov (.t 1))⟩,
       ⟨(some 11), (some (9, false)), .q (.mov (.t 0))⟩,
       ⟨(some 12), (some (9, false)), .q (.len false (.t 11))⟩,
       ⟨(some 13), (some (9, false)), .q (.bin false .sub (.t 12) (.c (.int .i64 1)))⟩,
       ⟨(some 14), (some (9, false)), .a (.call (.fn 83) false [.lend (.t 10), .lend (.c (.int .i64 0)), .lend (.t 13)])⟩,
       ⟨(some 15), (some (9, false)), .q (.un .not (.t 14))⟩,
       ⟨(some 16), none, .q (.pick (.t 9) (.c (.bool true)) (.t 15))⟩])
     (.cond (.t 16)
      (.seq
       (.reg [⟨(some 4), none, .a (.asg (.nils 3 1))⟩,
         ⟨(some 5), none, .a (.asg (.c (.bool false)))⟩])
       .ret)
      .skip))
    (.seq
     (.reg [⟨(some 17), none, .q (.mov (.t 0))⟩,
       ⟨(some 18), none, .q (.mov (.t 1))⟩,
       ⟨(some 19), none, .a (.call (.fn 84) false [.lend (.t 17), .lend (.t 18), .lend (.c (.bool true))])⟩,
       ⟨(some 4), none, .a (.asg (.t 19))⟩,
       ⟨(some 5), none, .a (.asg (.c (.bool true)))⟩])
     .ret)))

set_option maxRecDepth 100000 in
theorem d27 (l : List Ty) (n : List Int) (hl : (l.length : Int) ≤ 1048576) (hs : ∀ s ∈ l, s.sm) (hn : (n.length : Int) ≤ 1048576) :
    Does Go.Proofs.Try.prog 27 [.fsl 6 (l.map Ty.z), .fsl 1 (n.map iv)] false (.tup [.usl 3 1 ((if rchOk l n = true then reachL l true n else []).map iv), .v (.bool (rchOk l n))]) [.dead, .dead] := by
  refine does_intro (mc := m27) (N := 20) (rs := [4, 5]) (fx := []) 2 rfl (by decide +kernel) ?_
  simp only [m27, EV, Nat.reduceEqDiff, Nat.reduceBEq, Nat.reduceLT, Nat.reduceLeDiff, Nat.reduceAdd, Nat.reduceSub, reduceIte]
  refine callK_i (d82 l hl hs) ?_
  simp only [EV, Nat.reduceEqDiff, Nat.reduceBEq, Nat.reduceLT, Nat.reduceLeDiff, Nat.reduceAdd, Nat.reduceSub, reduceIte]
  rcases ht : tabOk l with _ | _
  · have e : rchOk l n = false := by unfold rchOk; rw [ht]; rfl
    simp only [Bool.not_false, EV, Nat.reduceEqDiff, Nat.reduceBEq, Nat.reduceLT, Nat.reduceLeDiff, Nat.reduceAdd, Nat.reduceSub, reduceIte]
    simp only [e, List.map_nil, EV, Nat.reduceEqDiff, Nat.reduceBEq, Nat.reduceLT, Nat.reduceLeDiff, Nat.reduceAdd, Nat.reduceSub, reduceIte, evRE, retVC, cellV', evR, nfz, nfzs, nfzss, List.contains_nil, List.contains_cons, Bool.or_false, or_true]
  simp only [Bool.not_true, EV, Nat.reduceEqDiff, Nat.reduceBEq, Nat.reduceLT, Nat.reduceLeDiff, Nat.reduceAdd, Nat.reduceSub, reduceIte]
  rw [w64 _ (by omega)]
  refine callK_i (d83 n 0 ((l.length : Int) - 1) hn) ?_
  simp only [EV, Nat.reduceEqDiff, Nat.reduceBEq, Nat.reduceLT, Nat.reduceLeDiff, Nat.reduceAdd, Nat.reduceSub, reduceIte]
  rcases hb : upIn n 0 ((l.length : Int) - 1) with _ | _
  · have e : rchOk l n = false := by unfold rchOk; rw [ht, hb]; rfl
    simp only [Bool.not_false, EV, Nat.reduceEqDiff, Nat.reduceBEq, Nat.reduceLT, Nat.reduceLeDiff, Nat.reduceAdd, Nat.reduceSub, reduceIte]
    simp only [e, List.map_nil, EV, Nat.reduceEqDiff, Nat.reduceBEq, Nat.reduceLT, Nat.reduceLeDiff, Nat.reduceAdd, Nat.reduceSub, reduceIte, evRE, retVC, cellV', evR, nfz, nfzs, nfzss, List.contains_nil, List.contains_cons, Bool.or_false, or_true]
  have e : rchOk l n = true := by unfold rchOk; rw [ht, hb]; rfl
  obtain ⟨_, hnd, hin⟩ := rchOk_spec e
  simp only [Bool.not_true, EV, Nat.reduceEqDiff, Nat.reduceBEq, Nat.reduceLT, Nat.reduceLeDiff, Nat.reduceAdd, Nat.reduceSub, reduceIte]
  refine callK_i (d84 l n true hl hs (tabOk_tys ht) hin hn) ?_
  simp only [EV, Nat.reduceEqDiff, Nat.reduceBEq, Nat.reduceLT, Nat.reduceLeDiff, Nat.reduceAdd, Nat.reduceSub, reduceIte]
  simp only [e, iv_nfz, EV, Nat.reduceEqDiff, Nat.reduceBEq, Nat.reduceLT, Nat.reduceLeDiff, Nat.reduceAdd, Nat.reduceSub, reduceIte, evRE, retVC, cellV', evR, nfz, nfzs, nfzss, List.contains_nil, List.contains_cons, Bool.or_false, or_true]

end Go.AM
namespace Go.AM
set_option linter.unusedVariables false
set_option linter.unusedSimpArgs false
theorem cnt_tot : ∀ l : List Ty, (∀ s ∈ l, s.sm) → cntTys l ≤ 5 * l.length + 3 * 1048576 * l.length
  | [], _ => by simp [cntTys]
  | t :: l, h => by
    have h1 := cnt_tot l fun s hs => h s (by simp [hs])
    have h2 := h t (by simp)
    unfold Ty.sm at h2
    have h3 := h2.2.2.2.1.1
    simp only [cntTys, cntTy, List.length_cons]
    omega

/-- loop.example/g00837/laws.FnExactReachedOf -/
def m7 : MC :=
  (.seq
   (.reg [⟨(some 4), none, .a (.asg (.c (.bool false)))⟩])
   (.keep [0, 1]
   (.seq
    (.seq
     (.reg [⟨(some 17), none, .q (.mov (.t 1))⟩,
       ⟨(some 18), none, .q (.len false (.t 17))⟩,
       ⟨(some 19), none, .q (.bin false .gtr (.t 18) (.c (.int .i64 1048576)))⟩])
     (.keep [0, 1, 19]
     (.cond (.t 19)
      (.seq
       (.reg [⟨(some 4), none, .a (.asg (.c (.bool true)))⟩])
       .ret)
      .skip)))
    (.keep [0, 1]
    (.seq
     (.reg [⟨(some 5), none, .a (.asg (.c (.int .i64 1048576)))⟩])
     (.keep [0, 1, 5]
     (.seq
      (.reg [⟨(some 20), none, .q (.mov (.t 0))⟩,
        ⟨(some 21), none, .q (.mov (.t 5))⟩,
        ⟨(some 22), none, .a (.call (.fn 18) false [.lend (.t 20), .lend (.t 21)])⟩,
        ⟨(some 5), none, .a (.asg (.t 22))⟩])
      (.keep [0, 1, 5]
      (.seq
       (.seq
        (.reg [⟨(some 23), none, .q (.mov (.t 5))⟩,
          ⟨(some 24), none, .q (.bin false .lss (.t 23) (.c (.int .i64 0)))⟩])
        (.keep [0, 1, 24]
        (.cond (.t 24)
         (.seq
          (.reg [⟨(some 4), none, .a (.asg (.c (.bool true)))⟩])
          .ret)
         .skip)))
       (.keep [0, 1]
       (.seq
        (.reg [⟨(some 26), none, .q (.mov (.t 0))⟩,
          ⟨(some 27), none, .a (.call (.fn 20) false [.lend (.t 26)])⟩,
          ⟨(some 28), none, .q (.mov (.t 1))⟩,
          ⟨(some 29), none, .a (.call (.fn 28) false [.lend (.t 28)])⟩,
          ⟨(some 30), none, .a (.call (.fn 27) false [.lend (.t 27), .lend (.t 29)])⟩,
          ⟨(some 25), none, .a (.asg (.t 30))⟩,
          ⟨(some 31), none, .q (.ext 25 0)⟩,
          ⟨(some 32), none, .q (.ext 25 1)⟩,
          ⟨(some 6), none, .a (.asg (.t 31))⟩,
          ⟨(some 7), none, .a (.asg (.t 32))⟩])
        (.keep [0, 1, 6, 7, 25, 30, 31]
        (.seq
         (.reg [⟨(some 33), none, .q (.mov (.t 0))⟩,
           ⟨(some 34), none, .a (.call (.fn 20) false [.lend (.t 33)])⟩,
           ⟨(some 8), none, .a (.asg (.t 34))⟩])
         (.keep [0, 1, 6, 7, 8, 25, 30, 31, 34]
         (.seq
          (.reg [⟨(some 35), none, .q (.mov (.t 1))⟩,
            ⟨(some 36), none, .a (.call (.fn 28) false [.lend (.t 35)])⟩,
            ⟨(some 9), none, .a (.asg (.t 36))⟩])
          (.keep [0, 1, 6, 7, 8, 9, 25, 30, 31, 34, 36]
          (.seq
           (.reg [⟨(some 38), none, .q (.mov (.t 8))⟩,
             ⟨(some 39), none, .q (.mov (.t 9))⟩,
             ⟨(some 40), none, .a (.call (.fn 29) false [.lend (.t 38), .lend (.t 39)])⟩,
             ⟨(some 37), none, .a (.asg (.t 40))⟩,
             ⟨(some 41), none, .q (.ext 37 0)⟩,
             ⟨(some 42), none, .q (.ext 37 1)⟩,
             ⟨(some 10), none, .a (.asg (.t 41))⟩,
             ⟨(some 11), none, .a (.asg (.t 42))⟩])
           (.keep [0, 1, 6, 7, 8, 9, 10, 11, 25, 30, 31, 34, 36, 37, 40, 41]
           (.seq
            (.seq
             (.reg [⟨(some 43), none, .q (.mov (.t 10))⟩,
               ⟨(some 44), none, .q (.mov (.t 6))⟩,
               ⟨(some 45), none, .a (.call (.fn 30) false [.lend (.t 43), .lend (.t 44)])⟩,
               ⟨(some 46), none, .q (.un .not (.t 45))⟩,
               ⟨(some 47), none, .q (.mov (.t 46))⟩,
               ⟨(some 48), (some (47, false)), .q (.mov (.t 11))⟩,
               ⟨(some 49), (some (47, false)), .q (.mov (.t 7))⟩,
               ⟨(some 50), (some (47, false)), .q (.bin true .neq (.t 48) (.t 49))⟩,
               ⟨(some 51), none, .q (.pick (.t 47) (.c (.bool true)) (.t 50))⟩])
             (.keep [0, 1, 6, 7, 8, 9, 10, 11, 25, 30, 31, 34, 36, 37, 40, 41, 51]
             (.cond (.t 51)
              (.seq
               (.reg [⟨(some 4), none, .a (.asg (.c (.bool false)))⟩])
               .ret)
              .skip)))
            (.keep [0, 1, 6, 7, 8, 9, 10, 11, 25, 30, 31, 34, 36, 37, 40, 41]
            (.seq
             (.seq
              (.reg [⟨(some 52), none, .q (.mov (.t 8))⟩,
                ⟨(some 53), none, .q (.mov (.t 0))⟩,
                ⟨(some 54), none, .a (.call (.fn 20) false [.lend (.t 53)])⟩,
                ⟨(some 55), none, .a (.call (.fn 22) false [.lend (.t 52), .lend (.t 54)])⟩,
                ⟨(some 56), none, .q (.un .not (.t 55))⟩])
              (.keep [0, 1, 6, 7, 8, 9, 10, 11, 25, 30, 31, 34, 36, 37, 40, 41, 56]
              (.cond (.t 56)
               (.seq
                (.reg [⟨(some 4), none, .a (.asg (.c (.bool false)))⟩])
                .ret)
               .skip)))
             (.keep [0, 1, 6, 7, 8, 9, 10, 11, 25, 30, 31, 34, 36, 37, 40, 41]
             (.seq
              (.seq
               (.reg [⟨(some 57), none, .q (.mov (.t 9))⟩,
                 ⟨(some 58), none, .q (.mov (.t 1))⟩,
                 ⟨(some 59), none, .a (.call (.fn 28) false [.lend (.t 58)])⟩,
                 ⟨(some 60), none, .a (.call (.fn 30) false [.lend (.t 57), .lend (.t 59)])⟩,
                 ⟨(some 61), none, .q (.un .not (.t 60))⟩])
               (.keep [0, 1, 6, 7, 8, 9, 10, 11, 25, 30, 31, 34, 36, 37, 40, 41, 61]
               (.cond (.t 61)
                (.seq
                 (.reg [⟨(some 4), none, .a (.asg (.c (.bool false)))⟩])
                 .ret)
                .skip)))
              (.keep [0, 1, 6, 7, 8, 9, 10, 11, 25, 30, 31, 34, 36, 37, 40, 41]
              (.seq
               (.reg [⟨(some 12), none, .a (.asg (.c (.int .i64 1)))⟩])
               (.keep [0, 1, 6, 7, 8, 9, 10, 11, 12, 25, 30, 31, 34, 36, 37, 40, 41]
               (.seq
                (.reg [⟨(some 62), none, .q (.mov (.t 8))⟩,
                  ⟨(some 63), none, .q (.mov (.t 12))⟩,
                  ⟨(some 64), none, .a (.call (.fn 31) false [.io (.t 62), .lend (.t 63)])⟩,
                  ⟨(some 12), none, .a (.asg (.t 64))⟩])
                (.keep [0, 1, 6, 7, 9, 10, 11, 12, 25, 30, 31, 36, 37, 40, 41]
                (.seq
                 (.reg [⟨(some 65), none, .q (.mov (.t 9))⟩,
                   ⟨(some 66), none, .q (.mov (.t 12))⟩,
                   ⟨(some 67), none, .a (.call (.fn 32) false [.io (.t 65), .lend (.t 66)])⟩,
                   ⟨(some 12), none, .a (.asg (.t 67))⟩])
                 (.keep [0, 1, 6, 7, 10, 11, 12, 25, 30, 31, 37, 40, 41]
                 (.seq
                  (.seq
                   (.reg [⟨(some 68), none, .q (.mov (.t 12))⟩,
                     ⟨(some 69), none, .q (.bin false .lss (.t 68) (.c (.int .i64 0)))⟩,
                     ⟨(some 70), none, .q (.mov (.t 69))⟩,
                     ⟨(some 71), (some (70, false)), .q (.mov (.t 10))⟩,
                     ⟨(some 72), (some (70, false)), .q (.mov (.t 6))⟩,
                     ⟨(some 73), (some (70, false)), .a (.call (.fn 30) false [.lend (.t 71), .lend (.t 72)])⟩,
                     ⟨(some 74), (some (70, false)), .q (.un .not (.t 73))⟩,
                     ⟨(some 75), none, .q (.pick (.t 70) (.c (.bool true)) (.t 74))⟩,
                     ⟨(some 76), none, .q (.mov (.t 75))⟩,
                     ⟨(some 77), (some (76, false)), .q (.mov (.t 11))⟩,
                     ⟨(some 78), (some (76, false)), .q (.mov (.t 7))⟩,
                     ⟨(some 79), (some (76, false)), .q (.bin true .neq (.t 77) (.t 78))⟩,
                     ⟨(some 80), none, .q (.pick (.t 76) (.c (.bool true)) (.t 79))⟩])
                   (.keep [0, 1, 6, 7, 10, 25, 30, 31, 37, 40, 41, 80]
                   (.cond (.t 80)
                    (.seq
                     (.reg [⟨(some 4), none, .a (.asg (.c (.bool false)))⟩])
                     .ret)
                    .skip)))
                  (.keep [0, 1, 6, 7, 10, 25, 30, 31, 37, 40, 41]
                  (.seq
                   (.reg [⟨(some 13), none, .a (.asg (.c (.int .i64 1)))⟩])
                   (.keep [0, 1, 6, 7, 10, 13, 25, 30, 31, 37, 40, 41]
                   (.seq
                    (.reg [⟨(some 81), none, .q (.mov (.t 10))⟩,
                      ⟨(some 82), none, .q (.mov (.t 13))⟩,
                      ⟨(some 83), none, .a (.call (.fn 32) false [.io (.t 81), .lend (.t 82)])⟩,
                      ⟨(some 13), none, .a (.asg (.t 83))⟩])
                    (.keep [0, 1, 6, 7, 10, 13, 25, 30, 31, 37, 40, 41]
                    (.seq
                     (.reg [⟨(some 14), none, .a (.asg (.c (.int .i64 1)))⟩])
                     (.keep [0, 1, 6, 7, 10, 13, 14, 25, 30, 31, 37, 40, 41]
                     (.seq
                      (.reg [⟨(some 84), none, .q (.mov (.t 10))⟩,
                        ⟨(some 85), none, .q (.mov (.t 14))⟩,
                        ⟨(some 86), none, .a (.call (.fn 33) false [.lend (.t 84), .lend (.t 85)])⟩,
                        ⟨(some 14), none, .a (.asg (.t 86))⟩])
                      (.keep [0, 1, 6, 7, 10, 13, 14, 25, 30, 31, 37, 40, 41]
                      (.seq
                       (.seq
                        (.reg [⟨(some 87), none, .q (.mov (.t 14))⟩,
                          ⟨(some 88), none, .q (.bin false .lss (.t 87) (.c (.int .i64 0)))⟩])
                        (.keep [0, 1, 6, 7, 10, 13, 14, 25, 30, 31, 37, 40, 41, 88]
                        (.cond (.t 88)
                         (.seq
                          (.reg [⟨(some 4), none, .a (.asg (.c (.bool false)))⟩])
                          .ret)
                         .skip)))
                       (.keep [0, 1, 6, 7, 10, 13, 14, 25, 30, 31, 37, 40, 41]
                       (.seq
                        (.seq
                         (.reg [⟨(some 89), none, .q (.mov (.t 14))⟩,
                           ⟨(some 90), none, .q (.mov (.t 13))⟩,
                           ⟨(some 91), none, .q (.bin false .neq (.t 89) (.t 90))⟩])
                         (.keep [0, 1, 6, 7, 10, 13, 25, 30, 31, 37, 40, 41, 91]
                         (.cond (.t 91)
                          (.seq
                           (.reg [⟨(some 4), none, .a (.asg (.c (.bool false)))⟩])
                           .ret)
                          .skip)))
                        (.keep [0, 1, 6, 7, 10, 13, 25, 30, 31, 37, 40, 41]
                        (.seq
                         (.reg [⟨(some 93), none, .q (.mov (.t 0))⟩,
                           ⟨(some 94), none, .a (.call (.fn 20) false [.lend (.t 93)])⟩,
                           ⟨(some 95), none, .q (.mov (.t 1))⟩,
                           ⟨(some 96), none, .a (.call (.fn 28) false [.lend (.t 95)])⟩,
                           ⟨(some 97), none, .a (.call (.fn 29) false [.lend (.t 94), .lend (.t 96)])⟩,
                           ⟨(some 92), none, .a (.asg (.t 97))⟩,
                           ⟨(some 98), none, .q (.ext 92 0)⟩,
                           ⟨(some 99), none, .q (.ext 92 1)⟩,
                           ⟨(some 15), none, .a (.asg (.t 98))⟩,
                           ⟨(some 16), none, .a (.asg (.t 99))⟩])
                         (.keep [6, 7, 10, 13, 15, 16, 25, 30, 31, 37, 40, 41, 92, 97, 98]
                         (.seq
                          (.seq
                           (.reg [⟨(some 100), none, .q (.mov (.t 15))⟩,
                             ⟨(some 101), none, .q (.mov (.t 6))⟩,
                             ⟨(some 102), none, .a (.call (.fn 30) false [.lend (.t 100), .lend (.t 101)])⟩,
                             ⟨(some 103), none, .q (.un .not (.t 102))⟩,
                             ⟨(some 104), none, .q (.mov (.t 103))⟩,
                             ⟨(some 105), (some (104, false)), .q (.mov (.t 16))⟩,
                             ⟨(some 106), (some (104, false)), .q (.mov (.t 7))⟩,
                             ⟨(some 107), (some (104, false)), .q (.bin true .neq (.t 105) (.t 106))⟩,
                             ⟨(some 108), none, .q (.pick (.t 104) (.c (.bool true)) (.t 107))⟩])
                           (.keep [10, 13, 37, 40, 41, 108]
                           (.cond (.t 108)
                            (.seq
                             (.reg [⟨(some 4), none, .a (.asg (.c (.bool false)))⟩])
                             .ret)
                            .skip)))
                          (.keep [10, 13, 37, 40, 41]
                          (.seq
                           (.reg [⟨(some 14), none, .a (.asg (.c (.int .i64 1)))⟩])
                           (.keep [10, 13, 14, 37, 40, 41]
                           (.seq
                            (.reg [⟨(some 109), none, .q (.mov (.t 10))⟩,
                              ⟨(some 110), none, .q (.mov (.t 14))⟩,
                              ⟨(some 111), none, .a (.call (.fn 33) false [.lend (.t 109), .lend (.t 110)])⟩,
                              ⟨(some 14), none, .a (.asg (.t 111))⟩])
                            (.keep [13, 14]
                            (.seq
                             (.seq
                              (.reg [⟨(some 112), none, .q (.mov (.t 14))⟩,
                                ⟨(some 113), none, .q (.bin false .lss (.t 112) (.c (.int .i64 0)))⟩])
                              (.keep [13, 14, 113]
                              (.cond (.t 113)
                               (.seq
                                (.reg [⟨(some 4), none, .a (.asg (.c (.bool false)))⟩])
                                .ret)
                               .skip)))
                             (.keep [13, 14]
                             (.seq
                              (.seq
                               (.reg [⟨(some 114), none, .q (.mov (.t 14))⟩,
                                 ⟨(some 115), none, .q (.mov (.t 13))⟩,
                                 ⟨(some 116), none, .q (.bin false .neq (.t 114) (.t 115))⟩])
                               (.keep [116]
                               (.cond (.t 116)
                                (.seq
                                 (.reg [⟨(some 4), none, .a (.asg (.c (.bool false)))⟩])
                                 .ret)
                                .skip)))
                              (.keep []
                              (.seq
                               (.reg [⟨(some 4), none, .a (.asg (.c (.bool true)))⟩])
                               .ret)))))))))))))))))))))))))))))))))))))))))))))))))))))))))

set_option maxHeartbeats 1000000 in
set_option maxRecDepth 100000 in
theorem d7 (a : List Ty) (n : List Int) (ha : (a.length : Int) ≤ 9223372036854775807) (hoa : ∀ s ∈ a, s.ok) (hn0 : (n.length : Int) ≤ 9223372036854775807) :
    Does Go.Proofs.Try.prog 7 [.fsl 6 (a.map Ty.z), .fsl 1 (n.map iv)] false (.v (.bool true)) [.dead, .dead] := by
  refine does_intro (mc := m7) (N := 117) (rs := [4]) (fx := []) 2 rfl (by decide +kernel) ?_
  simp only [m7, EV, Nat.reduceEqDiff, Nat.reduceBEq, Nat.reduceLT, Nat.reduceLeDiff, Nat.reduceAdd, Nat.reduceSub, reduceIte]
  refine cK_cut (fun h => ?_) (fun h => ?_)
  · simp only [EV, Nat.reduceEqDiff, Nat.reduceBEq, Nat.reduceLT, Nat.reduceLeDiff, Nat.reduceAdd, Nat.reduceSub, reduceIte]
    simp only [EV, Nat.reduceEqDiff, Nat.reduceBEq, Nat.reduceLT, Nat.reduceLeDiff, Nat.reduceAdd, Nat.reduceSub, reduceIte, evRE, retVC, cellV', evR, nfz, nfzs, nfzss, List.contains_nil, List.contains_cons, Bool.or_false, or_true]
  have hn : (n.length : Int) ≤ 1048576 := by have : ¬ 1048576 < (n.length : Int) := by simpa using h
                                             omega
  clear h
  simp only [EV, Nat.reduceEqDiff, Nat.reduceBEq, Nat.reduceLT, Nat.reduceLeDiff, Nat.reduceAdd, Nat.reduceSub, reduceIte]
  refine callK_i (d18 a 1048576 (by omega) (by omega) ha hoa) ?_
  simp only [EV, Nat.reduceEqDiff, Nat.reduceBEq, Nat.reduceLT, Nat.reduceLeDiff, Nat.reduceAdd, Nat.reduceSub, reduceIte]
  refine cK_cut (fun h => ?_) (fun h => ?_)
  · simp only [EV, Nat.reduceEqDiff, Nat.reduceBEq, Nat.reduceLT, Nat.reduceLeDiff, Nat.reduceAdd, Nat.reduceSub, reduceIte]
    simp only [EV, Nat.reduceEqDiff, Nat.reduceBEq, Nat.reduceLT, Nat.reduceLeDiff, Nat.reduceAdd, Nat.reduceSub, reduceIte, evRE, retVC, cellV', evR, nfz, nfzs, nfzss, List.contains_nil, List.contains_cons, Bool.or_false, or_true]
  have h0 : 0 ≤ szTyS a 1048576 := by simpa using h
  have h1 := szTyS_tot a _ h0
  have h2 := totTys_nn a
  have h3 : (a.length : Int) ≤ 1048576 := by omega
  have hx : ∀ s ∈ a, s.sm := fun s g => s.sm_of (by have := totTys_mem a s g; omega)
  clear h
  have d27' := d27 a n h3 hx hn
  have d29' := d29 a n h3 hx hn
  have hRl : (if rchOk a n = true then reachL a true n else []).length ≤ 1048576 := by
    split
    · rename_i hr
      have := nodup_le (up_nodup (reachL_up a true n)) (fun k hk => (mem_reachL.1 hk).1)
      omega
    · simp
  generalize (if rchOk a n = true then reachL a true n else []) = R at d27' d29' hRl
  have hct := cnt_tot a hx
  have hcn := cntTys_nn a
  have hk1 : decide (1 + cntTys a + (n.length : Int) < 0) = false := by simp; omega
  have hk2 : decide (1 + (R.length : Int) < 0) = false := by simp; omega
  simp only [EV, Nat.reduceEqDiff, Nat.reduceBEq, Nat.reduceLT, Nat.reduceLeDiff, Nat.reduceAdd, Nat.reduceSub, reduceIte]
  refine callK_i (d20 a h3 hx) ?_
  simp only [Ty.frz, iv_frz, EV, Nat.reduceEqDiff, Nat.reduceBEq, Nat.reduceLT, Nat.reduceLeDiff, Nat.reduceAdd, Nat.reduceSub, reduceIte]
  refine callK_i (d28 n hn) ?_
  simp only [Ty.frz, iv_frz, EV, Nat.reduceEqDiff, Nat.reduceBEq, Nat.reduceLT, Nat.reduceLeDiff, Nat.reduceAdd, Nat.reduceSub, reduceIte]
  refine callK_i d27' ?_
  simp only [Ty.frz, iv_frz, EV, Nat.reduceEqDiff, Nat.reduceBEq, Nat.reduceLT, Nat.reduceLeDiff, Nat.reduceAdd, Nat.reduceSub, reduceIte]
  refine callK_i (d20 a h3 hx) ?_
  simp only [Ty.frz, iv_frz, EV, Nat.reduceEqDiff, Nat.reduceBEq, Nat.reduceLT, Nat.reduceLeDiff, Nat.reduceAdd, Nat.reduceSub, reduceIte]
  refine callK_i (d28 n hn) ?_
  simp only [Ty.frz, iv_frz, EV, Nat.reduceEqDiff, Nat.reduceBEq, Nat.reduceLT, Nat.reduceLeDiff, Nat.reduceAdd, Nat.reduceSub, reduceIte]
  refine callK_i d29' ?_
  simp only [Ty.frz, iv_frz, EV, Nat.reduceEqDiff, Nat.reduceBEq, Nat.reduceLT, Nat.reduceLeDiff, Nat.reduceAdd, Nat.reduceSub, reduceIte]
  refine callK_i (d30 R (by omega)) ?_
  simp only [Ty.frz, iv_frz, EV, Nat.reduceEqDiff, Nat.reduceBEq, Nat.reduceLT, Nat.reduceLeDiff, Nat.reduceAdd, Nat.reduceSub, reduceIte]
  refine callK_i (d20 a h3 hx) ?_
  simp only [Ty.frz, iv_frz, EV, Nat.reduceEqDiff, Nat.reduceBEq, Nat.reduceLT, Nat.reduceLeDiff, Nat.reduceAdd, Nat.reduceSub, reduceIte]
  refine callK_i (d22 a h3 hx) ?_
  simp only [Ty.frz, iv_frz, EV, Nat.reduceEqDiff, Nat.reduceBEq, Nat.reduceLT, Nat.reduceLeDiff, Nat.reduceAdd, Nat.reduceSub, reduceIte]
  refine callK_i (d28 n hn) ?_
  simp only [Ty.frz, iv_frz, EV, Nat.reduceEqDiff, Nat.reduceBEq, Nat.reduceLT, Nat.reduceLeDiff, Nat.reduceAdd, Nat.reduceSub, reduceIte]
  refine callK_i (d30 n hn) ?_
  simp only [Ty.frz, iv_frz, EV, Nat.reduceEqDiff, Nat.reduceBEq, Nat.reduceLT, Nat.reduceLeDiff, Nat.reduceAdd, Nat.reduceSub, reduceIte]
  refine callK2_i (d31 a 1 (by omega) (by omega) h3 hx) rfl (by simp [shapeOf, mkTyS_len]) ?_
  simp only [Ty.frz, iv_frz, EV, Nat.reduceEqDiff, Nat.reduceBEq, Nat.reduceLT, Nat.reduceLeDiff, Nat.reduceAdd, Nat.reduceSub, reduceIte]
  refine callK2_i (d32 n (1 + cntTys a) (by omega) (by omega)) rfl (by simp [shapeOf, upI_len]) ?_
  simp only [Ty.frz, iv_frz, hk1, EV, Nat.reduceEqDiff, Nat.reduceBEq, Nat.reduceLT, Nat.reduceLeDiff, Nat.reduceAdd, Nat.reduceSub, reduceIte]
  refine callK_i (d30 R (by omega)) ?_
  simp only [Ty.frz, iv_frz, hk1, EV, Nat.reduceEqDiff, Nat.reduceBEq, Nat.reduceLT, Nat.reduceLeDiff, Nat.reduceAdd, Nat.reduceSub, reduceIte]
  refine callK2_i (d32 R 1 (by omega) (by omega)) rfl (by simp [shapeOf, upI_len]) ?_
  simp only [Ty.frz, iv_frz, hk2, EV, Nat.reduceEqDiff, Nat.reduceBEq, Nat.reduceLT, Nat.reduceLeDiff, Nat.reduceAdd, Nat.reduceSub, reduceIte]
  refine callK_i (d33 R.length 1 (by omega) (by omega)) ?_
  simp only [Ty.frz, iv_frz, hk2, EV, Nat.reduceEqDiff, Nat.reduceBEq, Nat.reduceLT, Nat.reduceLeDiff, Nat.reduceAdd, Nat.reduceSub, reduceIte]
  refine callK_i (d20 a h3 hx) ?_
  simp only [Ty.frz, iv_frz, hk2, EV, Nat.reduceEqDiff, Nat.reduceBEq, Nat.reduceLT, Nat.reduceLeDiff, Nat.reduceAdd, Nat.reduceSub, reduceIte]
  refine callK_i (d28 n hn) ?_
  simp only [Ty.frz, iv_frz, hk2, EV, Nat.reduceEqDiff, Nat.reduceBEq, Nat.reduceLT, Nat.reduceLeDiff, Nat.reduceAdd, Nat.reduceSub, reduceIte]
  refine callK_i d29' ?_
  simp only [Ty.frz, iv_frz, hk2, EV, Nat.reduceEqDiff, Nat.reduceBEq, Nat.reduceLT, Nat.reduceLeDiff, Nat.reduceAdd, Nat.reduceSub, reduceIte]
  refine callK_i (d30 R (by omega)) ?_
  simp only [Ty.frz, iv_frz, hk2, EV, Nat.reduceEqDiff, Nat.reduceBEq, Nat.reduceLT, Nat.reduceLeDiff, Nat.reduceAdd, Nat.reduceSub, reduceIte]
  refine callK_i (d33 R.length 1 (by omega) (by omega)) ?_
  simp only [Ty.frz, iv_frz, hk2, EV, Nat.reduceEqDiff, Nat.reduceBEq, Nat.reduceLT, Nat.reduceLeDiff, Nat.reduceAdd, Nat.reduceSub, reduceIte]
  simp only [EV, Nat.reduceEqDiff, Nat.reduceBEq, Nat.reduceLT, Nat.reduceLeDiff, Nat.reduceAdd, Nat.reduceSub, reduceIte, evRE, retVC, cellV', evR, nfz, nfzs, nfzss, List.contains_nil, List.contains_cons, Bool.or_false, or_true]

end Go.AM
namespace Go.AM
set_option linter.unusedVariables false
set_option linter.unusedSimpArgs false
/-- loop.example/g00837/laws.big -/
def m39 : MC :=
  (.seq
   (.reg [⟨(some 4), none, .a (.asg (.c (.bool false)))⟩])
   (.seq
    (.reg [⟨(some 5), none, .q (.mov (.t 0))⟩,
      ⟨(some 6), none, .q (.len false (.t 5))⟩,
      ⟨(some 7), none, .q (.bin false .gtr (.t 6) (.c (.int .i64 1048576)))⟩,
      ⟨(some 8), none, .q (.mov (.t 7))⟩,
      ⟨(some 9), (some (8, false)), .q (.mov (.t 1))⟩,
      ⟨(some 10), (some (8, false)), .q (.len false (.t 9))⟩,
      ⟨(some 11), (some (8, false)), .q (.mov (.t 0))⟩,
      ⟨(some 12), (some (8, false)), .q (.len false (.t 11))⟩,
      ⟨(some 13), (some (8, false)), .q (.bin false .sub (.c (.int .i64 1048576)) (.t 12))⟩,
      ⟨(some 14), (some (8, false)), .q (.bin false .gtr (.t 10) (.t 13))⟩,
      ⟨(some 15), none, .q (.pick (.t 8) (.c (.bool true)) (.t 14))⟩,
      ⟨(some 4), none, .a (.asg (.t 15))⟩])
    .ret))

theorem d39 (a b : List Int) (ha : (a.length : Int) ≤ 9223372036854775807) (hb : (b.length : Int) ≤ 9223372036854775807) : Does Go.Proofs.Try.prog 39 [.fsl 1 (a.map bv), .fsl 1 (b.map bv)] false (.v (.bool (decide (1048576 < (a.length : Int)) || decide (1048576 - (a.length : Int) < (b.length : Int))))) [.dead, .dead] := by
  refine does_intro (mc := m39) (N := 16) (rs := [4]) (fx := []) 2 rfl (by decide +kernel) ?_
  simp only [m39, EV, Nat.reduceEqDiff, Nat.reduceBEq, Nat.reduceLT, Nat.reduceLeDiff, Nat.reduceAdd, Nat.reduceSub, reduceIte]
  rcases e : decide (1048576 < (a.length : Int)) with _ | _
  · have h : ¬ 1048576 < (a.length : Int) := by simpa using e
    have w := w64 (1048576 - (a.length : Int)) (by omega)
    simp only [w, EV, Nat.reduceEqDiff, Nat.reduceBEq, Nat.reduceLT, Nat.reduceLeDiff, Nat.reduceAdd, Nat.reduceSub, reduceIte]
    simp only [Bool.false_or, EV, Nat.reduceEqDiff, Nat.reduceBEq, Nat.reduceLT, Nat.reduceLeDiff, Nat.reduceAdd, Nat.reduceSub, reduceIte, evRE, retVC, cellV', evR, nfz, nfzs, nfzss, List.contains_nil, List.contains_cons, Bool.or_false, or_true]
  · simp only [EV, Nat.reduceEqDiff, Nat.reduceBEq, Nat.reduceLT, Nat.reduceLeDiff, Nat.reduceAdd, Nat.reduceSub, reduceIte]
    simp only [Bool.true_or, EV, Nat.reduceEqDiff, Nat.reduceBEq, Nat.reduceLT, Nat.reduceLeDiff, Nat.reduceAdd, Nat.reduceSub, reduceIte, evRE, retVC, cellV', evR, nfz, nfzs, nfzss, List.contains_nil, List.contains_cons, Bool.or_false, or_true]

end Go.AM
namespace Go.AM
set_option linter.unusedVariables false
set_option linter.unusedSimpArgs false
/-- A record's line ends in one that has no base. -/
theorem line_end {l : List Ty} (ht : tabOk l = true) : ∀ (k : Nat) (n : Int), (lineL l n).length < k → isRec l n = true → ∃ pre m, lineL l n = pre ++ [m] ∧ isRec l m = true ∧ baseAt l m < 0
  | 0, n, h, _ => absurd h (by omega)
  | k + 1, n, h, hr => by
    have hlr := lineL_rec ht hr
    rcases (isRec_base (tabOk_tys ht) hr).1 with hb | hb
    · rw [lineL_neg hb] at hlr
      exact ⟨[], n, hlr, hr, hb⟩
    · rw [hlr, List.length_cons] at h
      obtain ⟨pre, m, h1, h2, h3⟩ := line_end ht k (baseAt l n) (by omega) hb
      exact ⟨n :: pre, m, by rw [hlr, h1]; rfl, h2, h3⟩

end Go.AM
namespace Go.AM
set_option linter.unusedVariables false
set_option linter.unusedSimpArgs false
theorem line_suf {l : List Ty} (ht : tabOk l = true) : ∀ (k : Nat) (a b : Int), (lineL l a).length < k → isRec l a = true → b ∈ lineL l a → ∃ pre, lineL l a = pre ++ lineL l b
  | 0, a, b, h, _, _ => absurd h (by omega)
  | k + 1, a, b, h, hr, hm => by
    have hlr := lineL_rec ht hr
    rw [hlr] at hm
    rcases List.mem_cons.1 hm with rfl | hm
    · exact ⟨[], rfl⟩
    · rcases (isRec_base (tabOk_tys ht) hr).1 with hb | hb
      · rw [lineL_neg hb] at hm; simp at hm
      · rw [hlr, List.length_cons] at h
        obtain ⟨pre, hp⟩ := line_suf ht k (baseAt l a) b (by omega) hb hm
        exact ⟨a :: pre, by rw [hlr, hp]; rfl⟩

theorem ext_suf {l : List Ty} {a b : Int} (ha : recOk l a = true) (h : extOk l a b = true) : ∃ pre, lineL l a = pre ++ lineL l b := by
  simp only [recOk, Bool.and_eq_true] at ha
  exact line_suf ha.1 _ a b (Nat.lt_succ_self _) ha.2 (List.contains_iff_mem.1 h)

theorem ext_self {l : List Ty} {a : Int} (ha : recOk l a = true) : extOk l a a = true := by
  simp only [recOk, Bool.and_eq_true] at ha
  exact List.contains_iff_mem.2 (by rw [lineL_rec ha.1 ha.2]; simp)

theorem ext_len {l : List Ty} {a b : Int} (ha : recOk l a = true) (h : extOk l a b = true) : (lineL l b).length ≤ (lineL l a).length := by
  obtain ⟨pre, hp⟩ := ext_suf ha h
  rw [hp, List.length_append]; omega

theorem ext_both {l : List Ty} {a b : Int} (ha : recOk l a = true) (hb : recOk l b = true) (h1 : extOk l a b = true) (h2 : extOk l b a = true) : a = b := by
  obtain ⟨pre, hp⟩ := ext_suf ha h1
  have hl := ext_len hb h2
  have : pre = [] := by
    have := congrArg List.length hp
    rw [List.length_append] at this
    exact List.eq_nil_of_length_eq_zero (by omega)
  rw [this, List.nil_append] at hp
  simp only [recOk, Bool.and_eq_true] at ha hb
  rw [lineL_rec ha.1 ha.2, lineL_rec hb.1 hb.2] at hp
  exact (List.cons.inj hp).1

theorem ext_root {l : List Ty} {a b : Int} (ha : recOk l a = true) (hb : recOk l b = true) (h : extOk l a b = true) : rootL l a = rootL l b := by
  obtain ⟨pre, hp⟩ := ext_suf ha h
  simp only [recOk, Bool.and_eq_true] at hb
  obtain ⟨pre2, m, h1, _, _⟩ := line_end hb.1 _ b (Nat.lt_succ_self _) hb.2
  rw [(root_end h1).1]
  rw [h1, ← List.append_assoc] at hp
  exact (root_end hp).1

theorem ext_all {l : List Ty} {a b : Int} (ha : recOk l a = true) (h : extOk l a b = true) : ∃ X, allF l a = allF l b ++ X := by
  obtain ⟨pre, hp⟩ := ext_suf ha h
  unfold allF
  rw [hp, allL_app]
  exact ⟨_, rfl⟩

/-- loop.example/g00837/laws.FnExtends -/
def m11 : MC :=
  (.seq
   (.reg [⟨(some 4), none, .a (.asg (.c (.bool false)))⟩])
   (.keep [0, 1]
   (.seq
    (.seq
     (.reg [⟨(some 39), none, .q (.mov (.t 0))⟩,
       ⟨(some 40), none, .q (.mov (.t 1))⟩,
       ⟨(some 41), none, .a (.call (.fn 39) false [.lend (.t 39), .lend (.t 40)])⟩])
     (.keep [0, 1, 41]
     (.cond (.t 41)
      (.seq
       (.reg [⟨(some 4), none, .a (.asg (.c (.bool true)))⟩])
       .ret)
      .skip)))
    (.keep [0, 1]
    (.seq
     (.reg [⟨(some 43), none, .q (.mov (.t 0))⟩,
       ⟨(some 44), none, .a (.call (.fn 49) true [.lend (.t 43)])⟩,
       ⟨(some 42), none, .q (.mov (.t 44))⟩,
       ⟨(some 45), none, .q (.ext 42 0)⟩,
       ⟨(some 46), none, .q (.ext 42 1)⟩,
       ⟨(some 47), none, .q (.ext 42 2)⟩,
       ⟨(some 5), none, .q (.mov (.t 45))⟩,
       ⟨(some 6), none, .a (.asg (.t 46))⟩,
       ⟨(some 7), none, .a (.asg (.t 47))⟩])
     (.keep [1, 5, 6, 7, 42, 44, 45]
     (.seq
      (.reg [⟨(some 49), none, .q (.mov (.t 5))⟩,
        ⟨(some 50), none, .q (.mov (.t 6))⟩,
        ⟨(some 51), none, .q (.mov (.t 7))⟩,
        ⟨(some 52), none, .a (.call (.fn 50) false [.lend (.t 49), .lend (.t 50), .lend (.t 51)])⟩,
        ⟨(some 48), none, .q (.mov (.t 52))⟩,
        ⟨(some 53), none, .q (.ext 48 0)⟩,
        ⟨(some 54), none, .q (.ext 48 1)⟩,
        ⟨(some 8), none, .a (.asg (.t 53))⟩,
        ⟨(some 9), none, .a (.asg (.t 54))⟩])
      (.keep [1, 5, 6, 7, 8, 9, 42, 44, 45]
      (.seq
       (.reg [⟨(some 56), none, .q (.mov (.t 5))⟩,
         ⟨(some 57), none, .q (.mov (.t 6))⟩,
         ⟨(some 58), none, .q (.mov (.t 7))⟩,
         ⟨(some 59), none, .a (.call (.fn 51) false [.lend (.t 56), .lend (.t 57), .lend (.t 58)])⟩,
         ⟨(some 55), none, .q (.mov (.t 59))⟩,
         ⟨(some 60), none, .q (.ext 55 0)⟩,
         ⟨(some 61), none, .q (.ext 55 1)⟩,
         ⟨(some 10), none, .a (.asg (.t 60))⟩,
         ⟨(some 11), none, .a (.asg (.t 61))⟩])
       (.keep [1, 5, 6, 7, 8, 9, 10, 11, 42, 44, 45]
       (.seq
        (.seq
         (.reg [⟨(some 62), none, .q (.mov (.t 9))⟩,
           ⟨(some 63), none, .q (.mov (.t 11))⟩,
           ⟨(some 64), none, .q (.bin true .neq (.t 62) (.t 63))⟩,
           ⟨(some 65), none, .q (.mov (.t 64))⟩,
           ⟨(some 66), (some (65, false)), .q (.mov (.t 8))⟩,
           ⟨(some 67), (some (65, false)), .q (.mov (.t 10))⟩,
           ⟨(some 68), (some (65, false)), .q (.bin true .neq (.t 66) (.t 67))⟩,
           ⟨(some 69), none, .q (.pick (.t 65) (.c (.bool true)) (.t 68))⟩])
         (.keep [1, 5, 6, 7, 8, 9, 42, 44, 45, 69]
         (.cond (.t 69)
          (.seq
           (.reg [⟨(some 4), none, .a (.asg (.c (.bool false)))⟩])
           .ret)
          .skip)))
        (.keep [1, 5, 6, 7, 8, 9, 42, 44, 45]
        (.join [1]
         (.seq
          (.reg [⟨(some 70), none, .q (.mov (.t 9))⟩])
          (.keep [1, 5, 6, 7, 8, 42, 44, 45, 70]
          (.cond (.t 70)
           (.seq
            (.reg [⟨(some 72), none, .q (.mov (.t 5))⟩,
              ⟨(some 73), none, .q (.mov (.t 6))⟩,
              ⟨(some 74), none, .q (.mov (.t 6))⟩,
              ⟨(some 75), none, .a (.call (.fn 50) false [.lend (.t 72), .lend (.t 73), .lend (.t 74)])⟩,
              ⟨(some 71), none, .q (.mov (.t 75))⟩,
              ⟨(some 76), none, .q (.ext 71 0)⟩,
              ⟨(some 77), none, .q (.ext 71 1)⟩,
              ⟨(some 12), none, .a (.asg (.t 76))⟩,
              ⟨(some 13), none, .a (.asg (.t 77))⟩])
            (.keep [1, 5, 6, 7, 8, 12, 13, 42, 44, 45]
            (.seq
             (.reg [⟨(some 79), none, .q (.mov (.t 5))⟩,
               ⟨(some 80), none, .q (.mov (.t 7))⟩,
               ⟨(some 81), none, .q (.mov (.t 6))⟩,
               ⟨(some 82), none, .a (.call (.fn 50) false [.lend (.t 79), .lend (.t 80), .lend (.t 81)])⟩,
               ⟨(some 78), none, .q (.mov (.t 82))⟩,
               ⟨(some 83), none, .q (.ext 78 0)⟩,
               ⟨(some 84), none, .q (.ext 78 1)⟩,
               ⟨(some 14), none, .a (.asg (.t 83))⟩,
               ⟨(some 15), none, .a (.asg (.t 84))⟩])
             (.keep [1, 5, 6, 7, 8, 12, 13, 14, 15, 42, 44, 45]
             (.seq
              (.reg [⟨(some 86), none, .q (.mov (.t 5))⟩,
                ⟨(some 87), none, .q (.mov (.t 6))⟩,
                ⟨(some 88), none, .a (.call (.fn 24) false [.lend (.t 86), .lend (.t 87)])⟩,
                ⟨(some 85), none, .q (.mov (.t 88))⟩,
                ⟨(some 89), none, .q (.ext 85 0)⟩,
                ⟨(some 90), none, .q (.ext 85 1)⟩,
                ⟨(some 16), none, .a (.asg (.t 89))⟩,
                ⟨(some 17), none, .a (.asg (.t 90))⟩])
              (.keep [1, 5, 6, 7, 8, 12, 13, 14, 15, 16, 17, 42, 44, 45]
              (.seq
               (.reg [⟨(some 92), none, .q (.mov (.t 5))⟩,
                 ⟨(some 93), none, .q (.mov (.t 7))⟩,
                 ⟨(some 94), none, .a (.call (.fn 24) false [.lend (.t 92), .lend (.t 93)])⟩,
                 ⟨(some 91), none, .q (.mov (.t 94))⟩,
                 ⟨(some 95), none, .q (.ext 91 0)⟩,
                 ⟨(some 96), none, .q (.ext 91 1)⟩,
                 ⟨(some 18), none, .a (.asg (.t 95))⟩,
                 ⟨(some 19), none, .a (.asg (.t 96))⟩])
               (.keep [1, 5, 6, 7, 8, 12, 13, 14, 15, 16, 17, 18, 19, 42, 44, 45]
               (.seq
                (.reg [⟨(some 98), none, .q (.mov (.t 5))⟩,
                  ⟨(some 99), none, .q (.mov (.t 6))⟩,
                  ⟨(some 100), none, .a (.call (.fn 21) false [.lend (.t 98), .lend (.t 99)])⟩,
                  ⟨(some 97), none, .q (.mov (.t 100))⟩,
                  ⟨(some 101), none, .q (.ext 97 0)⟩,
                  ⟨(some 102), none, .q (.ext 97 1)⟩,
                  ⟨(some 20), none, .a (.asg (.t 101))⟩,
                  ⟨(some 21), none, .a (.asg (.t 102))⟩])
                (.keep [1, 5, 6, 7, 8, 12, 13, 14, 15, 16, 17, 18, 19, 20, 21, 42, 44, 45]
                (.seq
                 (.reg [⟨(some 104), none, .q (.mov (.t 5))⟩,
                   ⟨(some 105), none, .q (.mov (.t 7))⟩,
                   ⟨(some 106), none, .a (.call (.fn 21) false [.lend (.t 104), .lend (.t 105)])⟩,
                   ⟨(some 103), none, .q (.mov (.t 106))⟩,
                   ⟨(some 107), none, .q (.ext 103 0)⟩,
                   ⟨(some 108), none, .q (.ext 103 1)⟩,
                   ⟨(some 22), none, .a (.asg (.t 107))⟩,
                   ⟨(some 23), none, .a (.asg (.t 108))⟩])
                 (.keep [1, 5, 6, 7, 8, 12, 13, 14, 15, 16, 17, 18, 19, 20, 21, 22, 23, 42, 44, 45]
                 (.seq
                  (.seq
                   (.reg [⟨(some 109), none, .q (.mov (.t 13))⟩,
                     ⟨(some 110), none, .q (.un .not (.t 109))⟩,
                     ⟨(some 111), none, .q (.mov (.t 110))⟩,
                     ⟨(some 112), (some (111, false)), .q (.mov (.t 12))⟩,
                     ⟨(some 113), (some (111, false)), .q (.un .not (.t 112))⟩,
                     ⟨(some 114), none, .q (.pick (.t 111) (.c (.bool true)) (.t 113))⟩,
                     ⟨(some 115), none, .q (.mov (.t 114))⟩,
                     ⟨(some 116), (some (115, false)), .q (.mov (.t 15))⟩,
                     ⟨(some 117), (some (115, false)), .q (.un .not (.t 116))⟩,
                     ⟨(some 118), none, .q (.pick (.t 115) (.c (.bool true)) (.t 117))⟩,
                     ⟨(some 119), none, .q (.mov (.t 118))⟩,
                     ⟨(some 120), (some (119, false)), .q (.mov (.t 8))⟩,
                     ⟨(some 121), (some (119, false)), .q (.mov (.t 120))⟩,
                     ⟨(some 122), (some (121, true)), .q (.mov (.t 14))⟩,
                     ⟨(some 123), (some (119, false)), .q (.pick (.t 121) (.t 122) (.c (.bool false)))⟩,
                     ⟨(some 124), (some (119, false)), .q (.mov (.t 123))⟩,
                     ⟨(some 125), (some (124, true)), .q (.mov (.t 6))⟩,
                     ⟨(some 126), (some (124, true)), .q (.mov (.t 7))⟩,
                     ⟨(some 127), (some (124, true)), .q (.bin false .neq (.t 125) (.t 126))⟩,
                     ⟨(some 128), (some (119, false)), .q (.pick (.t 124) (.t 127) (.c (.bool false)))⟩,
                     ⟨(some 129), none, .q (.pick (.t 119) (.c (.bool true)) (.t 128))⟩,
                     ⟨(some 130), none, .q (.mov (.t 129))⟩,
                     ⟨(some 131), (some (130, false)), .q (.mov (.t 17))⟩,
                     ⟨(some 132), (some (130, false)), .q (.un .not (.t 131))⟩,
                     ⟨(some 133), none, .q (.pick (.t 130) (.c (.bool true)) (.t 132))⟩,
                     ⟨(some 134), none, .q (.mov (.t 133))⟩,
                     ⟨(some 135), (some (134, false)), .q (.mov (.t 19))⟩,
                     ⟨(some 136), (some (134, false)), .q (.un .not (.t 135))⟩,
                     ⟨(some 137), none, .q (.pick (.t 134) (.c (.bool true)) (.t 136))⟩,
                     ⟨(some 138), none, .q (.mov (.t 137))⟩,
                     ⟨(some 139), (some (138, false)), .q (.mov (.t 8))⟩,
                     ⟨(some 140), (some (138, false)), .q (.mov (.t 139))⟩,
                     ⟨(some 141), (some (140, true)), .q (.mov (.t 16))⟩,
                     ⟨(some 142), (some (140, true)), .q (.mov (.t 18))⟩,
                     ⟨(some 143), (some (140, true)), .q (.bin false .lss (.t 141) (.t 142))⟩,
                     ⟨(some 144), (some (138, false)), .q (.pick (.t 140) (.t 143) (.c (.bool false)))⟩,
                     ⟨(some 145), none, .q (.pick (.t 138) (.c (.bool true)) (.t 144))⟩,
                     ⟨(some 146), none, .q (.mov (.t 145))⟩,
                     ⟨(some 147), (some (146, false)), .q (.mov (.t 21))⟩,
                     ⟨(some 148), (some (146, false)), .q (.un .not (.t 147))⟩,
                     ⟨(some 149), none, .q (.pick (.t 146) (.c (.bool true)) (.t 148))⟩,
                     ⟨(some 150), none, .q (.mov (.t 149))⟩,
                     ⟨(some 151), (some (150, false)), .q (.mov (.t 23))⟩,
                     ⟨(some 152), (some (150, false)), .q (.un .not (.t 151))⟩,
                     ⟨(some 153), none, .q (.pick (.t 150) (.c (.bool true)) (.t 152))⟩,
                     ⟨(some 154), none, .q (.mov (.t 153))⟩,
                     ⟨(some 155), (some (154, false)), .q (.mov (.t 8))⟩,
                     ⟨(some 156), (some (154, false)), .q (.mov (.t 155))⟩,
                     ⟨(some 157), (some (156, true)), .q (.mov (.t 20))⟩,
                     ⟨(some 158), (some (156, true)), .q (.mov (.t 22))⟩,
                     ⟨(some 159), (some (156, true)), .q (.bin false .neq (.t 157) (.t 158))⟩,
                     ⟨(some 160), (some (154, false)), .q (.pick (.t 156) (.t 159) (.c (.bool false)))⟩,
                     ⟨(some 161), none, .q (.pick (.t 154) (.c (.bool true)) (.t 160))⟩])
                   (.keep [1, 5, 6, 7, 8, 42, 44, 45, 161]
                   (.cond (.t 161)
                    (.seq
                     (.reg [⟨(some 4), none, .a (.asg (.c (.bool false)))⟩])
                     .ret)
                    .skip)))
                  (.keep [1, 5, 6, 7, 8, 42, 44, 45]
                  (.seq
                   (.reg [⟨(some 162), none, .q (.mov (.t 8))⟩])
                   (.keep [1, 5, 6, 7, 42, 44, 45, 162]
                   (.cond (.t 162)
                    (.seq
                     (.reg [⟨(some 164), none, .q (.mov (.t 5))⟩,
                       ⟨(some 165), none, .q (.mov (.t 6))⟩,
                       ⟨(some 166), none, .a (.call (.fn 35) false [.lend (.t 164), .lend (.t 165)])⟩,
                       ⟨(some 163), none, .a (.asg (.t 166))⟩,
                       ⟨(some 167), none, .q (.ext 163 0)⟩,
                       ⟨(some 168), none, .q (.ext 163 1)⟩,
                       ⟨(some 24), none, .a (.asg (.t 167))⟩,
                       ⟨(some 25), none, .a (.asg (.t 168))⟩])
                     (.keep [1, 5, 7, 24, 25, 42, 44, 45, 163, 166, 167]
                     (.seq
                      (.reg [⟨(some 170), none, .q (.mov (.t 5))⟩,
                        ⟨(some 171), none, .q (.mov (.t 7))⟩,
                        ⟨(some 172), none, .a (.call (.fn 35) false [.lend (.t 170), .lend (.t 171)])⟩,
                        ⟨(some 169), none, .a (.asg (.t 172))⟩,
                        ⟨(some 173), none, .q (.ext 169 0)⟩,
                        ⟨(some 174), none, .q (.ext 169 1)⟩,
                        ⟨(some 26), none, .a (.asg (.t 173))⟩,
                        ⟨(some 27), none, .a (.asg (.t 174))⟩])
                      (.keep [1, 24, 25, 26, 27, 163, 166, 167, 169, 172, 173]
                      (.seq
                       (.seq
                        (.reg [⟨(some 175), none, .q (.mov (.t 25))⟩,
                          ⟨(some 176), none, .q (.un .not (.t 175))⟩,
                          ⟨(some 177), none, .q (.mov (.t 176))⟩,
                          ⟨(some 178), (some (177, false)), .q (.mov (.t 27))⟩,
                          ⟨(some 179), (some (177, false)), .q (.un .not (.t 178))⟩,
                          ⟨(some 180), none, .q (.pick (.t 177) (.c (.bool true)) (.t 179))⟩,
                          ⟨(some 181), none, .q (.mov (.t 180))⟩,
                          ⟨(some 182), (some (181, false)), .q (.mov (.t 24))⟩,
                          ⟨(some 183), (some (181, false)), .q (.len false (.t 182))⟩,
                          ⟨(some 184), (some (181, false)), .q (.mov (.t 26))⟩,
                          ⟨(some 185), (some (181, false)), .q (.len false (.t 184))⟩,
                          ⟨(some 186), (some (181, false)), .q (.bin false .lss (.t 183) (.t 185))⟩,
                          ⟨(some 187), none, .q (.pick (.t 181) (.c (.bool true)) (.t 186))⟩])
                        (.keep [1, 24, 26, 163, 166, 167, 169, 172, 173, 187]
                        (.cond (.t 187)
                         (.seq
                          (.reg [⟨(some 4), none, .a (.asg (.c (.bool false)))⟩])
                          .ret)
                         .skip)))
                       (.keep [1, 24, 26, 163, 166, 167, 169, 172, 173]
                       (.seq
                        (.reg [⟨(some 188), none, .q (.mov (.t 26))⟩,
                          ⟨(some 189), none, .q (.len false (.t 188))⟩,
                          ⟨(some 190), none, .q (.mov (.c (.int .i64 0)))⟩])
                        (.keep [1, 24, 26, 163, 166, 167, 169, 172, 173, 189, 190]
                        (.block 0
                         (.loop [1, 24, 26, 163, 166, 167, 169, 172, 173, 189, 190]
                          (.seq
                           (.reg [⟨(some 191), none, .q (.bin false .lss (.t 190) (.t 189))⟩])
                           (.keep [1, 24, 26, 163, 166, 167, 169, 172, 173, 189, 190, 191]
                           (.seq
                            (.cond (.t 191)
                             .skip
                             (.exit 0))
                            (.keep [1, 24, 26, 163, 166, 167, 169, 172, 173, 189, 190]
                            (.seq
                             (.block 1
                              (.seq
                               (.reg [⟨(some 192), none, .q (.mov (.t 190))⟩,
                                 ⟨(some 28), none, .a (.asg (.t 192))⟩])
                               (.keep [1, 24, 26, 28, 163, 166, 167, 169, 172, 173, 189, 190]
                               (.seq
                                (.dreg [⟨(some 193), none, .q (.mov (.t 24))⟩,
                                  ⟨(some 194), none, .q (.mov (.t 28))⟩,
                                  ⟨(some 195), none, .q (.iad 3 (.t 193) (.t 194))⟩,
                                  ⟨(some 196), none, .q (.load true 3 (.t 195))⟩,
                                  ⟨(some 197), none, .q (.mov (.t 26))⟩,
                                  ⟨(some 198), none, .q (.mov (.t 28))⟩,
                                  ⟨(some 199), none, .q (.iad 3 (.t 197) (.t 198))⟩,
                                  ⟨(some 200), none, .q (.load true 3 (.t 199))⟩,
                                  ⟨(some 201), none, .q (.eqa true [1, 0, 0] (.t 196) (.t 200))⟩])
                                (.keep [1, 24, 26, 163, 166, 167, 169, 172, 173, 189, 190, 201]
                                (.cond (.t 201)
                                 (.seq
                                  (.reg [⟨(some 4), none, .a (.asg (.c (.bool false)))⟩])
                                  .ret)
                                 .skip))))))
                             (.keep [1, 24, 26, 163, 166, 167, 169, 172, 173, 189, 190]
                             (.reg [⟨(some 202), none, .q (.bin false .add (.t 190) (.c (.int .i64 1)))⟩,
                               ⟨(some 190), none, .q (.mov (.t 202))⟩])))))))))))))))))
                    .skip)))))))))))))))))
           .skip)))
         (.seq
          (.reg [⟨(some 204), none, .q (.mov (.t 1))⟩,
            ⟨(some 205), none, .a (.call (.fn 52) true [.lend (.t 204)])⟩,
            ⟨(some 203), none, .q (.mov (.t 205))⟩,
            ⟨(some 206), none, .q (.ext 203 0)⟩,
            ⟨(some 207), none, .q (.ext 203 1)⟩,
            ⟨(some 29), none, .q (.mov (.t 206))⟩,
            ⟨(some 30), none, .a (.asg (.t 207))⟩])
          (.keep [29, 30, 203, 205, 206]
          (.seq
           (.reg [⟨(some 209), none, .q (.mov (.t 29))⟩,
             ⟨(some 210), none, .q (.mov (.t 30))⟩,
             ⟨(some 211), none, .a (.call (.fn 24) false [.lend (.t 209), .lend (.t 210)])⟩,
             ⟨(some 208), none, .q (.mov (.t 211))⟩,
             ⟨(some 212), none, .q (.ext 208 0)⟩,
             ⟨(some 213), none, .q (.ext 208 1)⟩,
             ⟨(some 31), none, .a (.asg (.t 212))⟩,
             ⟨(some 32), none, .a (.asg (.t 213))⟩])
           (.keep [29, 30, 31, 32, 203, 205, 206]
           (.seq
            (.reg [⟨(some 215), none, .q (.mov (.t 29))⟩,
              ⟨(some 216), none, .q (.mov (.t 30))⟩,
              ⟨(some 217), none, .a (.call (.fn 23) false [.lend (.t 215), .lend (.t 216)])⟩,
              ⟨(some 214), none, .q (.mov (.t 217))⟩,
              ⟨(some 218), none, .q (.ext 214 0)⟩,
              ⟨(some 219), none, .q (.ext 214 1)⟩,
              ⟨(some 33), none, .a (.asg (.t 218))⟩,
              ⟨(some 34), none, .a (.asg (.t 219))⟩])
            (.keep [29, 30, 31, 32, 33, 34, 203, 205, 206]
            (.seq
             (.reg [⟨(some 221), none, .q (.mov (.t 29))⟩,
               ⟨(some 222), none, .q (.mov (.t 30))⟩,
               ⟨(some 223), none, .a (.call (.fn 21) false [.lend (.t 221), .lend (.t 222)])⟩,
               ⟨(some 220), none, .q (.mov (.t 223))⟩,
               ⟨(some 224), none, .q (.ext 220 0)⟩,
               ⟨(some 225), none, .q (.ext 220 1)⟩,
               ⟨(some 35), none, .a (.asg (.t 224))⟩,
               ⟨(some 36), none, .a (.asg (.t 225))⟩])
             (.keep [29, 30, 31, 32, 33, 34, 35, 36, 203, 205, 206]
             (.seq
              (.reg [⟨(some 227), none, .q (.mov (.t 29))⟩,
                ⟨(some 228), none, .q (.mov (.t 30))⟩,
                ⟨(some 229), none, .a (.call (.fn 19) false [.lend (.t 227), .lend (.t 228)])⟩,
                ⟨(some 226), none, .q (.mov (.t 229))⟩,
                ⟨(some 230), none, .q (.ext 226 0)⟩,
                ⟨(some 231), none, .q (.ext 226 1)⟩,
                ⟨(some 37), none, .a (.asg (.t 230))⟩,
                ⟨(some 38), none, .a (.asg (.t 231))⟩])
              (.keep [31, 32, 33, 34, 35, 36, 37, 38]
              (.seq
               (.reg [⟨(some 232), none, .q (.mov (.t 32))⟩,
                 ⟨(some 233), none, .q (.mov (.t 34))⟩,
                 ⟨(some 234), none, .q (.bin true .eql (.t 232) (.t 233))⟩,
                 ⟨(some 235), none, .q (.mov (.t 234))⟩,
                 ⟨(some 236), (some (235, true)), .q (.mov (.t 31))⟩,
                 ⟨(some 237), (some (235, true)), .q (.mov (.t 33))⟩,
                 ⟨(some 238), (some (235, true)), .q (.bin false .eql (.t 236) (.t 237))⟩,
                 ⟨(some 239), none, .q (.pick (.t 235) (.t 238) (.c (.bool false)))⟩,
                 ⟨(some 240), none, .q (.mov (.t 239))⟩,
                 ⟨(some 241), (some (240, true)), .q (.mov (.t 36))⟩,
                 ⟨(some 242), (some (240, true)), .q (.mov (.t 38))⟩,
                 ⟨(some 243), (some (240, true)), .q (.bin true .eql (.t 241) (.t 242))⟩,
                 ⟨(some 244), none, .q (.pick (.t 240) (.t 243) (.c (.bool false)))⟩,
                 ⟨(some 245), none, .q (.mov (.t 244))⟩,
                 ⟨(some 246), (some (245, true)), .q (.mov (.t 35))⟩,
                 ⟨(some 247), (some (245, true)), .q (.mov (.t 37))⟩,
                 ⟨(some 248), (some (245, true)), .q (.bin false .eql (.t 246) (.t 247))⟩,
                 ⟨(some 249), none, .q (.pick (.t 245) (.t 248) (.c (.bool false)))⟩,
                 ⟨(some 4), none, .a (.asg (.t 249))⟩])
               .ret))))))))))))))))))))))))

set_option maxHeartbeats 2000000 in
set_option maxRecDepth 100000 in
theorem d11 (code more : List Int) (hc : (code.length : Int) ≤ 9223372036854775807) (hm : (more.length : Int) ≤ 9223372036854775807) (hcb : ∀ b ∈ code, 0 ≤ b ∧ b ≤ 255) (hmb : ∀ b ∈ more, 0 ≤ b ∧ b ≤ 255) :
    Does Go.Proofs.Try.prog 11 [.fsl 1 (code.map bv), .fsl 1 (more.map bv)] false (.v (.bool true)) [.dead, .dead] := by
  refine does_intro (mc := m11) (N := 250) (rs := [4]) (fx := []) 2 rfl (by decide +kernel) ?_
  simp only [m11, EV, Nat.reduceEqDiff, Nat.reduceBEq, Nat.reduceLT, Nat.reduceLeDiff, Nat.reduceAdd, Nat.reduceSub, reduceIte]
  refine callK_i (d39 code more hc hm) ?_
  simp only [EV, Nat.reduceEqDiff, Nat.reduceBEq, Nat.reduceLT, Nat.reduceLeDiff, Nat.reduceAdd, Nat.reduceSub, reduceIte]
  refine cK_cut (fun h => ?_) (fun h => ?_)
  · simp only [EV, Nat.reduceEqDiff, Nat.reduceBEq, Nat.reduceLT, Nat.reduceLeDiff, Nat.reduceAdd, Nat.reduceSub, reduceIte]
    simp only [EV, Nat.reduceEqDiff, Nat.reduceBEq, Nat.reduceLT, Nat.reduceLeDiff, Nat.reduceAdd, Nat.reduceSub, reduceIte, evRE, retVC, cellV', evR, nfz, nfzs, nfzss, List.contains_nil, List.contains_cons, Bool.or_false, or_true]
  have h1 : (code.length : Int) ≤ 1048576 ∧ (more.length : Int) ≤ 1048576 := by
    simp only [Bool.or_eq_false_iff, decide_eq_false_iff_not] at h
    omega
  clear h
  simp only [EV, Nat.reduceEqDiff, Nat.reduceBEq, Nat.reduceLT, Nat.reduceLeDiff, Nat.reduceAdd, Nat.reduceSub, reduceIte]
  refine callE_i (p49 code h1.1 hcb) (fun r o h => ⟨h.2, h.1⟩) ?_
  rintro _ ⟨l, a, b, rfl, l9, hs⟩
  have hl : (l.length : Int) ≤ 1048576 := by omega
  have bs : ∀ b : Bool, (b != b) = false := fun b => by cases b <;> rfl
  simp only [pbeq, EV, Nat.reduceEqDiff, Nat.reduceBEq, Nat.reduceLT, Nat.reduceLeDiff, Nat.reduceAdd, Nat.reduceSub, reduceIte]
  refine callK_i (d50 l a b hl hs) ?_
  simp only [pbeq, EV, Nat.reduceEqDiff, Nat.reduceBEq, Nat.reduceLT, Nat.reduceLeDiff, Nat.reduceAdd, Nat.reduceSub, reduceIte]
  refine callK_i (d51 l a b hl hs) ?_
  simp only [bs, pbeq, EV, Nat.reduceEqDiff, Nat.reduceBEq, Nat.reduceLT, Nat.reduceLeDiff, Nat.reduceAdd, Nat.reduceSub, reduceIte]
  refine awp_join (fun _ : Unit => True) (fun _ => stl [(1, .fsl 1 (more.map bv))]) ?_ ?_
  · simp only [EV, Nat.reduceEqDiff, Nat.reduceBEq, Nat.reduceLT, Nat.reduceLeDiff, Nat.reduceAdd, Nat.reduceSub, reduceIte]
    rcases e : (recOk l a && recOk l b) with _ | _
    · simp only [EV, Nat.reduceEqDiff, Nat.reduceBEq, Nat.reduceLT, Nat.reduceLeDiff, Nat.reduceAdd, Nat.reduceSub, reduceIte]
      exact ⟨(), trivial⟩
    have e' := e
    simp only [Bool.and_eq_true] at e'
    obtain ⟨ha, hb⟩ := e'
    have d24a := d24 l a hl hs
    have d24b := d24 l b hl hs
    have d21a := d21 l a hl hs
    have d21b := d21 l b hl hs
    have d35a := d35 l a hl hs
    have d35b := d35 l b hl hs
    have d50a := d50 l a a hl hs
    have d50b := d50 l b a hl hs
    rw [ha, if_pos rfl] at d24a d21a d35a
    rw [hb, if_pos rfl] at d24b d21b d35b
    rw [ha, ext_self ha] at d50a
    rw [ha, hb] at d50b
    simp only [Bool.and_self, Bool.true_and] at d50a d50b
    simp only [Bool.true_and, EV, Nat.reduceEqDiff, Nat.reduceBEq, Nat.reduceLT, Nat.reduceLeDiff, Nat.reduceAdd, Nat.reduceSub, reduceIte]
    refine callK_i d50a ?_
    simp only [pbeq, EV, Nat.reduceEqDiff, Nat.reduceBEq, Nat.reduceLT, Nat.reduceLeDiff, Nat.reduceAdd, Nat.reduceSub, reduceIte]
    refine callK_i d50b ?_
    simp only [pbeq, EV, Nat.reduceEqDiff, Nat.reduceBEq, Nat.reduceLT, Nat.reduceLeDiff, Nat.reduceAdd, Nat.reduceSub, reduceIte]
    refine callK_i d24a ?_
    simp only [pbeq, EV, Nat.reduceEqDiff, Nat.reduceBEq, Nat.reduceLT, Nat.reduceLeDiff, Nat.reduceAdd, Nat.reduceSub, reduceIte]
    refine callK_i d24b ?_
    simp only [pbeq, EV, Nat.reduceEqDiff, Nat.reduceBEq, Nat.reduceLT, Nat.reduceLeDiff, Nat.reduceAdd, Nat.reduceSub, reduceIte]
    refine callK_i d21a ?_
    simp only [pbeq, EV, Nat.reduceEqDiff, Nat.reduceBEq, Nat.reduceLT, Nat.reduceLeDiff, Nat.reduceAdd, Nat.reduceSub, reduceIte]
    refine callK_i d21b ?_
    simp only [pbeq, EV, Nat.reduceEqDiff, Nat.reduceBEq, Nat.reduceLT, Nat.reduceLeDiff, Nat.reduceAdd, Nat.reduceSub, reduceIte]
    rcases ee : extOk l a b with _ | _
    · simp only [EV, Nat.reduceEqDiff, Nat.reduceBEq, Nat.reduceLT, Nat.reduceLeDiff, Nat.reduceAdd, Nat.reduceSub, reduceIte]
      exact ⟨(), trivial⟩
    · have hlen := ext_len ha ee
      obtain ⟨X, hX⟩ := ext_all ha ee
      have hx1 : decide (((lineL l a).length : Int) - 1 < ((lineL l b).length : Int) - 1) = false := by simp; omega
      have hx2 : (rootL l a != rootL l b) = false := by rw [ext_root ha hb ee]; simp
      have hx3 : decide (((allF l a).length : Int) < ((allF l b).length : Int)) = false := by rw [hX]; simp; omega
      have hal : (allF l b).length ≤ 150 := by simp only [recOk, Bool.and_eq_true] at hb; exact allF_len hb.1 b
      rcases e2 : extOk l b a with _ | _
      simp only [hx1, hx2, EV, Nat.reduceEqDiff, Nat.reduceBEq, Nat.reduceLT, Nat.reduceLeDiff, Nat.reduceAdd, Nat.reduceSub, reduceIte]
      rotate_left
      have hab : (a != b) = false := by rw [ext_both ha hb ee e2]; simp
      simp only [hx1, hx2, hab, EV, Nat.reduceEqDiff, Nat.reduceBEq, Nat.reduceLT, Nat.reduceLeDiff, Nat.reduceAdd, Nat.reduceSub, reduceIte]
      all_goals
        refine callK_i d35a ?_
        simp only [pbeq, EV, Nat.reduceEqDiff, Nat.reduceBEq, Nat.reduceLT, Nat.reduceLeDiff, Nat.reduceAdd, Nat.reduceSub, reduceIte]
        refine callK_i d35b ?_
        simp only [hx3, pbeq, EV, Nat.reduceEqDiff, Nat.reduceBEq, Nat.reduceLT, Nat.reduceLeDiff, Nat.reduceAdd, Nat.reduceSub, reduceIte]
        refine awp_loop (fun i : Nat => i ≤ (allF l b).length) (fun i => stl [(1, .fsl 1 (more.map bv)), (24, .usl 57 3 ((allF l a).map Fd.o)), (26, .usl 57 3 ((allF l b).map Fd.o)), (163, .tup [.dead, .v (.bool true)]), (166, .dead), (167, .dead), (169, .tup [.dead, .v (.bool true)]), (172, .dead), (173, .dead), (189, .v (.int .i64 ((allF l b).length : Int))), (190, .v (.int .i64 (i : Int)))]) (fun i => (allF l b).length - i) 0 (Nat.zero_le _) ?_ ?_
        · simp only [EV, Nat.reduceEqDiff, Nat.reduceBEq, Nat.reduceLT, Nat.reduceLeDiff, Nat.reduceAdd, Nat.reduceSub, reduceIte]
          rfl
        · intro i hi
          simp only [EV, Nat.reduceEqDiff, Nat.reduceBEq, Nat.reduceLT, Nat.reduceLeDiff, Nat.reduceAdd, Nat.reduceSub, reduceIte]
          refine cK_cut (fun h => ?_) (fun h => ?_)
          · have q1 : i < (allF l b).length := by simpa using h
            have q2 : (i : Int) < ((allF l b).length : Int) := by omega
            have q3 : i < (allF l a).length := by rw [hX, List.length_append]; omega
            have q4 : (i : Int) < ((allF l a).length : Int) := by omega
            have q5 : (allF l a)[i] = (allF l b)[i] := by simp only [hX]; exact List.getElem_append_left q1
            clear h
            simp only [nth_map q1, q1, q2, nth_map q3, q3, q4, q5, Fd.o, EV, Nat.reduceEqDiff, Nat.reduceBEq, Nat.reduceLT, Nat.reduceLeDiff, Nat.reduceAdd, Nat.reduceSub, reduceIte]
            rw [w64 _ (by omega)]
            exact ⟨i + 1, q1, by omega, rfl⟩
          · simp only [EV, Nat.reduceEqDiff, Nat.reduceBEq, Nat.reduceLT, Nat.reduceLeDiff, Nat.reduceAdd, Nat.reduceSub, reduceIte]
            exact ⟨(), trivial⟩
  rintro _ _
  simp only [EV, Nat.reduceEqDiff, Nat.reduceBEq, Nat.reduceLT, Nat.reduceLeDiff, Nat.reduceAdd, Nat.reduceSub, reduceIte]
  refine callE_i (p52 more h1.2 hmb) (fun r o h => ⟨h.2, h.1⟩) ?_
  rintro _ ⟨l', m, rfl, l9', hs'⟩
  have hl' : (l'.length : Int) ≤ 1048576 := by omega
  simp only [pbeq, EV, Nat.reduceEqDiff, Nat.reduceBEq, Nat.reduceLT, Nat.reduceLeDiff, Nat.reduceAdd, Nat.reduceSub, reduceIte]
  refine callK_i (d24 l' m hl' hs') ?_
  simp only [pbeq, EV, Nat.reduceEqDiff, Nat.reduceBEq, Nat.reduceLT, Nat.reduceLeDiff, Nat.reduceAdd, Nat.reduceSub, reduceIte]
  refine callK_i (d23 l' m hl' hs') ?_
  simp only [pbeq, EV, Nat.reduceEqDiff, Nat.reduceBEq, Nat.reduceLT, Nat.reduceLeDiff, Nat.reduceAdd, Nat.reduceSub, reduceIte]
  refine callK_i (d21 l' m hl' hs') ?_
  simp only [pbeq, EV, Nat.reduceEqDiff, Nat.reduceBEq, Nat.reduceLT, Nat.reduceLeDiff, Nat.reduceAdd, Nat.reduceSub, reduceIte]
  refine callK_i (d19 l' m hl' hs') ?_
  simp only [pbeq, EV, Nat.reduceEqDiff, Nat.reduceBEq, Nat.reduceLT, Nat.reduceLeDiff, Nat.reduceAdd, Nat.reduceSub, reduceIte]
  simp only [EV, Nat.reduceEqDiff, Nat.reduceBEq, Nat.reduceLT, Nat.reduceLeDiff, Nat.reduceAdd, Nat.reduceSub, reduceIte, evRE, retVC, cellV', evR, nfz, nfzs, nfzss, List.contains_nil, List.contains_cons, Bool.or_false, or_true]

end Go.AM
