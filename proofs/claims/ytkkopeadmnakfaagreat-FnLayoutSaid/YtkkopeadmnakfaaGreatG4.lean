/- Contracts of functions of the given program, for the law FnLayout: what they return and what they write, under the bounds that each theorem states. -/
import Derived.Test.YtkkopeadmnakfaaGreatG3
import Derived.Shelf.RegionOpen
namespace Go.Proofs.PlaceF
open Go Go.AM Go.RowKit Go.Shelf Go.Proofs Go.Proofs.BackP
attribute [local go_sem] Oper.semAt_some
set_option linter.unusedVariables false
set_option linter.unusedSimpArgs false
set_option maxRecDepth 100000 in
set_option maxHeartbeats 2000000 in
theorem c9 (l : List Ty) (n : Int) (s : ByteArray) (hl : (l.length : Int) ≤ 1048576) (hsm : ∀ t ∈ l, t.sm) : Con Tryz.prog 9 [.fsl 6 (l.map Ty.z), .v (.int .i64 n), .v (.string s)] false
    (.tup [.agg ((lastN s (layL l n)).getD noFd).z, .v (.bool (lastN s (layL l n)).isSome)]) [.dead, .dead, .dead] := by
  have hdoes := d6 l n hl hsm
  have hzb := layL_len l n
  have hlf := layL_ok l n
  obtain ⟨zs, hzs⟩ : ∃ zs, layL l n = zs := ⟨_, rfl⟩
  obtain ⟨ok, hok⟩ : ∃ ok, (layO l n).isSome = ok := ⟨_, rfl⟩
  rw [hzs, hok] at hdoes hlf
  rw [hzs] at hzb ⊢
  intro w Fz xs os hrep hos hfz hlt
  simp only [RepVs] at hrep
  obtain ⟨sv, _, o1, _, rfl, rfl, h1, _, _, o2, _, rfl, rfl, h2, _, _, o3, _, rfl, rfl, h3, rfl, rfl⟩ := hrep
  simp only [RepV] at h1 h2 h3
  have h1' := h1
  simp only [RepC] at h1 h2 h3
  obtain ⟨rfl, A, cap, rfl, hcap, hA⟩ := h1
  obtain ⟨rfl, _, rfl⟩ := h2
  obtain ⟨rfl, _, rfl⟩ := h3
  refine callsIn_wide (n := 9).1 (callsIn_of_wp_marks Tryz.func9 rfl trivial ?_ rfl)
  simp only [Tryz.ntmps9, List.size_toArray, List.length_cons, List.length_nil, Nat.reduceAdd, Nat.reduceSub, Array.replicate_succ, Array.replicate_zero, List.push_toArray, List.append_toArray, List.nil_append, List.cons_append]
  obtain ⟨w4, hw4⟩ : ∃ w4, (((w.alloc (Obj.cells #[Value.string s] 9)).alloc (Obj.cells #[Value.string ⟨#[]⟩, Value.int .i64 0, Value.int .i64 0] 31)).alloc (Obj.cells #[Value.bool false] 4)) = w4 := ⟨_, rfl⟩
  have hE4 : Ext w w4 [] := by
    rw [← hw4]
    exact ((Ext.alloc _ _ _).trans (Ext.alloc _ [] _) (by simp)).trans (Ext.alloc _ [] _) (by simp)
  have hs4 : w4.heap.size = w.heap.size + 3 := by rw [← hw4]; simp
  have hb5 : w4.heap[w.heap.size]? = some (.cells #[Value.string s] 9) := by
    rw [← hw4]
    rw [Below.heap_alloc _ _ _ (by simp; omega), Below.heap_alloc _ _ _ (by simp)]
    exact World.alloc_heap_new _ _
  have hb6 : w4.heap[w.heap.size + 1]? = some (.cells #[Value.string ⟨#[]⟩, Value.int .i64 0, Value.int .i64 0] 31) := by
    rw [← hw4]
    rw [Below.heap_alloc _ _ _ (by simp)]
    have := World.alloc_heap_new (w.alloc (Obj.cells #[Value.string s] 9)) (.cells #[Value.string ⟨#[]⟩, Value.int .i64 0, Value.int .i64 0] 31)
    rwa [World.size_alloc] at this
  have hb7 : w4.heap[w.heap.size + 1 + 1]? = some (.cells #[Value.bool false] 4) := by
    rw [← hw4]
    have := World.alloc_heap_new ((w.alloc (Obj.cells #[Value.string s] 9)).alloc (.cells #[Value.string ⟨#[]⟩, Value.int .i64 0, Value.int .i64 0] 31)) (Obj.cells #[Value.bool false] 4)
    rwa [World.size_alloc, World.size_alloc] at this
  have hlay := hdoes.2 w4 Fz [Value.slice A l.length cap, Value.int IntKind.i64 n] [] ⟨_, _, [], [], rfl, rfl, (keepW hlt hE4 (by simpa using h1')).toV, _, _, [], [], rfl, rfl, by simp [RepV, RepC, Value.oneCell'], rfl, rfl⟩ List.nodup_nil (by simp) (fun b hb => by have := hlt b hb; omega)
  gi_wp2
  refine ⟨trivial, (callsIn_wide.2 hlay).mono ?_⟩
  intro e w5 hpost
  obtain ⟨x, ox, oo, rfl, hE5, hx, ho, hnd, hold⟩ := hpost
  simp only [RepV, RepVs] at hx
  obtain ⟨_, rfl, y, _, o6, _, rfl, rfl, hu, _, _, _, _, rfl, rfl, hb, rfl, rfl⟩ := hx
  simp only [RepC] at hb
  obtain ⟨rfl, _, rfl⟩ := hb
  have hsl : ∃ (B : Option Addr) (b off c : Nat), y = .slice B zs.length c ∧ (0 < zs.length → B = some ⟨b, off, none⟩ ∧ w4.heap.size ≤ b ∧ b < w5.heap.size ∧ ∀ j, (hj : j < zs.length) → w5.cell? ⟨b, off + j * 3, none⟩ = some (.string zs[j].name) ∧ w5.cell? ⟨b, off + j * 3 + 1, none⟩ = some (.int .i64 zs[j].mark) ∧ w5.cell? ⟨b, off + j * 3 + 2, none⟩ = some (.int .i64 zs[j].typ)) := by
    simp only [RepC] at hu
    rcases hu with ⟨rfl, hz, rfl⟩ | ⟨g, h, c, cur, vs, o', rfl, rfl, hg, hc, hfit, hrw, hat⟩
    · have hz' : zs = [] := by simpa using hz
      subst hz'
      exact ⟨none, 0, 0, 0, rfl, fun h => absurd h (by simp)⟩
    · refine ⟨_, g, h * 3, c, by rw [List.length_map], fun _ => ⟨rfl, ?_, (hold g (by simp)).2, fun j hj => ?_⟩⟩
      · rcases (hold g (by simp)).1 with h | h
        · simp at h
        · exact h
      · obtain ⟨_, hr⟩ := rows_pl hrw
        obtain ⟨r1, r2, r3⟩ := hr j hj
        exact ⟨hat _ _ r1, hat (j * 3 + 1) _ r2, hat (j * 3 + 2) _ r3⟩
  obtain ⟨B, b, off, c, rfl, hB⟩ := hsl
  clear hu
  obtain ⟨w6, hw6⟩ : ∃ w6, w5.alloc (Obj.cells #[Value.bool ok] 4) = w6 := ⟨_, rfl⟩
  obtain ⟨w7, hw7⟩ : ∃ w7, w6.alloc (Obj.cells #[Value.slice B zs.length c] 27) = w7 := ⟨_, rfl⟩
  have hE56 : Ext w5 w6 [] := by rw [← hw6]; exact Ext.alloc _ _ _
  have hE67 : Ext w6 w7 [] := by rw [← hw7]; exact Ext.alloc _ _ _
  have hE57 : Ext w5 w7 [] := hE56.trans hE67 (by simp)
  have hE47 : Ext w4 w7 [] := hE5.trans hE57 (by simp)
  have hE7 : Ext w w7 [] := hE4.trans hE47 (by simp)
  have hs6 : w6.heap.size = w5.heap.size + 1 := by rw [← hw6]; simp
  have hs7 : w7.heap.size = w6.heap.size + 1 := by rw [← hw7]; simp
  have hs5 := hE5.size
  have c5 : w7.heap[w.heap.size]? = some (.cells #[Value.string s] 9) := (hE47.blk _ (by omega) (by simp)).trans hb5
  have c6 : w7.heap[w.heap.size + 1]? = some (.cells #[Value.string ⟨#[]⟩, Value.int .i64 0, Value.int .i64 0] 31) := (hE47.blk _ (by omega) (by simp)).trans hb6
  have c7 : w7.heap[w.heap.size + 1 + 1]? = some (.cells #[Value.bool false] 4) := (hE47.blk _ (by omega) (by simp)).trans hb7
  have c9 : w7.heap[w5.heap.size]? = some (.cells #[Value.bool ok] 4) := (hE67.blk _ (by omega) (by simp)).trans (by rw [← hw6]; exact World.alloc_heap_new _ _)
  have cB : w7.heap[w6.heap.size]? = some (.cells #[Value.slice B zs.length c] 27) := by rw [← hw7]; exact World.alloc_heap_new _ _
  have hRd : Rd w6.heap.size b off zs.length c B (zs.map plOf) w7 := by
    refine ⟨by rw [cell_of_cells cB]; rfl, fun h => (hB h).1, fun j hj => ?_⟩
    obtain ⟨_, _, h5, hh⟩ := hB (by omega)
    obtain ⟨r1, r2, r3⟩ := hh j hj
    have hbk := hE57.blk b h5 (by simp)
    have hz : ((zs.map plOf)[j]?.getD noP) = plOf zs[j] := by simp [hj]
    rw [hz]
    exact ⟨(World.cell?_of_block (w := w5) hbk).trans r1, (World.cell?_of_block (w := w5) hbk).trans r2, (World.cell?_of_block (w := w5) hbk).trans r3⟩
  clear hw4 hb5 hb6 hb7 hold hnd ho hdoes hlay
  gi_wp2
  refine ⟨trivial, (back_in Fence.wide _ trivial rfl _ _ _ _).mono ?_⟩
  rintro e w8 ⟨rfl, hw8⟩
  rw [hw7] at hw8
  subst hw8
  gi_wp2
  let fr : Nat → Int × Go.AM.Fd := fun k => (((zs.length - 1 - k : Nat) : Int), zs[zs.length - 1 - k]?.getD noFd)
  have hfr : ∀ k (hk : k < zs.length), (fr k).2 = zs[zs.length - 1 - k] := by
    intro k hk
    have : zs.length - 1 - k < zs.length := by omega
    simp [fr, this]
  rw [hs6] at hRd
  have hstop := back_stops Fence.wide 8 trivial rfl (by omega) (w5.heap.size + 1) b off zs.length c B (zs.map plOf) (fun x : Int × Go.AM.Fd => #[Value.int .i64 x.1, plV (plOf x.2)]) fr
    (fun k j hj => by
      have h1 : zs.length - 1 - k = j := by omega
      have h2 : j < zs.length := by omega
      simp [fr, h1, h2]) (by omega) w8 (by omega) (fun h => by have := (hB h).2.2.1; omega) hRd
  have h7p : ∀ W, Ext w8 W [] → W.heap[w.heap.size]? = some (.cells #[Value.string s] 9) ∧ W.heap[w.heap.size + 1]? = some (.cells #[Value.string ⟨#[]⟩, Value.int .i64 0, Value.int .i64 0] 31) ∧ W.heap[w.heap.size + 1 + 1]? = some (.cells #[Value.bool false] 4) ∧ W.heap[w5.heap.size]? = some (.cells #[Value.bool ok] 4) :=
    fun W hE => ⟨(hE.blk _ (by omega) (by simp)).trans c5, (hE.blk _ (by omega) (by simp)).trans c6, (hE.blk _ (by omega) (by simp)).trans c7, (hE.blk _ (by omega) (by simp)).trans c9⟩
  refine wpIn_rangeFunc_ownH rfl (by omega) (gf := 45) (lb := #[.pointer (some ⟨w5.heap.size + 1, 0, none⟩)]) rfl trivial (enters_of Tryz.func45 (by kernel_rfl) rfl) hstop (fun h k r => k (h r))
    (fun W lo o o' hlo _ _ _ h => Rd_of (World.putObj_heap_other (by omega)) (fun h => World.putObj_heap_other (by have := (hB h).2.2.1; omega)) h) (Below.refl _ _) (fun _ => rfl)
    (LI s w8) (LX w.heap.size s ok w8) (LI_own s w8) (LX_own (by omega) _ _) ⟨by simp, Ext.refl _ _⟩
    (fun x a' W => ∃ tb, w8.heap.size ≤ tb ∧ W.heap[tb]? = some (.cells #[.string x.2.name, .int .i64 x.2.mark, .int .i64 x.2.typ] 31) ∧ a' = Act.mk #[Value.slice A l.length cap, Value.int IntKind.i64 n, Value.string s, undef, undef,
                Value.pointer (some { block := w.heap.size, off := 0 }),
                Value.pointer (some { block := w.heap.size + 1, off := 0 }),
                Value.pointer (some { block := w.heap.size + 1 + 1, off := 0 }), Value.slice B zs.length c,
                Value.pointer (some { block := w5.heap.size, off := 0 }), undef, .pointer (some ⟨tb, 0, none⟩),
                Value.tuple #[Value.slice B zs.length c, Value.bool ok], Value.slice A l.length cap,
                Value.int IntKind.i64 n, Value.tuple #[Value.slice B zs.length c, Value.bool ok],
                Value.slice B zs.length c, Value.bool ok, Value.slice B zs.length c, Value.func (Fn.func 45) #[] #[Value.pointer (some { block := w5.heap.size + 1, off := 0 })],
                .int .i64 x.1, .agg #[.string x.2.name, .int .i64 x.2.mark, .int .i64 x.2.typ], undef, undef, undef, undef, undef, undef, undef] []) ?hAx ?assign ?body ?done ?stop
  case hAx =>
    rintro x a' _ X Y row ⟨tb, h1, h2, h3⟩ hg hr
    refine ⟨tb, h1, (hg.block tb (Array.getElem?_eq_some_iff.1 h2).1 (fun e => ?_)).trans h2, h3⟩
    obtain ⟨_, o, ho, hc⟩ := hr tb e.symm
    rw [h2] at ho
    cases ho
    simp [Obj.isCells] at hc
  case assign =>
    intro lp pre x W K hI hK
    simp only [plV, plOf]
    gi_wp2
    have hW := hI.2.size
    exact hK _ _ (KeepsFrom.of_grownBy (World.grownBy_alloc W _ none) (by simp)) (fun h => Rd_of (Below.heap_alloc _ _ _ (by omega)) (fun h => Below.heap_alloc _ _ _ (by have := (hB h).2.2.1; omega)) h) ((LI_own s w8).alloc _ hI) ⟨W.heap.size, hW, World.alloc_heap_new _ _, rfl⟩
  case body =>
    rintro lp pre x a' W hlp hrec hI ⟨tb, ht1, ht2, rfl⟩ hlen
    obtain ⟨hI1, hI2⟩ := hI
    obtain ⟨q5, q6, q7, q9⟩ := h7p W hI2
    have k5 : W.cell? ⟨w.heap.size, 0, none⟩ = some (.string s) := by rw [cell_of_cells q5]; rfl
    have k9 : W.cell? ⟨w5.heap.size, 0, none⟩ = some (.bool ok) := by rw [cell_of_cells q9]; rfl
    have kt0 : W.cell? ⟨tb, 0, none⟩ = some (.string x.2.name) := by rw [cell_of_cells ht2]; rfl
    have kt1 : W.cell? ⟨tb, 1, none⟩ = some (.int .i64 x.2.mark) := by rw [cell_of_cells ht2]; rfl
    have kt2 : W.cell? ⟨tb, 2, none⟩ = some (.int .i64 x.2.typ) := by rw [cell_of_cells ht2]; rfl
    have f0 : W.cell? ⟨w.heap.size + 1, 0, none⟩ = some (.string ⟨#[]⟩) := by rw [cell_of_cells q6]; rfl
    have f1 : W.cell? ⟨w.heap.size + 1, 1, none⟩ = some (.int .i64 0) := by rw [cell_of_cells q6]; rfl
    have f2 : W.cell? ⟨w.heap.size + 1, 2, none⟩ = some (.int .i64 0) := by rw [cell_of_cells q6]; rfl
    have f3 : W.cell? ⟨w.heap.size + 1 + 1, 0, none⟩ = some (.bool false) := by rw [cell_of_cells q7]; rfl
    have g0 : W.frozen? ⟨w.heap.size + 1, 0, none⟩ = false := by simp [World.frozen?, q6]
    have g1 : W.frozen? ⟨w.heap.size + 1, 1, none⟩ = false := by simp [World.frozen?, q6]
    have g2 : W.frozen? ⟨w.heap.size + 1, 2, none⟩ = false := by simp [World.frozen?, q6]
    have g3 : W.frozen? ⟨w.heap.size + 1 + 1, 0, none⟩ = false := by simp [World.frozen?, q7]
    clear hRd hstop hB c5 c6 c7 c9 cB
    rcases hc : (x.2.name.toList == s.toList) with _ | _
    · gi_wp2
      exact ⟨KeepsFrom.refl _ _, id, ⟨fun y hy => by
        rcases List.mem_append.1 hy with hy | hy
        · exact hI1 y hy
        · rw [List.mem_singleton] at hy
          subst hy
          exact hc, hI2⟩⟩
    · have hm : Tryz.prog.follows .mixedOrders = true := by kernel_rfl
      have hlx : ∀ a' : Act, ownPostG w8.heap.size (fun X Y => Rd (w5.heap.size + 1) b off zs.length c B (List.map plOf zs) X → Rd (w5.heap.size + 1) b off zs.length c B (List.map plOf zs) Y) (LI s w8) (LX w.heap.size s ok w8) (pre ++ [x]) W Exit.ret a'
          ((((W.setCell { block := w.heap.size + 1, off := 0 } (Value.string x.snd.name)).setCell { block := w.heap.size + 1, off := 1 } (Value.int IntKind.i64 x.snd.mark)).setCell
            { block := w.heap.size + 1, off := 2 } (Value.int IntKind.i64 x.snd.typ)).setCell { block := w.heap.size + 1 + 1, off := 0 } (Value.bool ok)).drew := by
        intro a'
        obtain ⟨z1, z2, z3⟩ := st_place (x0 := Value.string x.snd.name) (x1 := Value.int IntKind.i64 x.snd.mark) (x2 := Value.int IntKind.i64 x.snd.typ) (x3 := Value.bool ok) q6 q7
        have hI2' : Ext w8 W [w.heap.size + 1, w.heap.size + 1 + 1] := ⟨hI2.os, hI2.tape, hI2.output, hI2.size, fun b hb _ => hI2.blk b hb (by simp)⟩
        have hz := hI2'.trans z3 (fun b hb hlt => hb)
        exact ⟨⟨z3.size, fun k o hB hk _ => (z3.blk k (Array.getElem?_eq_some_iff.1 hk).1 (by simp; omega)).trans hk⟩, rfl, pre, x, rfl, hI1, hc, z1, z2, ⟨hz.os, hz.tape, hz.output, hz.size, hz.blk⟩⟩
      gi_wp2
      gi_region_with_o (fail)
      all_goals gi_wp2
      all_goals exact hlx _
  case done =>
    rintro D ys W hD rfl hI hK
    obtain ⟨hI1, hI2⟩ := hI
    obtain ⟨q5, q6, q7, q9⟩ := h7p W hI2
    have f0 : W.cell? ⟨w.heap.size + 1, 0, none⟩ = some (.string ⟨#[]⟩) := by rw [cell_of_cells q6]; rfl
    have f1 : W.cell? ⟨w.heap.size + 1, 1, none⟩ = some (.int .i64 0) := by rw [cell_of_cells q6]; rfl
    have f2 : W.cell? ⟨w.heap.size + 1, 2, none⟩ = some (.int .i64 0) := by rw [cell_of_cells q6]; rfl
    have f3 : W.cell? ⟨w.heap.size + 1 + 1, 0, none⟩ = some (.bool false) := by rw [cell_of_cells q7]; rfl
    have g0 : W.frozen? ⟨w.heap.size + 1, 0, none⟩ = false := by simp [World.frozen?, q6]
    have g1 : W.frozen? ⟨w.heap.size + 1, 1, none⟩ = false := by simp [World.frozen?, q6]
    have g2 : W.frozen? ⟨w.heap.size + 1, 2, none⟩ = false := by simp [World.frozen?, q6]
    have g3 : W.frozen? ⟨w.heap.size + 1 + 1, 0, none⟩ = false := by simp [World.frozen?, q7]
    clear hRd hstop hB c5 c6 c7 c9 cB
    gi_wp2
    obtain ⟨z1, z2, z3⟩ := st_place (x0 := Value.string ⟨#[]⟩) (x1 := Value.int IntKind.i64 0) (x2 := Value.int IntKind.i64 0) (x3 := Value.bool false) q6 q7
    have hn : lastN s zs = none := last_done hfr hI1
    obtain ⟨W9, hW9⟩ : ∃ W9, (((W.setCell ⟨w.heap.size + 1, 0, none⟩ (Value.string ⟨#[]⟩)).setCell ⟨w.heap.size + 1, 1, none⟩ (Value.int IntKind.i64 0)).setCell ⟨w.heap.size + 1, 2, none⟩ (Value.int IntKind.i64 0)).setCell ⟨w.heap.size + 1 + 1, 0, none⟩ (Value.bool false) = W9 := ⟨_, rfl⟩
    rw [hW9] at z1 z2 z3 ⊢
    have hDW := (Array.getElem?_eq_some_iff.1 hK).1
    have hK9 : W9.heap[D]? = some (.deferred (some [])) := (z3.blk D hDW (by simp; omega)).trans hK
    have hs8 := z3.size
    refine ⟨by simp, .inl ⟨_, _, rfl, run_takeDeferred hK9, ?_⟩⟩
    have hz := res_place (W := W9.putObj D (.deferred none)) (B := w.heap.size) (tmps := #[Value.slice A l.length cap, Value.int IntKind.i64 n, Value.string s, undef, undef,
          Value.pointer (some { block := w.heap.size, off := 0 }),
          Value.pointer (some { block := w.heap.size + 1, off := 0 }),
          Value.pointer (some { block := w.heap.size + 1 + 1, off := 0 }), Value.slice B zs.length c,
          Value.pointer (some { block := w5.heap.size, off := 0 }), undef, undef,
          Value.tuple #[Value.slice B zs.length c, Value.bool ok], Value.slice A l.length cap, Value.int IntKind.i64 n,
          Value.tuple #[Value.slice B zs.length c, Value.bool ok], Value.slice B zs.length c, Value.bool ok,
          Value.slice B zs.length c,
          Value.func (Fn.func 45) #[] #[Value.pointer (some { block := w5.heap.size + 1, off := 0 })], undef, undef,
          undef, undef, undef, undef, undef, undef, Value.agg #[Value.string { data := #[] }, Value.int IntKind.i64 0, Value.int IntKind.i64 0]]) rfl rfl ((World.putObj_heap_other (by omega)).trans z1) ((World.putObj_heap_other (by omega)).trans z2)
    rw [hn]
    refine ⟨_, hz, _, [], [], rfl, ?_, ?_, ⟨_, _, [], [], rfl, rfl, rfl, _, _, [], [], rfl, rfl, rfl, _, _, [], [], rfl, rfl, rfl, rfl, rfl⟩, by simp, by simp⟩
    · refine ⟨z3.os.trans (hI2.os.trans hE7.os), z3.tape.trans (hI2.tape.trans hE7.tape), z3.output.trans (hI2.output.trans hE7.output), ?_, fun b hb hn => ?_⟩
      · have := hE7.size; have := hI2.size; simp; omega
      · have := hI2.size
        rw [World.putObj_heap_other (by omega), z3.blk b (by omega) (by simp; omega), hI2.blk b (by omega) (by simp)]
        exact hE7.blk b hb hn
    · exact rep_place noFd false
  case stop =>
    rintro D cd pre W hD ⟨k, hk, rfl⟩ ⟨rfl, pre', x, hp, hn, hx, z1, z2, z3⟩ hK
    have hl := last_hit hfr hk hp.symm hn hx
    have hk' : zs ≠ [] := by
      rintro rfl
      obtain rfl : k = 0 := by simpa using hk
      simp [upto] at hp
    obtain rfl := hlf hk'
    gi_wp2
    refine ⟨by simp, .inl ⟨_, _, rfl, run_takeDeferred hK, ?_⟩⟩
    have hs8 := z3.size
    have hDW := (Array.getElem?_eq_some_iff.1 hK).1
    have hz := res_place (W := W.putObj D (.deferred none)) (B := w.heap.size) (tmps := #[Value.slice A l.length cap, Value.int IntKind.i64 n, Value.string s, undef, undef,
          Value.pointer (some { block := w.heap.size, off := 0 }),
          Value.pointer (some { block := w.heap.size + 1, off := 0 }),
          Value.pointer (some { block := w.heap.size + 1 + 1, off := 0 }), Value.slice B zs.length c,
          Value.pointer (some { block := w5.heap.size, off := 0 }), undef, undef,
          Value.tuple #[Value.slice B zs.length c, Value.bool true], Value.slice A l.length cap, Value.int IntKind.i64 n,
          Value.tuple #[Value.slice B zs.length c, Value.bool true], Value.slice B zs.length c, Value.bool true,
          Value.slice B zs.length c,
          Value.func (Fn.func 45) #[] #[Value.pointer (some { block := w5.heap.size + 1, off := 0 })], undef, undef,
          undef, undef, undef, undef, undef, undef, undef]) rfl rfl ((World.putObj_heap_other (by omega)).trans z1) ((World.putObj_heap_other (by omega)).trans z2)
    refine ⟨_, hz, _, rfl, ?_, [], [], ?_, ⟨_, _, [], [], rfl, rfl, rfl, _, _, [], [], rfl, rfl, rfl, _, _, [], [], rfl, rfl, rfl, rfl, rfl⟩, by simp, by simp⟩
    · refine ⟨z3.os.trans hE7.os, z3.tape.trans hE7.tape, z3.output.trans hE7.output, ?_, fun b hb hn => ?_⟩
      · have := hE7.size; simp; omega
      · rw [World.putObj_heap_other (by omega), z3.blk b (by omega) (by simp; omega)]
        exact hE7.blk b hb hn
    · exact rep_place x.2 true
end Go.Proofs.PlaceF
namespace Go.AM
theorem d9 (l : List Ty) (n : Int) (s : ByteArray) (hl : (l.length : Int) ≤ 1048576) (hsm : ∀ t ∈ l, t.sm) : Does Go.Proofs.Tryz.prog 9 [.fsl 6 (l.map Ty.z), .v (.int .i64 n), .v (.string s)] false
    (.tup [.agg ((lastN s (layL l n)).getD noFd).z, .v (.bool (lastN s (layL l n)).isSome)]) [.dead, .dead, .dead] :=
  ⟨by decide +kernel, Go.Proofs.PlaceF.c9 l n s hl hsm⟩
end Go.AM
namespace Go.AM
set_option linter.unusedVariables false
set_option linter.unusedSimpArgs false
def m24 : MC :=
 (.seq (.reg [Xb 4 (.asg (.i 0))]) (.seq (.reg [Xm 5 1, Xm 6 0, Xm 7 1, Xn 8 7, Xb 9 (.call (.fn 25) false [.io (.t 6), .lend (.t 8)]), Xi 10 1 5 9, Xl 11 1 10, Xa 4 11]) .ret))
theorem p24 (c : Cur) (n : Int) (l : List Int) (hc : c.ok n) (hn : n ≤ 1152921504606846) (h0 : 0 < l.length) (hk : (l.length : Int) ≤ 1048577) :
    Draws 24 [.fsl 1 (l.map iv)] c n 2 fun r => ∃ s ∈ l, r = .v (.int .i64 s) := by
  refine doesE_intro (mc := m24) (N := 12) (rs := [4]) (fx := [0]) 2 rfl (by decide +kernel) ?_
  simp only [m24, EV, Nat.reduceEqDiff, Nat.reduceBEq, Nat.reduceLT, Nat.reduceLeDiff, Nat.reduceAdd, Nat.reduceSub, reduceIte]
  refine (p25 c n l.length hc hn hk).call (fun _ => rfl) ?_
  rintro _ c' hc' ⟨v, rfl, v0, v1, v2⟩
  have hv : v < (l.length : Int) := by
    by_cases h : 1 < (l.length : Int)
    · exact v1 h
    · have := v2 (by omega); omega
  have hn' : v.toNat < l.length := by omega
  simp only [v0, hv, nth_map hn', iv, EV, Nat.reduceEqDiff, Nat.reduceBEq, Nat.reduceLT, Nat.reduceLeDiff, Nat.reduceAdd, Nat.reduceSub, reduceIte]
  simp only [EV, Nat.reduceEqDiff, Nat.reduceBEq, Nat.reduceLT, Nat.reduceLeDiff, Nat.reduceAdd, Nat.reduceSub, reduceIte, evRE, retVC, cellV', evR, nfz, nfzs, nfzss, List.contains_nil, List.contains_cons, Bool.or_false, or_true]
  exact ⟨c', rfl, hc', _, List.getElem_mem hn', rfl⟩
end Go.AM
namespace Go.AM
set_option linter.unusedVariables false
set_option linter.unusedSimpArgs false
def m10 : MC :=
 (.seq (.reg [Xb 6 (.alloc 31 [.z, .i, .i]), Xb 7 (.asg .fb)]) (.seq (.seq (.reg [Xm 11 0, Xm 12 1, Xb 13 (.call (.fn 19) false [.lend (.t 11), .lend (.t 12)]), Xq 14 (.un .not (.t 13)), Xm 15 14, Xu 16 15 (.mov (.t 2)), XU 17 15 (.call (.fn 23) false [.lend (.t 16)]), Xu 18 15 (.un .not (.t 17)), Xq 19 (.pick (.t 15) .tb (.t 18))]) (.cond (.t 19) (.seq (.reg [Xb 20 (.build [] [] [] [.z, .i, .i]
 []), Xz (.store 3 (.t 6) (.t 20)), Xb 7 (.asg .fb)]) .ret) .skip)) (.seq (.reg [Xm 22 0, Xm 23 1, Xb 24 (.call (.fn 20) false [.lend (.t 22), .lend (.t 23)]), Xa 21 24, Xq 25 (.ext 21 0), Xq 26 (.ext 21 1), Xa 8 25, Xa 9 26]) (.seq (.seq (.reg [Xm 27 9, Xq 28 (.un .not (.t 27))]) (.cond (.t 28) (.seq (.reg [Xb 29 (.build [] [] [] [.z, .i, .i] []), Xz (.store 3 (.t 6) (.t 29)), Xb 7 (.asg .fb)])
 .ret) .skip)) (.seq (.seq (.reg [Xm 30 8, Xn 31 30, Xq 32 (.bin false .sub (.t 31) (.i 1)), Xa 10 32]) (.block 0 (.loop [2, 6, 8, 10, 21, 24, 25] (.seq (.seq (.reg [Xm 33 10, Xq 34 (.bin false .geq (.t 33) (.i 0))]) (.cond (.t 34) .skip (.exit 0))) (.seq (.block 1 (.seq (.reg [Xm 37 8, Xm 38 10, Xi 39 3 37 38, Xf 40 0 39, Xl 41 1 40, Xm 42 2, Xq 43 (.bin false .eql (.t 41) (.t 42))]) (.cond (.t
 43) (.seq (.reg [Xm 44 8, Xm 45 10, Xi 46 3 44 45, XL 47 3 46, Xz (.store 3 (.t 6) (.t 47)), Xb 7 (.asg .tb)]) .ret) .skip))) (.reg [Xm 35 10, Xq 36 (.bin false .sub (.t 35) (.i 1)), Xa 10 36])))))) (.seq (.reg [Xb 48 (.build [] [] [] [.z, .i, .i] []), Xz (.store 3 (.t 6) (.t 48)), Xb 7 (.asg .fb)]) .ret))))))
set_option maxHeartbeats 1000000 in
set_option maxRecDepth 100000 in
theorem d10 (l : List Ty) (n : Int) (s : ByteArray) (hl : (l.length : Int) ≤ 1048576) (hs : ∀ t ∈ l, t.sm) (hz : (s.size : Int) ≤ 1000) : Does Go.Proofs.Tryz.prog 10 [.fsl 6 (l.map Ty.z), .v (.int .i64 n), .v (.string s)] false
    (.tup [.agg ((if nameOk s = true then lastN s (layL l n) else none).getD noFd).z, .v (.bool (if nameOk s = true then lastN s (layL l n) else none).isSome)]) [.dead, .dead, .dead] := by
  have dl := d19 l n hl hs
  have hsz : (s.size : Int) ≤ 9223372036854775807 := by omega
  have hb := layL_len l n
  refine does_introM (mc := m10) (N := 49) (rs := [.c 6 31 true 3, .t 7]) (fx := []) 3 rfl (by decide +kernel) ?_
  simp only [m10, EV, Nat.reduceEqDiff, Nat.reduceBEq, Nat.reduceLT, Nat.reduceLeDiff, Nat.reduceAdd, Nat.reduceSub, reduceIte]
  refine callK_i dl ?_
  simp only [EV, Nat.reduceEqDiff, Nat.reduceBEq, Nat.reduceLT, Nat.reduceLeDiff, Nat.reduceAdd, Nat.reduceSub, reduceIte]
  rcases e : recOk l n with _ | _
  · have hn : layL l n = [] := by simp only [layL, layO, e, if_false, Option.getD_none]; rfl
    have h2 : (if nameOk s = true then lastN s (layL l n) else none) = none := by rw [hn]; split <;> rfl
    rw [h2]
    simp only [Bool.not_false, EV, Nat.reduceEqDiff, Nat.reduceBEq, Nat.reduceLT, Nat.reduceLeDiff, Nat.reduceAdd, Nat.reduceSub, reduceIte]
    simp only [Option.getD_none, Option.isSome_none, noFd, Fd.z, evRM, EV, Nat.reduceEqDiff, Nat.reduceBEq, Nat.reduceLT, Nat.reduceLeDiff, Nat.reduceAdd, Nat.reduceSub, reduceIte, evRE, retVC, cellV', evR, nfz, nfzs, nfzss, List.contains_nil, List.contains_cons, Bool.or_false, or_true]
  have e' := e
  simp only [recOk, Bool.and_eq_true] at e'
  simp only [Bool.not_true, EV, Nat.reduceEqDiff, Nat.reduceBEq, Nat.reduceLT, Nat.reduceLeDiff, Nat.reduceAdd, Nat.reduceSub, reduceIte]
  refine callK_i (d23 s hsz) ?_
  simp only [EV, Nat.reduceEqDiff, Nat.reduceBEq, Nat.reduceLT, Nat.reduceLeDiff, Nat.reduceAdd, Nat.reduceSub, reduceIte]
  rcases en : nameOk s with _ | _
  · simp only [Bool.not_false, EV, Nat.reduceEqDiff, Nat.reduceBEq, Nat.reduceLT, Nat.reduceLeDiff, Nat.reduceAdd, Nat.reduceSub, reduceIte]
    simp only [if_false, Bool.false_eq_true, Option.getD_none, Option.isSome_none, noFd, Fd.z, evRM, EV, Nat.reduceEqDiff, Nat.reduceBEq, Nat.reduceLT, Nat.reduceLeDiff, Nat.reduceAdd, Nat.reduceSub, reduceIte, evRE, retVC, cellV', evR, nfz, nfzs, nfzss, List.contains_nil, List.contains_cons, Bool.or_false, or_true]
  simp only [Bool.not_true, if_true, EV, Nat.reduceEqDiff, Nat.reduceBEq, Nat.reduceLT, Nat.reduceLeDiff, Nat.reduceAdd, Nat.reduceSub, reduceIte]
  have dlay := d20 l n hl hs e'.1 e'.2
  have eL : layL l n = ((layS (sz l) (allF l n)).map (·.1)).getD [] := by simp [layL, layO, e]
  rw [← eL] at dlay
  refine callK_i dlay ?_
  have hnone : (layS (sz l) (allF l n)).isSome = false → layL l n = [] := by
    intro h
    rw [eL]
    cases hh : layS (sz l) (allF l n) with
    | none => rfl
    | some p => rw [hh] at h; simp at h
  generalize layL l n = ps at hb hnone ⊢
  generalize (layS (sz l) (allF l n)).isSome = ok at hnone ⊢
  simp only [EV, Nat.reduceEqDiff, Nat.reduceBEq, Nat.reduceLT, Nat.reduceLeDiff, Nat.reduceAdd, Nat.reduceSub, reduceIte]
  rcases ok with _ | _
  · rw [hnone rfl]
    simp only [Bool.not_false, EV, Nat.reduceEqDiff, Nat.reduceBEq, Nat.reduceLT, Nat.reduceLeDiff, Nat.reduceAdd, Nat.reduceSub, reduceIte]
    simp only [lastN, List.reverse_nil, List.find?_nil, Option.getD_none, Option.isSome_none, noFd, Fd.z, evRM, EV, Nat.reduceEqDiff, Nat.reduceBEq, Nat.reduceLT, Nat.reduceLeDiff, Nat.reduceAdd, Nat.reduceSub, reduceIte, evRE, retVC, cellV', evR, nfz, nfzs, nfzss, List.contains_nil, List.contains_cons, Bool.or_false, or_true]
  simp only [Bool.not_true, EV, Nat.reduceEqDiff, Nat.reduceBEq, Nat.reduceLT, Nat.reduceLeDiff, Nat.reduceAdd, Nat.reduceSub, reduceIte]
  have wl := w64 ((ps.length : Int) - 1) (by omega)
  simp only [wl, EV, Nat.reduceEqDiff, Nat.reduceBEq, Nat.reduceLT, Nat.reduceLeDiff, Nat.reduceAdd, Nat.reduceSub, reduceIte]
  refine awp_loop (fun i : Nat => i ≤ ps.length ∧ lastN s ps = lastN s (ps.take i)) (fun i => stl [(2, .v (.string s)), (6, .box 31 noFd.o), (8, .usl 31 3 (ps.map Fd.o)), (10, .v (.int .i64 ((i : Int) - 1))), (21, .tup [.dead, .v (.bool true)]), (24, .dead), (25, .dead)]) (fun i => i) ps.length ⟨Nat.le_refl _, by rw [List.take_length]⟩ ?_ ?_
  · simp only [noFd, Fd.o, EV, Nat.reduceEqDiff, Nat.reduceBEq, Nat.reduceLT, Nat.reduceLeDiff, Nat.reduceAdd, Nat.reduceSub, reduceIte]
  · rintro i ⟨g1, g2⟩
    cases i with
    | zero =>
      have e0 : (((0 : Nat) : Int) - 1) = -1 := rfl
      have d0 : decide ((0 : Int) ≤ -1) = false := rfl
      simp only [e0, d0, EV, Nat.reduceEqDiff, Nat.reduceBEq, Nat.reduceLT, Nat.reduceLeDiff, Nat.reduceAdd, Nat.reduceSub, reduceIte]
      rw [g2]
      simp only [lastN, List.take_zero, List.reverse_nil, List.find?_nil, Option.getD_none, Option.isSome_none, noFd, Fd.o, Fd.z, evRM, EV, Nat.reduceEqDiff, Nat.reduceBEq, Nat.reduceLT, Nat.reduceLeDiff, Nat.reduceAdd, Nat.reduceSub, reduceIte, evRE, retVC, cellV', evR, nfz, nfzs, nfzss, List.contains_nil, List.contains_cons, Bool.or_false, or_true]
    | succ j =>
      have e0 : (((j + 1 : Nat) : Int) - 1) = (j : Int) := by omega
      have hj : j < ps.length := by omega
      have hj2 : (j : Int) < (ps.length : Int) := by omega
      have hj0 : (0 : Int) ≤ (j : Int) := by omega
      have hl' : lastN s (ps.take (j + 1)) = if (ps[j].name.toList == s.toList) = true then some ps[j] else lastN s (ps.take j) := by rw [List.take_succ_eq_append_getElem hj, lastN_snoc]
      have wj := w64 ((j : Int) - 1) (by omega)
      simp only [e0, decide_true, EV, Nat.reduceEqDiff, Nat.reduceBEq, Nat.reduceLT, Nat.reduceLeDiff, Nat.reduceAdd, Nat.reduceSub, reduceIte]
      simp only [hj0, hj2, hj, nth_map hj, noFd, Fd.o, EV, Nat.reduceEqDiff, Nat.reduceBEq, Nat.reduceLT, Nat.reduceLeDiff, Nat.reduceAdd, Nat.reduceSub, reduceIte]
      rcases c : (ps[j].name.toList == s.toList) with _ | _
      · rw [c, if_neg (by simp)] at hl'
        simp only [wj, EV, Nat.reduceEqDiff, Nat.reduceBEq, Nat.reduceLT, Nat.reduceLeDiff, Nat.reduceAdd, Nat.reduceSub, reduceIte]
        exact ⟨j, ⟨by omega, g2.trans hl'⟩, by omega, rfl⟩
      · rw [c, if_pos rfl] at hl'
        rw [g2, hl']
        simp only [hj0, hj2, hj, nth_map hj, noFd, Fd.o, EV, Nat.reduceEqDiff, Nat.reduceBEq, Nat.reduceLT, Nat.reduceLeDiff, Nat.reduceAdd, Nat.reduceSub, reduceIte]
        simp only [Option.getD_some, Option.isSome_some, Fd.o, Fd.z, evRM, EV, Nat.reduceEqDiff, Nat.reduceBEq, Nat.reduceLT, Nat.reduceLeDiff, Nat.reduceAdd, Nat.reduceSub, reduceIte, evRE, retVC, cellV', evR, nfz, nfzs, nfzss, List.contains_nil, List.contains_cons, Bool.or_false, or_true]
def m12 : MC :=
 (.seq (.reg [Xb 4 (.asg (.i 0)), Xb 5 (.asg .fb)]) (.seq (.seq (.reg [Xm 6 0, Xb 7 (.call (.fn 26) false [.lend (.t 6), .lend (.i 0), .lend (.i 1000000000)]), Xq 8 (.un .not (.t 7)), Xm 9 8, Xu 10 9 (.mov (.t 1)), XU 11 9 (.call (.fn 26) false [.lend (.t 10), .lend (.i 1), .lend (.i 8)]), Xu 12 9 (.un .not (.t 11)), Xq 13 (.pick (.t 9) .tb (.t 12))]) (.cond (.t 13) (.seq (.reg [Xb 4 (.asg (.i 0)),
 Xb 5 (.asg .fb)]) .ret) .skip)) (.seq (.reg [Xm 14 0, Xm 15 1, Xb 16 (.call (.fn 18) false [.lend (.t 14), .lend (.t 15)]), Xa 4 16, Xb 5 (.asg .tb)]) .ret)))
theorem d12 (n b : Int) : Does Go.Proofs.Tryz.prog 12 [.v (.int .i64 n), .v (.int .i64 b)] false
    (.tup [.v (.int .i64 (if (decide (0 ≤ n) && decide (n ≤ 1000000000) && (decide (1 ≤ b) && decide (b ≤ 8))) = true then upL n b else 0)), .v (.bool (decide (0 ≤ n) && decide (n ≤ 1000000000) && (decide (1 ≤ b) && decide (b ≤ 8))))]) [.dead, .dead] := by
  refine does_intro (mc := m12) (N := 17) (rs := [4, 5]) (fx := []) 2 rfl (by decide +kernel) ?_
  simp only [m12, EV, Nat.reduceEqDiff, Nat.reduceBEq, Nat.reduceLT, Nat.reduceLeDiff, Nat.reduceAdd, Nat.reduceSub, reduceIte]
  refine callK_i (d26 n 0 1000000000) ?_
  simp only [EV, Nat.reduceEqDiff, Nat.reduceBEq, Nat.reduceLT, Nat.reduceLeDiff, Nat.reduceAdd, Nat.reduceSub, reduceIte]
  rcases e : (decide (0 ≤ n) && decide (n ≤ 1000000000)) with _ | _
  · simp only [Bool.not_false, EV, Nat.reduceEqDiff, Nat.reduceBEq, Nat.reduceLT, Nat.reduceLeDiff, Nat.reduceAdd, Nat.reduceSub, reduceIte]
    simp only [Bool.false_and, Bool.false_eq_true, if_false, EV, Nat.reduceEqDiff, Nat.reduceBEq, Nat.reduceLT, Nat.reduceLeDiff, Nat.reduceAdd, Nat.reduceSub, reduceIte, evRE, retVC, cellV', evR, nfz, nfzs, nfzss, List.contains_nil, List.contains_cons, Bool.or_false, or_true]
  simp only [Bool.not_true, EV, Nat.reduceEqDiff, Nat.reduceBEq, Nat.reduceLT, Nat.reduceLeDiff, Nat.reduceAdd, Nat.reduceSub, reduceIte]
  refine callK_i (d26 b 1 8) ?_
  simp only [EV, Nat.reduceEqDiff, Nat.reduceBEq, Nat.reduceLT, Nat.reduceLeDiff, Nat.reduceAdd, Nat.reduceSub, reduceIte]
  rcases e2 : (decide (1 ≤ b) && decide (b ≤ 8)) with _ | _
  · simp only [Bool.not_false, EV, Nat.reduceEqDiff, Nat.reduceBEq, Nat.reduceLT, Nat.reduceLeDiff, Nat.reduceAdd, Nat.reduceSub, reduceIte]
    simp only [Bool.and_false, Bool.false_eq_true, if_false, EV, Nat.reduceEqDiff, Nat.reduceBEq, Nat.reduceLT, Nat.reduceLeDiff, Nat.reduceAdd, Nat.reduceSub, reduceIte, evRE, retVC, cellV', evR, nfz, nfzs, nfzss, List.contains_nil, List.contains_cons, Bool.or_false, or_true]
  simp only [Bool.and_eq_true, decide_eq_true_eq] at e e2
  simp only [Bool.not_true, EV, Nat.reduceEqDiff, Nat.reduceBEq, Nat.reduceLT, Nat.reduceLeDiff, Nat.reduceAdd, Nat.reduceSub, reduceIte]
  refine callK_i (d18 n b e.1 (by omega) e2.1 (by omega)) ?_
  simp only [EV, Nat.reduceEqDiff, Nat.reduceBEq, Nat.reduceLT, Nat.reduceLeDiff, Nat.reduceAdd, Nat.reduceSub, reduceIte]
  simp only [Bool.and_self, if_true, EV, Nat.reduceEqDiff, Nat.reduceBEq, Nat.reduceLT, Nat.reduceLeDiff, Nat.reduceAdd, Nat.reduceSub, reduceIte, evRE, retVC, cellV', evR, nfz, nfzs, nfzss, List.contains_nil, List.contains_cons, Bool.or_false, or_true]
def m13 : MC :=
 (.seq (.reg [Xb 4 (.asg (.i 0)), Xb 5 (.asg .fb)]) (.seq (.seq (.reg [Xm 6 0, Xb 7 (.call (.fn 27) false [.lend (.t 6), .lend (.i 0), .lend (.i 1000000000)]), Xq 8 (.un .not (.t 7)), Xm 9 8, Xu 10 9 (.mov (.t 1)), XU 11 9 (.call (.fn 27) false [.lend (.t 10), .lend (.i 1), .lend (.i 8)]), Xu 12 9 (.un .not (.t 11)), Xq 13 (.pick (.t 9) .tb (.t 12))]) (.cond (.t 13) (.seq (.reg [Xb 4 (.asg (.i 0)),
 Xb 5 (.asg .fb)]) .ret) .skip)) (.seq (.reg [Xm 14 0, Xm 15 1, Xb 16 (.call (.fn 28) false [.lend (.t 14), .lend (.t 15)]), Xa 4 16, Xb 5 (.asg .tb)]) .ret)))
theorem d13 (n b : Int) : Does Go.Proofs.Tryz.prog 13 [.v (.int .i64 n), .v (.int .i64 b)] false
    (.tup [.v (.int .i64 (if (decide (0 ≤ n) && decide (n ≤ 1000000000) && (decide (1 ≤ b) && decide (b ≤ 8))) = true then upL n b else 0)), .v (.bool (decide (0 ≤ n) && decide (n ≤ 1000000000) && (decide (1 ≤ b) && decide (b ≤ 8))))]) [.dead, .dead] := by
  refine does_intro (mc := m13) (N := 17) (rs := [4, 5]) (fx := []) 2 rfl (by decide +kernel) ?_
  simp only [m13, EV, Nat.reduceEqDiff, Nat.reduceBEq, Nat.reduceLT, Nat.reduceLeDiff, Nat.reduceAdd, Nat.reduceSub, reduceIte]
  refine callK_i (d27 n 0 1000000000) ?_
  simp only [EV, Nat.reduceEqDiff, Nat.reduceBEq, Nat.reduceLT, Nat.reduceLeDiff, Nat.reduceAdd, Nat.reduceSub, reduceIte]
  rcases e : (decide (0 ≤ n) && decide (n ≤ 1000000000)) with _ | _
  · simp only [Bool.not_false, EV, Nat.reduceEqDiff, Nat.reduceBEq, Nat.reduceLT, Nat.reduceLeDiff, Nat.reduceAdd, Nat.reduceSub, reduceIte]
    simp only [Bool.false_and, Bool.false_eq_true, if_false, EV, Nat.reduceEqDiff, Nat.reduceBEq, Nat.reduceLT, Nat.reduceLeDiff, Nat.reduceAdd, Nat.reduceSub, reduceIte, evRE, retVC, cellV', evR, nfz, nfzs, nfzss, List.contains_nil, List.contains_cons, Bool.or_false, or_true]
  simp only [Bool.not_true, EV, Nat.reduceEqDiff, Nat.reduceBEq, Nat.reduceLT, Nat.reduceLeDiff, Nat.reduceAdd, Nat.reduceSub, reduceIte]
  refine callK_i (d27 b 1 8) ?_
  simp only [EV, Nat.reduceEqDiff, Nat.reduceBEq, Nat.reduceLT, Nat.reduceLeDiff, Nat.reduceAdd, Nat.reduceSub, reduceIte]
  rcases e2 : (decide (1 ≤ b) && decide (b ≤ 8)) with _ | _
  · simp only [Bool.not_false, EV, Nat.reduceEqDiff, Nat.reduceBEq, Nat.reduceLT, Nat.reduceLeDiff, Nat.reduceAdd, Nat.reduceSub, reduceIte]
    simp only [Bool.and_false, Bool.false_eq_true, if_false, EV, Nat.reduceEqDiff, Nat.reduceBEq, Nat.reduceLT, Nat.reduceLeDiff, Nat.reduceAdd, Nat.reduceSub, reduceIte, evRE, retVC, cellV', evR, nfz, nfzs, nfzss, List.contains_nil, List.contains_cons, Bool.or_false, or_true]
  simp only [Bool.and_eq_true, decide_eq_true_eq] at e e2
  simp only [Bool.not_true, EV, Nat.reduceEqDiff, Nat.reduceBEq, Nat.reduceLT, Nat.reduceLeDiff, Nat.reduceAdd, Nat.reduceSub, reduceIte]
  refine callK_i (d28 n b e.1 (by omega) e2.1 (by omega)) ?_
  simp only [EV, Nat.reduceEqDiff, Nat.reduceBEq, Nat.reduceLT, Nat.reduceLeDiff, Nat.reduceAdd, Nat.reduceSub, reduceIte]
  simp only [Bool.and_self, if_true, EV, Nat.reduceEqDiff, Nat.reduceBEq, Nat.reduceLT, Nat.reduceLeDiff, Nat.reduceAdd, Nat.reduceSub, reduceIte, evRE, retVC, cellV', evR, nfz, nfzs, nfzss, List.contains_nil, List.contains_cons, Bool.or_false, or_true]
def m11 : MC :=
 (.seq (.reg [Xb 2 (.asg (.i 0)), Xb 3 (.asg (.i 0))]) (.seq (.reg [Xm 5 0, Xb 6 (.build [0] [0] [1] [.s 5 1, .i, .v (.int .u64 0)] [.t 5]), Xb 7 (.box 57 (.t 6)), Xa 4 7]) (.seq (.reg [Xm 8 4, Xb 9 (.bsl 3 1 [.i 0, .i 1, .i 7, .i 8, .i 9, .i 1000000000, .i 1000000001, .i (-1)]), Xb 10 (.call (.fn 24) false [.io (.t 8), .give (.t 9)]), Xm 11 4, Xb 12 (.call (.fn 25) false [.io (.t 11), .lend (.i
 10)]), Xa 2 10, Xa 3 12]) .ret)))
set_option maxRecDepth 100000 in
theorem p11 (code : List Int) (hl : (code.length : Int) ≤ 1048576) (hb : ∀ b ∈ code, 0 ≤ b ∧ b ≤ 255) :
    DoesE Go.Proofs.Tryz.prog 11 [.fsl 1 (code.map bv)] false fun r o => o = [.dead] ∧ ∃ (n b : Int), r = .tup [.v (.int .i64 n), .v (.int .i64 b)] := by
  have hc : Cur.ok ⟨code, 0, 0⟩ 0 := ⟨hl, hb, Int.le_refl _, Int.le_refl _⟩
  have pc := p24 ⟨code, 0, 0⟩ 0 [0, 1, 7, 8, 9, 1000000000, 1000000001, -1] hc (by omega) (by decide) (by decide)
  refine doesE_intro (mc := m11) (N := 13) (rs := [2, 3]) (fx := []) 1 rfl (by decide +kernel) ?_
  simp only [m11, EV, Nat.reduceEqDiff, Nat.reduceBEq, Nat.reduceLT, Nat.reduceLeDiff, Nat.reduceAdd, Nat.reduceSub, reduceIte]
  refine pc.call (fun _ => rfl) ?_
  rintro _ c1 hc1 ⟨n, _, rfl⟩
  simp only [EV, Nat.reduceEqDiff, Nat.reduceBEq, Nat.reduceLT, Nat.reduceLeDiff, Nat.reduceAdd, Nat.reduceSub, reduceIte]
  refine (p25 c1 _ 10 hc1 (by omega) (by omega)).call (fun _ => rfl) ?_
  rintro _ c2 hc2 ⟨b, rfl, _⟩
  simp only [EV, Nat.reduceEqDiff, Nat.reduceBEq, Nat.reduceLT, Nat.reduceLeDiff, Nat.reduceAdd, Nat.reduceSub, reduceIte]
  simp only [EV, Nat.reduceEqDiff, Nat.reduceBEq, Nat.reduceLT, Nat.reduceLeDiff, Nat.reduceAdd, Nat.reduceSub, reduceIte, evRE, retVC, cellV', evR, nfz, nfzs, nfzss, List.contains_nil, List.contains_cons, Bool.or_false, or_true]
  exact ⟨n, b, rfl⟩
theorem nm1 {s : ByteArray} (h : s.size = 1) (h0 : chOk s 0 = true) : nameOk s = true := by
  rw [nameOk_yes (fun j hj => by obtain rfl : j = 0 := by omega
                                 exact h0), h]
  rfl
theorem nm2 {s : ByteArray} (h : s.size = 2) (h0 : chOk s 0 = true) (h1 : chOk s 1 = true) : nameOk s = true := by
  rw [nameOk_yes (fun j hj => by
    have : j = 0 ∨ j = 1 := by omega
    rcases this with rfl | rfl
    · exact h0
    · exact h1), h]
  rfl
set_option maxRecDepth 100000 in
theorem q21 (code : List Int) (hl : (code.length : Int) ≤ 1048576) (hb : ∀ b ∈ code, 0 ≤ b ∧ b ≤ 255) :
    DoesE Go.Proofs.Tryz.prog 21 [.fsl 1 (code.map bv)] true fun r o => o = [.dead] ∧ ∃ (l : List Ty) (n : Int) (s : ByteArray), r = .tup [.fsl 6 (l.map Ty.z), .v (.int .i64 n), .v (.string s)] ∧ l.length ≤ 9 ∧ (∀ t ∈ l, t.dr) ∧ (s.size : Int) ≤ 10 ∧ (nameOk s = true ∨ s = ⟨#[]⟩) := by
  have hc : Cur.ok ⟨code, 0, 0⟩ 0 := ⟨hl, hb, Int.le_refl _, Int.le_refl _⟩
  have pc := q29 ⟨code, 0, 0⟩ 0 hc (by omega)
  refine doesE_intro (mc := m21) (N := 19) (rs := [2, 3, 4]) (fx := []) 1 rfl (by decide +kernel) ?_
  simp only [m21, EV, Nat.reduceEqDiff, Nat.reduceBEq, Nat.reduceLT, Nat.reduceLeDiff, Nat.reduceAdd, Nat.reduceSub, reduceIte]
  refine pc.call (fun _ => rfl) ?_
  rintro _ c1 hc1 ⟨l, rfl, l9, hs⟩
  simp only [Ty.frz, EV, Nat.reduceEqDiff, Nat.reduceBEq, Nat.reduceLT, Nat.reduceLeDiff, Nat.reduceAdd, Nat.reduceSub, reduceIte]
  refine (p30 c1 _ l hc1 (by omega) l9).call (fun _ => rfl) ?_
  rintro _ c2 hc2 ⟨x, rfl, _⟩
  simp only [EV, Nat.reduceEqDiff, Nat.reduceBEq, Nat.reduceLT, Nat.reduceLeDiff, Nat.reduceAdd, Nat.reduceSub, reduceIte]
  refine (p44 c2 _ [⟨#[102, 49]⟩, ⟨#[102, 50]⟩, ⟨#[102, 51]⟩, ⟨#[103]⟩, ⟨#[]⟩] hc2 (by omega) (by decide) (by decide)).call (fun _ => rfl) ?_
  rintro _ c3 hc3 ⟨s, hs', rfl⟩
  have hs1 : (s.size : Int) ≤ 10 ∧ (nameOk s = true ∨ s = ⟨#[]⟩) := by
    simp only [List.mem_cons, List.not_mem_nil, or_false] at hs'
    rcases hs' with rfl | rfl | rfl | rfl | rfl
    · exact ⟨by decide, .inl (nm2 (by decide) (by decide +kernel) (by decide +kernel))⟩
    · exact ⟨by decide, .inl (nm2 (by decide) (by decide +kernel) (by decide +kernel))⟩
    · exact ⟨by decide, .inl (nm2 (by decide) (by decide +kernel) (by decide +kernel))⟩
    · exact ⟨by decide, .inl (nm1 (by decide) (by decide +kernel))⟩
    · exact ⟨by decide, .inr rfl⟩
  simp only [EV, Nat.reduceEqDiff, Nat.reduceBEq, Nat.reduceLT, Nat.reduceLeDiff, Nat.reduceAdd, Nat.reduceSub, reduceIte]
  simp only [EV, Nat.reduceEqDiff, Nat.reduceBEq, Nat.reduceLT, Nat.reduceLeDiff, Nat.reduceAdd, Nat.reduceSub, reduceIte, evRE, retVC, cellV', evR, nfz, nfzs, nfzss, List.contains_nil, List.contains_cons, Bool.or_false, or_true]
  exact ⟨⟨l, x, s, rfl, l9, hs, hs1⟩, Or.inl trivial⟩
def m8 : MC :=
 (.seq (.reg [Xq 2 (.mov (.nils 34 6)), Xb 3 (.asg (.i 0)), Xb 4 (.asg (.z #[]))]) (.seq (.reg [Xm 5 0, Xb 6 (.call (.fn 21) true [.lend (.t 5)]), Xq 7 (.ext 6 0), Xq 8 (.ext 6 1), Xq 9 (.ext 6 2), Xm 2 7, Xa 3 8, Xa 4 9]) .ret))
set_option maxRecDepth 100000 in
theorem p8 (code : List Int) (hl : (code.length : Int) ≤ 1048576) (hb : ∀ b ∈ code, 0 ≤ b ∧ b ≤ 255) :
    DoesE Go.Proofs.Tryz.prog 8 [.fsl 1 (code.map bv)] true fun r o => o = [.dead] ∧ ∃ (l : List Ty) (n : Int) (s : ByteArray), r = .tup [.fsl 6 (l.map Ty.z), .v (.int .i64 n), .v (.string s)] ∧ l.length ≤ 9 ∧ (∀ t ∈ l, t.dr) ∧ (s.size : Int) ≤ 10 ∧ (nameOk s = true ∨ s = ⟨#[]⟩) := by
  refine doesE_intro (mc := m8) (N := 10) (rs := [2, 3, 4]) (fx := []) 1 rfl (by decide +kernel) ?_
  simp only [m8, EV, Nat.reduceEqDiff, Nat.reduceBEq, Nat.reduceLT, Nat.reduceLeDiff, Nat.reduceAdd, Nat.reduceSub, reduceIte]
  refine callE_i (q21 code hl hb) (fun r o h => ⟨h.2, h.1⟩) ?_
  rintro _ ⟨l, n, s, rfl, h⟩
  simp only [pbeq, EV, Nat.reduceEqDiff, Nat.reduceBEq, Nat.reduceLT, Nat.reduceLeDiff, Nat.reduceAdd, Nat.reduceSub, reduceIte]
  simp only [EV, Nat.reduceEqDiff, Nat.reduceBEq, Nat.reduceLT, Nat.reduceLeDiff, Nat.reduceAdd, Nat.reduceSub, reduceIte, evRE, retVC, cellV', evR, nfz, nfzs, nfzss, List.contains_nil, List.contains_cons, Bool.or_false, or_true]
  exact ⟨⟨l, n, s, rfl, h⟩, Or.inl trivial⟩
end Go.AM
namespace Go.AM
set_option linter.unusedVariables false
set_option linter.unusedSimpArgs false
def m3 : MC :=
 (.seq (.reg [Xb 4 (.asg .fb)]) (.keep [0, 1] (.seq (.seq (.reg [Xm 30 0, Xm 31 1, Xb 32 (.call (.fn 4) false [.lend (.t 30), .lend (.t 31)])]) (.keep [0, 1, 32] (.cond (.t 32) (.seq (.reg [Xb 4 (.asg .tb)]) .ret) .skip))) (.keep [0, 1] (.seq (.reg [Xm 34 0, Xb 35 (.call (.fn 5) true [.lend (.t 34)]), Xm 33 35, Xq 36 (.ext 33 0), Xq 37 (.ext 33 1), Xm 5 36, Xa 6 37]) (.keep [1, 5, 6, 33, 35, 36]
 (.seq (.reg [Xm 39 5, Xm 40 6, Xb 41 (.call (.fn 6) false [.lend (.t 39), .lend (.t 40)]), Xa 38 41, Xq 42 (.ext 38 0), Xq 43 (.ext 38 1), Xa 7 42, Xa 8 43]) (.keep [1, 5, 6, 7, 8, 33, 35, 36, 38, 41, 42] (.seq (.reg [Xm 45 5, Xm 46 6, Xb 47 (.call (.fn 7) false [.lend (.t 45), .lend (.t 46)]), Xa 44 47, Xq 48 (.ext 44 0), Xq 49 (.ext 44 1), Xa 9 48, Xa 10 49]) (.keep [1, 5, 6, 7, 8, 9, 10, 33,
 35, 36, 38, 41, 42, 44, 47, 48] (.seq (.seq (.reg [Xm 50 8, Xm 51 10, Xq 52 (.bin true .neq (.t 50) (.t 51)), Xm 53 52, Xu 54 53 (.mov (.t 7)), Xu 55 53 (.len false (.t 54)), Xu 56 53 (.mov (.t 9)), Xu 57 53 (.len false (.t 56)), Xu 58 53 (.bin false .neq (.t 55) (.t 57)), Xq 59 (.pick (.t 53) .tb (.t 58))]) (.keep [1, 5, 6, 7, 8, 9, 33, 35, 36, 38, 41, 42, 44, 47, 48, 59] (.cond (.t 59) (.seq
 (.reg [Xb 4 (.asg .fb)]) .ret) .skip))) (.keep [1, 5, 6, 7, 8, 9, 33, 35, 36, 38, 41, 42, 44, 47, 48] (.seq (.reg [Xb 11 (.asg (.i 0))]) (.keep [1, 5, 6, 7, 8, 9, 11, 33, 35, 36, 38, 41, 42, 44, 47, 48] (.seq (.seq (.reg [Xm 60 7, Xn 61 60, Xq 62 (.mov (.i 0))]) (.keep [1, 5, 6, 7, 8, 9, 11, 33, 35, 36, 38, 41, 42, 44, 47, 48, 61, 62] (.block 0 (.loop [1, 5, 6, 7, 8, 9, 11, 33, 35, 36, 38, 41, 42,
 44, 47, 48, 61, 62] (.seq (.reg [Xq 63 (.bin false .lss (.t 62) (.t 61))]) (.keep [1, 5, 6, 7, 8, 9, 11, 33, 35, 36, 38, 41, 42, 44, 47, 48, 61, 62, 63] (.seq (.cond (.t 63) .skip (.exit 0)) (.keep [1, 5, 6, 7, 8, 9, 11, 33, 35, 36, 38, 41, 42, 44, 47, 48, 61, 62] (.join [1, 5, 6, 7, 8, 9, 11, 33, 35, 36, 38, 41, 42, 44, 47, 48, 61, 62] (.block 1 (.seq (.reg [Xm 64 62, Xa 12 64]) (.keep [1, 5, 6,
 7, 8, 9, 11, 12, 33, 35, 36, 38, 41, 42, 44, 47, 48, 61, 62] (.seq (.seq (.dreg [Xm 65 7, Xm 66 12, Xi 67 3 65 66, XL 68 3 67, Xm 69 9, Xm 70 12, Xi 71 3 69 70, XL 72 3 71, Xq 73 (.eqa true [1, 0, 0] (.t 68) (.t 72)), Xm 74 73, Xu 75 74 (.mov (.t 7)), Xu 76 74 (.mov (.t 12)), Xu 77 74 (.iad 3 (.t 75) (.t 76)), Xu 78 74 (.fad 1 (.t 77)), Xu 79 74 (.load false 1 (.t 78)), Xu 80 74 (.mov (.t 11)), Xu
 81 74 (.bin false .lss (.t 79) (.t 80)), Xq 82 (.pick (.t 74) .tb (.t 81)), Xm 83 82, Xu 84 83 (.mov (.t 7)), Xu 85 83 (.mov (.t 12)), Xu 86 83 (.iad 3 (.t 84) (.t 85)), Xu 87 83 (.fad 2 (.t 86)), Xu 88 83 (.load false 1 (.t 87)), Xu 89 83 (.bin false .lss (.t 88) (.i 0)), Xq 90 (.pick (.t 83) .tb (.t 89))]) (.keep [1, 5, 6, 7, 8, 9, 12, 33, 35, 36, 38, 41, 42, 44, 47, 48, 61, 62, 90] (.cond (.t
 90) (.seq (.reg [Xb 4 (.asg .fb)]) .ret) .skip))) (.keep [1, 5, 6, 7, 8, 9, 12, 33, 35, 36, 38, 41, 42, 44, 47, 48, 61, 62] (.seq (.dreg [Xm 91 7, Xm 92 12, Xi 93 3 91 92, Xf 94 1 93, Xl 95 1 94, Xm 96 7, Xm 97 12, Xi 98 3 96 97, Xf 99 2 98, Xl 100 1 99, Xq 101 (.bin false .add (.t 95) (.t 100)), Xm 11 101]) (.keep [1, 5, 6, 7, 8, 9, 11, 12, 33, 35, 36, 38, 41, 42, 44, 47, 48, 61, 62] (.seq (.reg
 [Xm 102 7, Xm 103 12, Xi 104 3 102 103, Xf 105 2 104, Xl 106 1 105, Xa 13 106]) (.keep [1, 5, 6, 7, 8, 9, 11, 12, 13, 33, 35, 36, 38, 41, 42, 44, 47, 48, 61, 62] (.join [1, 5, 6, 7, 8, 9, 11, 12, 13, 33, 35, 36, 38, 41, 42, 44, 47, 48, 61, 62] (.seq (.reg [Xm 107 13, Xq 108 (.bin false .gtr (.t 107) (.i 8))]) (.keep [1, 5, 6, 7, 8, 9, 11, 12, 13, 33, 35, 36, 38, 41, 42, 44, 47, 48, 61, 62, 108]
 (.cond (.t 108) (.reg [Xb 13 (.asg (.i 8))]) .skip))) (.seq (.reg [Xm 109 13, Xq 110 (.bin false .gtr (.t 109) (.i 0)), Xm 111 110, Xt 112 111 (.mov (.t 7)), Xt 113 111 (.mov (.t 12)), Xt 114 111 (.iad 3 (.t 112) (.t 113)), Xt 115 111 (.fad 1 (.t 114)), Xt 116 111 (.load false 1 (.t 115)), Xt 117 111 (.mov (.t 13)), Xt 118 111 (.bin false .rem (.t 116) (.t 117)), Xt 119 111 (.bin false .neq (.t
 118) (.i 0)), Xq 120 (.pick (.t 111) (.t 119) .fb)]) (.keep [1, 5, 6, 7, 8, 9, 11, 33, 35, 36, 38, 41, 42, 44, 47, 48, 61, 62, 120] (.cond (.t 120) (.seq (.reg [Xb 4 (.asg .fb)]) .ret) .skip))))))))))))) (.reg [Xq 121 (.bin false .add (.t 62) (.i 1)), Xm 62 121])))))))))) (.keep [1, 5, 6, 7, 8, 33, 35, 36, 38, 41, 42] (.join [1] (.seq (.reg [Xm 122 8, Xm 123 122, Xt 124 123 (.mov (.t 6)), Xt 125
 123 (.bin false .geq (.t 124) (.i 0)), Xq 126 (.pick (.t 123) (.t 125) .fb), Xm 127 126, Xt 128 127 (.mov (.t 6)), Xt 129 127 (.mov (.t 5)), Xt 130 127 (.len false (.t 129)), Xt 131 127 (.bin false .lss (.t 128) (.t 130)), Xq 132 (.pick (.t 127) (.t 131) .fb), Xm 133 132, Xt 134 133 (.mov (.t 5)), Xt 135 133 (.mov (.t 6)), Xt 136 133 (.iad 6 (.t 134) (.t 135)), Xt 137 133 (.fad 2 (.t 136)), Xt 138
 133 (.load false 1 (.t 137)), Xt 139 133 (.bin false .geq (.t 138) (.i 0)), Xq 140 (.pick (.t 133) (.t 139) .fb)]) (.keep [1, 5, 6, 7, 33, 35, 36, 38, 41, 42, 140] (.cond (.t 140) (.seq (.reg [Xm 142 5, Xm 143 5, Xm 144 6, Xi 145 6 143 144, Xf 146 2 145, Xl 147 1 146, Xb 148 (.call (.fn 6) false [.lend (.t 142), .lend (.t 147)]), Xa 141 148, Xq 149 (.ext 141 0), Xq 150 (.ext 141 1), Xa 14 149, Xa
 15 150]) (.keep [1, 7, 14, 15, 38, 41, 42, 141, 148, 149] (.seq (.seq (.reg [Xm 151 15, Xq 152 (.un .not (.t 151)), Xm 153 152, Xu 154 153 (.mov (.t 14)), Xu 155 153 (.len false (.t 154)), Xu 156 153 (.mov (.t 7)), Xu 157 153 (.len false (.t 156)), Xu 158 153 (.bin false .gtr (.t 155) (.t 157)), Xq 159 (.pick (.t 153) .tb (.t 158))]) (.keep [1, 7, 14, 38, 41, 42, 141, 148, 149, 159] (.cond (.t
 159) (.seq (.reg [Xb 4 (.asg .fb)]) .ret) .skip))) (.keep [1, 7, 14, 38, 41, 42, 141, 148, 149] (.seq (.reg [Xm 160 14, Xn 161 160, Xq 162 (.mov (.i 0))]) (.keep [1, 7, 14, 38, 41, 42, 141, 148, 149, 161, 162] (.block 2 (.loop [1, 7, 14, 38, 41, 42, 141, 148, 149, 161, 162] (.seq (.reg [Xq 163 (.bin false .lss (.t 162) (.t 161))]) (.keep [1, 7, 14, 38, 41, 42, 141, 148, 149, 161, 162, 163] (.seq
 (.cond (.t 163) .skip (.exit 2)) (.keep [1, 7, 14, 38, 41, 42, 141, 148, 149, 161, 162] (.seq (.block 3 (.seq (.reg [Xm 164 162, Xa 16 164]) (.keep [1, 7, 14, 16, 38, 41, 42, 141, 148, 149, 161, 162] (.seq (.dreg [Xm 165 14, Xm 166 16, Xi 167 3 165 166, XL 168 3 167, Xm 169 7, Xm 170 16, Xi 171 3 169 170, XL 172 3 171, Xq 173 (.eqa true [1, 0, 0] (.t 168) (.t 172))]) (.keep [1, 7, 14, 38, 41, 42,
 141, 148, 149, 161, 162, 173] (.cond (.t 173) (.seq (.reg [Xb 4 (.asg .fb)]) .ret) .skip)))))) (.keep [1, 7, 14, 38, 41, 42, 141, 148, 149, 161, 162] (.reg [Xq 174 (.bin false .add (.t 162) (.i 1)), Xm 162 174]))))))))))))))) .skip))) (.seq (.reg [Xm 176 1, Xb 177 (.call (.fn 8) true [.lend (.t 176)]), Xm 175 177, Xq 178 (.ext 175 0), Xq 179 (.ext 175 1), Xq 180 (.ext 175 2), Xm 17 178, Xa 18 179,
 Xa 19 180]) (.keep [1, 17, 18, 19, 175, 177, 178] (.seq (.reg [Xm 182 17, Xm 183 18, Xm 184 19, Xb 185 (.call (.fn 9) false [.lend (.t 182), .lend (.t 183), .lend (.t 184)]), Xm 181 185, Xq 186 (.ext 181 0), Xq 187 (.ext 181 1), Xb 20 (.alloc 31 [.z, .i, .i]), Xz (.store 3 (.t 20) (.t 186)), Xa 21 187]) (.keep [1, 17, 18, 19, 20, 21, 175, 177, 178] (.seq (.reg [Xm 189 17, Xm 190 18, Xm 191 19, Xb
 192 (.call (.fn 10) false [.lend (.t 189), .lend (.t 190), .lend (.t 191)]), Xm 188 192, Xq 193 (.ext 188 0), Xq 194 (.ext 188 1), Xb 22 (.alloc 31 [.z, .i, .i]), Xz (.store 3 (.t 22) (.t 193)), Xa 23 194]) (.keep [1, 20, 21, 22, 23] (.seq (.reg [Xm 196 1, Xb 197 (.call (.fn 11) false [.lend (.t 196)]), Xm 195 197, Xq 198 (.ext 195 0), Xq 199 (.ext 195 1), Xa 24 198, Xa 25 199]) (.keep [20, 21,
 22, 23, 24, 25] (.seq (.reg [Xm 201 24, Xm 202 25, Xb 203 (.call (.fn 12) false [.lend (.t 201), .lend (.t 202)]), Xm 200 203, Xq 204 (.ext 200 0), Xq 205 (.ext 200 1), Xa 26 204, Xa 27 205]) (.keep [20, 21, 22, 23, 24, 25, 26, 27] (.seq (.reg [Xm 207 24, Xm 208 25, Xb 209 (.call (.fn 13) false [.lend (.t 207), .lend (.t 208)]), Xm 206 209, Xq 210 (.ext 206 0), Xq 211 (.ext 206 1), Xa 28 210, Xa
 29 211]) (.keep [20, 21, 22, 23, 24, 25, 26, 27, 28, 29] (.seq (.reg [Xm 212 21, Xm 213 23, Xq 214 (.bin true .eql (.t 212) (.t 213)), Xm 215 214, Xt 216 215 (.load true 3 (.t 20)), Xt 217 215 (.load true 3 (.t 22)), Xt 218 215 (.eqa false [1, 0, 0] (.t 216) (.t 217)), Xq 219 (.pick (.t 215) (.t 218) .fb), Xm 220 219, Xt 221 220 (.mov (.t 27)), Xt 222 220 (.mov (.t 29)), Xt 223 220 (.bin true .eql
 (.t 221) (.t 222)), Xq 224 (.pick (.t 220) (.t 223) .fb), Xm 225 224, Xt 226 225 (.mov (.t 26)), Xt 227 225 (.mov (.t 28)), Xt 228 225 (.bin false .eql (.t 226) (.t 227)), Xq 229 (.pick (.t 225) (.t 228) .fb), Xm 230 229, Xt 231 230 (.mov (.t 27)), Xt 232 230 (.un .not (.t 231)), Xt 233 230 (.mov (.t 232)), Xu 234 233 (.mov (.t 26)), Xu 235 233 (.mov (.t 24)), Xu 236 233 (.bin false .geq (.t 234)
 (.t 235)), Xu 237 233 (.mov (.t 236)), Xt 238 237 (.mov (.t 26)), Xt 239 237 (.mov (.t 24)), Xt 240 237 (.mov (.t 25)), Xt 241 237 (.bin false .add (.t 239) (.t 240)), Xt 242 237 (.bin false .lss (.t 238) (.t 241)), Xu 243 233 (.pick (.t 237) (.t 242) .fb), Xu 244 233 (.mov (.t 243)), Xt 245 244 (.mov (.t 26)), Xt 246 244 (.mov (.t 25)), Xt 247 244 (.bin false .rem (.t 245) (.t 246)), Xt 248 244
 (.bin false .eql (.t 247) (.i 0)), Xu 249 233 (.pick (.t 244) (.t 248) .fb), Xt 250 230 (.pick (.t 233) .tb (.t 249)), Xq 251 (.pick (.t 230) (.t 250) .fb), Xa 4 251]) .ret))))))))))))))))))))))))))))))
set_option maxHeartbeats 4000000 in
set_option maxRecDepth 100000 in
theorem d3 (code more : List Int) (hc : (code.length : Int) ≤ 9223372036854775807) (hm : (more.length : Int) ≤ 9223372036854775807) (hcb : ∀ b ∈ code, 0 ≤ b ∧ b ≤ 255) (hmb : ∀ b ∈ more, 0 ≤ b ∧ b ≤ 255) :
    Does Go.Proofs.Tryz.prog 3 [.fsl 1 (code.map bv), .fsl 1 (more.map bv)] false (.v (.bool true)) [.dead, .dead] := by
  have bs : ∀ b : Bool, (b != b) = false := fun b => by cases b <;> rfl
  refine does_intro (mc := m3) (N := 252) (rs := [4]) (fx := []) 2 rfl (by decide +kernel) ?_
  simp only [m3, EV, Nat.reduceEqDiff, Nat.reduceBEq, Nat.reduceLT, Nat.reduceLeDiff, Nat.reduceAdd, Nat.reduceSub, reduceIte]
  refine callK_i (d4 code more hc hm) ?_
  simp only [EV, Nat.reduceEqDiff, Nat.reduceBEq, Nat.reduceLT, Nat.reduceLeDiff, Nat.reduceAdd, Nat.reduceSub, reduceIte]
  refine cK_cut (fun h => ?_) (fun h => ?_)
  · simp only [EV, Nat.reduceEqDiff, Nat.reduceBEq, Nat.reduceLT, Nat.reduceLeDiff, Nat.reduceAdd, Nat.reduceSub, reduceIte]
    simp only [EV, Nat.reduceEqDiff, Nat.reduceBEq, Nat.reduceLT, Nat.reduceLeDiff, Nat.reduceAdd, Nat.reduceSub, reduceIte, evRE, retVC, cellV', evR, nfz, nfzs, nfzss, List.contains_nil, List.contains_cons, Bool.or_false, or_true]
  have h1 : (code.length : Int) ≤ 1048576 ∧ (more.length : Int) ≤ 1048576 := by
    simp only [Bool.or_eq_false_iff, decide_eq_false_iff_not] at h
    omega
  clear h
  simp only [EV, Nat.reduceEqDiff, Nat.reduceBEq, Nat.reduceLT, Nat.reduceLeDiff, Nat.reduceAdd, Nat.reduceSub, reduceIte]
  refine callE_i (p5 code h1.1 hcb) (fun r o h => ⟨h.2, h.1⟩) ?_
  rintro _ ⟨l, n, rfl, l9, hs⟩
  have hl : (l.length : Int) ≤ 1048576 := by omega
  have hP := layL_laid l n
  have hPl := layL_len l n
  simp only [pbeq, EV, Nat.reduceEqDiff, Nat.reduceBEq, Nat.reduceLT, Nat.reduceLeDiff, Nat.reduceAdd, Nat.reduceSub, reduceIte]
  refine callK_i (d6 l n hl hs) ?_
  simp only [pbeq, EV, Nat.reduceEqDiff, Nat.reduceBEq, Nat.reduceLT, Nat.reduceLeDiff, Nat.reduceAdd, Nat.reduceSub, reduceIte]
  refine callK_i (d7 l n hl hs) ?_
  simp only [bs, pbeq, EV, Nat.reduceEqDiff, Nat.reduceBEq, Nat.reduceLT, Nat.reduceLeDiff, Nat.reduceAdd, Nat.reduceSub, reduceIte]
  obtain ⟨P, hPe⟩ : ∃ P, layL l n = P := ⟨_, rfl⟩
  rw [hPe] at hP hPl
  simp only [hPe, EV, Nat.reduceEqDiff, Nat.reduceBEq, Nat.reduceLT, Nat.reduceLeDiff, Nat.reduceAdd, Nat.reduceSub, reduceIte]
  refine awp_loop (fun i : Nat => i ≤ P.length) (fun i => stl [(1, .fsl 1 (more.map bv)), (5, .fsl 6 (l.map Ty.z)), (6, .v (.int .i64 n)), (7, .usl 31 3 (P.map Fd.o)), (8, .v (.bool (layO l n).isSome)), (9, .usl 31 3 (P.map Fd.o)), (11, .v (.int .i64 (endOf (P.take i)))), (33, .tup [.fsl 6 (l.map Ty.z), .v (.int .i64 n)]), (35, .tup [.fsl 6 (l.map Ty.z), .v (.int .i64 n)]), (36, .fsl 6 (l.map Ty.z)), (38, .tup [.dead, .v (.bool (layO l n).isSome)]), (41, .dead), (42, .dead), (44, .tup [.dead, .v (.bool (layO l n).isSome)]), (47, .dead), (48, .dead), (61, .v (.int .i64 (P.length : Int))), (62, .v (.int .i64 (i : Int)))]) (fun i => P.length - i) 0 (Nat.zero_le _) ?_ ?_
  · simp only [EV, Nat.reduceEqDiff, Nat.reduceBEq, Nat.reduceLT, Nat.reduceLeDiff, Nat.reduceAdd, Nat.reduceSub, reduceIte]
    rfl
  · intro i hi
    simp only [EV, Nat.reduceEqDiff, Nat.reduceBEq, Nat.reduceLT, Nat.reduceLeDiff, Nat.reduceAdd, Nat.reduceSub, reduceIte]
    refine cK_cut (fun h => ?_) (fun h => ?_)
    · have q1 : i < P.length := by simpa using h
      have q2 : (i : Int) < (P.length : Int) := by omega
      obtain ⟨e0, e1, e2, e3, e4⟩ := hP i q1
      have e5 : endOf (P.take (i + 1)) = P[i].mark + P[i].typ := by rw [List.take_succ_eq_append_getElem q1, endOf_snoc]
      clear h
      refine awp_join (fun _ : Unit => True) (fun _ => stl [(1, .fsl 1 (more.map bv)), (5, .fsl 6 (l.map Ty.z)), (6, .v (.int .i64 n)), (7, .usl 31 3 (P.map Fd.o)), (8, .v (.bool (layO l n).isSome)), (9, .usl 31 3 (P.map Fd.o)), (11, .v (.int .i64 (endOf (P.take (i + 1))))), (33, .tup [.fsl 6 (l.map Ty.z), .v (.int .i64 n)]), (35, .tup [.fsl 6 (l.map Ty.z), .v (.int .i64 n)]), (36, .fsl 6 (l.map Ty.z)), (38, .tup [.dead, .v (.bool (layO l n).isSome)]), (41, .dead), (42, .dead), (44, .tup [.dead, .v (.bool (layO l n).isSome)]), (47, .dead), (48, .dead), (61, .v (.int .i64 (P.length : Int))), (62, .v (.int .i64 (i : Int)))]) ?_ ?_
      · have f1 : decide (P[i].mark < endOf (P.take i)) = false := by simp; omega
        have f2 : decide (P[i].typ < 0) = false := by simp; omega
        have w1 := w64 (P[i].mark + P[i].typ) (by omega)
        simp only [q1, q2, nth_map q1, f1, f2, w1, Fd.o, EV, Nat.reduceEqDiff, Nat.reduceBEq, Nat.reduceLT, Nat.reduceLeDiff, Nat.reduceAdd, Nat.reduceSub, reduceIte]
        refine awp_join (fun _ : Unit => True) (fun _ => stl [(1, .fsl 1 (more.map bv)), (5, .fsl 6 (l.map Ty.z)), (6, .v (.int .i64 n)), (7, .usl 31 3 (P.map Fd.o)), (8, .v (.bool (layO l n).isSome)), (9, .usl 31 3 (P.map Fd.o)), (11, .v (.int .i64 (endOf (P.take (i + 1))))), (12, .v (.int .i64 (i : Int))), (13, .v (.int .i64 (min P[i].typ 8))), (33, .tup [.fsl 6 (l.map Ty.z), .v (.int .i64 n)]), (35, .tup [.fsl 6 (l.map Ty.z), .v (.int .i64 n)]), (36, .fsl 6 (l.map Ty.z)), (38, .tup [.dead, .v (.bool (layO l n).isSome)]), (41, .dead), (42, .dead), (44, .tup [.dead, .v (.bool (layO l n).isSome)]), (47, .dead), (48, .dead), (61, .v (.int .i64 (P.length : Int))), (62, .v (.int .i64 (i : Int)))]) ?_ ?_
        · simp only [EV, Nat.reduceEqDiff, Nat.reduceBEq, Nat.reduceLT, Nat.reduceLeDiff, Nat.reduceAdd, Nat.reduceSub, reduceIte]
          rcases c8 : decide (8 < P[i].typ) with _ | _
          · have m8 : min P[i].typ 8 = P[i].typ := by have : ¬ 8 < P[i].typ := by simpa using c8
                                                      omega
            simp only [m8, e5, EV, Nat.reduceEqDiff, Nat.reduceBEq, Nat.reduceLT, Nat.reduceLeDiff, Nat.reduceAdd, Nat.reduceSub, reduceIte]
            exact ⟨(), trivial⟩
          · have m8 : min P[i].typ 8 = 8 := by have : 8 < P[i].typ := by simpa using c8
                                               omega
            simp only [m8, e5, EV, Nat.reduceEqDiff, Nat.reduceBEq, Nat.reduceLT, Nat.reduceLeDiff, Nat.reduceAdd, Nat.reduceSub, reduceIte]
            exact ⟨(), trivial⟩
        · rintro _ _
          simp only [EV, Nat.reduceEqDiff, Nat.reduceBEq, Nat.reduceLT, Nat.reduceLeDiff, Nat.reduceAdd, Nat.reduceSub, reduceIte]
          rcases c0 : decide (0 < min P[i].typ 8) with _ | _
          · simp only [EV, Nat.reduceEqDiff, Nat.reduceBEq, Nat.reduceLT, Nat.reduceLeDiff, Nat.reduceAdd, Nat.reduceSub, reduceIte]
            exact ⟨(), trivial⟩
          · have m0 : 0 < min P[i].typ 8 := by simpa using c0
            have m1 : min P[i].typ 8 ≠ 0 := by omega
            have m2 : P[i].mark.tmod (min P[i].typ 8) = 0 := by rw [Int.tmod_eq_emod_of_nonneg (by omega)]; exact e4 (by omega)
            simp only [q1, q2, nth_map q1, m1, m2, Fd.o, EV, Nat.reduceEqDiff, Nat.reduceBEq, Nat.reduceLT, Nat.reduceLeDiff, Nat.reduceAdd, Nat.reduceSub, reduceIte]
            exact ⟨m1, (), trivial⟩
      · rintro _ _
        simp only [EV, Nat.reduceEqDiff, Nat.reduceBEq, Nat.reduceLT, Nat.reduceLeDiff, Nat.reduceAdd, Nat.reduceSub, reduceIte]
        rw [w64 _ (by omega)]
        exact ⟨i + 1, q1, by omega, rfl⟩
    · clear h
      simp only [EV, Nat.reduceEqDiff, Nat.reduceBEq, Nat.reduceLT, Nat.reduceLeDiff, Nat.reduceAdd, Nat.reduceSub, reduceIte]
      refine awp_join (fun _ : Unit => True) (fun _ => stl [(1, .fsl 1 (more.map bv))]) ?_ ?_
      · rcases eo : (layO l n).isSome with _ | _
        · simp only [eo, EV, Nat.reduceEqDiff, Nat.reduceBEq, Nat.reduceLT, Nat.reduceLeDiff, Nat.reduceAdd, Nat.reduceSub, reduceIte]
          exact ⟨(), trivial⟩
        have hr : recOk l n = true := by
          unfold layO at eo
          split at eo
          · assumption
          · simp at eo
        have hr' := hr
        simp only [recOk, Bool.and_eq_true] at hr'
        obtain ⟨n0, n1, nn, _⟩ := isRec_in hr'.2
        have n2 : n < (l.length : Int) := by omega
        have d0 : decide (0 ≤ n) = true := by simp; omega
        have d1 : decide (n < (l.length : Int)) = true := by simp; omega
        have hbe := baseAt_eq nn
        simp only [eo, d0, d1, EV, Nat.reduceEqDiff, Nat.reduceBEq, Nat.reduceLT, Nat.reduceLeDiff, Nat.reduceAdd, Nat.reduceSub, reduceIte]
        simp only [n0, n2, nn, nth_map nn, Ty.z, ← hbe, EV, Nat.reduceEqDiff, Nat.reduceBEq, Nat.reduceLT, Nat.reduceLeDiff, Nat.reduceAdd, Nat.reduceSub, reduceIte]
        rcases cb : decide (0 ≤ baseAt l n) with _ | _
        · simp only [EV, Nat.reduceEqDiff, Nat.reduceBEq, Nat.reduceLT, Nat.reduceLeDiff, Nat.reduceAdd, Nat.reduceSub, reduceIte]
          exact ⟨(), trivial⟩
        obtain ⟨o1, Y, hY⟩ := lay_base eo (by simpa using cb)
        have dq := d6 l (baseAt l n) hl hs
        obtain ⟨Q, hQe⟩ : ∃ Q, layL l (baseAt l n) = Q := ⟨_, rfl⟩
        rw [hPe, hQe] at hY
        rw [hQe, o1] at dq
        have q4 : decide ((P.length : Int) < (Q.length : Int)) = false := by rw [hY]; simp; omega
        simp only [n0, n2, nn, nth_map nn, Ty.z, ← hbe, EV, Nat.reduceEqDiff, Nat.reduceBEq, Nat.reduceLT, Nat.reduceLeDiff, Nat.reduceAdd, Nat.reduceSub, reduceIte]
        refine callK_i dq ?_
        simp only [q4, EV, Nat.reduceEqDiff, Nat.reduceBEq, Nat.reduceLT, Nat.reduceLeDiff, Nat.reduceAdd, Nat.reduceSub, reduceIte]
        refine awp_loop (fun i : Nat => i ≤ Q.length) (fun i => stl [(1, .fsl 1 (more.map bv)), (7, .usl 31 3 (P.map Fd.o)), (14, .usl 31 3 (Q.map Fd.o)), (38, .tup [.dead, .v (.bool true)]), (41, .dead), (42, .dead), (141, .tup [.dead, .v (.bool true)]), (148, .dead), (149, .dead), (161, .v (.int .i64 (Q.length : Int))), (162, .v (.int .i64 (i : Int)))]) (fun i => Q.length - i) 0 (Nat.zero_le _) ?_ ?_
        · simp only [EV, Nat.reduceEqDiff, Nat.reduceBEq, Nat.reduceLT, Nat.reduceLeDiff, Nat.reduceAdd, Nat.reduceSub, reduceIte]
          rfl
        · intro i hi
          simp only [EV, Nat.reduceEqDiff, Nat.reduceBEq, Nat.reduceLT, Nat.reduceLeDiff, Nat.reduceAdd, Nat.reduceSub, reduceIte]
          refine cK_cut (fun h => ?_) (fun h => ?_)
          · have q1 : i < Q.length := by simpa using h
            have q2 : (i : Int) < (Q.length : Int) := by omega
            have q3 : i < P.length := by rw [hY, List.length_append]; omega
            have q4 : (i : Int) < (P.length : Int) := by omega
            have q5 : P[i] = Q[i] := by simp only [hY]; exact List.getElem_append_left q1
            clear h
            simp only [nth_map q1, q1, q2, nth_map q3, q3, q4, q5, Fd.o, EV, Nat.reduceEqDiff, Nat.reduceBEq, Nat.reduceLT, Nat.reduceLeDiff, Nat.reduceAdd, Nat.reduceSub, reduceIte]
            rw [w64 _ (by omega)]
            exact ⟨i + 1, q1, by omega, rfl⟩
          · simp only [EV, Nat.reduceEqDiff, Nat.reduceBEq, Nat.reduceLT, Nat.reduceLeDiff, Nat.reduceAdd, Nat.reduceSub, reduceIte]
            exact ⟨(), trivial⟩
      · rintro _ _
        simp only [EV, Nat.reduceEqDiff, Nat.reduceBEq, Nat.reduceLT, Nat.reduceLeDiff, Nat.reduceAdd, Nat.reduceSub, reduceIte]
        refine callE_i (p8 more h1.2 hmb) (fun r o h => ⟨h.2, h.1⟩) ?_
        rintro _ ⟨a, m, s, rfl, a9, ha, hz, hn⟩
        have hal : (a.length : Int) ≤ 1048576 := by omega
        have has : ∀ t ∈ a, t.sm := fun t ht => (ha t ht).sm
        have dpi := d9 a m s hal has
        have dps := d10 a m s hal has (by omega)
        have hx : (if nameOk s = true then lastN s (layL a m) else none) = lastN s (layL a m) := by
          rcases hn with hn | rfl
          · rw [if_pos hn]
          · rw [lastN_empty ha]; split <;> rfl
        rw [hx] at dps
        generalize lastN s (layL a m) = pl at dpi dps
        simp only [pbeq, EV, Nat.reduceEqDiff, Nat.reduceBEq, Nat.reduceLT, Nat.reduceLeDiff, Nat.reduceAdd, Nat.reduceSub, reduceIte]
        refine callK_i dpi ?_
        simp only [Fd.z, pbeq, EV, Nat.reduceEqDiff, Nat.reduceBEq, Nat.reduceLT, Nat.reduceLeDiff, Nat.reduceAdd, Nat.reduceSub, reduceIte]
        refine callK_i dps ?_
        simp only [Fd.z, pbeq, EV, Nat.reduceEqDiff, Nat.reduceBEq, Nat.reduceLT, Nat.reduceLeDiff, Nat.reduceAdd, Nat.reduceSub, reduceIte]
        refine callE_i (p11 more h1.2 hmb) (fun r o h => ⟨h.2, h.1⟩) ?_
        rintro _ ⟨u, b, rfl⟩
        simp only [pbeq, EV, Nat.reduceEqDiff, Nat.reduceBEq, Nat.reduceLT, Nat.reduceLeDiff, Nat.reduceAdd, Nat.reduceSub, reduceIte]
        refine callK_i (d12 u b) ?_
        simp only [pbeq, EV, Nat.reduceEqDiff, Nat.reduceBEq, Nat.reduceLT, Nat.reduceLeDiff, Nat.reduceAdd, Nat.reduceSub, reduceIte]
        refine callK_i (d13 u b) ?_
        simp only [pbeq, EV, Nat.reduceEqDiff, Nat.reduceBEq, Nat.reduceLT, Nat.reduceLeDiff, Nat.reduceAdd, Nat.reduceSub, reduceIte]
        rcases e : (decide (0 ≤ u) && decide (u ≤ 1000000000) && (decide (1 ≤ b) && decide (b ≤ 8))) with _ | _
        · simp only [Bool.not_false, EV, Nat.reduceEqDiff, Nat.reduceBEq, Nat.reduceLT, Nat.reduceLeDiff, Nat.reduceAdd, Nat.reduceSub, reduceIte]
          simp only [EV, Nat.reduceEqDiff, Nat.reduceBEq, Nat.reduceLT, Nat.reduceLeDiff, Nat.reduceAdd, Nat.reduceSub, reduceIte, evRE, retVC, cellV', evR, nfz, nfzs, nfzss, List.contains_nil, List.contains_cons, Bool.or_false, or_true]
        · simp only [Bool.and_eq_true, decide_eq_true_eq] at e
          obtain ⟨⟨u0, u1⟩, b1, b2⟩ := e
          have g1 := upL_le u0 b1
          have wu := w64 (u + b) (by omega)
          have g2 : decide (u ≤ upL u b) = true := by simp; omega
          have g3 : decide (upL u b < u + b) = true := by simp; omega
          have g4 : (upL u b).tmod b = 0 := by
            rw [Int.tmod_eq_emod_of_nonneg (by omega)]
            unfold upL
            exact Int.mul_emod_left _ _
          have hb0 : b ≠ 0 := by omega
          simp only [Bool.not_true, wu, g2, g3, g4, hb0, if_true, EV, Nat.reduceEqDiff, Nat.reduceBEq, Nat.reduceLT, Nat.reduceLeDiff, Nat.reduceAdd, Nat.reduceSub, reduceIte]
          refine ⟨hb0, ?_⟩
          simp only [EV, Nat.reduceEqDiff, Nat.reduceBEq, Nat.reduceLT, Nat.reduceLeDiff, Nat.reduceAdd, Nat.reduceSub, reduceIte, evRE, retVC, cellV', evR, nfz, nfzs, nfzss, List.contains_nil, List.contains_cons, Bool.or_false, or_true]
end Go.AM
