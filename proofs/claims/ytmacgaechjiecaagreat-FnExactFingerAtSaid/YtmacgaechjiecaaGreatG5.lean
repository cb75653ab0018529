/- Contracts of functions of the given program, for the law FnExactFingerAt: what they return and what they write, under the bounds that each theorem states. -/
import Derived.Test.YtmacgaechjiecaaGreatG4
import Derived.Shelf.SlSortCmp.WholeK
import Derived.Shelf.SlSortCmp.NoneTotal
import Derived.Ground.SlsfProg
import Derived.Laws.Cover1
namespace Go.AM
set_option linter.unusedVariables false
set_option linter.unusedSimpArgs false
structure Fing where
  name : ByteArray
  mark : Int
  sum : Int
def Fing.z (s : Fing) : List AV := [.v (.string s.name), .v (.int .i64 s.mark), .v (.int .i64 s.sum)]
theorem Fing.fr (s : Fing) : frzRow s.z = s.z := by simp only [Fing.z, frzRow, frzL, List.cons_append, List.nil_append]
theorem Fing.frz : ∀ l : List Fing, frzRows (l.map Fing.z) = l.map Fing.z
  | [] => rfl
  | s :: l => by simp only [List.map_cons, frzRows, Fing.fr, Fing.frz l]
theorem Fing.nf (s : Fing) : nfzs s.z = true := by simp only [Fing.z, nfzs, nfz, List.cons_append, List.nil_append, Bool.and_self]
theorem Fing.nfz : ∀ l : List Fing, nfzss (l.map Fing.z) = true
  | [] => rfl
  | s :: l => by simp only [List.map_cons, nfzss, Fing.nf, Fing.nfz l, Bool.and_self]
theorem FingE : (∀ f : Fing, f.z.length = 3) ∧ (∀ f : Fing, f.z.take 3 = f.z) ∧ (∀ (st : St) (f : Fing), frzBs st f.z = f.z) ∧ (∀ f : Fing, bares f.z = true) ∧ (∀ f : Fing, plains f.z = true) ∧
    (∀ (f : Fing) (K : Nat → List (Nat × Nat) → Bool), killVs K f.z = f.z) ∧ (∀ f : Fing, f.z.all storL = true) :=
  ⟨fun _ => rfl, fun _ => rfl, fun _ _ => rfl, fun _ => rfl, fun _ => rfl, fun _ _ => rfl, fun _ => rfl⟩
def bl (a b : ByteArray) : Bool := Op.bytesLess a.toList b.toList
theorem bless_eq : ∀ (x y : List UInt8), Op.bytesLess x y = decide (x < y)
  | [], [] => by simp [Op.bytesLess]
  | _ :: _, [] => by simp [Op.bytesLess]
  | [], _ :: _ => by simp [Op.bytesLess]
  | a :: x, b :: y => by
    rw [Op.bytesLess, bless_eq x y]
    simp only [List.cons_lt_cons_iff]
    by_cases h1 : a < b <;> by_cases h2 : a = b <;> by_cases h3 : x < y <;> simp [h1, h2, h3]
theorem bl_eq (a b : ByteArray) : bl a b = decide (a.toList < b.toList) := bless_eq _ _
theorem bl_irr (a : ByteArray) : bl a a = false := by rw [bl_eq]; simp [List.lt_irrefl]
theorem bl_trans {a b c : ByteArray} (h1 : bl a b = true) (h2 : bl b c = true) : bl a c = true := by
  rw [bl_eq] at *; simp only [decide_eq_true_eq] at *; exact List.lt_trans h1 h2
theorem bl_asym {a b : ByteArray} (h : bl a b = true) : bl b a = false := by
  rcases e : bl b a with _ | _
  · rfl
  · have := bl_trans h e; rw [bl_irr] at this; cases this
theorem bl_tri {a b : ByteArray} (h1 : bl a b = false) (h2 : bl b a = false) : a = b := by
  rw [bl_eq] at *; simp only [decide_eq_false_iff_not, List.not_lt] at *
  have : a.toList = b.toList := List.le_antisymm h2 h1
  cases a; cases b; rename_i x y
  simpa [ByteArray.toList_eq] using this
theorem bl_ntrans {a b c : ByteArray} (h1 : bl a b = false) (h2 : bl b c = false) : bl a c = false := by
  rcases e : bl a c with _ | _
  · rfl
  · rcases e2 : bl b a with _ | _
    · have := bl_tri h1 e2; subst this; rw [h2] at e; cases e
    · have := bl_trans e2 e; rw [h2] at this; cases this
theorem bs_eq {a b : ByteArray} : (a.toList == b.toList) = true ↔ a = b := by
  rw [beq_iff_eq]
  constructor
  · intro h
    refine bl_tri ?_ ?_ <;> rw [bl_eq, h] <;> simp [List.lt_irrefl]
  · rintro rfl; rfl
theorem bs_ne {a b : ByteArray} : (a.toList == b.toList) = false ↔ a ≠ b := by
  rw [← Bool.not_eq_true, bs_eq]
section
variable {α : Type} (nm : α → ByteArray)
def Asc (l : List α) : Prop := l.Pairwise fun a b => bl (nm a) (nm b) = true
variable {nm}
theorem asc_ext {l m : List α} (hl : Asc nm l) (hm : Asc nm m) (h : ∀ a, a ∈ l ↔ a ∈ m) : l = m := by
  induction l generalizing m with
  | nil =>
    cases m with
    | nil => rfl
    | cons b m => exact absurd ((h b).2 (by simp)) (by simp)
  | cons a l ih =>
    cases m with
    | nil => exact absurd ((h a).1 (by simp)) (by simp)
    | cons b m =>
      obtain ⟨ha, hl2⟩ := List.pairwise_cons.1 hl
      obtain ⟨hb, hm2⟩ := List.pairwise_cons.1 hm
      have e : a = b := by
        rcases List.mem_cons.1 ((h a).1 (by simp)) with e | e
        · exact e
        · rcases List.mem_cons.1 ((h b).2 (by simp)) with e2 | e2
          · exact e2.symm
          · have := bl_asym (hb a e); rw [ha b e2] at this; cases this
      subst e
      congr 1
      refine ih hl2 hm2 fun x => ?_
      constructor
      · intro hx
        rcases List.mem_cons.1 ((h x).1 (by simp [hx])) with e | e
        · subst e; have := ha x hx; rw [bl_irr] at this; cases this
        · exact e
      · intro hx
        rcases List.mem_cons.1 ((h x).2 (by simp [hx])) with e | e
        · subst e; have := hb x hx; rw [bl_irr] at this; cases this
        · exact e
theorem asc_of {l : List α} (h : l.Pairwise fun a b => bl (nm b) (nm a) = false) (hn : (l.map nm).Nodup) : Asc nm l := by
  unfold List.Nodup at hn
  rw [List.pairwise_map] at hn
  refine (h.and hn).imp fun {a b} h => ?_
  rcases e : bl (nm a) (nm b) with _ | _
  · exact absurd (bl_tri e h.1) h.2
  · rfl
variable (nm)
def insA (x : α) : List α → List α
  | [] => [x]
  | y :: l => if bl (nm x) (nm y) then x :: y :: l else y :: insA x l
def ascOf : List α → List α
  | [] => []
  | x :: l => insA nm x (ascOf l)
variable {nm}
theorem insA_mem {x a : α} : ∀ {l : List α}, a ∈ insA nm x l ↔ a = x ∨ a ∈ l
  | [] => by simp [insA]
  | y :: l => by
    unfold insA; split
    · simp
    · simp only [List.mem_cons, insA_mem (l := l)]
      constructor
      · rintro (h | h | h)
        · exact .inr (.inl h)
        · exact .inl h
        · exact .inr (.inr h)
      · rintro (h | h | h)
        · exact .inr (.inl h)
        · exact .inl h
        · exact .inr (.inr h)
theorem ascOf_mem {a : α} : ∀ {l : List α}, a ∈ ascOf nm l ↔ a ∈ l
  | [] => by simp [ascOf]
  | x :: l => by rw [ascOf, insA_mem, ascOf_mem (l := l), List.mem_cons]
theorem insA_asc {x : α} : ∀ {l : List α}, Asc nm l → (∀ a ∈ l, nm a ≠ nm x) → Asc nm (insA nm x l)
  | [], _, _ => by simp [insA, Asc]
  | y :: l, h, hx => by
    obtain ⟨hy, hl⟩ := List.pairwise_cons.1 h
    unfold insA
    rcases e : bl (nm x) (nm y) with _ | _
    · simp only [Bool.false_eq_true, if_false]
      refine List.pairwise_cons.2 ⟨fun a ha => ?_, insA_asc hl fun a ha => hx a (by simp [ha])⟩
      rcases insA_mem.1 ha with rfl | ha
      · rcases e2 : bl (nm y) (nm a) with _ | _
        · exact absurd (bl_tri e2 e) (hx y (by simp))
        · rfl
      · exact hy a ha
    · simp only [if_true]
      refine List.pairwise_cons.2 ⟨fun a ha => ?_, h⟩
      rcases List.mem_cons.1 ha with rfl | ha
      · exact e
      · exact bl_trans e (hy a ha)
theorem ascOf_asc : ∀ {l : List α}, (l.map nm).Nodup → Asc nm (ascOf nm l)
  | [], _ => by simp [ascOf, Asc]
  | x :: l, h => by
    rw [List.map_cons, List.nodup_cons] at h
    refine insA_asc (ascOf_asc h.2) fun a ha e => h.1 ?_
    rw [← e]
    exact List.mem_map_of_mem (ascOf_mem.1 ha)
theorem insA_len {x : α} : ∀ {l : List α}, (insA nm x l).length = l.length + 1
  | [] => rfl
  | y :: l => by unfold insA; split <;> simp [insA_len (l := l)]
theorem ascOf_len : ∀ {l : List α}, (ascOf nm l).length = l.length
  | [] => rfl
  | x :: l => by rw [ascOf, insA_len, ascOf_len, List.length_cons]
theorem asc_eq {l m : List α} (hn : (l.map nm).Nodup) (hm : Asc nm m) (h : ∀ a, a ∈ m ↔ a ∈ l) : m = ascOf nm l :=
  asc_ext hm (ascOf_asc hn) fun a => by rw [h, ascOf_mem]
end
def Up {α : Type} (nm : α → ByteArray) (l : List α) : Prop := l.Pairwise fun a b => bl (nm b) (nm a) = false
theorem bl_gtr (a b : ByteArray) : (!(bl a b || a.toList == b.toList)) = bl b a := by
  rcases e : bl a b with _ | _
  · rcases e2 : bl b a with _ | _
    · have := bl_tri e e2; subst this; simp
    · have : (a.toList == b.toList) = false := bs_ne.2 (by rintro rfl; rw [bl_irr] at e2; cases e2)
      simp [this]
  · rw [bl_asym e]; rfl
theorem up_le {α : Type} {nm : α → ByteArray} {l : List α} (h : Up nm l) {k : Nat} (hk : k < l.length) {f : ByteArray} (h1 : bl f (nm l[k]) = false) : ∀ a ∈ l.take (k + 1), bl f (nm a) = false := by
  intro a ha
  obtain ⟨i, hi, rfl⟩ := List.getElem_of_mem ha
  rw [List.getElem_take]
  simp only [List.length_take] at hi
  by_cases e : i = k
  · subst e; exact h1
  · exact bl_ntrans h1 (List.pairwise_iff_getElem.1 h i k (by omega) hk (by omega))
theorem ins_up {α : Type} {nm : α → ByteArray} {l : List α} {f : α} {k : Nat} (h : Up nm l) (h1 : ∀ y ∈ l.drop k, bl (nm f) (nm y) = true) (h2 : ∀ a ∈ l.take k, bl (nm f) (nm a) = false) : Up nm (l.take k ++ f :: l.drop k) := by
  unfold Up at *
  rw [← List.take_append_drop k l, List.pairwise_append] at h
  obtain ⟨a1, a2, a3⟩ := h
  refine List.pairwise_append.2 ⟨a1, List.pairwise_cons.2 ⟨fun y hy => bl_asym (h1 y hy), a2⟩, fun a ha b hb => ?_⟩
  rcases List.mem_cons.1 hb with rfl | hb
  · exact h2 a ha
  · exact a3 a ha b hb
theorem ins_perm {α : Type} {l : List α} {f : α} {k : Nat} : (l.take k ++ f :: l.drop k).Perm (l ++ [f]) := by
  refine (List.perm_middle).trans ?_
  rw [List.take_append_drop]
  exact (List.perm_append_singleton f l).symm
theorem set_ins {α : Type} {l : List α} {x y : α} {k : Nat} (hk : k ≤ l.length) : (l.take k ++ x :: l.drop k).set k y = l.take k ++ y :: l.drop k := by
  have : (l.take k).length = k := by simp; omega
  rw [List.set_append_right _ _ (by omega), this, Nat.sub_self, List.set_cons_zero]
theorem ins_dn {α : Type} {l : List α} {k : Nat} (hk : k < l.length) : l.take (k + 1) ++ l[k] :: l.drop (k + 1) = l.take k ++ l[k] :: l.drop k := by
  rw [List.take_succ_eq_append_getElem hk, List.append_assoc, List.singleton_append, List.drop_eq_getElem_cons hk]
theorem ins_at {α : Type} {l : List α} {x : α} {k : Nat} (hk : k < l.length) (h : k < (l.take (k + 1) ++ x :: l.drop (k + 1)).length) : (l.take (k + 1) ++ x :: l.drop (k + 1))[k] = l[k] := by
  rw [List.getElem_append_left (by simp; omega), List.getElem_take]
theorem ins_len {α : Type} {l : List α} {x : α} {k : Nat} (hk : k ≤ l.length) : (l.take k ++ x :: l.drop k).length = l.length + 1 := by simp; omega
end Go.AM
set_option linter.unusedVariables false
set_option linter.unusedSimpArgs false
namespace Go.Proofs
open Go.Shelf
shelf_lay_g SlLaysF0.n6 Slsf 6 at Tryz 167 as Tryz.sortFing
end Go.Proofs
namespace Go.AM
open Go.Proofs Go.Shelf Go.Sort Go.RowKit
theorem flat_get {α : Type} [Inhabited α] {enc : α → List Value} {k : Nat} (hk : ∀ x, (enc x).length = k) : ∀ (l : List α) (t : Nat), t < l.length * k → (l.flatMap enc)[t]? = (enc l[t / k]!)[t % k]?
  | [], t, h => by simp at h
  | x :: l, t, h => by
    rw [List.flatMap_cons]
    by_cases ht : t < k
    · rw [List.getElem?_append_left (by rw [hk]; exact ht), Nat.div_eq_of_lt ht, Nat.mod_eq_of_lt ht]
      rfl
    · have k0 : 0 < k := by
        rcases Nat.eq_zero_or_pos k with h0 | h0
        · subst h0; simp at h
        · exact h0
      obtain ⟨u, rfl⟩ : ∃ u, t = u + k := ⟨t - k, by omega⟩
      rw [List.getElem?_append_right (by rw [hk]; omega), hk, Nat.add_sub_cancel, Nat.add_mod_right, Nat.add_div_right u k0, flat_get hk l u (by
        rw [List.length_cons, Nat.add_mul, Nat.one_mul] at h; omega)]
      rfl
theorem flat_len {α : Type} {enc : α → List Value} {k : Nat} (hk : ∀ x, (enc x).length = k) (l : List α) : (l.flatMap enc).length = l.length * k := by
  induction l with
  | nil => simp
  | cons x l ih => rw [List.flatMap_cons, List.length_append, ih, hk, List.length_cons, Nat.add_mul, Nat.one_mul, Nat.add_comm]
theorem flat_eq {α : Type} [Inhabited α] {enc : α → List Value} {k : Nat} (hk : ∀ x, (enc x).length = k) (l : List α) : flatK enc k l.toArray = (l.flatMap enc).toArray := by
  apply Array.ext_getElem?
  intro t
  by_cases h : t < l.length * k
  · have k0 : 0 < k := by
      rcases Nat.eq_zero_or_pos k with h0 | h0
      · subst h0; simp at h
      · exact h0
    have hm : t % k < (enc l[t / k]!).length := by rw [hk]; exact Nat.mod_lt _ k0
    have h2 := flat_get hk l t h
    rw [List.getElem?_eq_getElem hm] at h2
    have hs : t < (flatK enc k l.toArray).size := by simpa using h
    have h3 := get_flatK enc k l.toArray t (by simpa using h)
    rw [getElem!_pos _ t hs] at h3
    rw [Array.getElem?_eq_getElem hs, h3, List.getElem?_toArray, h2]
    rw [getElem!_pos _ _ (by simpa using hm)]
    simp
  · rw [Array.getElem?_eq_none (by simpa using h), Array.getElem?_eq_none (by simpa [flat_len hk] using h)]
theorem holdsV {w : World} {g h : Nat} {cur : Array Value} {e : Nat} {l : List Value} (hg : w.heap[g]? = some (.cells cur e (0, 0))) (hat : At w g h l) : Holds id w g h l.toArray := by
  intro j hj
  have hj' : j < l.length := by simpa using hj
  refine ⟨?_, ?_⟩
  · rw [hat j l[j] (by simp [hj'])]
    simp [hj']
  · simp [World.frozen?, hg]
theorem put_extV {w : World} {g h n : Nat} {cur : Array Value} {e : Nat} {l m : List Value} {os : Array Obj} (hg : w.heap[g]? = some (.cells cur e (0, 0))) (hat : At w g h l) (hm : m.length = l.length) :
    let w' := grow (putRow id (Sort.ahead w n) g h m.toArray) os
    Ext w w' [g] ∧ w'.heap[g]? = some (.cells (putCells id h m.toArray cur) e (0, 0)) ∧ (putCells id h m.toArray cur).size = cur.size ∧ At w' g h m ∧ w.heap.size ≤ w'.heap.size := by
  intro w'
  have hlt : g < w.heap.size := by
    rcases Nat.lt_or_ge g w.heap.size with h | h
    · exact h
    · rw [Array.getElem?_eq_none h] at hg; cases hg
  have hb : ∀ b, b < w.heap.size → w'.heap[b]? = (w.heap.modify g (onCells (putCells id h m.toArray)))[b]? := by
    intro b hb
    simp only [w', grow, putRow, mapBlock, Sort.ahead]
    rw [Array.getElem?_append_left (by simpa using hb)]
  have hsz : w.heap.size ≤ w'.heap.size := by simp [w', grow, putRow, mapBlock, Sort.ahead]
  have hg' : w'.heap[g]? = some (.cells (putCells id h m.toArray cur) e (0, 0)) := by
    rw [hb g hlt, Array.getElem?_modify, if_pos rfl, hg]
    rfl
  refine ⟨⟨rfl, rfl, rfl, hsz, ?_⟩, hg', by simp [putCells], ?_, hsz⟩
  · intro b hb' hn
    rw [hb b hb', Array.getElem?_modify, if_neg (by intro e; exact hn (by simp [e]))]
  · intro j u hj
    have hj' : j < m.length := by
      rcases Nat.lt_or_ge j m.length with h | h
      · exact h
      · simp [h] at hj
    have hc := hat j (l[j]'(by omega)) (by simp [show j < l.length by omega])
    simp only [World.cell?, hg] at hc
    simp only [World.cell?, hg', putCells, Array.getElem?_mapIdx]
    have hc' : cur[h + j]? = some (l[j]'(by omega)) := by simpa using hc
    have hu : u = m[j] := by simpa [hj'] using hj.symm
    subst hu
    simp [hc', hj']
structure EncAs {α : Type} (zz : α → List AV) (enc : α → List Value) (k : Nat) : Prop where
  len : ∀ x, (enc x).length = k
  zlen : ∀ x, (zz x).length = k
  one : ∀ x, ∀ v ∈ enc x, v.oneCell' = true
  cells : ∀ (w : World) (Fz : Nat → Prop) x xs o, RepRow w Fz (zz x) xs o → xs = enc x ∧ o = []
  rep : ∀ (w : World) (Fz : Nat → Prop) x, RepRow w Fz (zz x) (enc x) []
theorem EncAs.rows_of {α : Type} {zz : α → List AV} {enc : α → List Value} {k : Nat} (E : EncAs zz enc k) {w : World} {Fz : Nat → Prop} : ∀ {l : List α} {xs : List Value} {o : List Nat}, RepRows w Fz k (l.map zz) xs o → xs = l.flatMap enc ∧ o = []
  | [], xs, o, h => by simp only [List.map_nil, RepRows] at h; exact h
  | s :: l, xs, o, h => by
    simp only [List.map_cons, RepRows] at h
    obtain ⟨x1, x2, o1, o2, rfl, rfl, hl, h1, h2⟩ := h
    obtain ⟨rfl, rfl⟩ := E.cells _ _ _ _ _ h1
    obtain ⟨rfl, rfl⟩ := E.rows_of h2
    exact ⟨rfl, rfl⟩
theorem EncAs.rows {α : Type} {zz : α → List AV} {enc : α → List Value} {k : Nat} (E : EncAs zz enc k) {w : World} {Fz : Nat → Prop} : ∀ (l : List α), RepRows w Fz k (l.map zz) (l.flatMap enc) []
  | [] => by simp [RepRows]
  | s :: l => by
    simp only [List.map_cons, List.flatMap_cons, RepRows]
    exact ⟨_, _, [], [], rfl, rfl, E.zlen s, E.rep _ _ s, E.rows l⟩
def cmpS (a b : ByteArray) : Int := if bl a b = true then -1 else if bl b a = true then 1 else 0
theorem lt_cmpS (a b : ByteArray) : decide (cmpS a b < 0) = bl a b := by
  unfold cmpS
  rcases bl a b with _ | _
  · rcases bl b a with _ | _ <;> rfl
  · rfl
theorem swoS {α : Type} (nm : α → ByteArray) : SWO (ltOf fun x y : α => cmpS (nm x) (nm y)) where
  irrefl x := by unfold ltOf; rw [lt_cmpS, bl_irr]
  trans x y z h1 h2 := by unfold ltOf at *; rw [lt_cmpS] at *; exact bl_trans h1 h2
  ntrans x y z h1 h2 := by unfold ltOf at *; rw [lt_cmpS] at *; exact bl_ntrans h1 h2
theorem sort_does {P : Program} {f g : FuncId} {e k : Nat} {α : Type} [Inhabited α] {zz : α → List AV} {enc : α → List Value} {nm : α → ByteArray} (E : EncAs zz enc k) (k0 : 0 < k) (hf : fnOk P f = true)
    (hnone : ∀ w, Calls P f #[.slice none 0 0, .func (.func g) #[] #[]] w fun e w' => e = .returned (.tuple #[]) ∧ w' = w)
    (hsome : ∀ (blk off cap : Nat) (d : Array α) (w : World), HoldsK enc k w blk off d → blk < w.heap.size → d.size < 4611686018427387904 →
      Calls P f #[.slice (some ⟨blk, off, none⟩) d.size cap, .func (.func g) #[] #[]] w fun e w' => e = .returned (.tuple #[]) ∧ ∃ d' n os, PermIn 0 d.size d d' ∧ SortedIn (ltOf fun x y => cmpS (nm x) (nm y)) 0 d.size d' ∧ w' = sortWorldK enc k w blk off n d' os)
    (l : List α) (hn : (l.map nm).Nodup) (hl : (l.length : Int) ≤ 1048576) : Does P f [.usl e k (l.map zz), .clo g []] false (.tup []) [.usl e k ((ascOf nm l).map zz), .dead] := by
  refine ⟨hf, ?_⟩
  intro w Fz xs os hrep hos hfz hlt
  simp only [RepVs, RepV, RepC] at hrep
  obtain ⟨x, xs', o1, o2, rfl, rfl, hx, x2, xs2, o3, o4, rfl, rfl, ⟨xs3, rfl, rfl, rfl⟩, rfl, rfl⟩ := hrep
  simp only [List.append_nil] at *
  rcases hx with ⟨rfl, h0, rfl⟩ | ⟨gb, h, c, cur, ys, o', rfl, rfl, hg, hc, hsz, hrows, hat⟩
  · have hl0 : l = [] := by simpa using h0
    subst hl0
    refine (hnone w).mono ?_
    rintro e w' ⟨rfl, rfl⟩
    refine ⟨_, [], [], rfl, Ext.refl _ _, by simp [RepV, RepVs], ?_, by simp, by simp⟩
    simp only [RepVs, RepV, RepC]
    exact ⟨_, _, [], [], rfl, rfl, .inl ⟨rfl, by simp [ascOf], rfl⟩, _, _, [], [], rfl, rfl, rfl, rfl, rfl⟩
  · obtain ⟨rfl, rfl⟩ := E.rows_of hrows
    simp only [List.length_map] at *
    have hH : HoldsK enc k w gb (h * k) l.toArray := by unfold HoldsK; rw [flat_eq E.len]; exact holdsV hg hat
    have hgs : gb < w.heap.size := (hfz gb (by simp)).2
    have key := hsome gb (h * k) c l.toArray w hH hgs (by simp; omega)
    simp only [List.size_toArray] at key
    refine key.mono ?_
    rintro e' w' ⟨rfl, d', n, ob, hp, hs, hw⟩
    have hd : d'.size = l.length := by simpa using hp.1
    have hperm : d'.toList.Perm l := by
      have := hp.2.2
      have e1 : d'.extract 0 l.length = d' := by rw [← hd]; simp
      rw [e1] at this
      simpa using this
    have hnd : (d'.toList.map nm).Nodup := (hperm.map nm).nodup_iff.2 hn
    have hpw : d'.toList.Pairwise fun a b => bl (nm b) (nm a) = false := by
      rw [List.pairwise_iff_getElem]
      intro i j hi hj hij
      have hj' : j < d'.size := by simpa using hj
      have := hs i j (Nat.zero_le _) hij (by omega)
      unfold ltOf at this
      rw [lt_cmpS, getElem!_pos d' i (by omega), getElem!_pos d' j hj'] at this
      simpa using this
    have hd' : d' = (ascOf nm l).toArray := by
      apply Array.ext'
      exact asc_eq hn (asc_of hpw hnd) fun a => hperm.mem_iff
    have hlen : ((ascOf nm l).flatMap enc).length = (l.flatMap enc).length := by rw [flat_len E.len, flat_len E.len, ascOf_len]
    obtain ⟨hE, hg', hs', hat', hle⟩ := put_extV (n := n) (os := ob) (m := (ascOf nm l).flatMap enc) hg hat hlen
    have hw2 : grow (putRow id (Sort.ahead w n) gb (h * k) ((ascOf nm l).flatMap enc).toArray) ob = w' := by
      rw [hw, hd', sortWorldK, putRowK, flat_eq E.len]
    rw [hw2] at hE hg' hat' hle
    refine ⟨_, [], [gb], rfl, hE, by simp [RepV, RepVs], ?_, by simp, ?_⟩
    · simp only [RepVs, RepV, RepC]
      refine ⟨_, _, [gb], [], rfl, rfl, .inr ⟨gb, h, c, _, _, [], ?_, rfl, hg', ?_, ?_, E.rows _, ?_⟩, _, _, [], [], rfl, rfl, rfl, rfl, rfl⟩
      · simp [ascOf_len]
      · simpa [ascOf_len] using hc
      · simpa [hs'] using hsz
      · exact hat'
    · intro b hb
      simp only [List.nil_append, List.mem_singleton] at hb
      subst hb
      exact ⟨.inl (by simp), by omega⟩
def encFing (f : Fing) : List Value := [.string f.name, .int .i64 f.mark, .int .i64 f.sum]
theorem encAsFing : EncAs Fing.z encFing 3 where
  len _ := rfl
  zlen _ := rfl
  one x v hv := by simp [encFing] at hv; rcases hv with rfl | rfl | rfl <;> rfl
  cells w Fz x xs o h := by
    simp only [Fing.z, RepRow, RepC] at h
    obtain ⟨_, _, _, _, rfl, rfl, ⟨rfl, _, rfl⟩, _, _, _, _, rfl, rfl, ⟨rfl, _, rfl⟩, _, _, _, _, rfl, rfl, ⟨rfl, _, rfl⟩, rfl, rfl⟩ := h
    exact ⟨rfl, rfl⟩
  rep w Fz x := by
    simp only [Fing.z, encFing, RepRow, RepC]
    exact ⟨_, _, [], [], rfl, rfl, ⟨rfl, rfl, rfl⟩, _, _, [], [], rfl, rfl, ⟨rfl, rfl, rfl⟩, _, _, [], [], rfl, rfl, ⟨rfl, rfl, rfl⟩, rfl, rfl⟩
instance : Inhabited Fing := ⟨⟨default, 0, 0⟩⟩
end Go.AM
namespace Go.Proofs
open Go.AM Go.Sort Go.RowKit
theorem Tryz.nan_string (x : ByteArray) (w : World) : Calls Tryz.prog 219 #[.string x] w fun e w' => e = .returned (.bool false) ∧ w' = w := by
  go_enter Tryz.func219, Tryz.ntmps219
  go_wp2
  go_ret
  exact ⟨by simp, rfl⟩
theorem Tryz.compare_string (x y : ByteArray) (w : World) : Calls Tryz.prog 169 #[.string x, .string y] w fun e w' => e = .returned (.int .i64 (cmpS x y)) ∧ w' = w := by
  have hb : Op.bytesLess x.toList y.toList = bl x y := rfl
  have hb2 : (!(bl x y || x.toList == y.toList)) = bl y x := by
    rcases e : bl x y with _ | _
    · rcases e2 : bl y x with _ | _
      · have := bl_tri e e2; subst this; simp
      · have : (x.toList == y.toList) = false := bs_ne.2 (by rintro rfl; rw [bl_irr] at e2; cases e2)
        simp [this]
    · rw [bl_asym e]; rfl
  go_enter Tryz.func169, Tryz.ntmps169
  go_wp2_with (go_at_call 219; refine (Tryz.nan_string _ _).mono ?_; rintro e w' ⟨rfl, rfl⟩)
  all_goals
    go_ret
    refine ⟨?_, rfl⟩
    unfold cmpS
    simp_all
theorem Tryz.fing_cmp (x y : Fing) (W : World) : Calls Tryz.prog 168 #[.agg #[.string x.name, .int .i64 x.mark, .int .i64 x.sum], .agg #[.string y.name, .int .i64 y.mark, .int .i64 y.sum]] W fun e w' => e = .returned (.int .i64 (cmpS x.name y.name)) ∧ ∃ q os', w' = grow (W.drewN q) os' := by
  have hcon := fun W' => Tryz.compare_string x.name y.name W'
  generalize cmpS x.name y.name = r at hcon ⊢
  go_enter Tryz.func168, Tryz.ntmps168
  go_wp2_with (go_at_call 169; refine (hcon _).mono ?_; rintro e w' ⟨rfl, rfl⟩)
  go_ret
  exact ⟨rfl, 0, _, by rw [alloc_eq_grow, alloc_eq_grow, grow_grow]; rfl⟩
end Go.Proofs
namespace Go.AM
open Go.Proofs Go.Shelf Go.Sort Go.RowKit
theorem d167 (l : List Fing) (hn : (l.map Fing.name).Nodup) (hl : (l.length : Int) ≤ 1048576) :
    Does Go.Proofs.Tryz.prog 167 [.usl 131 3 (l.map Fing.z), .clo 168 []] false (.tup []) [.usl 131 3 ((ascOf Fing.name l).map Fing.z), .dead] := by
  refine sort_does encAsFing (by decide) (by decide +kernel) ?_ ?_ l hn hl
  · intro w
    exact Go.Proofs.AnyF.slices_SortFunc_none Go.Proofs.Tryz.sortFing none 0 _ w
  · intro blk off cap d w hH hb hd
    have eg : ∀ args w, (callFunc 168 args).run Go.Proofs.Tryz.prog w = .ok (.enter 168 args) w := Go.Proofs.enters_of Go.Proofs.Tryz.func168 (by kernel_rfl) rfl
    exact Go.Proofs.AnyQ.slices_SortFunc Go.Proofs.Tryz.sortFing 3 Go.Proofs.Tryz.isAgg131 Go.Proofs.Tryz.sizeOf131 encFing encAsFing.len encAsFing.one (fun x y => cmpS x.name y.name) (swoS Fing.name) 168 #[] blk off cap d w eg (fun _ _ _ _ x y => Go.Proofs.Tryz.fing_cmp x y _) hH hb hd
end Go.AM
namespace Go.AM
set_option linter.unusedVariables false
set_option linter.unusedSimpArgs false
def ownN (ts : List Int) (t : Int) : Int := if decide (0 ≤ t) = true then getS ts t else 5
def parN (ts : List Int) (p : Par) : List Int := [textN p.name, if p.byvar = true then 1 else 0, getS ts p.typ]
def parsN (ts : List Int) (ps : List Par) : List Int := ps.flatMap (parN ts)
def objN (ts : List Int) (o : Ob) : Int := mixL ([textN o.name, o.kind, o.mark, o.value, ownN ts o.typ] ++ parsN ts o.params)
theorem parsN_take {ts : List Int} {ps : List Par} {i : Nat} (h : i < ps.length) : parsN ts (ps.take (i + 1)) = parsN ts (ps.take i) ++ parN ts ps[i] := by
  unfold parsN; rw [List.take_succ_eq_append_getElem h, List.flatMap_append, List.flatMap_singleton]
theorem parsN_len (ts : List Int) : ∀ ps : List Par, (parsN ts ps).length = 3 * ps.length
  | [] => rfl
  | p :: ps => by
    have := parsN_len ts ps
    simp only [parsN, List.flatMap_cons, List.length_append, List.length_cons] at this ⊢
    rw [this]; simp [parN]; omega
noncomputable def ftS (s : Scope) : List Int := rnd s.types 25
def shown (o : Ob) : Bool := decide (0 < o.mark)
def fgO (ts : List Int) (o : Ob) : Fing := ⟨o.name, o.mark, objN ts o⟩
def fgU (ts : List Int) (os : List Ob) : List Fing := (os.filter shown).map (fgO ts)
noncomputable def fgL (s : Scope) : List Fing := ascOf Fing.name (fgU (ftS s) s.objects)
theorem fgU_take {ts : List Int} {os : List Ob} {i : Nat} (h : i < os.length) : fgU ts (os.take (i + 1)) = if shown os[i] = true then fgU ts (os.take i) ++ [fgO ts os[i]] else fgU ts (os.take i) := by
  unfold fgU; rw [List.take_succ_eq_append_getElem h, List.filter_append, List.map_append]
  rcases e : shown os[i] with _ | _ <;> simp [e]
theorem fgU_len (ts : List Int) (os : List Ob) : (fgU ts os).length ≤ os.length := by
  unfold fgU; rw [List.length_map]; exact List.length_filter_le _ _
theorem fgU_nodup {ts : List Int} {os : List Ob} (h : (os.map Ob.name).Nodup) : ((fgU ts os).map Fing.name).Nodup := by
  unfold fgU; rw [List.map_map]
  show ((os.filter shown).map Ob.name).Nodup
  exact (List.filter_sublist.map Ob.name).nodup h
def m166 : MC :=
 (.seq (.reg [Xb 2 (.box 52 (.t 0)), Xb 4 (.asg (.i 0))]) (.seq (.reg [Xb 5 (.asg (.i 5))]) (.join [1, 2, 5] (.seq (.reg [Xf 10 3 2, Xl 11 1 10, Xq 12 (.bin false .geq (.t 11) (.i 0))]) (.cond (.t 12) (.reg [Xm 13 1, Xf 14 3 2, Xl 15 1 14, Xi 16 1 13 15, Xl 17 1 16, Xa 5 17]) .skip)) (.seq (.mix [2] [1, 5, 6, 28, 49] [2] [] [0, 1, 3, 4, 5, 6, 7, 8] [9, 2, 10, 11] [Xf 18 0 2, Xl 19 1 18, Xf 21 1 2,
 Xl 22 1 21, Xf 23 2 2, Xl 24 1 23, Xf 25 4 2, Xl 26 1 25] [Xm 27 5, Xb 20 (.call (.fn 107) false [.lend (.t 19)]), Xb 28 (.bsl 3 1 [.t 20, .t 22, .t 24, .t 26, .t 27]), Xa 6 28]) (.seq (.seq (.reg [Xf 29 5 2, Xl 30 1 29, Xn 31 30, Xq 32 (.mov (.i 0))]) (.block 0 (.loop [1, 2, 6, 28, 29, 30, 31, 32, 49] (.seq (.reg [Xq 33 (.bin false .lss (.t 32) (.t 31))]) (.seq (.cond (.t 33) .skip (.exit 0))
 (.join [1, 2, 6, 28, 29, 30, 31, 32, 49] (.block 1 (.seq (.reg [Xi 34 3 30 32, XL 35 3 34, Xb 8 (.alloc 54 [.z, .b, .i]), Xz (.store 3 (.t 8) (.t 35))]) (.seq (.reg [Xb 9 (.asg (.i 0))]) (.join [1, 2, 6, 8, 9, 28, 29, 30, 31, 32, 49] (.seq (.reg [Xf 36 1 8, Xl 37 1 36]) (.cond (.t 37) (.reg [Xb 9 (.asg (.i 1))]) .skip)) (.mix [1, 8] [1, 2, 6, 9, 28, 29, 30, 31, 32, 49] [] [1] [1, 2, 5, 6, 7, 8, 9]
 [0, 4, 3, 10, 11, 12] [Xf 39 0 8, Xl 40 1 39, Xm 43 1, Xf 44 2 8, Xl 45 1 44, Xi 46 1 43 45, Xl 47 1 46] [Xm 38 6, Xm 42 9, Xb 41 (.call (.fn 107) false [.lend (.t 40)]), Xb 48 (.bsl 3 1 [.t 41, .t 42, .t 47]), Xb 49 (.app true 3 1 8 (.t 38) (.t 48)), Xa 6 49]))))) (.reg [Xq 50 (.bin false .add (.t 32) (.i 1)), Xm 32 50]))))))) (.seq (.reg [Xm 51 6, Xb 52 (.call (.fn 109) false [.lend (.t 51)]),
 Xa 4 52]) .ret))))))
set_option maxHeartbeats 4000000 in
set_option maxRecDepth 100000 in
theorem d166 (o : Ob) (ts : List Int) (hs : o.sm) (ht : o.typ < (ts.length : Int)) (hl : ts.length ≤ 24) (hp : o.params.length ≤ 4) (hpt : ∀ p ∈ o.params, 0 ≤ p.typ ∧ p.typ < (ts.length : Int)) :
    Does Go.Proofs.Tryz.prog 166 [.agg o.z, .fsl 1 (ts.map iv)] false (.v (.int .i64 (objN ts o))) [.dead, .dead] := by
  have hn := hs.1
  have hpn := hs.2.2.2.2.2
  refine does_intro (mc := m166) (N := 53) (rs := [4]) (fx := []) 2 rfl (by decide +kernel) ?_
  simp only [m166, Ob.z, EV, Nat.reduceEqDiff, Nat.reduceBEq, Nat.reduceLT, Nat.reduceLeDiff, Nat.reduceAdd, Nat.reduceSub, reduceIte]
  refine awp_join (fun _ : Unit => True) (fun _ => stl [(1, .fsl 1 (ts.map iv)), (2, .box 52 o.z), (5, .v (.int .i64 (ownN ts o.typ)))]) ?_ ?_
  · simp only [Ob.z, EV, Nat.reduceEqDiff, Nat.reduceBEq, Nat.reduceLT, Nat.reduceLeDiff, Nat.reduceAdd, Nat.reduceSub, reduceIte]
    rcases eb : decide (0 ≤ o.typ) with _ | _
    · simp only [EV, Nat.reduceEqDiff, Nat.reduceBEq, Nat.reduceLT, Nat.reduceLeDiff, Nat.reduceAdd, Nat.reduceSub, reduceIte]
      refine ⟨(), ?_⟩
      simp only [ownN, eb, if_false, Bool.false_eq_true]
    · have b0 : 0 ≤ o.typ := by simpa using eb
      have b2 : o.typ.toNat < ts.length := by omega
      have e1 := getS_nat b2
      simp only [b0, ht, b2, nth_map b2, e1, iv, EV, Nat.reduceEqDiff, Nat.reduceBEq, Nat.reduceLT, Nat.reduceLeDiff, Nat.reduceAdd, Nat.reduceSub, reduceIte]
      refine ⟨(), ?_⟩
      simp only [ownN, eb, if_true]
  rintro _ _
  simp only [Ob.z, EV, Nat.reduceEqDiff, Nat.reduceBEq, Nat.reduceLT, Nat.reduceLeDiff, Nat.reduceAdd, Nat.reduceSub, reduceIte]
  refine callK_i (d107 o.name hn) ?_
  simp only [Ob.z, EV, Nat.reduceEqDiff, Nat.reduceBEq, Nat.reduceLT, Nat.reduceLeDiff, Nat.reduceAdd, Nat.reduceSub, reduceIte]
  refine awp_loop (fun i : Nat => i ≤ o.params.length) (fun i => stl [(1, .fsl 1 (ts.map iv)), (2, .box 52 o.z), (6, .usl 3 1 (([textN o.name, o.kind, o.mark, o.value, ownN ts o.typ] ++ parsN ts (o.params.take i)).map iv)), (28, .dead), (29, .ref 2 [] 0 5), (30, .fsl 3 (o.params.map Par.z)), (31, .v (.int .i64 (o.params.length : Int))), (32, .v (.int .i64 (i : Int))), (49, .dead)]) (fun i => o.params.length - i) 0 (Nat.zero_le _) ?_ ?_
  · simp only [List.take_zero, parsN, List.flatMap_nil, List.append_nil, Ob.z, EV, Nat.reduceEqDiff, Nat.reduceBEq, Nat.reduceLT, Nat.reduceLeDiff, Nat.reduceAdd, Nat.reduceSub, reduceIte]
    rfl
  intro i hi
  have hln := parsN_len ts (o.params.take i)
  rw [List.length_take] at hln
  simp only [Ob.z, EV, Nat.reduceEqDiff, Nat.reduceBEq, Nat.reduceLT, Nat.reduceLeDiff, Nat.reduceAdd, Nat.reduceSub, reduceIte]
  refine cK_cut (fun h => ?_) (fun h => ?_)
  · have i1 : i < o.params.length := by simpa using h
    have i2 : (i : Int) < (o.params.length : Int) := by omega
    obtain ⟨t0, t1⟩ := hpt _ (List.getElem_mem i1)
    have t2 : o.params[i].typ.toNat < ts.length := by omega
    have et := getS_nat t2
    have hpnm := (hpn.2 _ (List.getElem_mem i1)).1
    clear h
    have wi := w64 ((i : Int) + 1) (by omega)
    refine awp_join (fun _ : Unit => True) (fun _ => stl [(1, .fsl 1 (ts.map iv)), (2, .box 52 o.z), (6, .usl 3 1 (([textN o.name, o.kind, o.mark, o.value, ownN ts o.typ] ++ parsN ts (o.params.take (i + 1))).map iv)), (28, .dead), (29, .ref 2 [] 0 5), (30, .fsl 3 (o.params.map Par.z)), (31, .v (.int .i64 (o.params.length : Int))), (32, .v (.int .i64 (i : Int))), (49, .dead)]) ?_ ?_
    · simp only [ParE, i1, i2, nth_map i1, Ob.z, EV, Nat.reduceEqDiff, Nat.reduceBEq, Nat.reduceLT, Nat.reduceLeDiff, Nat.reduceAdd, Nat.reduceSub, reduceIte]
      refine awp_join (fun _ : Unit => True) (fun _ => stl [(1, .fsl 1 (ts.map iv)), (2, .box 52 o.z), (6, .usl 3 1 (([textN o.name, o.kind, o.mark, o.value, ownN ts o.typ] ++ parsN ts (o.params.take i)).map iv)), (8, .box 54 o.params[i].z), (9, .v (.int .i64 (if o.params[i].byvar = true then 1 else 0))), (28, .dead), (29, .ref 2 [] 0 5), (30, .fsl 3 (o.params.map Par.z)), (31, .v (.int .i64 (o.params.length : Int))), (32, .v (.int .i64 (i : Int))), (49, .dead)]) ?_ ?_
      · simp only [Par.z, Ob.z, EV, Nat.reduceEqDiff, Nat.reduceBEq, Nat.reduceLT, Nat.reduceLeDiff, Nat.reduceAdd, Nat.reduceSub, reduceIte]
        rcases eb : o.params[i].byvar with _ | _
        · simp only [if_false, Bool.false_eq_true, EV, Nat.reduceEqDiff, Nat.reduceBEq, Nat.reduceLT, Nat.reduceLeDiff, Nat.reduceAdd, Nat.reduceSub, reduceIte]
          exact ⟨(), trivial⟩
        · simp only [if_true, EV, Nat.reduceEqDiff, Nat.reduceBEq, Nat.reduceLT, Nat.reduceLeDiff, Nat.reduceAdd, Nat.reduceSub, reduceIte]
          exact ⟨(), trivial⟩
      rintro _ _
      simp only [t0, t1, t2, nth_map t2, et, iv, Par.z, Ob.z, EV, Nat.reduceEqDiff, Nat.reduceBEq, Nat.reduceLT, Nat.reduceLeDiff, Nat.reduceAdd, Nat.reduceSub, reduceIte]
      refine callK_i (d107 o.params[i].name hpnm) ?_
      simp only [t0, t1, t2, nth_map t2, et, iv, Par.z, Ob.z, EV, Nat.reduceEqDiff, Nat.reduceBEq, Nat.reduceLT, Nat.reduceLeDiff, Nat.reduceAdd, Nat.reduceSub, reduceIte]
      refine ⟨by first | omega | (simp; omega), by first | omega | (simp; omega), (), ?_⟩
      simp only [parsN_take i1, parN, List.map_append, List.append_assoc, iv, List.map_cons, List.map_nil, List.cons_append, List.nil_append]
    · rintro _ _
      simp only [wi, Ob.z, EV, Nat.reduceEqDiff, Nat.reduceBEq, Nat.reduceLT, Nat.reduceLeDiff, Nat.reduceAdd, Nat.reduceSub, reduceIte]
      exact ⟨i + 1, i1, by omega, rfl⟩
  · have i1 : i = o.params.length := by have : ¬ (i : Int) < o.params.length := by simpa using h
                                        omega
    subst i1
    rw [List.take_length] at hln ⊢
    clear h
    simp only [iv_frz, EV, Nat.reduceEqDiff, Nat.reduceBEq, Nat.reduceLT, Nat.reduceLeDiff, Nat.reduceAdd, Nat.reduceSub, reduceIte]
    refine callK_i (d109 ([textN o.name, o.kind, o.mark, o.value, ownN ts o.typ] ++ parsN ts o.params) (by simp; omega)) ?_
    simp only [EV, Nat.reduceEqDiff, Nat.reduceBEq, Nat.reduceLT, Nat.reduceLeDiff, Nat.reduceAdd, Nat.reduceSub, reduceIte]
    simp only [objN, EV, Nat.reduceEqDiff, Nat.reduceBEq, Nat.reduceLT, Nat.reduceLeDiff, Nat.reduceAdd, Nat.reduceSub, reduceIte, evRE, retVC, cellV', evR, nfz, nfzs, nfzss, List.contains_nil, List.contains_cons, Bool.or_false, or_true]
def m163 : MC :=
 (.seq (.reg [Xb 3 (.box 45 (.t 0)), Xb 5 (.box 52 (.t 2)), Xb 6 (.asg (.i 0))]) (.seq (.mix [5] [1, 7, 20, 51] [5] [] [0, 1, 3, 4, 5, 6, 7, 8] [2, 9, 10] [Xf 11 0 5, Xl 12 1 11, Xf 14 1 5, Xl 15 1 14, Xf 16 2 5, Xl 17 1 16, Xf 18 4 5, Xl 19 1 18] [Xb 13 (.call (.fn 104) false [.lend (.t 12)]), Xb 20 (.bsl 3 1 [.t 13, .t 15, .t 17, .t 19, .i 5]), Xa 7 20]) (.join [1, 5, 7, 20, 51] (.seq (.reg [Xf
 21 3 5, Xl 22 1 21, Xq 23 (.bin false .geq (.t 22) (.i 0))]) (.cond (.t 23) (.reg [Xm 24 7, Xm 25 1, Xf 26 3 5, Xl 27 1 26, Xi 28 1 25 27, Xl 29 1 28, Xq 30 (.iad 1 (.t 24) (.i 4)), Xz (.store 1 (.t 30) (.t 29))]) .skip)) (.seq (.seq (.reg [Xf 31 5 5, Xl 32 1 31, Xn 33 32, Xq 34 (.mov (.i 0))]) (.block 0 (.loop [1, 5, 7, 20, 31, 32, 33, 34, 51] (.seq (.reg [Xq 35 (.bin false .lss (.t 34) (.t
 33))]) (.seq (.cond (.t 35) .skip (.exit 0)) (.join [1, 5, 7, 20, 31, 32, 33, 34, 51] (.block 1 (.seq (.reg [Xi 36 3 32 34, XL 37 3 36, Xb 9 (.alloc 54 [.z, .b, .i]), Xz (.store 3 (.t 9) (.t 37))]) (.seq (.reg [Xb 10 (.asg (.i 0))]) (.join [1, 5, 7, 9, 10, 20, 31, 32, 33, 34, 51] (.seq (.reg [Xf 38 1 9, Xl 39 1 38]) (.cond (.t 39) (.reg [Xb 10 (.asg (.i 1))]) .skip)) (.mix [1, 9] [1, 5, 7, 10, 20,
 31, 32, 33, 34, 51] [] [1] [1, 2, 5, 6, 7, 8, 9] [0, 4, 3, 10, 11, 12] [Xf 41 0 9, Xl 42 1 41, Xm 45 1, Xf 46 2 9, Xl 47 1 46, Xi 48 1 45 47, Xl 49 1 48] [Xm 40 7, Xm 44 10, Xb 43 (.call (.fn 104) false [.lend (.t 42)]), Xb 50 (.bsl 3 1 [.t 43, .t 44, .t 49]), Xb 51 (.app true 3 1 8 (.t 40) (.t 50)), Xa 7 51]))))) (.reg [Xq 52 (.bin false .add (.t 34) (.i 1)), Xm 34 52]))))))) (.seq (.reg [Xm 53
 7, Xb 54 (.call (.fn 106) false [.lend (.t 53)]), Xa 6 54]) .ret)))))
set_option maxHeartbeats 4000000 in
set_option maxRecDepth 100000 in
theorem d163 (s : Scope) (o : Ob) (ts : List Int) (hs : o.sm) (ht : o.typ < (ts.length : Int)) (hl : ts.length ≤ 24) (hp : o.params.length ≤ 4) (hpt : ∀ p ∈ o.params, 0 ≤ p.typ ∧ p.typ < (ts.length : Int)) :
    Does Go.Proofs.Tryz.prog 163 [.agg s.z, .fsl 1 (ts.map iv), .agg o.z] false (.v (.int .i64 (objN ts o))) [.dead, .dead, .dead] := by
  have hn := hs.1
  have hpn := hs.2.2.2.2.2
  refine does_intro (mc := m163) (N := 55) (rs := [6]) (fx := []) 3 rfl (by decide +kernel) ?_
  simp only [m163, Scope.z, Ob.z, EV, Nat.reduceEqDiff, Nat.reduceBEq, Nat.reduceLT, Nat.reduceLeDiff, Nat.reduceAdd, Nat.reduceSub, reduceIte]
  refine callK_i (d104 o.name hn) ?_
  simp only [Ob.z, EV, Nat.reduceEqDiff, Nat.reduceBEq, Nat.reduceLT, Nat.reduceLeDiff, Nat.reduceAdd, Nat.reduceSub, reduceIte]
  refine awp_join (fun _ : Unit => True) (fun _ => stl [(1, .fsl 1 (ts.map iv)), (5, .box 52 o.z), (7, .usl 3 1 ([textN o.name, o.kind, o.mark, o.value, ownN ts o.typ].map iv)), (20, .dead), (51, .dead)]) ?_ ?_
  · simp only [Ob.z, EV, Nat.reduceEqDiff, Nat.reduceBEq, Nat.reduceLT, Nat.reduceLeDiff, Nat.reduceAdd, Nat.reduceSub, reduceIte]
    rcases eb : decide (0 ≤ o.typ) with _ | _
    · simp only [EV, Nat.reduceEqDiff, Nat.reduceBEq, Nat.reduceLT, Nat.reduceLeDiff, Nat.reduceAdd, Nat.reduceSub, reduceIte]
      refine ⟨(), ?_⟩
      simp only [ownN, eb, if_false, Bool.false_eq_true, iv, List.map_cons, List.map_nil]
    · have b0 : 0 ≤ o.typ := by simpa using eb
      have b2 : o.typ.toNat < ts.length := by omega
      have e1 := getS_nat b2
      simp only [b0, ht, b2, nth_map b2, e1, iv, EV, Nat.reduceEqDiff, Nat.reduceBEq, Nat.reduceLT, Nat.reduceLeDiff, Nat.reduceAdd, Nat.reduceSub, reduceIte]
      refine ⟨by decide, by decide, by decide, (), ?_⟩
      simp only [ownN, eb, if_true, iv, List.map_cons, List.map_nil]
      rfl
  rintro _ _
  simp only [Ob.z, EV, Nat.reduceEqDiff, Nat.reduceBEq, Nat.reduceLT, Nat.reduceLeDiff, Nat.reduceAdd, Nat.reduceSub, reduceIte]
  refine awp_loop (fun i : Nat => i ≤ o.params.length) (fun i => stl [(1, .fsl 1 (ts.map iv)), (5, .box 52 o.z), (7, .usl 3 1 (([textN o.name, o.kind, o.mark, o.value, ownN ts o.typ] ++ parsN ts (o.params.take i)).map iv)), (20, .dead), (31, .ref 5 [] 0 5), (32, .fsl 3 (o.params.map Par.z)), (33, .v (.int .i64 (o.params.length : Int))), (34, .v (.int .i64 (i : Int))), (51, .dead)]) (fun i => o.params.length - i) 0 (Nat.zero_le _) ?_ ?_
  · simp only [List.take_zero, parsN, List.flatMap_nil, List.append_nil, Ob.z, EV, Nat.reduceEqDiff, Nat.reduceBEq, Nat.reduceLT, Nat.reduceLeDiff, Nat.reduceAdd, Nat.reduceSub, reduceIte]
    rfl
  intro i hi
  have hln := parsN_len ts (o.params.take i)
  rw [List.length_take] at hln
  simp only [Ob.z, EV, Nat.reduceEqDiff, Nat.reduceBEq, Nat.reduceLT, Nat.reduceLeDiff, Nat.reduceAdd, Nat.reduceSub, reduceIte]
  refine cK_cut (fun h => ?_) (fun h => ?_)
  · have i1 : i < o.params.length := by simpa using h
    have i2 : (i : Int) < (o.params.length : Int) := by omega
    obtain ⟨t0, t1⟩ := hpt _ (List.getElem_mem i1)
    have t2 : o.params[i].typ.toNat < ts.length := by omega
    have et := getS_nat t2
    have hpnm := (hpn.2 _ (List.getElem_mem i1)).1
    clear h
    have wi := w64 ((i : Int) + 1) (by omega)
    refine awp_join (fun _ : Unit => True) (fun _ => stl [(1, .fsl 1 (ts.map iv)), (5, .box 52 o.z), (7, .usl 3 1 (([textN o.name, o.kind, o.mark, o.value, ownN ts o.typ] ++ parsN ts (o.params.take (i + 1))).map iv)), (20, .dead), (31, .ref 5 [] 0 5), (32, .fsl 3 (o.params.map Par.z)), (33, .v (.int .i64 (o.params.length : Int))), (34, .v (.int .i64 (i : Int))), (51, .dead)]) ?_ ?_
    · simp only [ParE, i1, i2, nth_map i1, Ob.z, EV, Nat.reduceEqDiff, Nat.reduceBEq, Nat.reduceLT, Nat.reduceLeDiff, Nat.reduceAdd, Nat.reduceSub, reduceIte]
      refine awp_join (fun _ : Unit => True) (fun _ => stl [(1, .fsl 1 (ts.map iv)), (5, .box 52 o.z), (7, .usl 3 1 (([textN o.name, o.kind, o.mark, o.value, ownN ts o.typ] ++ parsN ts (o.params.take i)).map iv)), (9, .box 54 o.params[i].z), (10, .v (.int .i64 (if o.params[i].byvar = true then 1 else 0))), (20, .dead), (31, .ref 5 [] 0 5), (32, .fsl 3 (o.params.map Par.z)), (33, .v (.int .i64 (o.params.length : Int))), (34, .v (.int .i64 (i : Int))), (51, .dead)]) ?_ ?_
      · simp only [Par.z, Ob.z, EV, Nat.reduceEqDiff, Nat.reduceBEq, Nat.reduceLT, Nat.reduceLeDiff, Nat.reduceAdd, Nat.reduceSub, reduceIte]
        rcases eb : o.params[i].byvar with _ | _
        · simp only [if_false, Bool.false_eq_true, EV, Nat.reduceEqDiff, Nat.reduceBEq, Nat.reduceLT, Nat.reduceLeDiff, Nat.reduceAdd, Nat.reduceSub, reduceIte]
          exact ⟨(), trivial⟩
        · simp only [if_true, EV, Nat.reduceEqDiff, Nat.reduceBEq, Nat.reduceLT, Nat.reduceLeDiff, Nat.reduceAdd, Nat.reduceSub, reduceIte]
          exact ⟨(), trivial⟩
      rintro _ _
      simp only [t0, t1, t2, nth_map t2, et, iv, Par.z, Ob.z, EV, Nat.reduceEqDiff, Nat.reduceBEq, Nat.reduceLT, Nat.reduceLeDiff, Nat.reduceAdd, Nat.reduceSub, reduceIte]
      refine callK_i (d104 o.params[i].name hpnm) ?_
      simp only [t0, t1, t2, nth_map t2, et, iv, Par.z, Ob.z, EV, Nat.reduceEqDiff, Nat.reduceBEq, Nat.reduceLT, Nat.reduceLeDiff, Nat.reduceAdd, Nat.reduceSub, reduceIte]
      refine ⟨by first | omega | (simp; omega), by first | omega | (simp; omega), (), ?_⟩
      simp only [parsN_take i1, parN, List.map_append, List.append_assoc, iv, List.map_cons, List.map_nil, List.cons_append, List.nil_append]
    · rintro _ _
      simp only [wi, Ob.z, EV, Nat.reduceEqDiff, Nat.reduceBEq, Nat.reduceLT, Nat.reduceLeDiff, Nat.reduceAdd, Nat.reduceSub, reduceIte]
      exact ⟨i + 1, i1, by omega, rfl⟩
  · have i1 : i = o.params.length := by have : ¬ (i : Int) < o.params.length := by simpa using h
                                        omega
    subst i1
    rw [List.take_length] at hln ⊢
    clear h
    simp only [iv_frz, EV, Nat.reduceEqDiff, Nat.reduceBEq, Nat.reduceLT, Nat.reduceLeDiff, Nat.reduceAdd, Nat.reduceSub, reduceIte]
    refine callK_i (d106 ([textN o.name, o.kind, o.mark, o.value, ownN ts o.typ] ++ parsN ts o.params) (by simp; omega)) ?_
    simp only [EV, Nat.reduceEqDiff, Nat.reduceBEq, Nat.reduceLT, Nat.reduceLeDiff, Nat.reduceAdd, Nat.reduceSub, reduceIte]
    simp only [objN, EV, Nat.reduceEqDiff, Nat.reduceBEq, Nat.reduceLT, Nat.reduceLeDiff, Nat.reduceAdd, Nat.reduceSub, reduceIte, evRE, retVC, cellV', evR, nfz, nfzs, nfzss, List.contains_nil, List.contains_cons, Bool.or_false, or_true]
end Go.AM
namespace Go.AM
set_option linter.unusedVariables false
set_option linter.unusedSimpArgs false
theorem scOk_names {s : Scope} (h : scOk s = true) : (s.objects.map Ob.name).Nodup := by
  have u := (unl_app.1 (scOk_iff.1 h).unl2).2
  unfold List.Nodup
  rw [List.pairwise_iff_getElem]
  intro i j hi hj hij e
  have hj' : j < s.objects.length := by simpa using hj
  have := (u j (by simpa using hj)).2.2
  rw [List.any_eq_false] at this
  have hm : nmS s.objects[i] ∈ (s.objects.map nmS).take j := by
    rw [List.mem_take_iff_getElem]
    exact ⟨i, by simp; omega, by simp⟩
  have h2 := this _ hm
  simp only [List.getElem_map] at e h2
  apply h2
  simp only [eqSt, nmS, beq_iff_eq]
  rw [e]
theorem scOk_tys {s : Scope} (h : scOk s = true) : s.types.length ≤ 24 ∧ tysOk s.types = true := ⟨tabOk_len (scOk_iff.1 h).tab, tabOk_tys (scOk_iff.1 h).tab⟩
theorem scOk_mark {s : Scope} (h : scOk s = true) : ∀ o ∈ s.objects, 0 ≤ o.mark := by
  intro o ho
  obtain ⟨i, hi, rfl⟩ := List.getElem_of_mem ho
  have := (scOk_iff.1 h).obs i hi hi
  simp only [obOk, obPre, Bool.and_eq_true, decide_eq_true_eq] at this
  exact this.1.1.1.1.1
theorem scOk_obj {s : Scope} (h : scOk s = true) : ∀ o ∈ s.objects, o.typ < (s.types.length : Int) ∧ o.params.length ≤ 4 ∧ ∀ p ∈ o.params, 0 ≤ p.typ ∧ p.typ < (s.types.length : Int) := by
  intro o ho
  obtain ⟨i, hi, rfl⟩ := List.getElem_of_mem ho
  have := (scOk_iff.1 h).obs i hi hi
  have h3 := (tysOk_len (scOk_tys h).2).1
  simp only [obOk, Bool.and_eq_true] at this
  obtain ⟨q1, q2, q3⟩ := this
  refine ⟨?_, ?_, fun p hp => isNum_in.1 (pars_num q2 p hp)⟩
  · unfold obKd at q3
    split at q3
    · simp only [Bool.and_eq_true, beq_iff_eq] at q3
      rw [q3.1]; omega
    split at q3
    · simp only [Bool.and_eq_true] at q3
      exact (isNum_in.1 q3.1).2
    split at q3
    · simp only [Bool.and_eq_true, Bool.or_eq_true, beq_iff_eq] at q3
      rcases q3.1 with e | e
      · rw [e]; omega
      · exact (isNum_in.1 e).2
    · cases q3
  · simp only [obPre, Bool.and_eq_true, decide_eq_true_eq] at q1
    omega
def atF (l : List Fing) (name : ByteArray) : Option Fing := l.find? fun f => f.name.toList == name.toList
def sumA (r : Option Fing) : Int := match r with | some f => f.sum | none => 0
theorem atF_at {l : List Fing} {name : ByteArray} {i : Nat} (h : i < l.length) (h1 : (l[i].name.toList == name.toList) = true) (h2 : ∀ j (hj : j < l.length), j < i → (l[j].name.toList == name.toList) = false) : atF l name = some l[i] := by
  unfold atF
  rw [List.find?_eq_some_iff_getElem]
  exact ⟨h1, i, h, rfl, fun j hj => by rw [h2 j (by omega) hj]; rfl⟩
theorem atF_no {l : List Fing} {name : ByteArray} (h2 : ∀ j (hj : j < l.length), (l[j].name.toList == name.toList) = false) : atF l name = none := by
  unfold atF
  rw [List.find?_eq_none]
  intro x hx
  obtain ⟨j, hj, rfl⟩ := List.getElem_of_mem hx
  rw [h2 j hj]; simp
def m110 : MC :=
 (.seq (.reg [Xb 4 (.asg (.i 0)), Xb 5 (.asg .fb)]) (.seq (.seq (.reg [Xm 8 0, Xn 9 8, Xq 10 (.mov (.i 0))]) (.block 0 (.loop [0, 1, 8, 9, 10] (.seq (.reg [Xq 11 (.bin false .lss (.t 10) (.t 9))]) (.seq (.cond (.t 11) .skip (.exit 0)) (.seq (.block 1 (.seq (.reg [Xi 12 3 8 10, XL 13 3 12, Xb 7 (.alloc 131 [.z, .i, .i]), Xz (.store 3 (.t 7) (.t 13))]) (.seq (.reg [Xf 14 0 7, Xl 15 1 14, Xm 16 1, Xq
 17 (.bin false .eql (.t 15) (.t 16))]) (.cond (.t 17) (.seq (.reg [Xf 18 2 7, Xl 19 1 18, Xa 4 19, Xb 5 (.asg .tb)]) .ret) .skip)))) (.reg [Xq 20 (.bin false .add (.t 10) (.i 1)), Xm 10 20]))))))) (.seq (.reg [Xb 4 (.asg (.i 0)), Xb 5 (.asg .fb)]) .ret)))
theorem d110 (l : List Fing) (name : ByteArray) (hl : (l.length : Int) ≤ 1048576) :
    Does Go.Proofs.Tryz.prog 110 [.fsl 3 (l.map Fing.z), .v (.string name)] false (.tup [.v (.int .i64 (sumA (atF l name))), .v (.bool (atF l name).isSome)]) [.dead, .dead] := by
  refine does_intro (mc := m110) (N := 21) (rs := [4, 5]) (fx := []) 2 rfl (by decide +kernel) ?_
  simp only [m110, EV, Nat.reduceEqDiff, Nat.reduceBEq, Nat.reduceLT, Nat.reduceLeDiff, Nat.reduceAdd, Nat.reduceSub, reduceIte]
  refine awp_loop (fun i : Nat => i ≤ l.length ∧ ∀ j (h : j < l.length), j < i → (l[j].name.toList == name.toList) = false) (fun i => stl [(0, .fsl 3 (l.map Fing.z)), (1, .v (.string name)), (8, .fsl 3 (l.map Fing.z)), (9, .v (.int .i64 (l.length : Int))), (10, .v (.int .i64 (i : Int)))]) (fun i => l.length - i) 0 ⟨Nat.zero_le _, fun j hj h => absurd h (by omega)⟩ ?_ ?_
  · simp only [EV, Nat.reduceEqDiff, Nat.reduceBEq, Nat.reduceLT, Nat.reduceLeDiff, Nat.reduceAdd, Nat.reduceSub, reduceIte]
    rfl
  rintro i ⟨hi, hok⟩
  simp only [EV, Nat.reduceEqDiff, Nat.reduceBEq, Nat.reduceLT, Nat.reduceLeDiff, Nat.reduceAdd, Nat.reduceSub, reduceIte]
  refine cK_cut (fun h => ?_) (fun h => ?_)
  · have i2 : (i : Int) < (l.length : Int) := by simpa using h
    have i1 : i < l.length := by omega
    clear h
    have wi := w64 ((i : Int) + 1) (by omega)
    simp only [FingE, i1, i2, nth_map i1, Fing.z, EV, Nat.reduceEqDiff, Nat.reduceBEq, Nat.reduceLT, Nat.reduceLeDiff, Nat.reduceAdd, Nat.reduceSub, reduceIte]
    rcases e : (l[i].name.toList == name.toList) with _ | _
    · simp only [wi, EV, Nat.reduceEqDiff, Nat.reduceBEq, Nat.reduceLT, Nat.reduceLeDiff, Nat.reduceAdd, Nat.reduceSub, reduceIte]
      exact ⟨i + 1, ⟨i1, fun j hj hji => by
        by_cases ej : j = i
        · subst ej; exact e
        · exact hok j hj (by omega)⟩, by omega, rfl⟩
    · simp only [EV, Nat.reduceEqDiff, Nat.reduceBEq, Nat.reduceLT, Nat.reduceLeDiff, Nat.reduceAdd, Nat.reduceSub, reduceIte]
      simp only [atF_at i1 e hok, sumA, Option.isSome_some, EV, Nat.reduceEqDiff, Nat.reduceBEq, Nat.reduceLT, Nat.reduceLeDiff, Nat.reduceAdd, Nat.reduceSub, reduceIte, evRE, retVC, cellV', evR, nfz, nfzs, nfzss, List.contains_nil, List.contains_cons, Bool.or_false, or_true]
  · have i1 : i = l.length := by have : ¬ (i : Int) < l.length := by simpa using h
                                 omega
    subst i1
    simp only [EV, Nat.reduceEqDiff, Nat.reduceBEq, Nat.reduceLT, Nat.reduceLeDiff, Nat.reduceAdd, Nat.reduceSub, reduceIte]
    simp only [atF_no (fun j hj => hok j hj hj), sumA, Option.isSome_none, EV, Nat.reduceEqDiff, Nat.reduceBEq, Nat.reduceLT, Nat.reduceLeDiff, Nat.reduceAdd, Nat.reduceSub, reduceIte, evRE, retVC, cellV', evR, nfz, nfzs, nfzss, List.contains_nil, List.contains_cons, Bool.or_false, or_true]
theorem fgU_lenS {s : Scope} (h : scOk s = true) (os : List Ob) (ho : os.length ≤ s.objects.length) (ts : List Int) : (fgU ts os).length ≤ 16 := by
  have := fgU_len ts os
  have := (scOk_iff.1 h).few2
  omega
theorem fgL_len {s : Scope} (h : scOk s = true) : (fgL s).length ≤ 16 := by
  unfold fgL
  rw [ascOf_len]
  exact fgU_lenS h _ (Nat.le_refl _) _
def m108 : MC :=
 (.seq (.reg [Xb 2 (.asg (.nils 131 3))]) (.seq (.reg [Xb 7 (.bsl 131 3 []), Xm 8 0, Xq 9 (.nilchk (.t 8)), Xf 10 2 9, Xl 11 1 10, Xb 12 (.call (.fn 101) false [.lend (.t 11), .lend (.i 25)]), Xa 3 7, Xa 4 12]) (.seq (.seq (.reg [Xm 13 0, Xq 14 (.nilchk (.t 13)), Xf 15 3 14, Xl 16 1 15, Xn 17 16, Xq 18 (.mov (.i 0))]) (.block 0 (.loop [0, 3, 4, 7, 12, 13, 14, 15, 16, 17, 18, 35] (.seq (.reg [Xq 19
 (.bin false .lss (.t 18) (.t 17))]) (.seq (.cond (.t 19) .skip (.exit 0)) (.join [0, 3, 4, 7, 12, 13, 14, 15, 16, 17, 18, 35] (.block 1 (.seq (.reg [Xi 20 6 16 18, XL 21 6 20, Xb 6 (.alloc 52 [.z, .i, .i, .i, .i, .s 54 3]), Xz (.store 6 (.t 6) (.t 21))]) (.seq (.reg [Xf 22 2 6, Xl 23 1 22, Xq 24 (.bin false .gtr (.t 23) (.i 0))]) (.cond (.t 24) (.mix [6] [0, 3, 4, 7, 12, 13, 14, 15, 16, 17, 18,
 35] [] [] [1, 2, 3, 4, 5] [0, 6, 7, 8, 9, 10, 11] [Xf 26 0 6, Xl 27 1 26, Xf 28 2 6, Xl 29 1 28, XL 30 6 6] [Xm 25 3, Xm 31 4, Xb 32 (.call (.fn 166) false [.lend (.t 30), .lend (.t 31)]), Xb 33 (.build [0, 1, 2] [0, 1, 2] [1, 1, 1] [.z, .i, .i] [.t 27, .t 29, .t 32]), Xb 34 (.bsl 131 3 [.t 33]), Xb 35 (.app true 131 3 32 (.t 25) (.t 34)), Xa 3 35]) .skip)))) (.reg [Xq 36 (.bin false .add (.t 18)
 (.i 1)), Xm 18 36]))))))) (.seq (.reg [Xm 37 3, Xb 38 (.call (.fn 167) false [.io (.t 37), .lend (.fn 168)])]) (.seq (.reg [Xm 39 3, Xa 2 39]) .ret)))))
set_option maxHeartbeats 4000000 in
set_option maxRecDepth 100000 in
theorem d108 (s : Scope) (hs : s.sm) (hk : scOk s = true) :
    Does Go.Proofs.Tryz.prog 108 [.fptr s.z] false (.usl 131 3 ((fgL s).map Fing.z)) [.dead] := by
  obtain ⟨z1, z2, z3, z4, z5⟩ := id hs
  obtain ⟨y1, y2⟩ := scOk_tys hk
  have hob := scOk_obj hk
  have hnd : ((fgU (ftS s) s.objects).map Fing.name).Nodup := fgU_nodup (scOk_names hk)
  have hft : (ftS s).length = s.types.length := rnd_len _ _
  have hrd := d101 s.types 25 y1 z3.2 y2 (by decide) (by decide)
  have e25 : (25 : Int).toNat = 25 := rfl
  rw [e25] at hrd
  have hll := fun n => fgU_lenS hk (s.objects.take n) (by simp; omega) (ftS s)
  have hll2 := fgU_lenS hk s.objects (Nat.le_refl _) (ftS s)
  refine does_intro (mc := m108) (N := 40) (rs := [2]) (fx := []) 1 rfl (by decide +kernel) ?_
  simp only [m108, Scope.z, evP, EV, Nat.reduceEqDiff, Nat.reduceBEq, Nat.reduceLT, Nat.reduceLeDiff, Nat.reduceAdd, Nat.reduceSub, reduceIte]
  refine callK_i hrd ?_
  have hfs : rnd s.types 25 = ftS s := rfl
  rw [hfs]
  simp only [Scope.z, evP, EV, Nat.reduceEqDiff, Nat.reduceBEq, Nat.reduceLT, Nat.reduceLeDiff, Nat.reduceAdd, Nat.reduceSub, reduceIte]
  refine awp_loop (fun i : Nat => i ≤ s.objects.length) (fun i => stl [(0, .fptr s.z), (3, .usl 131 3 ((fgU (ftS s) (s.objects.take i)).map Fing.z)), (4, .usl 3 1 ((ftS s).map iv)), (7, .dead), (12, .dead), (13, .fptr s.z), (14, .fptr s.z), (15, .fptr [.fsl 6 (s.objects.map Ob.z), .fsl 2 (s.uses.map Us.z)]), (16, .fsl 6 (s.objects.map Ob.z)), (17, .v (.int .i64 (s.objects.length : Int))), (18, .v (.int .i64 (i : Int))), (35, .dead)]) (fun i => s.objects.length - i) 0 (Nat.zero_le _) ?_ ?_
  · simp only [List.take_zero, fgU, List.filter_nil, List.map_nil, Scope.z, EV, Nat.reduceEqDiff, Nat.reduceBEq, Nat.reduceLT, Nat.reduceLeDiff, Nat.reduceAdd, Nat.reduceSub, reduceIte]
    rfl
  intro i hi
  simp only [Scope.z, EV, Nat.reduceEqDiff, Nat.reduceBEq, Nat.reduceLT, Nat.reduceLeDiff, Nat.reduceAdd, Nat.reduceSub, reduceIte]
  refine cK_cut (fun h => ?_) (fun h => ?_)
  · have i2 : (i : Int) < (s.objects.length : Int) := by simpa using h
    have i1 : i < s.objects.length := by omega
    clear h
    have wi := w64 ((i : Int) + 1) (by omega)
    obtain ⟨o1, o2, o3⟩ := hob _ (List.getElem_mem i1)
    have osm := z4.2 _ (List.getElem_mem i1)
    have hu := fgU_take (ts := ftS s) i1
    have hl1 := hll i
    generalize hoe : s.objects[i] = o at o1 o2 o3 osm hu
    have hdo := d166 o (ftS s) osm (by omega) (by omega) o2 (by rw [hft]; exact o3)
    refine awp_join (fun _ : Unit => True) (fun _ => stl [(0, .fptr s.z), (3, .usl 131 3 ((fgU (ftS s) (s.objects.take (i + 1))).map Fing.z)), (4, .usl 3 1 ((ftS s).map iv)), (7, .dead), (12, .dead), (13, .fptr s.z), (14, .fptr s.z), (15, .fptr [.fsl 6 (s.objects.map Ob.z), .fsl 2 (s.uses.map Us.z)]), (16, .fsl 6 (s.objects.map Ob.z)), (17, .v (.int .i64 (s.objects.length : Int))), (18, .v (.int .i64 (i : Int))), (35, .dead)]) ?_ ?_
    · simp only [ObE, i1, i2, nth_map i1, hoe, Ob.z, Scope.z, EV, Nat.reduceEqDiff, Nat.reduceBEq, Nat.reduceLT, Nat.reduceLeDiff, Nat.reduceAdd, Nat.reduceSub, reduceIte]
      rcases e : decide (0 < o.mark) with _ | _
      · simp only [Ob.z, Scope.z, EV, Nat.reduceEqDiff, Nat.reduceBEq, Nat.reduceLT, Nat.reduceLeDiff, Nat.reduceAdd, Nat.reduceSub, reduceIte]
        refine ⟨(), ?_⟩
        rw [hu]
        simp only [shown, e, if_false, Bool.false_eq_true]
      · simp only [Ob.z] at hdo
        simp only [iv_frz, Ob.z, Scope.z, EV, Nat.reduceEqDiff, Nat.reduceBEq, Nat.reduceLT, Nat.reduceLeDiff, Nat.reduceAdd, Nat.reduceSub, reduceIte]
        refine callK_i hdo ?_
        simp only [iv_frz, Ob.z, Scope.z, EV, Nat.reduceEqDiff, Nat.reduceBEq, Nat.reduceLT, Nat.reduceLeDiff, Nat.reduceAdd, Nat.reduceSub, reduceIte]
        refine ⟨by omega, by omega, (), ?_⟩
        rw [hu]
        simp only [shown, e, if_true, fgO, List.map_append, List.map_cons, List.map_nil, Fing.z]
    · rintro _ _
      simp only [wi, Scope.z, EV, Nat.reduceEqDiff, Nat.reduceBEq, Nat.reduceLT, Nat.reduceLeDiff, Nat.reduceAdd, Nat.reduceSub, reduceIte]
      exact ⟨i + 1, i1, by omega, rfl⟩
  · have i1 : i = s.objects.length := by have : ¬ (i : Int) < s.objects.length := by simpa using h
                                         omega
    subst i1
    rw [List.take_length]
    clear h
    simp only [Scope.z, EV, Nat.reduceEqDiff, Nat.reduceBEq, Nat.reduceLT, Nat.reduceLeDiff, Nat.reduceAdd, Nat.reduceSub, reduceIte]
    refine callK2_i (d167 (fgU (ftS s) s.objects) hnd (by omega)) rfl (by simp [shapeOf, ascOf_len]) ?_
    have hfl : ascOf Fing.name (fgU (ftS s) s.objects) = fgL s := rfl
    rw [hfl]
    simp only [Scope.z, EV, Nat.reduceEqDiff, Nat.reduceBEq, Nat.reduceLT, Nat.reduceLeDiff, Nat.reduceAdd, Nat.reduceSub, reduceIte]
    simp only [Fing.nfz, EV, Nat.reduceEqDiff, Nat.reduceBEq, Nat.reduceLT, Nat.reduceLeDiff, Nat.reduceAdd, Nat.reduceSub, reduceIte, evRE, retVC, cellV', evR, nfz, nfzs, nfzss, List.contains_nil, List.contains_cons, Bool.or_false, or_true]
def m111 : MC :=
 (.seq (.reg [Xb 4 (.asg (.i 0)), Xb 5 (.asg .fb)]) (.seq (.seq (.reg [Xm 8 0, Xb 9 (.call (.fn 108) false [.lend (.t 8)]), Xn 10 9, Xq 11 (.mov (.i 0))]) (.block 0 (.loop [1, 9, 10, 11] (.seq (.reg [Xq 12 (.bin false .lss (.t 11) (.t 10))]) (.seq (.cond (.t 12) .skip (.exit 0)) (.seq (.block 1 (.seq (.reg [Xi 13 3 9 11, XL 14 3 13, Xb 7 (.alloc 131 [.z, .i, .i]), Xz (.store 3 (.t 7) (.t 14))])
 (.seq (.reg [Xf 15 0 7, Xl 16 1 15, Xm 17 1, Xq 18 (.bin false .eql (.t 16) (.t 17))]) (.cond (.t 18) (.seq (.reg [Xf 19 2 7, Xl 20 1 19, Xa 4 20, Xb 5 (.asg .tb)]) .ret) .skip)))) (.reg [Xq 21 (.bin false .add (.t 11) (.i 1)), Xm 11 21]))))))) (.seq (.reg [Xb 4 (.asg (.i 0)), Xb 5 (.asg .fb)]) .ret)))
theorem d111 (s : Scope) (name : ByteArray) (hs : s.sm) (hk : scOk s = true) :
    Does Go.Proofs.Tryz.prog 111 [.fptr s.z, .v (.string name)] false (.tup [.v (.int .i64 (sumA (atF (fgL s) name))), .v (.bool (atF (fgL s) name).isSome)]) [.dead, .dead] := by
  have hfl := fgL_len hk
  have dfi := d108 s hs hk
  simp only [Scope.z] at dfi
  refine does_intro (mc := m111) (N := 22) (rs := [4, 5]) (fx := []) 2 rfl (by decide +kernel) ?_
  simp only [m111, Scope.z, EV, Nat.reduceEqDiff, Nat.reduceBEq, Nat.reduceLT, Nat.reduceLeDiff, Nat.reduceAdd, Nat.reduceSub, reduceIte]
  refine callK_i dfi ?_
  generalize fgL s = l at hfl ⊢
  simp only [EV, Nat.reduceEqDiff, Nat.reduceBEq, Nat.reduceLT, Nat.reduceLeDiff, Nat.reduceAdd, Nat.reduceSub, reduceIte]
  refine awp_loop (fun i : Nat => i ≤ l.length ∧ ∀ j (h : j < l.length), j < i → (l[j].name.toList == name.toList) = false) (fun i => stl [(1, .v (.string name)), (9, .usl 131 3 (l.map Fing.z)), (10, .v (.int .i64 (l.length : Int))), (11, .v (.int .i64 (i : Int)))]) (fun i => l.length - i) 0 ⟨Nat.zero_le _, fun j hj h => absurd h (by omega)⟩ ?_ ?_
  · simp only [EV, Nat.reduceEqDiff, Nat.reduceBEq, Nat.reduceLT, Nat.reduceLeDiff, Nat.reduceAdd, Nat.reduceSub, reduceIte]
    rfl
  rintro i ⟨hi, hok⟩
  simp only [EV, Nat.reduceEqDiff, Nat.reduceBEq, Nat.reduceLT, Nat.reduceLeDiff, Nat.reduceAdd, Nat.reduceSub, reduceIte]
  refine cK_cut (fun h => ?_) (fun h => ?_)
  · have i2 : (i : Int) < (l.length : Int) := by simpa using h
    have i1 : i < l.length := by omega
    clear h
    have wi := w64 ((i : Int) + 1) (by omega)
    simp only [FingE, i1, i2, nth_map i1, Fing.z, EV, Nat.reduceEqDiff, Nat.reduceBEq, Nat.reduceLT, Nat.reduceLeDiff, Nat.reduceAdd, Nat.reduceSub, reduceIte]
    rcases e : (l[i].name.toList == name.toList) with _ | _
    · simp only [wi, EV, Nat.reduceEqDiff, Nat.reduceBEq, Nat.reduceLT, Nat.reduceLeDiff, Nat.reduceAdd, Nat.reduceSub, reduceIte]
      exact ⟨i + 1, ⟨i1, fun j hj hji => by
        by_cases ej : j = i
        · subst ej; exact e
        · exact hok j hj (by omega)⟩, by omega, rfl⟩
    · simp only [EV, Nat.reduceEqDiff, Nat.reduceBEq, Nat.reduceLT, Nat.reduceLeDiff, Nat.reduceAdd, Nat.reduceSub, reduceIte]
      simp only [atF_at i1 e hok, sumA, Option.isSome_some, EV, Nat.reduceEqDiff, Nat.reduceBEq, Nat.reduceLT, Nat.reduceLeDiff, Nat.reduceAdd, Nat.reduceSub, reduceIte, evRE, retVC, cellV', evR, nfz, nfzs, nfzss, List.contains_nil, List.contains_cons, Bool.or_false, or_true]
  · have i1 : i = l.length := by have : ¬ (i : Int) < l.length := by simpa using h
                                 omega
    subst i1
    simp only [EV, Nat.reduceEqDiff, Nat.reduceBEq, Nat.reduceLT, Nat.reduceLeDiff, Nat.reduceAdd, Nat.reduceSub, reduceIte]
    simp only [atF_no (fun j hj => hok j hj hj), sumA, Option.isSome_none, EV, Nat.reduceEqDiff, Nat.reduceBEq, Nat.reduceLT, Nat.reduceLeDiff, Nat.reduceAdd, Nat.reduceSub, reduceIte, evRE, retVC, cellV', evR, nfz, nfzs, nfzss, List.contains_nil, List.contains_cons, Bool.or_false, or_true]
noncomputable def fiA (s : Scope) (name : ByteArray) : Option Fing := if scOk s = true then atF (fgL s) name else none
def m41 : MC :=
 (.seq (.reg [Xb 2 (.box 45 (.t 0)), Xb 4 (.asg (.i 0)), Xb 5 (.asg .fb)]) (.seq (.seq (.reg [Xb 6 (.call (.fn 77) false [.lend (.t 2)]), Xq 7 (.un .not (.t 6))]) (.cond (.t 7) (.seq (.reg [Xb 4 (.asg (.i 0)), Xb 5 (.asg .fb)]) .ret) .skip)) (.seq (.reg [Xm 8 1, Xb 9 (.call (.fn 111) false [.lend (.t 2), .lend (.t 8)]), Xq 10 (.ext 9 0), Xq 11 (.ext 9 1), Xa 4 10, Xa 5 11]) .ret)))
set_option maxRecDepth 100000 in
theorem d41 (s : Scope) (name : ByteArray) (hs : s.sm) :
    Does Go.Proofs.Tryz.prog 41 [.agg s.z, .v (.string name)] false (.tup [.v (.int .i64 (sumA (fiA s name))), .v (.bool (fiA s name).isSome)]) [.dead, .dead] := by
  have dis := d77 s hs
  simp only [Scope.z] at dis
  refine does_intro (mc := m41) (N := 12) (rs := [4, 5]) (fx := []) 2 rfl (by decide +kernel) ?_
  simp only [m41, Scope.z, EV, Nat.reduceEqDiff, Nat.reduceBEq, Nat.reduceLT, Nat.reduceLeDiff, Nat.reduceAdd, Nat.reduceSub, reduceIte]
  refine callK_i dis ?_
  simp only [EV, Nat.reduceEqDiff, Nat.reduceBEq, Nat.reduceLT, Nat.reduceLeDiff, Nat.reduceAdd, Nat.reduceSub, reduceIte]
  rcases e : scOk s with _ | _
  · simp only [Bool.not_false, EV, Nat.reduceEqDiff, Nat.reduceBEq, Nat.reduceLT, Nat.reduceLeDiff, Nat.reduceAdd, Nat.reduceSub, reduceIte]
    simp only [fiA, e, if_false, Bool.false_eq_true, sumA, Option.isSome_none, EV, Nat.reduceEqDiff, Nat.reduceBEq, Nat.reduceLT, Nat.reduceLeDiff, Nat.reduceAdd, Nat.reduceSub, reduceIte, evRE, retVC, cellV', evR, nfz, nfzs, nfzss, List.contains_nil, List.contains_cons, Bool.or_false, or_true]
  have dfa := d111 s name hs e
  simp only [Scope.z] at dfa
  simp only [Bool.not_true, Scope.z, EV, Nat.reduceEqDiff, Nat.reduceBEq, Nat.reduceLT, Nat.reduceLeDiff, Nat.reduceAdd, Nat.reduceSub, reduceIte]
  refine callK_i dfa ?_
  simp only [EV, Nat.reduceEqDiff, Nat.reduceBEq, Nat.reduceLT, Nat.reduceLeDiff, Nat.reduceAdd, Nat.reduceSub, reduceIte]
  simp only [fiA, e, if_true, EV, Nat.reduceEqDiff, Nat.reduceBEq, Nat.reduceLT, Nat.reduceLeDiff, Nat.reduceAdd, Nat.reduceSub, reduceIte, evRE, retVC, cellV', evR, nfz, nfzs, nfzss, List.contains_nil, List.contains_cons, Bool.or_false, or_true]
def m105 : MC :=
 (.seq (.reg [Xb 1 (.box 45 (.t 0)), Xb 2 (.asg (.nils 131 3))]) (.seq (.reg [Xf 9 2 1, Xl 10 1 9, Xb 11 (.call (.fn 103) false [.lend (.t 10), .lend (.i 25)]), Xa 3 11]) (.seq (.reg [Xb 4 (.asg (.nils 131 3))]) (.seq (.seq (.reg [Xf 12 3 1, Xl 13 1 12, Xn 14 13, Xq 15 (.mov (.i 0))]) (.block 0 (.loop [1, 3, 4, 11, 13, 14, 15, 36] (.seq (.reg [Xq 16 (.bin false .lss (.t 15) (.t 14))]) (.seq (.cond
 (.t 16) .skip (.exit 0)) (.join [1, 3, 4, 11, 13, 14, 15, 36] (.block 1 (.seq (.reg [Xi 17 6 13 15, XL 18 6 17, Xb 6 (.alloc 52 [.z, .i, .i, .i, .i, .s 54 3]), Xz (.store 6 (.t 6) (.t 18))]) (.seq (.seq (.reg [Xf 19 2 6, Xl 20 1 19, Xq 21 (.bin false .eql (.t 20) (.i 0))]) (.cond (.t 21) (.exit 1) .skip)) (.join [1, 3, 4, 7, 11, 13, 14, 15, 36] (.mixt [1, 6] [3, 4, 7, 11, 13, 14, 15, 36] [1] []
 [0, 1, 2, 3, 4, 6] [Xf 22 0 6, Xl 23 1 22, Xf 24 2 6, Xl 25 1 24, XL 26 5 1, XL 28 6 6] (.step 5 (Xm 27 3) (.alt (.step 7 (Xb 29 (.call (.fn 163) false [.lend (.t 26), .lend (.t 27), .lend (.t 28)])) (.alt (.step 8 (Xb 30 (.build [0, 1, 2] [0, 1, 2] [1, 1, 1] [.z, .i, .i] [.t 23, .t 25, .t 29])) (.step 9 (Xb 7 (.alloc 131 [.z, .i, .i])) (.step 10 (Xz (.store 3 (.t 7) (.t 30))) .nil))) (.step 9 (Xb
 7 (.alloc 131 [.z, .i, .i])) (.step 8 (Xb 30 (.build [0, 1, 2] [0, 1, 2] [1, 1, 1] [.z, .i, .i] [.t 23, .t 25, .t 29])) (.step 10 (Xz (.store 3 (.t 7) (.t 30))) .nil))))) (.step 9 (Xb 7 (.alloc 131 [.z, .i, .i])) (.step 7 (Xb 29 (.call (.fn 163) false [.lend (.t 26), .lend (.t 27), .lend (.t 28)])) (.step 8 (Xb 30 (.build [0, 1, 2] [0, 1, 2] [1, 1, 1] [.z, .i, .i] [.t 23, .t 25, .t 29])) (.step 10
 (Xz (.store 3 (.t 7) (.t 30))) .nil))))))) (.seq (.reg [Xm 31 4, Xn 32 31, Xa 8 32]) (.seq (.reg [Xm 33 4, XL 34 3 7, Xb 35 (.bsl 131 3 [.t 34]), Xb 36 (.app true 131 3 32 (.t 33) (.t 35)), Xa 4 36]) (.seq (.block 2 (.loop [1, 3, 4, 7, 8, 11, 13, 14, 15, 36] (.seq (.seq (.dreg [Xm 37 8, Xq 38 (.bin false .gtr (.t 37) (.i 0)), Xm 39 38, Xt 40 39 (.mov (.t 4)), Xt 41 39 (.mov (.t 8)), Xt 42 39 (.bin
 false .sub (.t 41) (.i 1)), Xt 43 39 (.iad 3 (.t 40) (.t 42)), Xt 44 39 (.fad 0 (.t 43)), Xt 45 39 (.load false 1 (.t 44)), Xt 46 39 (.fad 0 (.t 7)), Xt 47 39 (.load false 1 (.t 46)), Xt 48 39 (.bin false .gtr (.t 45) (.t 47)), Xq 49 (.pick (.t 39) (.t 48) .fb)]) (.cond (.t 49) .skip (.exit 2))) (.block 3 (.seq (.reg [Xm 50 4, Xm 51 8, Xm 52 4, Xm 53 8, Xq 54 (.bin false .sub (.t 53) (.i 1)), Xi
 55 3 52 54, XL 56 3 55, Xi 57 3 50 51, Xz (.store 3 (.t 57) (.t 56))]) (.reg [Xm 58 8, Xq 59 (.bin false .sub (.t 58) (.i 1)), Xa 8 59])))))) (.reg [Xm 60 4, Xm 61 8, XL 62 3 7, Xi 63 3 60 61, Xz (.store 3 (.t 63) (.t 62))])))))))) (.reg [Xq 64 (.bin false .add (.t 15) (.i 1)), Xm 15 64]))))))) (.seq (.reg [Xm 65 4, Xa 2 65]) .ret)))))
set_option maxHeartbeats 4000000 in
set_option maxRecDepth 100000 in
theorem d105 (s : Scope) (hs : s.sm) (hk : scOk s = true) :
    Does Go.Proofs.Tryz.prog 105 [.agg s.z] false (.usl 131 3 ((fgL s).map Fing.z)) [.dead] := by
  obtain ⟨z1, z2, z3, z4, z5⟩ := id hs
  obtain ⟨y1, y2⟩ := scOk_tys hk
  have hob := scOk_obj hk
  have hmk := scOk_mark hk
  have hnd : ((fgU (ftS s) s.objects).map Fing.name).Nodup := fgU_nodup (scOk_names hk)
  have hft : (ftS s).length = s.types.length := rnd_len _ _
  have hrd := d103 s.types 25 y1 z3.2 y2 (by decide) (by decide)
  have e25 : (25 : Int).toNat = 25 := rfl
  rw [e25] at hrd
  have hll := fun n => fgU_lenS hk (s.objects.take n) (by simp; omega) (ftS s)
  refine does_intro (mc := m105) (N := 66) (rs := [2]) (fx := []) 1 rfl (by decide +kernel) ?_
  simp only [m105, Scope.z, EV, Nat.reduceEqDiff, Nat.reduceBEq, Nat.reduceLT, Nat.reduceLeDiff, Nat.reduceAdd, Nat.reduceSub, reduceIte]
  refine callK_i hrd ?_
  have hfs : rnd s.types 25 = ftS s := rfl
  rw [hfs]
  simp only [Scope.z, EV, Nat.reduceEqDiff, Nat.reduceBEq, Nat.reduceLT, Nat.reduceLeDiff, Nat.reduceAdd, Nat.reduceSub, reduceIte]
  refine awp_loop (fun p : Nat × List Fing => p.1 ≤ s.objects.length ∧ p.2.Perm (fgU (ftS s) (s.objects.take p.1)) ∧ Up Fing.name p.2) (fun p => stl [(1, .box 45 s.z), (3, .usl 3 1 ((ftS s).map iv)), (4, .usl 131 3 (p.2.map Fing.z)), (11, .dead), (13, .fsl 6 (s.objects.map Ob.z)), (14, .v (.int .i64 (s.objects.length : Int))), (15, .v (.int .i64 (p.1 : Int))), (36, .dead)]) (fun p => s.objects.length - p.1) (0, []) ⟨Nat.zero_le _, by simp [fgU], by simp [Up]⟩ ?_ ?_
  · simp only [List.map_nil, Scope.z, EV, Nat.reduceEqDiff, Nat.reduceBEq, Nat.reduceLT, Nat.reduceLeDiff, Nat.reduceAdd, Nat.reduceSub, reduceIte]
    rfl
  rintro ⟨i, out⟩ ⟨hi, hpm, hup⟩
  simp only at hi hpm hup
  have hol : out.length ≤ 16 := by rw [hpm.length_eq]; exact hll i
  simp only [Scope.z, EV, Nat.reduceEqDiff, Nat.reduceBEq, Nat.reduceLT, Nat.reduceLeDiff, Nat.reduceAdd, Nat.reduceSub, reduceIte]
  refine cK_cut (fun h => ?_) (fun h => ?_)
  · have i2 : (i : Int) < (s.objects.length : Int) := by simpa using h
    have i1 : i < s.objects.length := by omega
    clear h
    have wi := w64 ((i : Int) + 1) (by omega)
    obtain ⟨o1, o2, o3⟩ := hob _ (List.getElem_mem i1)
    have om := hmk _ (List.getElem_mem i1)
    have osm := z4.2 _ (List.getElem_mem i1)
    have hu := fgU_take (ts := ftS s) i1
    generalize hoe : s.objects[i] = o at o1 o2 o3 om osm hu
    have hdo := d163 s o (ftS s) osm (by omega) (by omega) o2 (by rw [hft]; exact o3)
    refine awp_join (fun out : List Fing => out.Perm (fgU (ftS s) (s.objects.take (i + 1))) ∧ Up Fing.name out) (fun out => stl [(1, .box 45 s.z), (3, .usl 3 1 ((ftS s).map iv)), (4, .usl 131 3 (out.map Fing.z)), (11, .dead), (13, .fsl 6 (s.objects.map Ob.z)), (14, .v (.int .i64 (s.objects.length : Int))), (15, .v (.int .i64 (i : Int))), (36, .dead)]) ?_ ?_
    · simp only [ObE, i1, i2, nth_map i1, hoe, Ob.z, Scope.z, EV, Nat.reduceEqDiff, Nat.reduceBEq, Nat.reduceLT, Nat.reduceLeDiff, Nat.reduceAdd, Nat.reduceSub, reduceIte]
      rcases e : (o.mark == 0) with _ | _
      rotate_left
      · simp only [Ob.z, Scope.z, EV, Nat.reduceEqDiff, Nat.reduceBEq, Nat.reduceLT, Nat.reduceLeDiff, Nat.reduceAdd, Nat.reduceSub, reduceIte]
        refine ⟨out, ⟨?_, hup⟩, rfl⟩
        rw [hu]
        have : shown o = false := by simp only [shown, decide_eq_false_iff_not]; simp only [beq_iff_eq] at e; omega
        simpa [this] using hpm
      · have hsh : shown o = true := by simp only [shown, decide_eq_true_eq]; have : o.mark ≠ 0 := by simpa using e
                                        omega
        simp only [Ob.z, Scope.z] at hdo
        refine awp_join (fun _ : Unit => True) (fun _ => stl [(1, .box 45 s.z), (3, .usl 3 1 ((ftS s).map iv)), (4, .usl 131 3 (out.map Fing.z)), (7, .box 131 (fgO (ftS s) o).z), (11, .dead), (13, .fsl 6 (s.objects.map Ob.z)), (14, .v (.int .i64 (s.objects.length : Int))), (15, .v (.int .i64 (i : Int))), (36, .dead)]) ?_ ?_
        · simp only [iv_frz, fgO, Fing.z, Ob.z, Scope.z, EV, Nat.reduceEqDiff, Nat.reduceBEq, Nat.reduceLT, Nat.reduceLeDiff, Nat.reduceAdd, Nat.reduceSub, reduceIte]
          repeat' first
            | (refine callK_i hdo ?_
               simp only [iv_frz, fgO, Fing.z, Ob.z, Scope.z, EV, Nat.reduceEqDiff, Nat.reduceBEq, Nat.reduceLT, Nat.reduceLeDiff, Nat.reduceAdd, Nat.reduceSub, reduceIte])
            | refine And.intro ?_ ?_
            | exact ⟨(), trivial⟩
        rintro _ _
        generalize hf : fgO (ftS s) o = f
        have hpf : ∀ l : List Fing, l.Perm (out ++ [f]) → l.Perm (fgU (ftS s) (s.objects.take (i + 1))) := by
          intro l hl
          rw [hu, if_pos hsh, hf]
          exact hl.trans (hpm.append_right [f])
        simp only [Scope.z, Fing.z, EV, Nat.reduceEqDiff, Nat.reduceBEq, Nat.reduceLT, Nat.reduceLeDiff, Nat.reduceAdd, Nat.reduceSub, reduceIte]
        refine ⟨by omega, by omega, ?_⟩
        refine awp_loop (fun p : Nat × Fing => p.1 ≤ out.length ∧ ∀ y ∈ out.drop p.1, bl f.name y.name = true) (fun p => stl [(1, .box 45 s.z), (3, .usl 3 1 ((ftS s).map iv)), (4, .usl 131 3 ((out.take p.1 ++ p.2 :: out.drop p.1).map Fing.z)), (7, .box 131 f.z), (8, .v (.int .i64 (p.1 : Int))), (11, .dead), (13, .fsl 6 (s.objects.map Ob.z)), (14, .v (.int .i64 (s.objects.length : Int))), (15, .v (.int .i64 (i : Int))), (36, .dead)]) (fun p => p.1) (out.length, f) ⟨Nat.le_refl _, by simp⟩ ?_ ?_
        · simp only [List.take_length, List.drop_length, List.map_append, List.map_cons, List.map_nil, Scope.z, Fing.z, EV, Nat.reduceEqDiff, Nat.reduceBEq, Nat.reduceLT, Nat.reduceLeDiff, Nat.reduceAdd, Nat.reduceSub, reduceIte]
        rintro ⟨k, x⟩ ⟨hkl, hdr⟩
        simp only at hkl hdr
        have hle := ins_len (x := x) hkl
        have hset : ∀ y : Fing, (out.take k ++ x :: out.drop k).set k y = out.take k ++ y :: out.drop k := fun y => set_ins hkl
        have hat : ∀ (j : Nat) (hj : k = j + 1) (h1 : j < out.length) (h : j < (out.take k ++ x :: out.drop k).length), (out.take k ++ x :: out.drop k)[j] = out[j] := by
          rintro j rfl h1 h; exact ins_at h1 h
        simp only [Scope.z, Fing.z, EV, Nat.reduceEqDiff, Nat.reduceBEq, Nat.reduceLT, Nat.reduceLeDiff, Nat.reduceAdd, Nat.reduceSub, reduceIte]
        generalize hM : out.take k ++ x :: out.drop k = M at hle hset hat ⊢
        rcases k with _ | k
        · have e0 : decide ((0 : Int) < ((0 : Nat) : Int)) = false := rfl
          have k1 : 0 < M.length := by omega
          have k2 : (((0 : Nat) : Int)) < (M.length : Int) := by omega
          simp only [e0, EV, Nat.reduceEqDiff, Nat.reduceBEq, Nat.reduceLT, Nat.reduceLeDiff, Nat.reduceAdd, Nat.reduceSub, reduceIte]
          refine ⟨k2, k1, M.set 0 f, ⟨?_, ?_⟩, ?_⟩
          · rw [hset]; exact hpf _ ins_perm
          · rw [hset]; exact ins_up hup hdr (by simp)
          · simp only [nth_map k1, Fing.z, List.map_set, EV, Nat.reduceEqDiff, Nat.reduceBEq, Nat.reduceLT, Nat.reduceLeDiff, Nat.reduceAdd, Nat.reduceSub, reduceIte]
        · have e0 : decide ((0 : Int) < ((k + 1 : Nat) : Int)) = true := decide_eq_true (by omega)
          have e1 : ((k + 1 : Nat) : Int) - 1 = (k : Int) := by omega
          have wk := w64 (k : Int) (by omega)
          have k1 : k < M.length := by omega
          have k2 : (k : Int) < (M.length : Int) := by omega
          have k3 : k + 1 < M.length := by omega
          have k4 : ((k + 1 : Nat) : Int) < (M.length : Int) := by omega
          simp only [e0, e1, wk, k1, k2, nth_map k1, hat k rfl hkl k1, Fing.z, Scope.z, EV, Nat.reduceEqDiff, Nat.reduceBEq, Nat.reduceLT, Nat.reduceLeDiff, Nat.reduceAdd, Nat.reduceSub, reduceIte]
          have hg : (!(Op.bytesLess out[k].name.toList f.name.toList || out[k].name.toList == f.name.toList)) = bl f.name out[k].name := bl_gtr _ _
          rw [hg]
          rcases eb : bl f.name out[k].name with _ | _
          · simp only [Fing.z, Scope.z, EV, Nat.reduceEqDiff, Nat.reduceBEq, Nat.reduceLT, Nat.reduceLeDiff, Nat.reduceAdd, Nat.reduceSub, reduceIte]
            refine ⟨k4, k3, M.set (k + 1) f, ⟨?_, ?_⟩, ?_⟩
            · rw [hset]; exact hpf _ ins_perm
            · rw [hset]; exact ins_up hup hdr (up_le hup hkl eb)
            · simp only [nth_map k3, Fing.z, List.map_set, EV, Nat.reduceEqDiff, Nat.reduceBEq, Nat.reduceLT, Nat.reduceLeDiff, Nat.reduceAdd, Nat.reduceSub, reduceIte]
          · simp only [e0, e1, wk, k1, k2, nth_map k1, hat k rfl hkl k1, Fing.z, Scope.z, EV, Nat.reduceEqDiff, Nat.reduceBEq, Nat.reduceLT, Nat.reduceLeDiff, Nat.reduceAdd, Nat.reduceSub, reduceIte]
            refine ⟨k4, k3, (k, out[k]), ⟨by simp only; omega, ?_⟩, by simp only; omega, ?_⟩
            · intro y hy
              simp only [List.drop_eq_getElem_cons hkl, List.mem_cons] at hy
              rcases hy with rfl | hy
              · exact eb
              · exact hdr y hy
            · have hnext : M.set (k + 1) out[k] = out.take k ++ out[k] :: out.drop k := by rw [hset]; exact ins_dn hkl
              simp only [← hnext, nth_map k3, Fing.z, List.map_set, EV, Nat.reduceEqDiff, Nat.reduceBEq, Nat.reduceLT, Nat.reduceLeDiff, Nat.reduceAdd, Nat.reduceSub, reduceIte]
    · rintro out ⟨hpm, hup⟩
      simp only [wi, Scope.z, EV, Nat.reduceEqDiff, Nat.reduceBEq, Nat.reduceLT, Nat.reduceLeDiff, Nat.reduceAdd, Nat.reduceSub, reduceIte]
      exact ⟨(i + 1, out), ⟨i1, hpm, hup⟩, by simp only; omega, rfl⟩
  · have i1 : i = s.objects.length := by have : ¬ (i : Int) < s.objects.length := by simpa using h
                                         omega
    subst i1
    rw [List.take_length] at hpm
    clear h
    have hfin : out = fgL s := asc_eq hnd (asc_of hup (((hpm.map Fing.name).nodup_iff).2 hnd)) fun a => hpm.mem_iff
    subst hfin
    simp only [Scope.z, EV, Nat.reduceEqDiff, Nat.reduceBEq, Nat.reduceLT, Nat.reduceLeDiff, Nat.reduceAdd, Nat.reduceSub, reduceIte]
    simp only [Fing.nfz, EV, Nat.reduceEqDiff, Nat.reduceBEq, Nat.reduceLT, Nat.reduceLeDiff, Nat.reduceAdd, Nat.reduceSub, reduceIte, evRE, retVC, cellV', evR, nfz, nfzs, nfzss, List.contains_nil, List.contains_cons, Bool.or_false, or_true]
end Go.AM
namespace Go.AM
set_option linter.unusedVariables false
set_option linter.unusedSimpArgs false
def sfT (n : Int) (l : List Fing) (i : Nat) : List Int := n :: (l.take i).map Fing.sum
theorem sfT_len (n : Int) (l : List Fing) (i : Nat) : (sfT n l i).length = 1 + min i l.length := by simp [sfT]; omega
theorem sfT_zero (n : Int) (l : List Fing) : sfT n l 0 = [n] := by simp [sfT]
theorem sfT_succ (n : Int) {l : List Fing} {i : Nat} (h : i < l.length) : sfT n l (i + 1) = sfT n l i ++ [l[i].sum] := by
  unfold sfT; rw [List.take_succ_eq_append_getElem h, List.map_append]; rfl
noncomputable def sfL (s : Scope) : List Int := sfT (textN s.name) (fgL s) (fgL s).length
noncomputable def sfN (s : Scope) : Int := if scOk s = true then mixL (sfL s) else 0
def m39 : MC :=
 (.seq (.reg [Xb 1 (.box 45 (.t 0)), Xb 2 (.asg (.i 0)), Xb 3 (.asg .fb)]) (.seq (.seq (.reg [Xb 7 (.call (.fn 77) false [.lend (.t 1)]), Xq 8 (.un .not (.t 7))]) (.cond (.t 8) (.seq (.reg [Xb 2 (.asg (.i 0)), Xb 3 (.asg .fb)]) .ret) .skip)) (.seq (.reg [Xf 9 0 1, Xl 10 1 9, Xb 11 (.call (.fn 107) false [.lend (.t 10)]), Xb 12 (.bsl 3 1 [.t 11]), Xa 4 12]) (.seq (.seq (.reg [Xb 13 (.call (.fn 108)
 false [.lend (.t 1)]), Xn 14 13, Xq 15 (.mov (.i 0))]) (.block 0 (.loop [4, 12, 13, 14, 15, 23] (.seq (.reg [Xq 16 (.bin false .lss (.t 15) (.t 14))]) (.seq (.cond (.t 16) .skip (.exit 0)) (.seq (.block 1 (.seq (.reg [Xi 17 3 13 15, XL 18 3 17, Xb 6 (.alloc 131 [.z, .i, .i]), Xz (.store 3 (.t 6) (.t 18))]) (.reg [Xm 19 4, Xf 20 2 6, Xl 21 1 20, Xb 22 (.bsl 3 1 [.t 21]), Xb 23 (.app true 3 1 8 (.t
 19) (.t 22)), Xa 4 23]))) (.reg [Xq 24 (.bin false .add (.t 15) (.i 1)), Xm 15 24]))))))) (.seq (.reg [Xm 25 4, Xb 26 (.call (.fn 109) false [.lend (.t 25)]), Xa 2 26, Xb 3 (.asg .tb)]) .ret)))))
set_option maxHeartbeats 1000000 in
set_option maxRecDepth 100000 in
theorem d39 (s : Scope) (hs : s.sm) : Does Go.Proofs.Tryz.prog 39 [.agg s.z] false (.tup [.v (.int .i64 (sfN s)), .v (.bool (scOk s))]) [.dead] := by
  have dis := d77 s hs
  simp only [Scope.z] at dis
  refine does_intro (mc := m39) (N := 27) (rs := [2, 3]) (fx := []) 1 rfl (by decide +kernel) ?_
  simp only [m39, Scope.z, EV, Nat.reduceEqDiff, Nat.reduceBEq, Nat.reduceLT, Nat.reduceLeDiff, Nat.reduceAdd, Nat.reduceSub, reduceIte]
  refine callK_i dis ?_
  simp only [EV, Nat.reduceEqDiff, Nat.reduceBEq, Nat.reduceLT, Nat.reduceLeDiff, Nat.reduceAdd, Nat.reduceSub, reduceIte]
  rcases e : scOk s with _ | _
  · simp only [Bool.not_false, EV, Nat.reduceEqDiff, Nat.reduceBEq, Nat.reduceLT, Nat.reduceLeDiff, Nat.reduceAdd, Nat.reduceSub, reduceIte]
    simp only [sfN, e, if_false, Bool.false_eq_true, EV, Nat.reduceEqDiff, Nat.reduceBEq, Nat.reduceLT, Nat.reduceLeDiff, Nat.reduceAdd, Nat.reduceSub, reduceIte, evRE, retVC, cellV', evR, nfz, nfzs, nfzss, List.contains_nil, List.contains_cons, Bool.or_false, or_true]
  have hfl := fgL_len e
  have dfi := d108 s hs e
  simp only [Scope.z] at dfi
  simp only [Bool.not_true, Scope.z, EV, Nat.reduceEqDiff, Nat.reduceBEq, Nat.reduceLT, Nat.reduceLeDiff, Nat.reduceAdd, Nat.reduceSub, reduceIte]
  refine callK_i (d107 s.name hs.1) ?_
  simp only [Scope.z, EV, Nat.reduceEqDiff, Nat.reduceBEq, Nat.reduceLT, Nat.reduceLeDiff, Nat.reduceAdd, Nat.reduceSub, reduceIte]
  refine callK_i dfi ?_
  have hsf : sfN s = mixL (sfL s) := by rw [sfN, if_pos e]
  have hsl : sfL s = sfT (textN s.name) (fgL s) (fgL s).length := rfl
  rw [hsf, hsl]
  generalize fgL s = l at hfl ⊢
  simp only [EV, Nat.reduceEqDiff, Nat.reduceBEq, Nat.reduceLT, Nat.reduceLeDiff, Nat.reduceAdd, Nat.reduceSub, reduceIte]
  refine awp_loop (fun i : Nat => i ≤ l.length) (fun i => stl [(4, .usl 3 1 ((sfT (textN s.name) l i).map iv)), (12, .dead), (13, .usl 131 3 (l.map Fing.z)), (14, .v (.int .i64 (l.length : Int))), (15, .v (.int .i64 (i : Int))), (23, .dead)]) (fun i => l.length - i) 0 (Nat.zero_le _) ?_ ?_
  · simp only [sfT_zero, List.map_nil, List.map_cons, iv, EV, Nat.reduceEqDiff, Nat.reduceBEq, Nat.reduceLT, Nat.reduceLeDiff, Nat.reduceAdd, Nat.reduceSub, reduceIte]
    rfl
  intro i hi
  have hln := sfT_len (textN s.name) l i
  simp only [EV, Nat.reduceEqDiff, Nat.reduceBEq, Nat.reduceLT, Nat.reduceLeDiff, Nat.reduceAdd, Nat.reduceSub, reduceIte]
  refine cK_cut (fun h => ?_) (fun h => ?_)
  · have i2 : (i : Int) < (l.length : Int) := by simpa using h
    have i1 : i < l.length := by omega
    clear h
    have wi := w64 ((i : Int) + 1) (by omega)
    simp only [FingE, i1, i2, nth_map i1, Fing.z, wi, EV, Nat.reduceEqDiff, Nat.reduceBEq, Nat.reduceLT, Nat.reduceLeDiff, Nat.reduceAdd, Nat.reduceSub, reduceIte]
    refine ⟨by omega, by omega, i + 1, i1, by omega, ?_⟩
    rw [sfT_succ _ i1, List.map_append]
    rfl
  · have i1 : i = l.length := by have : ¬ (i : Int) < l.length := by simpa using h
                                 omega
    subst i1
    simp only [iv_frz, EV, Nat.reduceEqDiff, Nat.reduceBEq, Nat.reduceLT, Nat.reduceLeDiff, Nat.reduceAdd, Nat.reduceSub, reduceIte]
    refine callK_i (d109 (sfT (textN s.name) l l.length) (by omega)) ?_
    simp only [EV, Nat.reduceEqDiff, Nat.reduceBEq, Nat.reduceLT, Nat.reduceLeDiff, Nat.reduceAdd, Nat.reduceSub, reduceIte]
    simp only [EV, Nat.reduceEqDiff, Nat.reduceBEq, Nat.reduceLT, Nat.reduceLeDiff, Nat.reduceAdd, Nat.reduceSub, reduceIte, evRE, retVC, cellV', evR, nfz, nfzs, nfzss, List.contains_nil, List.contains_cons, Bool.or_false, or_true]
def m40 : MC :=
 (.seq (.reg [Xb 2 (.box 45 (.t 0)), Xb 4 (.asg (.i 0)), Xb 5 (.asg .fb)]) (.seq (.seq (.reg [XL 6 5 2, Xb 7 (.call (.fn 83) false [.lend (.t 6)]), Xq 8 (.un .not (.t 7))]) (.cond (.t 8) (.seq (.reg [Xb 4 (.asg (.i 0)), Xb 5 (.asg .fb)]) .ret) .skip)) (.seq (.reg [XL 9 5 2, Xb 10 (.call (.fn 105) false [.lend (.t 9)]), Xm 11 1, Xb 12 (.call (.fn 110) false [.lend (.t 10), .lend (.t 11)]), Xq 13
 (.ext 12 0), Xq 14 (.ext 12 1), Xa 4 13, Xa 5 14]) .ret)))
set_option maxRecDepth 100000 in
theorem d40 (s : Scope) (name : ByteArray) (hs : s.sm) :
    Does Go.Proofs.Tryz.prog 40 [.agg s.z, .v (.string name)] false (.tup [.v (.int .i64 (sumA (fiA s name))), .v (.bool (fiA s name).isSome)]) [.dead, .dead] := by
  have dis := d83 s hs
  simp only [Scope.z] at dis
  refine does_intro (mc := m40) (N := 15) (rs := [4, 5]) (fx := []) 2 rfl (by decide +kernel) ?_
  simp only [m40, Scope.z, EV, Nat.reduceEqDiff, Nat.reduceBEq, Nat.reduceLT, Nat.reduceLeDiff, Nat.reduceAdd, Nat.reduceSub, reduceIte]
  refine callK_i dis ?_
  simp only [EV, Nat.reduceEqDiff, Nat.reduceBEq, Nat.reduceLT, Nat.reduceLeDiff, Nat.reduceAdd, Nat.reduceSub, reduceIte]
  rcases e : scOk s with _ | _
  · simp only [Bool.not_false, EV, Nat.reduceEqDiff, Nat.reduceBEq, Nat.reduceLT, Nat.reduceLeDiff, Nat.reduceAdd, Nat.reduceSub, reduceIte]
    simp only [fiA, e, if_false, Bool.false_eq_true, sumA, Option.isSome_none, EV, Nat.reduceEqDiff, Nat.reduceBEq, Nat.reduceLT, Nat.reduceLeDiff, Nat.reduceAdd, Nat.reduceSub, reduceIte, evRE, retVC, cellV', evR, nfz, nfzs, nfzss, List.contains_nil, List.contains_cons, Bool.or_false, or_true]
  have hfl := fgL_len e
  have dfi := d105 s hs e
  simp only [Scope.z] at dfi
  simp only [Bool.not_true, Scope.z, EV, Nat.reduceEqDiff, Nat.reduceBEq, Nat.reduceLT, Nat.reduceLeDiff, Nat.reduceAdd, Nat.reduceSub, reduceIte]
  refine callK_i dfi ?_
  simp only [Fing.frz, EV, Nat.reduceEqDiff, Nat.reduceBEq, Nat.reduceLT, Nat.reduceLeDiff, Nat.reduceAdd, Nat.reduceSub, reduceIte]
  refine callK_i (d110 (fgL s) name (by omega)) ?_
  simp only [EV, Nat.reduceEqDiff, Nat.reduceBEq, Nat.reduceLT, Nat.reduceLeDiff, Nat.reduceAdd, Nat.reduceSub, reduceIte]
  simp only [fiA, e, if_true, EV, Nat.reduceEqDiff, Nat.reduceBEq, Nat.reduceLT, Nat.reduceLeDiff, Nat.reduceAdd, Nat.reduceSub, reduceIte, evRE, retVC, cellV', evR, nfz, nfzs, nfzss, List.contains_nil, List.contains_cons, Bool.or_false, or_true]
def m9 : MC :=
 (.seq (.reg [Xb 2 (.box 59 (.t 0)), Xb 4 (.asg .fb)]) (.keep [1, 2] (.seq (.seq (.reg [Xm 11 1, Xq 12 (.len true (.t 11)), Xq 13 (.bin false .gtr (.t 12) (.i 1048576))]) (.keep [1, 2, 13] (.cond (.t 13) (.seq (.reg [Xb 4 (.asg .tb)]) .ret) .skip))) (.keep [1, 2] (.seq (.reg [Xb 5 (.asg (.i 1048576))]) (.keep [1, 2, 5] (.seq (.reg [XL 14 5 2, Xm 15 5, Xb 16 (.call (.fn 27) false [.lend (.t 14),
 .lend (.t 15)]), Xa 5 16]) (.keep [1, 2, 5] (.seq (.seq (.reg [Xm 17 5, Xq 18 (.bin false .lss (.t 17) (.i 0))]) (.keep [1, 2, 18] (.cond (.t 18) (.seq (.reg [Xb 4 (.asg .tb)]) .ret) .skip))) (.keep [1, 2] (.seq (.reg [XL 20 5 2, Xb 21 (.call (.fn 28) false [.lend (.t 20)]), Xm 22 1, Xb 23 (.call (.fn 40) false [.lend (.t 21), .lend (.t 22)]), Xm 19 23, Xq 24 (.ext 19 0), Xq 25 (.ext 19 1), Xa 6
 24, Xa 7 25]) (.keep [1, 2, 6, 7] (.seq (.reg [XL 26 5 2, Xb 27 (.call (.fn 28) false [.lend (.t 26)]), Xb 8 (.alloc 45 [.z, .s 9 1, .s 40 6, .s 52 6, .s 155 2]), Xz (.store 5 (.t 8) (.t 27))]) (.keep [1, 2, 6, 7, 8] (.seq (.reg [XL 29 5 8, Xm 30 1, Xb 31 (.call (.fn 41) false [.lend (.t 29), .lend (.t 30)]), Xm 28 31, Xq 32 (.ext 28 0), Xq 33 (.ext 28 1), Xa 9 32, Xa 10 33]) (.keep [2, 6, 7, 8,
 9, 10] (.seq (.seq (.reg [Xm 34 9, Xm 35 6, Xq 36 (.bin false .neq (.t 34) (.t 35)), Xm 37 36, Xu 38 37 (.mov (.t 10)), Xu 39 37 (.mov (.t 7)), Xu 40 37 (.bin true .neq (.t 38) (.t 39)), Xq 41 (.pick (.t 37) .tb (.t 40))]) (.keep [2, 8, 41] (.cond (.t 41) (.seq (.reg [Xb 4 (.asg .fb)]) .ret) .skip))) (.keep [2, 8] (.seq (.seq (.mixt [] [2, 8, 46] [] [] [] [] (.alt (.step 0 (XL 42 5 8) (.step 1 (XL
 43 5 2) (.step 2 (Xb 44 (.call (.fn 28) false [.lend (.t 43)])) (.step 3 (Xb 45 (.call (.fn 30) false [.lend (.t 42), .lend (.t 44)])) (.step 4 (Xq 46 (.un .not (.t 45))) .nil))))) (.step 1 (XL 43 5 2) (.alt (.step 0 (XL 42 5 8) (.step 2 (Xb 44 (.call (.fn 28) false [.lend (.t 43)])) (.step 3 (Xb 45 (.call (.fn 30) false [.lend (.t 42), .lend (.t 44)])) (.step 4 (Xq 46 (.un .not (.t 45))) .nil))))
 (.step 2 (Xb 44 (.call (.fn 28) false [.lend (.t 43)])) (.step 0 (XL 42 5 8) (.step 3 (Xb 45 (.call (.fn 30) false [.lend (.t 42), .lend (.t 44)])) (.step 4 (Xq 46 (.un .not (.t 45))) .nil)))))))) (.keep [46] (.cond (.t 46) (.seq (.reg [Xb 4 (.asg .fb)]) .ret) .skip))) (.keep [] (.seq (.reg [Xb 4 (.asg .tb)]) .ret)))))))))))))))))))))
set_option maxHeartbeats 1000000 in
set_option maxRecDepth 100000 in
theorem d9 (a : Scope) (name : ByteArray) (hoa : a.ok) (hn0 : (name.size : Int) ≤ 9223372036854775807) : Does Go.Proofs.Tryz.prog 9 [.agg a.z, .v (.string name)] false (.v (.bool true)) [.dead, .dead] := by
  have dsz := d27 a 1048576 (by omega) (by omega) hoa
  simp only [Scope.z] at dsz
  have bs : ∀ b : Bool, (b != b) = false := fun b => by cases b <;> rfl
  refine does_intro (mc := m9) (N := 47) (rs := [4]) (fx := []) 2 rfl (by decide +kernel) ?_
  simp only [m9, Scope.z, EV, Nat.reduceEqDiff, Nat.reduceBEq, Nat.reduceLT, Nat.reduceLeDiff, Nat.reduceAdd, Nat.reduceSub, reduceIte]
  refine cK_cut (fun h => ?_) (fun h => ?_)
  · simp only [EV, Nat.reduceEqDiff, Nat.reduceBEq, Nat.reduceLT, Nat.reduceLeDiff, Nat.reduceAdd, Nat.reduceSub, reduceIte]
    simp only [EV, Nat.reduceEqDiff, Nat.reduceBEq, Nat.reduceLT, Nat.reduceLeDiff, Nat.reduceAdd, Nat.reduceSub, reduceIte, evRE, retVC, cellV', evR, nfz, nfzs, nfzss, List.contains_nil, List.contains_cons, Bool.or_false, or_true]
  clear h
  simp only [Scope.z, EV, Nat.reduceEqDiff, Nat.reduceBEq, Nat.reduceLT, Nat.reduceLeDiff, Nat.reduceAdd, Nat.reduceSub, reduceIte]
  refine callK_i dsz ?_
  simp only [EV, Nat.reduceEqDiff, Nat.reduceBEq, Nat.reduceLT, Nat.reduceLeDiff, Nat.reduceAdd, Nat.reduceSub, reduceIte]
  refine cK_cut (fun h => ?_) (fun h => ?_)
  · simp only [EV, Nat.reduceEqDiff, Nat.reduceBEq, Nat.reduceLT, Nat.reduceLeDiff, Nat.reduceAdd, Nat.reduceSub, reduceIte]
    simp only [EV, Nat.reduceEqDiff, Nat.reduceBEq, Nat.reduceLT, Nat.reduceLeDiff, Nat.reduceAdd, Nat.reduceSub, reduceIte, evRE, retVC, cellV', evR, nfz, nfzs, nfzss, List.contains_nil, List.contains_cons, Bool.or_false, or_true]
  have h0 : 0 ≤ szScope a 1048576 := by simpa using h
  have h1 := szScope_tot a _ h0
  have hx : a.sm := a.sm_of (by omega)
  clear h dsz
  have dto := d28 a hx
  have dsp := d40 a name hx
  have dim := d41 a name hx
  have deq := d30 a hx
  generalize sumA (fiA a name) = R1 at dsp dim
  generalize (fiA a name).isSome = R2 at dsp dim
  simp only [Scope.z, Scope.o] at dto dsp dim deq
  simp only [Scope.z, EV, Nat.reduceEqDiff, Nat.reduceBEq, Nat.reduceLT, Nat.reduceLeDiff, Nat.reduceAdd, Nat.reduceSub, reduceIte]
  refine callK_i dto ?_
  simp only [Str.frz, Ty.frz, Ob.frz, Us.frz, bs, Scope.z, Scope.o, EV, Nat.reduceEqDiff, Nat.reduceBEq, Nat.reduceLT, Nat.reduceLeDiff, Nat.reduceAdd, Nat.reduceSub, reduceIte]
  refine callK_i dsp ?_
  simp only [Str.frz, Ty.frz, Ob.frz, Us.frz, bs, Scope.z, Scope.o, EV, Nat.reduceEqDiff, Nat.reduceBEq, Nat.reduceLT, Nat.reduceLeDiff, Nat.reduceAdd, Nat.reduceSub, reduceIte]
  refine callK_i dto ?_
  simp only [Str.frz, Ty.frz, Ob.frz, Us.frz, bs, Scope.z, Scope.o, EV, Nat.reduceEqDiff, Nat.reduceBEq, Nat.reduceLT, Nat.reduceLeDiff, Nat.reduceAdd, Nat.reduceSub, reduceIte]
  refine callK_i dim ?_
  simp only [Str.frz, Ty.frz, Ob.frz, Us.frz, bs, Scope.z, Scope.o, EV, Nat.reduceEqDiff, Nat.reduceBEq, Nat.reduceLT, Nat.reduceLeDiff, Nat.reduceAdd, Nat.reduceSub, reduceIte]
  refine ⟨?_, ?_, ?_⟩
  all_goals
    refine callK_i dto ?_
    simp only [Str.frz, Ty.frz, Ob.frz, Us.frz, bs, Scope.z, Scope.o, EV, Nat.reduceEqDiff, Nat.reduceBEq, Nat.reduceLT, Nat.reduceLeDiff, Nat.reduceAdd, Nat.reduceSub, reduceIte]
    refine callK_i deq ?_
    simp only [Str.frz, Ty.frz, Ob.frz, Us.frz, bs, Scope.z, Scope.o, EV, Nat.reduceEqDiff, Nat.reduceBEq, Nat.reduceLT, Nat.reduceLeDiff, Nat.reduceAdd, Nat.reduceSub, reduceIte]
    simp only [EV, Nat.reduceEqDiff, Nat.reduceBEq, Nat.reduceLT, Nat.reduceLeDiff, Nat.reduceAdd, Nat.reduceSub, reduceIte, evRE, retVC, cellV', evR, nfz, nfzs, nfzss, List.contains_nil, List.contains_cons, Bool.or_false, or_true]
end Go.AM
