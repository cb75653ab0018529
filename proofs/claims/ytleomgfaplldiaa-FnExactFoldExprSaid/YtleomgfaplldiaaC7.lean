/- Own framework, part 25: what a law is given, read as frozen. -/
import Derived.Test.YtleomgfaplldiaaC6
import Derived.ChangeArms
import Derived.DataReads
import Derived.ChangeReads
import Derived.ChangeOld
import Derived.Below
namespace Go.AM
set_option linter.unusedVariables false
set_option linter.unusedSimpArgs false

/-- Whatever is read at type t reads as some c a, with p a. -/
def Reads {H : Type} (enc : TypeId × Value → H) (P : Program) (w : World) (base : Nat) (spare : Nat → Bool) (held : Bool) (t : TypeId) {α : Type} (c : α → List AV) (p : α → Prop) : Prop :=
  ∀ (fuel : Nat) (cs : List Value) (x : DataW H × List MemPlace), DataW.trod enc P w base spare held fuel t cs = some x → ∃ a, p a ∧ RepRow w (fun b => b < w.heap.size) (c a) cs []

section
variable {H : Type} {enc : TypeId × Value → H} {P : Program} {w : World} {base : Nat} {spare : Nat → Bool} {held : Bool} {t e : TypeId}

theorem row_one {Fz : Nat → Prop} {av : AV} {x : Value} (h : RepC w Fz av x []) : RepRow w Fz [av] [x] [] := by
  simp only [RepRow]
  exact ⟨x, [], [], [], rfl, rfl, h, rfl, rfl⟩

theorem reads_int {k : IntKind} (ht : P.underlying t = some (.int k)) : Reads enc P w base spare held t (fun n : Int => [.v (.int k n)]) (fun n => (Lit.int k n).wf = true) := by
  intro fuel cs x h
  obtain ⟨n, rfl, _, hw⟩ := DataW.trod_int ht h
  exact ⟨n, hw, row_one (by simp [RepC, Value.oneCell'])⟩

theorem reads_bool (ht : P.underlying t = some .bool) : Reads enc P w base spare held t (fun b : Bool => [.v (.bool b)]) (fun _ => True) := by
  intro fuel cs x h
  obtain ⟨b, rfl, _⟩ := DataW.trod_bool ht h
  exact ⟨b, trivial, row_one (by simp [RepC, Value.oneCell'])⟩

theorem reads_string (ht : P.underlying t = some .string) : Reads enc P w base spare held t (fun s : ByteArray => [.v (.string s)]) (fun s => s.size ≤ maxLen) := by
  intro fuel cs x h
  obtain ⟨s, rfl, _, hw⟩ := DataW.trod_string ht h
  exact ⟨s, hw, row_one (by simp [RepC, Value.oneCell'])⟩

theorem row_join {Fz : Nat → Prop} : ∀ {l1 l2 : List AV} {xs ys : List Value}, RepRow w Fz l1 xs [] → RepRow w Fz l2 ys [] → RepRow w Fz (l1 ++ l2) (xs ++ ys) []
  | [], l2, xs, ys, h, h2 => by simp only [RepRow] at h; rw [h.1]; exact h2
  | d :: l, l2, xs, ys, h, h2 => by
    simp only [RepRow, List.cons_append] at h ⊢
    obtain ⟨x, xs', o1, o2, rfl, ho, hc, hr⟩ := h
    obtain ⟨rfl, rfl⟩ : o1 = [] ∧ o2 = [] := by simpa using ho.symm
    exact ⟨x, xs' ++ ys, [], [], rfl, rfl, hc, row_join hr h2⟩

theorem reads_slice {α : Type} {c : α → List AV} {p : α → Prop} (ht : P.underlying t = some (.slice e)) (he : Reads enc P w base spare held e c p) {sz : Nat} (hsz : P.cellsOf e = sz) (hpos : 0 < sz) (hc : ∀ a, (c a).length = sz) :
    Reads enc P w base spare held t (fun l : List α => [.fsl sz (l.map c)]) (fun l => (∀ a ∈ l, p a) ∧ l.length ≤ maxLen) := by
  intro fuel cs x h
  rcases DataW.trod_slice ht h with ⟨rfl, _⟩ | ⟨a, len, cap, elems, rest, n, _, rfl, _, _, hle, hcap, hlen, hel, _, _⟩
  · exact ⟨[], ⟨by simp, by simp⟩, row_one (by simp [RepC])⟩
  · have key : ∀ m, m ≤ len → ∃ (l : List α) (xs : List Value), l.length = m ∧ (∀ a ∈ l, p a) ∧ RepRows w (fun b => b < w.heap.size) sz (l.map c) xs [] ∧ (m ≠ 0 → a.spot = none ∧ a.block < w.heap.size) ∧ At w a.block a.off xs := by
      intro m
      induction m with
      | zero => intro _; exact ⟨[], [], rfl, by simp, by simp [RepRows], by simp, by intro j u hj; simp at hj⟩
      | succ m ih =>
        intro hm
        obtain ⟨l, xs, hl, hp, hrows, hsp, hat⟩ := ih (by omega)
        have h1 := hel m (by omega)
        have h2 : elems[m]? = some elems[m] := by simp
        rw [h2, Option.bind_eq_some_iff] at h1
        obtain ⟨csm, hcm, htm⟩ := h1
        obtain ⟨am, hpm, hrow⟩ := he _ _ _ htm
        have hlm := hrow.length
        rw [hc] at hlm
        obtain ⟨hbase, hcl, hcells⟩ := World.cells?_some hcm
        rw [hsz] at hcells hcl
        have hxl := hrows.length
        rw [List.length_map, hl] at hxl
        have hcell : ∀ i u, csm[i]? = some u → w.cell? ((a.add (m * sz)).add i) = some u := by
          intro i u hu
          have hi : i < sz := by have := (List.getElem?_eq_some_iff.1 hu).1; omega
          rw [hcells i hi]; exact hu
        have hspot : a.spot = none ∧ a.block < w.heap.size := by
          by_cases hm0 : m = 0
          · subst hm0
            have h0 : csm[0]? = some csm[0] := by simp
            have := hcell 0 _ h0
            rw [Nat.zero_mul] at this
            have e0 : (a.add 0).add 0 = a := by simp [Addr.add]
            rw [e0] at this
            exact ⟨World.cell?_spot this, World.block_lt_of_cell? w _ this⟩
          · exact hsp hm0
        refine ⟨l ++ [am], xs ++ csm, by simp [hl], ?_, ?_, fun _ => hspot, ?_⟩
        · intro b hb
          rcases List.mem_append.1 hb with h | h
          · exact hp b h
          · simp at h; rw [h]; exact hpm
        · rw [List.map_append]
          have h1 : RepRows w (fun b => b < w.heap.size) sz [c am] csm [] := by
            simp only [RepRows]
            exact ⟨csm, [], [], [], by simp, rfl, hc am, hrow, rfl, rfl⟩
          exact hrows.append h1
        · intro j u hj
          by_cases hjx : j < xs.length
          · rw [List.getElem?_append_left hjx] at hj
            exact hat j u hj
          · rw [List.getElem?_append_right (by omega)] at hj
            have := hcell _ _ hj
            obtain ⟨b, o, sp⟩ := a
            obtain ⟨hs, _⟩ := hspot
            simp only at hs
            subst hs
            rw [Addr.add_lit, Addr.add_lit] at this
            rw [← this]
            congr 2
            show o + j = o + m * sz + (j - xs.length)
            omega
    obtain ⟨l, xs, hl, hp, hrows, hsp, hat⟩ := key len (Nat.le_refl _)
    refine ⟨l, ⟨hp, by omega⟩, row_one ?_⟩
    simp only [RepC]
    refine ⟨trivial, some a, cap, by rw [List.length_map, hl], by rw [List.length_map, hl]; exact hle, ?_⟩
    by_cases h0 : len = 0
    · left
      have : l = [] := by rw [← List.length_eq_zero_iff, hl, h0]
      simp [this]
    · right
      obtain ⟨hs, hb⟩ := hsp h0
      obtain ⟨b, o, sp⟩ := a
      simp only at hs
      subst hs
      exact ⟨b, o, xs, rfl, hb, hrows, hat⟩

theorem Reads.map {α β : Type} {c : α → List AV} {p : α → Prop} (h : Reads enc P w base spare held t c p) {c' : β → List AV} {p' : β → Prop} (f : α → β) (hc : ∀ a, c' (f a) = c a) (hp : ∀ a, p a → p' (f a)) : Reads enc P w base spare held t c' p' := by
  intro fuel cs x hx
  obtain ⟨a, ha, hr⟩ := h fuel cs x hx
  exact ⟨f a, hp a ha, by rw [hc]; exact hr⟩

/-- The fields' cells, one behind the other. -/
def Segs (enc : TypeId × Value → H) (P : Program) (w : World) (base : Nat) (spare : Nat → Bool) (held : Bool) (n : Nat) : List TypeId → List Value → Prop
  | [], cs => cs = []
  | ty :: tys, cs => (∃ y, DataW.trod enc P w base spare held n ty (cs.take (P.cellsOf ty)) = some y) ∧ Segs enc P w base spare held n tys (cs.drop (P.cellsOf ty))

def SegR (enc : TypeId × Value → H) (P : Program) (w : World) (base : Nat) (spare : Nat → Bool) (held : Bool) (tys : List TypeId) {α : Type} (c : α → List AV) (p : α → Prop) : Prop :=
  ∀ n cs, Segs enc P w base spare held n tys cs → ∃ a, p a ∧ RepRow w (fun b => b < w.heap.size) (c a) cs []

theorem seg_nil : SegR enc P w base spare held [] (fun _ : Unit => []) (fun _ => True) := by
  intro n cs h
  simp only [Segs] at h
  exact ⟨(), trivial, by simp [RepRow, h]⟩

theorem seg_cons {α β : Type} {ty : TypeId} {tys : List TypeId} {c : α → List AV} {p : α → Prop} {d : β → List AV} {q : β → Prop} (h1 : Reads enc P w base spare held ty c p) (h2 : SegR enc P w base spare held tys d q) :
    SegR enc P w base spare held (ty :: tys) (fun x : α × β => c x.1 ++ d x.2) (fun x => p x.1 ∧ q x.2) := by
  intro n cs h
  simp only [Segs] at h
  obtain ⟨⟨y, hy⟩, hr⟩ := h
  obtain ⟨a, ha, ra⟩ := h1 _ _ _ hy
  obtain ⟨b, hb, rb⟩ := h2 _ _ hr
  refine ⟨(a, b), ⟨ha, hb⟩, ?_⟩
  have := row_join ra rb
  rwa [List.take_append_drop] at this

/-- Are these the fields, from offset k and field i on, and do they fill the struct? -/
def segOk (P : Program) (fs : Array Field) (sz : Nat) : Nat → Nat → List TypeId → Bool
  | i, k, [] => k == sz
  | i, k, ty :: tys => (match fs[i]? with | some f => f.type == ty && f.offset == k | none => false) && segOk P fs sz (i + 1) (k + P.cellsOf ty) tys

def strOk (P : Program) (t : TypeId) (tys : List TypeId) : Bool :=
  match P.underlying t with
  | some (.struct fs) => segOk P fs (P.cellsOf t) 0 0 tys
  | _ => false

theorem reads_struct {α : Type} {tys : List TypeId} {c : α → List AV} {p : α → Prop} (hok : strOk P t tys = true) (h : SegR enc P w base spare held tys c p) : Reads enc P w base spare held t c p := by
  intro fuel cs x hx
  unfold strOk at hok
  split at hok
  rotate_left
  · cases hok
  rename_i fs hu
  obtain ⟨xs, n, _, _, hl, hxs, hf⟩ := DataW.trod_struct hu hx
  have key : ∀ (tys : List TypeId) (i k : Nat), segOk P fs (P.cellsOf t) i k tys = true → Segs enc P w base spare held n tys (cs.drop k) := by
    intro tys
    induction tys with
    | nil =>
      intro i k hk
      simp only [segOk, beq_iff_eq] at hk
      simp only [Segs]
      rw [hk, ← hl]; simp
    | cons ty tys ih =>
      intro i k hk
      simp only [segOk, Bool.and_eq_true] at hk
      obtain ⟨h1, h2⟩ := hk
      split at h1
      rotate_left
      · cases h1
      rename_i f hfi
      simp only [Bool.and_eq_true, beq_iff_eq] at h1
      obtain ⟨rfl, rfl⟩ := h1
      have h3 := hf i f hfi
      have hi : i < xs.length := by rw [hxs]; exact (Array.getElem?_eq_some_iff.1 hfi).1
      simp only [Segs]
      refine ⟨⟨xs[i], by rw [h3]; simp⟩, ?_⟩
      rw [List.drop_drop]
      exact ih (i + 1) _ h2
  have := key tys 0 0 hok
  rw [List.drop_zero] at this
  exact h _ _ this

/-- An argument that is one cell. -/
theorem open_one {α : Type} {c : α → AV} {p : α → Prop} {v : Value} {d : DataW H} {ps : List MemPlace} {L : Locs} (hv : v.cells.toList = [v]) (h : Reads enc P w base spare held t (fun a => [c a]) p) (hd : DataW.Trod enc P w base spare held t v d ps) :
    ∃ a, p a ∧ RepV w (fun b => b < w.heap.size) L (c a) v [] := by
  obtain ⟨fuel, hf⟩ := hd
  obtain ⟨a, ha, hr⟩ := h _ _ _ hf
  rw [hv] at hr
  simp only [RepRow] at hr
  obtain ⟨x, xs', o1, o2, hx, ho, hc, _⟩ := hr
  obtain ⟨rfl, rfl⟩ : o1 = [] ∧ o2 = [] := by simpa using ho.symm
  simp only [List.cons.injEq] at hx
  rw [← hx.1] at hc
  exact ⟨a, ha, hc.toV⟩

/-- A contract of a law: of what was there nothing has turned. -/
theorem Does.law {f : FuncId} {al : Bool} {b : Bool} {args outs : List AV} (h : Does P f args al (.v (.bool b)) outs) (W : World) {xs : List Value} (hr : RepVs W (fun b => b < W.heap.size) noL args xs []) :
    Calls P f xs.toArray W fun e W' => e = .returned (.bool b) ∧ Go.RowKit.Below W.heap.size W W' := by
  refine (h.2 W (fun b => b < W.heap.size) xs [] hr (by simp) (by simp) (fun b hb => hb)).mono ?_
  rintro e W' ⟨x, ox, oo, rfl, hext, hr, _⟩
  simp only [RepV, RepC] at hr
  rw [hr.1]
  exact ⟨rfl, ⟨hext.os, hext.tape, hext.output, hext.size, fun k hk => hext.blk k hk (by simp)⟩⟩

/-- What was read is read again. -/
theorem trodAll_below {w' : World} (bel : Go.RowKit.Below w.heap.size w w') : ∀ {ts : List TypeId} {vs : List Value} {ds : List (DataW H)} {ps : List MemPlace}, DataW.TrodAll enc P w base spare held ts vs ds ps → DataW.TrodAll enc P w' base spare held ts vs ds ps
  | [], [], [], ps, h => h
  | t :: ts, v :: vs, d :: ds, ps, h => by
    obtain ⟨p, q, h1, h2, rfl⟩ := h
    refine ⟨p, q, ?_, trodAll_below bel h2, rfl⟩
    obtain ⟨fuel, hf⟩ := h1
    exact ⟨fuel, DataW.trod_carry fuel t _ _ hf (fun m hm => bel.same (DataW.trod_lt fuel t _ _ hf m hm))⟩
  | [], [], _ :: _, _, h => h.elim
  | [], _ :: _, _, _, h => h.elim
  | _ :: _, [], _, _, h => h.elim
  | _ :: _, _ :: _, [], _, h => h.elim
end
end Go.AM
