/- Contracts of functions of the given program, for the law FnExactLayoutOf: what they return and what they write, under the bounds that each theorem states. -/
import Derived.Test.YtjbmgopednpbmaaGreatF3
import Derived.Test.YtjbmgopednpbmaaGreatProg
import Derived.RangeFuncBox
import Derived.RangeFuncLeaves
import Derived.RangeFuncNested
import Derived.Shelf.Abstract
import Derived.WalkKit
import Derived.OwnWalkIn
import Derived.TacticsInMore
import Derived.LoopNIn
import Derived.LoopIn
namespace Go.AM
set_option linter.unusedVariables false
set_option linter.unusedSimpArgs false
def lett (b : Int) : Bool := decide (65 ≤ b) && decide (b ≤ 90) || decide (97 ≤ b) && decide (b ≤ 122)

def digt (b : Int) : Bool := decide (48 ≤ b) && decide (b ≤ 57)

def chOk (s : ByteArray) (i : Nat) : Bool := lett (sAt s i) || (i != 0 && digt (sAt s i))

def chsOk (s : ByteArray) (i : Nat) : Prop := ∀ j, j < i → chOk s j = true

open Classical in
noncomputable def nameOk (s : ByteArray) : Bool := decide (chsOk s s.size ∧ 1 ≤ s.size ∧ s.size ≤ 10)

end Go.AM
namespace Go.AM
set_option linter.unusedVariables false
set_option linter.unusedSimpArgs false
structure Fd where
  name : ByteArray
  mark : Int
  typ : Int

def Fd.z (s : Fd) : List AV := [.v (.string s.name), .v (.int .i64 s.mark), .v (.int .i64 s.typ)]

def Fd.o (s : Fd) : List AV := [.v (.string s.name), .v (.int .i64 s.mark), .v (.int .i64 s.typ)]

theorem Fd.fr (s : Fd) : frzRow s.o = s.z := by
  simp only [Fd.o, Fd.z, frzRow, frzL, List.cons_append, List.nil_append]

theorem Fd.frz : ∀ l : List Fd, frzRows (l.map Fd.o) = l.map Fd.z
  | [] => rfl
  | s :: l => by simp only [List.map_cons, frzRows, Fd.fr, Fd.frz l]

def Fd.ok (s : Fd) : Prop := (s.name.size : Int) ≤ 9223372036854775807 ∧ (-9223372036854775808 ≤ s.mark ∧ s.mark ≤ 9223372036854775807) ∧ (-9223372036854775808 ≤ s.typ ∧ s.typ ≤ 9223372036854775807)

end Go.AM
namespace Go.AM
set_option linter.unusedVariables false
set_option linter.unusedSimpArgs false
structure Ty where
  kind : Int
  long : Int
  base : Int
  fields : List Fd
  owner : ByteArray
  name : ByteArray

def Ty.z (s : Ty) : List AV := [.v (.int .i64 s.kind), .v (.int .i64 s.long), .v (.int .i64 s.base), .fsl 3 (s.fields.map Fd.z), .v (.string s.owner), .v (.string s.name)]

def Ty.o (s : Ty) : List AV := [.v (.int .i64 s.kind), .v (.int .i64 s.long), .v (.int .i64 s.base), .usl 56 3 (s.fields.map Fd.o), .v (.string s.owner), .v (.string s.name)]

theorem Ty.fr (s : Ty) : frzRow s.o = s.z := by
  simp only [Ty.o, Ty.z, frzRow, frzL, List.cons_append, List.nil_append, Fd.frz]

theorem Ty.frz : ∀ l : List Ty, frzRows (l.map Ty.o) = l.map Ty.z
  | [] => rfl
  | s :: l => by simp only [List.map_cons, frzRows, Ty.fr, Ty.frz l]

def Ty.ok (s : Ty) : Prop := (-9223372036854775808 ≤ s.kind ∧ s.kind ≤ 9223372036854775807) ∧ (-9223372036854775808 ≤ s.long ∧ s.long ≤ 9223372036854775807) ∧ (-9223372036854775808 ≤ s.base ∧ s.base ≤ 9223372036854775807) ∧ ((s.fields.length : Int) ≤ 9223372036854775807 ∧ ∀ y ∈ s.fields, y.ok) ∧ (s.owner.size : Int) ≤ 9223372036854775807 ∧ (s.name.size : Int) ≤ 9223372036854775807

end Go.AM
namespace Go.AM
set_option linter.unusedVariables false
set_option linter.unusedSimpArgs false
structure Par where
  name : ByteArray
  byvar : Bool
  typ : Int

def Par.z (s : Par) : List AV := [.v (.string s.name), .v (.bool s.byvar), .v (.int .i64 s.typ)]

def Par.o (s : Par) : List AV := [.v (.string s.name), .v (.bool s.byvar), .v (.int .i64 s.typ)]

theorem Par.fr (s : Par) : frzRow s.o = s.z := by
  simp only [Par.o, Par.z, frzRow, frzL, List.cons_append, List.nil_append]

theorem Par.frz : ∀ l : List Par, frzRows (l.map Par.o) = l.map Par.z
  | [] => rfl
  | s :: l => by simp only [List.map_cons, frzRows, Par.fr, Par.frz l]

def Par.ok (s : Par) : Prop := (s.name.size : Int) ≤ 9223372036854775807 ∧ True ∧ (-9223372036854775808 ≤ s.typ ∧ s.typ ≤ 9223372036854775807)

end Go.AM
namespace Go.AM
set_option linter.unusedVariables false
set_option linter.unusedSimpArgs false
structure Ob where
  name : ByteArray
  kind : Int
  mark : Int
  typ : Int
  value : Int
  params : List Par

def Ob.z (s : Ob) : List AV := [.v (.string s.name), .v (.int .i64 s.kind), .v (.int .i64 s.mark), .v (.int .i64 s.typ), .v (.int .i64 s.value), .fsl 3 (s.params.map Par.z)]

end Go.AM
namespace Go.AM
set_option linter.unusedVariables false
set_option linter.unusedSimpArgs false
structure Us where
  mod : ByteArray
  name : ByteArray

def Us.z (s : Us) : List AV := [.v (.string s.mod), .v (.string s.name)]

def Us.o (s : Us) : List AV := [.v (.string s.mod), .v (.string s.name)]

theorem Us.fr (s : Us) : frzRow s.o = s.z := by
  simp only [Us.o, Us.z, frzRow, frzL, List.cons_append, List.nil_append]

theorem Us.frz : ∀ l : List Us, frzRows (l.map Us.o) = l.map Us.z
  | [] => rfl
  | s :: l => by simp only [List.map_cons, frzRows, Us.fr, Us.frz l]

def Us.ok (s : Us) : Prop := (s.mod.size : Int) ≤ 9223372036854775807 ∧ (s.name.size : Int) ≤ 9223372036854775807

structure Seen where
  mod : ByteArray
  name : ByteArray
  sum : Int

def Seen.z (s : Seen) : List AV := [.v (.string s.mod), .v (.string s.name), .v (.int .i64 s.sum)]

def Seen.o (s : Seen) : List AV := [.v (.string s.mod), .v (.string s.name), .v (.int .i64 s.sum)]

theorem Seen.fr (s : Seen) : frzRow s.o = s.z := by
  simp only [Seen.o, Seen.z, frzRow, frzL, List.cons_append, List.nil_append]

theorem Seen.frz : ∀ l : List Seen, frzRows (l.map Seen.o) = l.map Seen.z
  | [] => rfl
  | s :: l => by simp only [List.map_cons, frzRows, Seen.fr, Seen.frz l]

def Seen.ok (s : Seen) : Prop := (s.mod.size : Int) ≤ 9223372036854775807 ∧ (s.name.size : Int) ≤ 9223372036854775807 ∧ (-9223372036854775808 ≤ s.sum ∧ s.sum ≤ 9223372036854775807)

structure Str where
  s : ByteArray

def Str.z (s : Str) : List AV := [.v (.string s.s)]

def Str.o (s : Str) : List AV := [.v (.string s.s)]

theorem Str.fr (s : Str) : frzRow s.o = s.z := by
  simp only [Str.o, Str.z, frzRow, frzL, List.cons_append, List.nil_append]

theorem Str.frz : ∀ l : List Str, frzRows (l.map Str.o) = l.map Str.z
  | [] => rfl
  | s :: l => by simp only [List.map_cons, frzRows, Str.fr, Str.frz l]

def Str.ok (s : Str) : Prop := (s.s.size : Int) ≤ 9223372036854775807

end Go.AM
namespace Go.AM
set_option linter.unusedVariables false
set_option linter.unusedSimpArgs false
def eqTo {α : Type} (q : α → α → Bool) (a b : List α) (n : Nat) : Prop := ∀ j (ha : j < a.length) (hb : j < b.length), j < n → q a[j] b[j] = true

open Classical in
noncomputable def eqL {α : Type} (q : α → α → Bool) (a b : List α) : Bool := decide (a.length = b.length ∧ eqTo q a b a.length)

def qFd (x y : Fd) : Bool := x.name.toList == y.name.toList && (x.mark == y.mark && (x.typ == y.typ))

end Go.AM
namespace Go.AM
set_option linter.unusedVariables false
set_option linter.unusedSimpArgs false
noncomputable def sameTy (x y : Ty) : Bool := ((x.kind == y.kind) && ((x.long == y.long) && ((x.base == y.base) && ((eqL qFd x.fields y.fields) && ((x.owner.toList == y.owner.toList) && (x.name.toList == y.name.toList))))))

end Go.AM
namespace Go.AM
set_option linter.unusedVariables false
set_option linter.unusedSimpArgs false
/-- Are these of one name? -/
def tyNm (x o : Ty) : Bool := o.name.toList == x.name.toList && o.owner.toList == x.owner.toList

def fdNm (x o : Fd) : Bool := o.name.toList == x.name.toList

def baseTs : List Ty := [⟨1, 0, -1, [], ⟨#[]⟩, ⟨#[73, 78, 84]⟩⟩, ⟨2, 0, -1, [], ⟨#[]⟩, ⟨#[66, 79, 79, 76]⟩⟩, ⟨3, 0, -1, [], ⟨#[]⟩, ⟨#[67, 72, 65, 82]⟩⟩]

def isNum (l : List Ty) (n : Int) : Bool := decide (0 ≤ n) && decide (n ≤ (l.length : Int) - 1)

def kd (l : List Ty) (n : Int) : Int := match l[n.toNat]? with
  | some t => t.kind
  | none => 0

def isRec (l : List Ty) (n : Int) : Bool := isNum l n && kd l n == 5

noncomputable def named (t : Ty) : Bool := nameOk t.name && nameOk t.owner || (t.name.toList == (⟨#[]⟩ : ByteArray).toList && t.owner.toList == (⟨#[]⟩ : ByteArray).toList)

end Go.AM
namespace Go.AM
set_option linter.unusedVariables false
set_option linter.unusedSimpArgs false
/-- A whole number as a row of one cell. -/
def iv (n : Int) : List AV := [.v (.int .i64 n)]

end Go.AM
namespace Go.AM
set_option linter.unusedVariables false
set_option linter.unusedSimpArgs false
def nil' (s : ByteArray) : Bool := s.toList == (⟨#[]⟩ : ByteArray).toList

noncomputable def fdAt (l : List Ty) (fs : List Fd) (i : Nat) (h : i < fs.length) : Bool :=
  (decide (0 ≤ fs[i].mark) && decide (fs[i].mark ≤ 2)) && (isNum l fs[i].typ && (if nil' fs[i].name = true then fs[i].mark == 0 else nameOk fs[i].name && !((fs.take i).any (fdNm fs[i]))))

def fdTo (l : List Ty) (fs : List Fd) (n : Nat) : Prop := ∀ i (h : i < fs.length), i < n → fdAt l fs i h = true

open Classical in
noncomputable def fdsOk (l : List Ty) (fs : List Fd) : Bool := decide (fdTo l fs fs.length ∧ fs.length ≤ 6)

end Go.AM
namespace Go.AM
set_option linter.unusedVariables false
set_option linter.unusedSimpArgs false
noncomputable def tyOk (l : List Ty) (t : Ty) : Bool :=
  named t && (!((!(t.kind == 5)) && decide (0 < (t.fields.length : Int))) &&
  (if (t.kind == 4) = true then (decide (1 ≤ t.long) && decide (t.long ≤ 1000)) && isNum l t.base
  else if (t.kind == 5) = true then ((t.long == 0) && ((t.base == -1) || isRec l t.base)) && fdsOk l t.fields
  else if (t.kind == 6) = true then (t.long == 0) && (isRec l t.base || (isNum l t.base && kd l t.base == 4))
  else false))

end Go.AM
namespace Go.AM
set_option linter.unusedVariables false
set_option linter.unusedSimpArgs false
noncomputable def tyAt (l m : List Ty) (i : Nat) (h : i < m.length) : Bool :=
  !(!nil' m[i].name && (m.take i).any (tyNm m[i])) && tyOk l m[i]

def tyTo (l m : List Ty) (n : Nat) : Prop := ∀ i (h : i < m.length), i < n → tyAt l m i h = true

open Classical in
noncomputable def tysOk (l : List Ty) : Bool := (decide (3 ≤ (l.length : Int)) && decide ((l.length : Int) ≤ 24)) && (eqL sameTy (l.take 3) baseTs && decide (tyTo l (l.drop 3) (l.drop 3).length))

theorem base_len : baseTs.length = 3 := rfl

end Go.AM
namespace Go.AM
set_option linter.unusedVariables false
set_option linter.unusedSimpArgs false
def prt (ptr : Bool) (t : Ty) : List Int := (if (decide (0 ≤ t.base) && (ptr || !(t.kind == 6))) = true then [t.base] else []) ++ t.fields.map Fd.typ

def kids (l : List Ty) (ptr : Bool) (n : Int) : List Int := match l[n.toNat]? with
  | some t => prt ptr t
  | none => []

theorem kids_at {l : List Ty} {ptr : Bool} {n : Int} (h : n.toNat < l.length) : kids l ptr n = prt ptr l[n.toNat] := by simp [kids, h]

inductive Rch (l : List Ty) (ptr : Bool) (fr : List Int) : Int → Prop where
  | base {n : Int} : n ∈ fr → Rch l ptr fr n
  | step {m n : Int} : Rch l ptr fr m → n ∈ kids l ptr m → Rch l ptr fr n

theorem Rch.mono {l : List Ty} {ptr : Bool} {fr fr' : List Int} (h : ∀ n ∈ fr, Rch l ptr fr' n) {n : Int} (hr : Rch l ptr fr n) : Rch l ptr fr' n := by
  induction hr with
  | base hm => exact h _ hm
  | step _ hk ih => exact .step ih hk

/-- All parts are numbers of types. -/
def kidsIn (l : List Ty) : Prop := ∀ n : Int, 0 ≤ n → n < l.length → ∀ k ∈ kids l true n, 0 ≤ k ∧ k < (l.length : Int)

theorem kids_sub {l : List Ty} {ptr : Bool} {n k : Int} (h : k ∈ kids l ptr n) : k ∈ kids l true n := by
  cases ptr with
  | true => exact h
  | false =>
    unfold kids at h ⊢
    split
    · rename_i t ht
      rw [ht] at h
      simp only [prt, List.mem_append] at h ⊢
      rcases h with h | h
      · left
        split at h
        · rename_i hc
          rw [if_pos (by simp only [Bool.and_eq_true] at hc ⊢; exact ⟨hc.1, rfl⟩)]
          exact h
        · simp at h
      · exact .inr h
    · rename_i ht; rw [ht] at h; exact h

theorem Rch.inr {l : List Ty} {ptr : Bool} {fr : List Int} (hk : kidsIn l) (hf : ∀ k ∈ fr, 0 ≤ k ∧ k < (l.length : Int)) {n : Int} (h : Rch l ptr fr n) : 0 ≤ n ∧ n < (l.length : Int) := by
  induction h with
  | base hm => exact hf _ hm
  | step _ hm ih => exact hk _ ih.1 ih.2 _ (kids_sub hm)

open Classical in
noncomputable def reachL (l : List Ty) (ptr : Bool) (fr : List Int) : List Int := ((List.range l.length).map Int.ofNat).filter fun n => decide (Rch l ptr fr n)

theorem mem_reachL {l : List Ty} {ptr : Bool} {fr : List Int} {n : Int} : n ∈ reachL l ptr fr ↔ (0 ≤ n ∧ n < (l.length : Int)) ∧ Rch l ptr fr n := by
  simp only [reachL, List.mem_filter, List.mem_map, List.mem_range, decide_eq_true_eq]
  constructor
  · rintro ⟨⟨k, hk, rfl⟩, h⟩
    exact ⟨⟨Int.natCast_nonneg k, by exact Int.ofNat_lt.2 hk⟩, h⟩
  · rintro ⟨⟨h0, h1⟩, h⟩
    exact ⟨⟨n.toNat, by omega, by exact Int.toNat_of_nonneg h0⟩, h⟩

noncomputable def roundAt (l : List Ty) (n : Int) : Bool := (reachL l false (kids l false n)).contains n

noncomputable def tabOk (l : List Ty) : Bool := tysOk l && (List.range l.length).all fun n => !roundAt l (n : Int)

/-- How deep a type is. -/
noncomputable def rk (l : List Ty) (n : Int) : Nat := (reachL l false (kids l false n)).length

theorem filter_lt {p q : Int → Bool} : ∀ {L : List Int} {x : Int}, (∀ y ∈ L, p y = true → q y = true) → x ∈ L → q x = true → p x = false → (L.filter p).length < (L.filter q).length
  | [], x, _, hx, _, _ => by simp at hx
  | y :: L, x, h, hx, h1, h2 => by
    have le : ∀ {L : List Int}, (∀ y ∈ L, p y = true → q y = true) → (L.filter p).length ≤ (L.filter q).length := by
      intro L h
      induction L with
      | nil => simp
      | cons z L ih =>
        have := ih fun y hy => h y (by simp [hy])
        have hz := h z (by simp)
        rw [List.filter_cons, List.filter_cons]
        cases ep : p z <;> cases eq : q z <;> simp [ep, eq] at hz ⊢ <;> omega
    rw [List.filter_cons, List.filter_cons]
    have hy := h y (by simp)
    rcases List.mem_cons.1 hx with e | hx
    · subst e
      have := le (L := L) fun z hz => h z (by simp [hz])
      simp [h1, h2]; omega
    · have ih := filter_lt (L := L) (fun z hz => h z (by simp [hz])) hx h1 h2
      cases ep : p y <;> cases eq : q y <;> simp [ep, eq] at hy ⊢ <;> omega

theorem tabOk_tys {l : List Ty} (h : tabOk l = true) : tysOk l = true := by simp only [tabOk, Bool.and_eq_true] at h; exact h.1

theorem tabOk_round {l : List Ty} (h : tabOk l = true) {n : Int} (h0 : 0 ≤ n) (h1 : n < (l.length : Int)) : roundAt l n = false := by
  simp only [tabOk, Bool.and_eq_true, List.all_eq_true, List.mem_range] at h
  have := h.2 n.toNat (by omega)
  rw [Int.toNat_of_nonneg h0] at this
  simpa using this

theorem getElem_drop3 {l : List Ty} {n : Nat} (h3 : 3 ≤ n) (h : n < l.length) : ∃ h' : n - 3 < (l.drop 3).length, (l.drop 3)[n - 3] = l[n] := by
  refine ⟨by simp; omega, ?_⟩
  rw [List.getElem_drop]
  congr 1
  omega

theorem sameTy_base {a b : Ty} (h : sameTy a b = true) : a.kind = b.kind ∧ a.long = b.long ∧ a.base = b.base ∧ a.fields.length = b.fields.length ∧ (a.name.toList == b.name.toList) = true := by
  simp only [sameTy, Bool.and_eq_true, beq_iff_eq] at h
  obtain ⟨h1, h2, h3, h4, h5, h6⟩ := h
  refine ⟨h1, h2, h3, ?_, by rw [h6]; exact beq_self_eq_true _⟩
  simp only [eqL, decide_eq_true_eq] at h4
  exact h4.1

theorem tysOk_ty {l : List Ty} (h : tysOk l = true) {n : Nat} (h3 : 3 ≤ n) (hn : n < l.length) : tyOk l l[n] = true := by
  simp only [tysOk, Bool.and_eq_true, decide_eq_true_eq] at h
  obtain ⟨h', e⟩ := getElem_drop3 h3 hn
  have := h.2.2 (n - 3) h' h'
  simp only [tyAt, Bool.and_eq_true, e] at this
  exact this.2

theorem tysOk_base {l : List Ty} (h : tysOk l = true) {n : Nat} (h3 : n < 3) (hn : n < l.length) : l[n].kind = (n : Int) + 1 ∧ l[n].long = 0 ∧ l[n].base = -1 ∧ l[n].fields = [] := by
  simp only [tysOk, Bool.and_eq_true, decide_eq_true_eq, eqL] at h
  obtain ⟨_, ⟨he, ht⟩, _⟩ := h
  have h1 : n < (l.take 3).length := by simp; omega
  have h2 : n < baseTs.length := by rw [base_len]; exact h3
  have hs := ht n h1 h2 (by omega)
  rw [List.getElem_take] at hs
  obtain ⟨q1, q2, q3, q4, _⟩ := sameTy_base hs
  have : n = 0 ∨ n = 1 ∨ n = 2 := by omega
  rcases this with rfl | rfl | rfl <;> exact ⟨q1, q2, q3, List.eq_nil_of_length_eq_zero q4⟩

theorem fdsOk_at {l : List Ty} {fs : List Fd} (h : fdsOk l fs = true) : fs.length ≤ 6 ∧ ∀ f ∈ fs, isNum l f.typ = true := by
  simp only [fdsOk, decide_eq_true_eq] at h
  refine ⟨h.2, fun f hf => ?_⟩
  obtain ⟨i, hi, rfl⟩ := List.mem_iff_getElem.1 hf
  have := h.1 i hi hi
  simp only [fdAt, Bool.and_eq_true] at this
  exact this.2.1

/-- What a good type says. -/
structure TyGood (l : List Ty) (t : Ty) : Prop where
  base : t.base = -1 ∨ isNum l t.base = true
  flds : ∀ f ∈ t.fields, isNum l f.typ = true
  few : t.fields.length ≤ 6
  none : t.kind ≠ 5 → t.fields = []
  rec5 : t.kind = 5 → t.base = -1 ∨ isRec l t.base = true
  arr : t.kind = 4 → isNum l t.base = true ∧ 1 ≤ t.long ∧ t.long ≤ 1000
  ptr : t.kind = 6 → isNum l t.base = true ∧ (kd l t.base = 5 ∨ kd l t.base = 4)
  one : 1 ≤ t.kind ∧ t.kind ≤ 6
  low : t.kind ≤ 3 → t.base = -1

theorem tyOk_good {l : List Ty} {t : Ty} (h : tyOk l t = true) : TyGood l t := by
  simp only [tyOk, Bool.and_eq_true, Bool.not_eq_true', Bool.and_eq_false_iff] at h
  obtain ⟨_, h2, h3⟩ := h
  have hrec : ∀ {n : Int}, isRec l n = true → isNum l n = true := fun h => by simp only [isRec, Bool.and_eq_true] at h; exact h.1
  have hnone : t.kind ≠ 5 → t.fields = [] := by
    intro hk
    rcases h2 with h2 | h2
    · simp at h2; exact absurd h2 hk
    · have : ¬ (0 : Int) < t.fields.length := by simpa using h2
      exact List.eq_nil_of_length_eq_zero (by omega)
  by_cases k4 : t.kind = 4
  · have : (t.kind == 4) = true := by simp [k4]
    rw [if_pos this] at h3
    simp only [Bool.and_eq_true, decide_eq_true_eq] at h3
    have hf := hnone (by omega)
    exact ⟨.inr h3.2, by rw [hf]; simp, by rw [hf]; simp, hnone, by omega, fun _ => ⟨h3.2, h3.1⟩, by omega, by omega, by omega⟩
  have e4 : ¬ (t.kind == 4) = true := by simpa using k4
  rw [if_neg e4] at h3
  by_cases k5 : t.kind = 5
  · have : (t.kind == 5) = true := by simp [k5]
    rw [if_pos this] at h3
    simp only [Bool.and_eq_true, beq_iff_eq, Bool.or_eq_true] at h3
    obtain ⟨⟨_, hb⟩, hf⟩ := h3
    obtain ⟨f1, f2⟩ := fdsOk_at hf
    exact ⟨hb.imp id hrec, f2, f1, hnone, fun _ => hb, by omega, by omega, by omega, by omega⟩
  have e5 : ¬ (t.kind == 5) = true := by simpa using k5
  rw [if_neg e5] at h3
  by_cases k6 : t.kind = 6
  · have : (t.kind == 6) = true := by simp [k6]
    rw [if_pos this] at h3
    simp only [Bool.and_eq_true, beq_iff_eq, Bool.or_eq_true] at h3
    obtain ⟨_, hb⟩ := h3
    have hf := hnone (by omega)
    have hnum : isNum l t.base = true := hb.elim hrec fun h => h.1
    exact ⟨.inr hnum, by rw [hf]; simp, by rw [hf]; simp, hnone, by omega, by omega, fun _ => ⟨hnum, hb.imp (fun h => by simp only [isRec, Bool.and_eq_true, beq_iff_eq] at h; exact h.2) fun h => h.2⟩, by omega, by omega⟩
  have e6 : ¬ (t.kind == 6) = true := by simpa using k6
  rw [if_neg e6] at h3
  cases h3

theorem tysOk_good {l : List Ty} (h : tysOk l = true) {n : Nat} (hn : n < l.length) : TyGood l l[n] := by
  by_cases h3 : 3 ≤ n
  · exact tyOk_good (tysOk_ty h h3 hn)
  · obtain ⟨q1, q2, q3, q4⟩ := tysOk_base h (by omega) hn
    exact ⟨.inl q3, by rw [q4]; simp, by rw [q4]; simp, fun _ => q4, by omega, by omega, by omega, by omega, fun _ => q3⟩

theorem isNum_in {l : List Ty} {n : Int} : isNum l n = true ↔ 0 ≤ n ∧ n < (l.length : Int) := by
  simp only [isNum, Bool.and_eq_true, decide_eq_true_eq]; omega

theorem tysOk_kids {l : List Ty} (h : tysOk l = true) : kidsIn l := by
  intro n h0 h1 k hk
  have hn : n.toNat < l.length := by omega
  have G := tysOk_good h hn
  rw [kids_at hn] at hk
  simp only [prt, List.mem_append, List.mem_map] at hk
  rcases hk with hk | ⟨f, hf, rfl⟩
  · split at hk
    · rename_i hc
      simp only [Bool.and_eq_true, decide_eq_true_eq] at hc
      simp only [List.mem_singleton] at hk
      subst hk
      rcases G.base with hb | hb
      · omega
      · exact isNum_in.1 hb
    · simp at hk
  · exact isNum_in.1 (G.flds f hf)

theorem kids_ok {l : List Ty} (h : tysOk l = true) {n : Int} {ptr : Bool} {k : Int} (h0 : 0 ≤ n) (h1 : n < l.length) (hk : k ∈ kids l ptr n) : 0 ≤ k ∧ k < (l.length : Int) := tysOk_kids h n h0 h1 k (kids_sub hk)

theorem rk_lt {l : List Ty} (h : tabOk l = true) {n k : Int} (h0 : 0 ≤ n) (h1 : n < l.length) (hk : k ∈ kids l false n) : rk l k < rk l n := by
  have ht := tabOk_tys h
  have hki := kids_ok ht h0 h1 hk
  have hrd := tabOk_round h hki.1 hki.2
  refine filter_lt (x := k) ?_ ?_ ?_ ?_
  · intro y _ hy
    simp only [decide_eq_true_eq] at hy ⊢
    exact hy.mono fun m hm => .step (.base hk) hm
  · rw [List.mem_map]; exact ⟨k.toNat, by rw [List.mem_range]; omega, Int.toNat_of_nonneg hki.1⟩
  · simp only [decide_eq_true_eq]; exact .base hk
  · simp only [decide_eq_false_iff_not]
    intro hr
    have : k ∈ reachL l false (kids l false k) := mem_reachL.2 ⟨hki, hr⟩
    simp [roundAt] at hrd
    exact hrd this

end Go.AM
namespace Go.AM
set_option linter.unusedVariables false
set_option linter.unusedSimpArgs false
def addAll (out ks : List Int) : List Int := ks.foldl (fun o k => if o.contains k = true then o else o ++ [k]) out

theorem addAll_spec : ∀ (ks out : List Int), out.Nodup → (addAll out ks).Nodup ∧ (∀ x, x ∈ addAll out ks ↔ x ∈ out ∨ x ∈ ks) ∧ out <+: addAll out ks ∧ (addAll out ks).length ≤ out.length + ks.length
  | [], out, h => ⟨h, by simp [addAll], by simp [addAll], by simp [addAll]⟩
  | k :: ks, out, h => by
    have e : addAll out (k :: ks) = addAll (if out.contains k = true then out else out ++ [k]) ks := rfl
    rw [e]
    rcases hc : out.contains k with _ | _
    · have hno : k ∉ out := fun hm => by rw [← List.contains_iff_mem] at hm; rw [hm] at hc; cases hc
      simp only [Bool.false_eq_true, if_false]
      obtain ⟨a1, a2, a3, a4⟩ := addAll_spec ks (out ++ [k]) (List.nodup_append.2 ⟨h, by simp, fun a ha b hb e => hno (by rw [List.mem_singleton] at hb; rw [← hb, ← e]; exact ha)⟩)
      refine ⟨a1, fun x => ?_, (List.prefix_append _ _).trans a3, by simp at a4 ⊢; omega⟩
      rw [a2]
      simp only [List.mem_append, List.mem_singleton, List.mem_cons, List.not_mem_nil, or_false]
      exact or_assoc
    · have hm : k ∈ out := List.contains_iff_mem.1 hc
      simp only [if_true]
      obtain ⟨a1, a2, a3, a4⟩ := addAll_spec ks out h
      refine ⟨a1, fun x => ?_, a3, by simp; omega⟩
      rw [a2]
      simp only [List.mem_cons]
      constructor
      · rintro (h | h)
        · exact .inl h
        · exact .inr (.inr h)
      · rintro (h | h | h)
        · exact .inl h
        · exact .inl (h ▸ hm)
        · exact .inr h

/-- What holds while the types are gone through in the order in which they were found. -/
structure GoInv (l : List Ty) (ptr : Bool) (fr out : List Int) (i : Nat) : Prop where
  nd : out.Nodup
  frm : ∀ n ∈ fr, n ∈ out
  le : i ≤ out.length
  cl : ∀ j (h : j < out.length), j < i → ∀ k ∈ kids l ptr out[j], k ∈ out
  ro : ∀ n ∈ out, Rch l ptr fr n

theorem GoInv.step {l : List Ty} {ptr : Bool} {fr out : List Int} {i : Nat} (I : GoInv l ptr fr out i) (h : i < out.length) : GoInv l ptr fr (addAll out (kids l ptr out[i])) (i + 1) := by
  obtain ⟨a1, a2, a3, a4⟩ := addAll_spec (kids l ptr out[i]) out I.nd
  have hle := a3.length_le
  refine ⟨a1, fun n hn => (a2 n).2 (.inl (I.frm n hn)), by omega, ?_, ?_⟩
  · intro j hj hji k hk
    have hjo : j < out.length := by omega
    have e : (addAll out (kids l ptr out[i]))[j] = out[j] := (a3.getElem hjo).symm
    rw [e] at hk
    rw [a2]
    by_cases hjj : j = i
    · subst hjj; exact .inr hk
    · exact .inl (I.cl j hjo (by omega) k hk)
  · intro n hn
    rcases (a2 n).1 hn with h1 | h1
    · exact I.ro n h1
    · exact .step (I.ro _ (List.getElem_mem h)) h1

end Go.AM
namespace Go.AM
set_option linter.unusedVariables false
set_option linter.unusedSimpArgs false
theorem rk_le (l : List Ty) (n : Int) : rk l n ≤ l.length := by
  unfold rk reachL
  refine Nat.le_trans (List.length_filter_le _ _) ?_
  simp

end Go.AM
namespace Go.AM
set_option linter.unusedVariables false
set_option linter.unusedSimpArgs false
def capS (t : Ty) (s : Int) : Int := min 1000000001 (if (t.kind == 4) = true then s * t.long else s)

def sumZ (g : Int → Int) : List Int → Int
  | [] => 0
  | k :: ks => g k + sumZ g ks

def oneT (t : Ty) (g : Int → Int) : Int :=
  if (t.kind == 1) = true then 4 else if (t.kind == 2 || t.kind == 3) = true then 1 else if (t.kind == 6) = true then 8 else capS t (sumZ g (prt false t))

def szN (l : List Ty) : Nat → Int → Int
  | 0, _ => 0
  | f + 1, n => match l[n.toNat]? with
    | some t => oneT t (szN l f)
    | none => 0

def sz (l : List Ty) (n : Int) : Int := szN l (l.length + 1) n

theorem sumZ_congr {g g' : Int → Int} : ∀ {ks : List Int}, (∀ k ∈ ks, g k = g' k) → sumZ g ks = sumZ g' ks
  | [], _ => rfl
  | k :: ks, h => by rw [sumZ, sumZ, h k (by simp), sumZ_congr fun k hk => h k (by simp [hk])]

theorem oneT_congr {t : Ty} {g g' : Int → Int} (h : ∀ k ∈ prt false t, g k = g' k) : oneT t g = oneT t g' := by
  unfold oneT; rw [sumZ_congr h]

theorem szN_irr {l : List Ty} (ht : tabOk l = true) : ∀ (f f' : Nat) (n : Int), 0 ≤ n → n < (l.length : Int) → rk l n < f → rk l n < f' → szN l f n = szN l f' n
  | 0, _, n, _, _, h, _ => absurd h (by omega)
  | f + 1, 0, n, _, _, _, h => absurd h (by omega)
  | f + 1, f' + 1, n, h0, h1, h, h' => by
    have hn : n.toNat < l.length := by omega
    simp only [szN, List.getElem?_eq_getElem hn]
    refine oneT_congr fun k hk => ?_
    rw [← kids_at hn] at hk
    have hki := kids_ok (tabOk_tys ht) h0 h1 hk
    have hlt := rk_lt ht h0 h1 hk
    exact szN_irr ht f f' k hki.1 hki.2 (by omega) (by omega)

theorem sz_eq {l : List Ty} (ht : tabOk l = true) {n : Int} (h0 : 0 ≤ n) (h1 : n < (l.length : Int)) {hn : n.toNat < l.length} : sz l n = oneT l[n.toNat] (sz l) := by
  have hr := rk_le l n
  show szN l (l.length + 1) n = _
  rw [szN_irr ht _ (l.length + 2) n h0 h1 (by omega) (by omega)]
  simp only [szN, List.getElem?_eq_getElem hn]
  rfl

theorem sumZ_nn {g : Int → Int} : ∀ {ks : List Int}, (∀ k ∈ ks, 0 ≤ g k) → 0 ≤ sumZ g ks
  | [], _ => by simp [sumZ]
  | k :: ks, h => by have := h k (by simp); have := sumZ_nn (ks := ks) fun k hk => h k (by simp [hk]); simp only [sumZ]; omega

theorem szN_nn {l : List Ty} (ht : tysOk l = true) : ∀ (f : Nat) (n : Int), 0 ≤ szN l f n ∧ szN l f n ≤ 1000000001
  | 0, n => by simp [szN]
  | f + 1, n => by
    unfold szN
    split
    · rename_i t e
      obtain ⟨hn, rfl⟩ := List.getElem?_eq_some_iff.1 e
      unfold oneT
      split
      · omega
      split
      · omega
      split
      · omega
      · have h1 : 0 ≤ sumZ (szN l f) (prt false l[n.toNat]) := sumZ_nn fun k _ => (szN_nn ht f k).1
        unfold capS
        split
        · rename_i hk
          have hl := (tysOk_good ht hn).arr (by simpa using hk)
          have : 0 ≤ sumZ (szN l f) (prt false l[n.toNat]) * l[n.toNat].long := Int.mul_nonneg h1 (by omega)
          omega
        · omega
    · omega

theorem sz_nn {l : List Ty} (ht : tysOk l = true) (n : Int) : 0 ≤ sz l n ∧ sz l n ≤ 1000000001 := szN_nn ht _ _

/-- .. where some sizes are not known yet (below nought). -/
def getS (s : List Int) (k : Int) : Int := s[k.toNat]?.getD 0

def sumP (s : List Int) : List Int → Int → Option Int
  | [], a => some a
  | k :: ks, a => if getS s k < 0 then none else sumP s ks (a + getS s k)

def oneP (t : Ty) (s : List Int) : Int :=
  if (t.kind == 1) = true then 4 else if (t.kind == 2 || t.kind == 3) = true then 1 else if (t.kind == 6) = true then 8 else match sumP s (prt false t) 0 with
    | some x => capS t x
    | none => -1

theorem sumP_all {s : List Int} {g : Int → Int} (hg : ∀ k, 0 ≤ g k) : ∀ {ks : List Int} {a : Int}, (∀ k ∈ ks, getS s k = g k) → sumP s ks a = some (a + sumZ g ks)
  | [], a, _ => by simp [sumP, sumZ]
  | k :: ks, a, h => by
    have h1 := h k (by simp)
    have h2 := hg k
    rw [sumP, if_neg (by omega), sumP_all hg fun k hk => h k (by simp [hk]), sumZ, h1]
    congr 1; omega

theorem sumP_some {s : List Int} {g : Int → Int} (hg : ∀ k, 0 ≤ g k) : ∀ {ks : List Int} {a x : Int}, (∀ k ∈ ks, getS s k = g k ∨ getS s k = -1) → sumP s ks a = some x → x = a + sumZ g ks
  | [], a, x, _, h => by simp only [sumP, Option.some.injEq] at h; simp [sumZ, h]
  | k :: ks, a, x, h, hx => by
    have h1 := h k (by simp)
    unfold sumP at hx
    split at hx
    · cases hx
    · rw [sumP_some hg (fun k hk => h k (by simp [hk])) hx, sumZ]
      omega

theorem oneP_eq {t : Ty} {s : List Int} {g : Int → Int} (hg : ∀ k, 0 ≤ g k) (h : ∀ k ∈ prt false t, getS s k = g k) : oneP t s = oneT t g := by
  unfold oneP oneT
  rw [sumP_all hg h]
  simp

theorem oneP_or {t : Ty} {s : List Int} {g : Int → Int} (hg : ∀ k, 0 ≤ g k) (h : ∀ k ∈ prt false t, getS s k = g k ∨ getS s k = -1) : oneP t s = oneT t g ∨ oneP t s = -1 := by
  unfold oneP oneT
  rcases e : sumP s (prt false t) 0 with _ | x
  · split
    · exact .inl rfl
    split
    · exact .inl rfl
    split
    · exact .inl rfl
    · exact .inr rfl
  · rw [sumP_some hg h e]
    exact .inl (by simp)

end Go.AM
namespace Go.AM
set_option linter.unusedVariables false
set_option linter.unusedSimpArgs false
/-- So far so good: each size is right or not known, and known are those of the first rounds. -/
def SzOk (l : List Ty) (s : List Int) (r i : Nat) : Prop := s.length = l.length ∧ ∀ j : Nat, j < l.length → (getS s j = sz l j ∨ getS s j = -1) ∧ ((rk l j < r ∨ (j < i ∧ rk l j < r + 1)) → getS s j = sz l j)

theorem getS_at {s : List Int} {j : Nat} (h : j < s.length) : getS s (j : Int) = s[j] := by simp [getS, h]

theorem getS_set {s : List Int} {i j : Nat} {v : Int} (hi : i < s.length) : getS (s.set i v) (j : Int) = if j = i then v else getS s (j : Int) := by
  simp only [getS, Int.toNat_natCast]
  by_cases e : j = i
  · subst e; simp [hi]
  · rw [if_neg e, List.getElem?_set_ne (fun h => e h.symm)]

theorem SzOk.at {l : List Ty} {s : List Int} {r i : Nat} (h : SzOk l s r i) {k : Int} (h0 : 0 ≤ k) (h1 : k < (l.length : Int)) : (getS s k = sz l k ∨ getS s k = -1) ∧ (rk l k < r → getS s k = sz l k) := by
  have := h.2 k.toNat (by omega)
  rw [Int.toNat_of_nonneg h0] at this
  exact ⟨this.1, fun hr => this.2 (.inl hr)⟩

theorem SzOk.step {l : List Ty} (ht : tabOk l = true) {s : List Int} {r i : Nat} (h : SzOk l s r i) (hi : i < l.length) : SzOk l (s.set i (oneP l[i] s)) r (i + 1) := by
  have hs : i < s.length := by rw [h.1]; exact hi
  have hk : ∀ k ∈ prt false l[i], 0 ≤ k ∧ k < (l.length : Int) ∧ rk l k < rk l (i : Int) := by
    intro k hk
    have hk' : k ∈ kids l false (i : Int) := by rw [kids_at (n := (i : Int)) (by simpa using hi)]; simpa using hk
    have h1 := kids_ok (tabOk_tys ht) (Int.natCast_nonneg i) (by omega) hk'
    exact ⟨h1.1, h1.2, rk_lt ht (Int.natCast_nonneg i) (by omega) hk'⟩
  have hnn : ∀ k, 0 ≤ sz l k := fun k => (sz_nn (tabOk_tys ht) k).1
  have hse : sz l (i : Int) = oneT l[i] (sz l) := by
    have := sz_eq (l := l) ht (n := (i : Int)) (Int.natCast_nonneg i) (by omega) (hn := by simpa using hi)
    simpa using this
  refine ⟨by rw [List.length_set]; exact h.1, fun j hj => ?_⟩
  rw [getS_set hs]
  by_cases e : j = i
  · subst e
    rw [if_pos rfl, hse]
    refine ⟨oneP_or hnn fun k hk' => (h.at (hk k hk').1 (hk k hk').2.1).1, fun hr => ?_⟩
    refine oneP_eq hnn fun k hk' => (h.at (hk k hk').1 (hk k hk').2.1).2 ?_
    have := (hk k hk').2.2
    omega
  · rw [if_neg e]
    refine ⟨(h.2 j hj).1, fun hr => (h.2 j hj).2 ?_⟩
    omega

theorem SzOk.le {l : List Ty} (ht : tabOk l = true) {s : List Int} {r i : Nat} (h : SzOk l s r i) : ∀ x ∈ s, x ≤ 1000000001 := by
  intro x hx
  obtain ⟨j, hj, rfl⟩ := List.mem_iff_getElem.1 hx
  have := (h.2 j (by rw [← h.1]; exact hj)).1
  rw [getS_at hj] at this
  have := (sz_nn (tabOk_tys ht) (j : Int)).2
  omega

end Go.AM
namespace Go.AM
set_option linter.unusedVariables false
set_option linter.unusedSimpArgs false
/-- A byte as a row of one cell. -/
def bv (n : Int) : List AV := [.v (.int .u8 n)]

structure Cur where
  code : List Int
  pos : Int
  seed : Int

def Cur.z (c : Cur) : List AV := [.fsl 1 (c.code.map bv), .v (.int .i64 c.pos), .v (.int .u64 c.seed)]

def Cur.ok (c : Cur) (n : Int) : Prop := (c.code.length : Int) ≤ 1048576 ∧ (∀ b ∈ c.code, 0 ≤ b ∧ b ≤ 255) ∧ 0 ≤ c.pos ∧ c.pos ≤ n

/-- A call that draws a number: told by what it says of the number and of the rest. -/
def Draws (f : Nat) (args : List AV) (c : Cur) (n m : Int) (Q : AV → Prop) : Prop :=
  DoesE Go.Proofs.Tryz.prog f (.box 65 c.z :: args) false fun r o => ∃ c' : Cur, o = .box 65 c'.z :: args.map (fun _ => AV.dead) ∧ c'.ok (n + m) ∧ Q r

theorem Draws.call {f : Nat} {args : List AV} {c : Cur} {n m : Int} {Q : AV → Prop} (h : Draws f args c n m Q) {O : AV → List AV} (hO : ∀ out, O out = out :: args.map fun _ => AV.dead) {S : AV → AV → Prop}
    (k : ∀ (r : AV) (c' : Cur), c'.ok (n + m) → Q r → S (.box 65 c'.z) r) : callK2 Go.Proofs.Tryz.prog f (.box 65 c.z :: args) false O (.box 65 c.z) S := by
  refine callE2_i (T := fun r out => ∃ c' : Cur, out = .box 65 c'.z ∧ c'.ok (n + m) ∧ Q r) h ?_ ?_
  · rintro r o ⟨c', rfl, h1, h2⟩
    exact ⟨.box 65 c'.z, ⟨c', rfl, h1, h2⟩, (hO _).symm⟩
  · rintro r out ⟨c', rfl, h1, h2⟩
    exact ⟨rfl, rfl, k r c' h1 h2⟩

end Go.AM
namespace Go.AM
set_option linter.unusedVariables false
set_option linter.unusedSimpArgs false
theorem Draws.mono {f : Nat} {args : List AV} {c : Cur} {n m : Int} {Q Q' : AV → Prop} (h : Draws f args c n m Q) (hq : ∀ r, Q r → Q' r) : Draws f args c n m Q' := by
  refine ⟨h.1, fun w Fz xs os h1 h2 h3 h4 => (h.2 w Fz xs os h1 h2 h3 h4).mono ?_⟩
  rintro e w' ⟨res, outs, ⟨c', g1, g2, g3⟩, hh⟩
  exact ⟨_, _, ⟨c', g1, g2, hq _ g3⟩, hh⟩

end Go.AM
namespace Go.Proofs.Backw
open Go Go.RowKit Go.Shelf Go.Proofs
attribute [local go_sem] Oper.semAt_some
set_option linter.unusedVariables false
set_option linter.unusedSimpArgs false

/-- What has come when k rounds are over. -/
def upto {α : Type} (f : Nat → α) (k : Nat) : List α := (List.range k).map f
theorem upto_succ {α : Type} (f : Nat → α) (k : Nat) : upto f (k + 1) = upto f k ++ [f k] := by simp [upto, List.range_succ]
theorem upto_length {α : Type} (f : Nat → α) (k : Nat) : (upto f k).length = k := by simp [upto]
/-- The slice of ints, and the box that holds it. -/
def Rd (Bs b off len cap : Nat) (zs : List Int) (W : World) : Prop := W.cell? ⟨Bs, 0, none⟩ = some (.slice (some ⟨b, off, none⟩) len cap) ∧ ∀ j, j < len → W.cell? ⟨b, off + j, none⟩ = some (.int .i64 (zs[j]?.getD 0))

set_option maxRecDepth 100000 in
set_option maxHeartbeats 2000000 in
theorem back1_in (F : Fence) (n : Nat) (h7 : F.fn 70) (hro : F.round = none) (hn : 1 ≤ n) (l Bs b off len cap : Nat) (zs : List Int) {α : Type} (encs : α → Array Value) (f : Nat → α)
    (hf : ∀ k j, j + k + 1 = len → encs (f k) = #[.int .i64 (j : Int), .int .i64 (zs[j]?.getD 0)]) (hreach : len * 8 ≤ 140737488351232) (J Jx : List α → World → Prop)
    (hY : ∀ pre x W, J pre W → pre.length < len → YieldAt F (n - 1) Tryz.prog l (encs x) W fun e W' =>
      (e = .returned (.bool true) ∧ J (pre ++ [x]) W' ∧ (Rd Bs b off len cap zs W → Rd Bs b off len cap zs W')) ∨ (e = .returned (.bool false) ∧ Jx (pre ++ [x]) W'))
    (W : World) (hR : Rd Bs b off len cap zs W) (h0 : J [] W) :
    CallsIn F n Tryz.prog 70 #[.func (.yield l) #[] #[], .pointer (some ⟨Bs, 0, none⟩)] W fun e W' => (∃ v, e = .returned v) ∧
      ((∃ ys, ys = upto f len ∧ J ys W') ∨ (∃ pre, (∃ k, k ≤ len ∧ pre = upto f k) ∧ Jx pre W')) := by
  refine callsIn_of_wp Tryz.func70 rfl h7 ?_ hro
  simp only [Tryz.ntmps70, List.size_toArray, List.length_cons, List.length_nil, Nat.reduceAdd, Nat.reduceSub, Array.replicate_succ, Array.replicate_zero, List.push_toArray, List.append_toArray, List.nil_append, List.cons_append]
  have hBs := hR.1
  gi_wp2
  gi_loopw [3] (fun i wr => ∃ k : Nat, k ≤ len ∧ i = .int .i64 ((len : Int) - 1 - (k : Int)) ∧ J (upto f k) wr ∧ Rd Bs b off len cap zs wr)
    (fun i _ => (intOf i + 1).toNat)
  case atStart => exact ⟨0, Nat.zero_le _, by simp, h0, hR⟩
  case round =>
    obtain ⟨k, hk, rfl, hJs, hR1, hR2⟩ := hrel
    by_cases hlt : k < len
    · obtain ⟨j, hj⟩ : ∃ j, j + k + 1 = len := ⟨len - k - 1, by omega⟩
      have hcx := hR2 j (by omega)
      obtain ⟨fn, tmps, assign, body, hy, hRR⟩ := hY _ (f k) wr hJs (by rw [upto_length]; exact hlt)
      rw [hf k j hj] at hy
      have hi : (len : Int) - 1 - (k : Int) = (j : Int) := by omega
      rw [hi]
      have hjl : j < len := by omega
      gi_wp2
      refine hRR.mono ?_
      rintro e W3 (⟨rfl, hJ3, hk3⟩ | ⟨rfl, hJx3⟩)
      · gi_wp2
        go_roundw
        case rel => exact ⟨k + 1, by omega, by simp; omega, by rw [upto_succ]; exact hJ3, hk3 ⟨hR1, hR2⟩⟩
        case measure => simp [intOf]
      · gi_wp2
        refine bodyPost_ret (results_none rfl _ _ _) rfl ?_
        exact ⟨⟨_, rfl⟩, .inr ⟨_, ⟨k + 1, by omega, (upto_succ _ _).symm⟩, hJx3⟩⟩
    · obtain rfl : k = len := by omega
      have hi : (k : Int) - 1 - (k : Int) = -1 := by omega
      rw [hi]
      gi_wp2
      go_end0
      exact ⟨⟨_, rfl⟩, .inl ⟨_, rfl, hJs⟩⟩

set_option maxHeartbeats 1000000 in
theorem back_in (F : Fence) (n : Nat) (h5 : F.fn 50) (hro : F.round = none) (a : Option Addr) (len cap : Nat) (w : World) :
    CallsIn F n Tryz.prog 50 #[.slice a len cap] w fun e w' => e = .returned (.func (.func 70) #[] #[.pointer (some ⟨w.heap.size, 0, none⟩)]) ∧ w' = w.alloc (.cells #[.slice a len cap] 52) := by
  refine callsIn_of_wp Tryz.func50 rfl h5 ?_ hro
  simp only [Tryz.ntmps50, List.size_toArray, List.length_cons, List.length_nil, Nat.reduceAdd, Nat.reduceSub, Array.replicate_succ, Array.replicate_zero, List.push_toArray, List.append_toArray, List.nil_append, List.cons_append]
  gi_wp2
  go_ret
  exact ⟨rfl, rfl⟩

/-- What it hands back: a function to range over. -/
theorem back_stops (F : Fence) (n : Nat) (h7 : F.fn 70) (hro : F.round = none) (hn : 1 ≤ n) (Bs b off len cap : Nat) (zs : List Int) {α : Type} (encs : α → Array Value) (f : Nat → α)
    (hf : ∀ k j, j + k + 1 = len → encs (f k) = #[.int .i64 (j : Int), .int .i64 (zs[j]?.getD 0)]) (hreach : len * 8 ≤ 140737488351232) (w : World) (hBs : Bs < w.heap.size) (hb : b < w.heap.size) (hR : Rd Bs b off len cap zs w) :
    SeqStopsK F n Tryz.prog 70 #[.pointer (some ⟨Bs, 0, none⟩)] encs (fun A B => Rd Bs b off len cap zs A → Rd Bs b off len cap zs B) (fun ys => ys = upto f len) (fun _ => True) len w := fun l J Jx W hW _ _ hY h0 => by
  have hR' : Rd Bs b off len cap zs W := ⟨(hW.cell (p := ⟨Bs, 0, none⟩) hBs).trans hR.1, fun j hj => (hW.cell (p := ⟨b, off + j, none⟩) hb).trans (hR.2 j hj)⟩
  refine (back1_in F n h7 hro hn l Bs b off len cap zs encs f hf hreach J Jx hY W hR' h0).mono ?_
  rintro e W' ⟨he, ⟨ys, rfl, hj⟩ | ⟨pre, _, hj⟩⟩
  · exact ⟨he, .inl ⟨_, rfl, hj⟩⟩
  · exact ⟨he, .inr ⟨_, trivial, hj⟩⟩
end Go.Proofs.Backw

namespace Go.Proofs.Sizes
open Go Go.AM Go.RowKit Go.Shelf Go.Proofs
set_option linter.unusedVariables false
set_option linter.unusedSimpArgs false

/-- The cells of a type. -/
theorem row_at {w : World} {Fz : Nat → Prop} {sz : Nat} : ∀ {rows : List (List AV)} {xs : List Value} {o : List Nat} {g h : Nat} {i : Nat} (hi : i < rows.length), RepRows w Fz sz rows xs o → At w g h xs → ∃ x1 o1, RepRow w Fz rows[i] x1 o1 ∧ rows[i].length = sz ∧ At w g (h + i * sz) x1
  | [], xs, o, g, h, i, hi, _, _ => absurd hi (by simp)
  | r :: rows, xs, o, g, h, i, hi, hr, ha => by
    simp only [RepRows] at hr
    obtain ⟨x1, x2, o1, o2, rfl, rfl, hl, h1, h2⟩ := hr
    have hx : x1.length = sz := by rw [← hl]; exact h1.length
    cases i with
    | zero => exact ⟨x1, o1, h1, hl, fun j u hj => by simpa using ha j u (by rw [List.getElem?_append_left (List.getElem?_eq_some_iff.1 hj).1]; exact hj)⟩
    | succ i =>
      have ha2 : At w g (h + sz) x2 := fun j u hj => by
        have := ha (sz + j) u (by rw [List.getElem?_append_right (by omega), hx, Nat.add_sub_cancel_left]; exact hj)
        rwa [← Nat.add_assoc] at this
      obtain ⟨y, oy, q1, q2, q3⟩ := row_at (rows := rows) (i := i) (by simpa using hi) h2 ha2
      refine ⟨y, oy, q1, q2, ?_⟩
      have e : h + (i + 1) * sz = h + sz + i * sz := by rw [Nat.succ_mul]; omega
      rw [e]
      exact q3

structure Mem (Bo Bl Bf g gl hl cap c : Nat) (Fz : Nat → Prop) (l : List Ty) (s : List Int) (W : World) : Prop where
  o : W.cell? ⟨Bo, 0, none⟩ = some (.slice (some ⟨g, 0, none⟩) l.length c)
  lb : W.cell? ⟨Bl, 0, none⟩ = some (.slice (some ⟨gl, hl, none⟩) l.length cap)
  f : W.cell? ⟨Bf, 0, none⟩ = some (.func (.func 48) #[] #[.pointer (some ⟨Bo, 0, none⟩), .pointer (some ⟨Bl, 0, none⟩), .pointer (some ⟨Bf, 0, none⟩)])
  vals : W.heap[g]? = some (.cells (s.map (Value.int .i64)).toArray 3 (0, 0))
  len : s.length = l.length
  rep : RepC W Fz (.fsl 6 (l.map Ty.z)) (.slice (some ⟨gl, hl, none⟩) l.length cap) []
  fz : ∀ b, Fz b → b < W.heap.size ∧ b ≠ g
  ne : Bo ≠ g ∧ Bl ≠ g ∧ Bf ≠ g
theorem Mem.at {Bo Bl Bf g gl hl cap c : Nat} {Fz : Nat → Prop} {l : List Ty} {s : List Int} {W : World} (M : Mem Bo Bl Bf g gl hl cap c Fz l s W) {j : Nat} (hj : j < l.length) : W.cell? ⟨g, j, none⟩ = some (.int .i64 (getS s j)) := by
  rw [cell_of_cells M.vals]
  have : j < s.length := by rw [M.len]; exact hj
  simp [getS_at this, this]
theorem Mem.row {Bo Bl Bf g gl hl cap c : Nat} {Fz : Nat → Prop} {l : List Ty} {s : List Int} {W : World} (M : Mem Bo Bl Bf g gl hl cap c Fz l s W) {n : Nat} (hn : n < l.length) :
    ∃ fv, RepC W Fz (.fsl 3 (l[n].fields.map Fd.z)) fv [] ∧ W.cell? ⟨gl, hl + n * 6, none⟩ = some (.int .i64 l[n].kind) ∧ W.cell? ⟨gl, hl + n * 6 + 1, none⟩ = some (.int .i64 l[n].long) ∧ W.cell? ⟨gl, hl + n * 6 + 2, none⟩ = some (.int .i64 l[n].base) ∧
      W.cell? ⟨gl, hl + n * 6 + 3, none⟩ = some fv ∧ W.cell? ⟨gl, hl + n * 6 + 4, none⟩ = some (.string l[n].owner) ∧ W.cell? ⟨gl, hl + n * 6 + 5, none⟩ = some (.string l[n].name) := by
  have hr := M.rep
  simp only [RepC] at hr
  obtain ⟨_, A, cc, he, _, hr⟩ := hr
  rcases hr with hr | ⟨g2, h2, xs, rfl, _, hrs, hat⟩
  · have : l = [] := List.map_eq_nil_iff.1 hr
    subst this
    simp at hn
  · simp only [Value.slice.injEq, Option.some.injEq, Addr.mk.injEq] at he
    obtain ⟨⟨rfl, rfl, _⟩, _, rfl⟩ := he
    obtain ⟨x1, o1, q1, _, q3⟩ := row_at (i := n) (by simpa using hn) hrs hat
    simp only [List.getElem_map, Ty.z, RepRow] at q1
    obtain ⟨_, _, _, _, rfl, rfl, ⟨rfl, _, rfl⟩, _, _, _, _, rfl, rfl, ⟨rfl, _, rfl⟩, _, _, _, _, rfl, rfl, ⟨rfl, _, rfl⟩, fv, _, _, _, rfl, rfl, hf, _, _, _, _, rfl, rfl, ⟨rfl, _, rfl⟩, _, _, _, _, rfl, rfl, ⟨rfl, _, rfl⟩, rfl, rfl⟩ := q1
    have hf0 : ∀ {o : List Nat}, RepC W Fz (.fsl 3 (l[n].fields.map Fd.z)) fv o → o = [] := fun h => by simp only [RepC] at h; exact h.1
    refine ⟨fv, ?_, q3 0 _ rfl, q3 1 _ rfl, q3 2 _ rfl, q3 3 _ rfl, q3 4 _ rfl, q3 5 _ rfl⟩
    have := hf0 hf
    subst this
    exact hf
end Go.Proofs.Sizes

namespace Go.AM
set_option linter.unusedVariables false
set_option linter.unusedSimpArgs false
def fdsAt (l : List Ty) (n : Int) : List Fd := match l[n.toNat]? with
  | some t => t.fields
  | none => []

theorem fdsAt_len {l : List Ty} (ht : tysOk l = true) (n : Int) : (fdsAt l n).length ≤ 6 := by
  unfold fdsAt
  split
  · rename_i t h
    obtain ⟨hn, rfl⟩ := List.getElem?_eq_some_iff.1 h
    exact (tysOk_good ht hn).few
  · simp

end Go.AM
namespace Go.Proofs.AllF
open Go Go.AM Go.RowKit Go.Shelf Go.Proofs Go.Proofs.Backw
attribute [local go_sem] Oper.semAt_some
set_option linter.unusedVariables false
set_option linter.unusedSimpArgs false

theorem rows_iv {w : World} {Fz : Nat → Prop} : ∀ {zs : List Int} {xs : List Value} {o : List Nat}, RepRows w Fz 1 (zs.map iv) xs o → xs = zs.map (fun k => Value.int .i64 k) ∧ o = []
  | [], xs, o, h => by simpa [RepRows] using h
  | z :: zs, xs, o, h => by
    simp only [List.map_cons, RepRows] at h
    obtain ⟨x1, x2, o1, o2, rfl, rfl, _, hr, hrs⟩ := h
    obtain ⟨rfl, rfl⟩ := rows_iv hrs
    simp only [iv, RepRow, RepC] at hr
    obtain ⟨x, xs', o3, o4, rfl, rfl, ⟨rfl, _, rfl⟩, rfl, rfl⟩ := hr
    exact ⟨rfl, rfl⟩
theorem keepW {w w' : World} {Fz : Nat → Prop} {av : AV} {x : Value} (hlt : ∀ b, Fz b → b < w.heap.size) (hE : Ext w w' []) (h : RepC w Fz av x []) : RepC w' Fz av x [] :=
  h.keep _ _ _ ⟨fun b hb => ⟨hb, hE.blk b (hlt b hb) (by simp)⟩, fun b hb => by simp at hb⟩

/-- What a round is handed: the index, and the number of a type. -/
def InT (l : List Ty) : Type := { x : Int × Int // 0 ≤ x.2 ∧ x.2.toNat < l.length }
def flds (l : List Ty) (pre : List (InT l)) : List Go.AM.Fd := pre.flatMap fun x => fdsAt l x.1.2
theorem flds_snoc (l : List Ty) (pre : List (InT l)) (x : InT l) : flds l (pre ++ [x]) = flds l pre ++ fdsAt l x.1.2 := by simp [flds]
theorem flds_len {l : List Ty} (ht : tysOk l = true) : ∀ pre : List (InT l), (flds l pre).length ≤ 6 * pre.length
  | [] => by simp [flds]
  | x :: pre => by
    have h1 := flds_len ht pre
    have h2 := fdsAt_len ht x.1.2
    simp only [flds, List.flatMap_cons, List.length_append, List.length_cons] at h1 ⊢
    omega
theorem rows_fd {w : World} {Fz : Nat → Prop} : ∀ {fs : List Go.AM.Fd} {xs : List Value} {o : List Nat}, RepRows w Fz 3 (fs.map Go.AM.Fd.o) xs o → o = []
  | [], xs, o, h => by simp only [List.map_nil, RepRows] at h; exact h.2
  | f :: fs, xs, o, h => by
    simp only [List.map_cons, RepRows] at h
    obtain ⟨x1, x2, o1, o2, rfl, rfl, _, hr, hrs⟩ := h
    rw [rows_fd hrs, List.append_nil]
    simp only [Go.AM.Fd.o, RepRow, RepC] at hr
    obtain ⟨_, _, _, _, rfl, rfl, ⟨_, _, rfl⟩, _, _, _, _, rfl, rfl, ⟨_, _, rfl⟩, _, _, _, _, rfl, rfl, ⟨_, _, rfl⟩, _, rfl⟩ := hr
    rfl
/-- Whatever is owned here is cells. -/
theorem own_cells {w : World} {Fz : Nat → Prop} {fs : List Go.AM.Fd} {x : Value} {o : List Nat} (h : RepC w Fz (.box 32 [.usl 56 3 (fs.map Go.AM.Fd.o)]) x o) : ∀ b ∈ o, ∃ cur e p, w.heap[b]? = some (.cells cur e p) := by
  simp only [RepC, RepRow] at h
  obtain ⟨g, xs, o', rfl, rfl, hg, y, ys, o1, o2, rfl, rfl, hu, rfl, rfl⟩ := h
  intro b hb
  rcases List.mem_cons.1 hb with rfl | hb
  · exact ⟨_, _, _, hg⟩
  · simp only [List.append_nil] at hb
    rcases hu with ⟨_, _, rfl⟩ | ⟨g2, h2, c, cur, vs, o3, _, rfl, hg2, _, _, hr, _⟩
    · simp at hb
    · rw [rows_fd hr] at hb
      simp only [List.mem_singleton] at hb
      subst hb
      exact ⟨_, _, _, hg2⟩

def noF : Nat → Prop := fun _ => False
/-- Between two rounds. -/
def LI (B : Nat) (w6 : World) (l : List Ty) (pre : List (InT l)) (W : World) : Prop := ∃ o5, RepC W noF (.box 32 [.usl 56 3 ((flds l pre).map Go.AM.Fd.o)]) (.pointer (some ⟨B + 1 + 1, 0, none⟩)) o5 ∧ o5.Nodup ∧
  (∀ b ∈ o5, (b = B + 1 + 1 ∨ b = B + 1 ∨ w6.heap.size ≤ b) ∧ b < W.heap.size) ∧ Ext w6 W [B + 1 + 1, B + 1]
theorem LI_own (B : Nat) (w6 : World) (l : List Ty) : OwnFrom w6.heap.size (LI B w6 l) := by
  rintro s W W' row ⟨o5, h1, h2, h3, h4⟩ hg hr
  have hsame : ∀ b, b < W.heap.size → (∀ r, row = some r → b ≠ r) → W'.heap[b]? = W.heap[b]? := fun b hb hn => hg.block b hb (by intro e; exact hn b e.symm rfl)
  refine ⟨o5, h1.keep _ _ _ ⟨fun b hb => hb.elim, fun b hb => hsame b (h3 b hb).2 ?_⟩, h2, fun b hb => ⟨(h3 b hb).1, Nat.lt_of_lt_of_le (h3 b hb).2 hg.size⟩, ⟨hg.os.trans h4.os, hg.tape.trans h4.tape, hg.output.trans h4.output, Nat.le_trans h4.size hg.size, fun b hb hn => (hsame b (Nat.lt_of_lt_of_le hb h4.size) ?_).trans (h4.blk b hb hn)⟩⟩
  · rintro r e rfl
    obtain ⟨_, o, ho, hc⟩ := hr b e
    obtain ⟨cur, e', p, hcur⟩ := own_cells h1 b hb
    rw [hcur] at ho
    cases ho
    simp [Obj.isCells] at hc
  · rintro r e rfl
    have := (hr b e).1
    omega
theorem Rd_of {Bs b off len cap : Nat} {zs : List Int} {W W' : World} (h1 : W'.heap[Bs]? = W.heap[Bs]?) (h2 : W'.heap[b]? = W.heap[b]?) (h : Rd Bs b off len cap zs W) : Rd Bs b off len cap zs W' := by
  refine ⟨?_, fun j hj => ?_⟩
  · rw [World.cell?_of_block (w := W) h1]; exact h.1
  · rw [World.cell?_of_block (w := W) h2]; exact h.2 j hj
/-- How the body of a round is read. -/
def bCtx (W : World) (F0 : Nat → Prop) (o5 : List Nat) (v5 : Value) : Ctx := { w0 := W, Fz := F0, own0 := o5, fx := fun e => if e = 5 then some v5 else none }
def bSt (l : List Ty) (fs : List Go.AM.Fd) (k : Int) : St := stl [(2, .fptr [.fsl 6 (l.map Ty.z)]), (5, .box 32 [.usl 56 3 (fs.map Go.AM.Fd.o)]), (7, .v (.int .i64 k))]
theorem bSim' {l : List Ty} {fs : List Go.AM.Fd} {k : Int} {W : World} {F0 : Nat → Prop} {o5 : List Nat} {a : Act} (hd : a.defers = []) (hn : a.tmps.size = 23) (h2 : RepC W F0 (.fptr [.fsl 6 (l.map Ty.z)]) (tmOf a 2) []) (h5 : RepC W noF (.box 32 [.usl 56 3 (fs.map Go.AM.Fd.o)]) (tmOf a 5) o5)
    (h7 : tmOf a 7 = .int .i64 k) (hnd : o5.Nodup) (hlt : ∀ b ∈ o5, b < W.heap.size ∧ ¬ F0 b) (hF : ∀ b, F0 b → b < W.heap.size) : Sim (bCtx W F0 o5 (tmOf a 5)) 23 (bSt l fs k) a W := by
  refine ⟨hd, ⟨hn, fun k v h => ?_⟩, fun k => if k = 5 then o5 else [], Ext.refl _ _, fun k' => ?_, fun k => ?_, fun j k hjk b hb => ?_, by simp, by simp, ?_⟩
  · simp only [bCtx] at h
    split at h
    · rename_i e; subst e; exact Option.some.inj h
    · cases h
  · have hfz : ∀ b, F0 b → frz (bCtx W F0 o5 (tmOf a 5)) W (owned (fun k => if k = 5 then o5 else []) []) b := by
      intro b hb
      refine ⟨hF b hb, .inr (.inl hb), ?_⟩
      rintro (⟨k, hk⟩ | hk)
      · simp only at hk
        split at hk
        · exact (hlt b hk).2 hb
        · simp at hk
      · simp at hk
    by_cases e2 : k' = 2
    · subst e2
      exact (h2.keep (w' := W) (Fz' := frz (bCtx W F0 o5 (tmOf a 5)) W (owned (fun k => if k = 5 then o5 else []) [])) _ _ _ ⟨fun b hb => ⟨hfz b hb, rfl⟩, fun _ _ => rfl⟩).toV
    by_cases e5 : k' = 5
    · subst e5
      exact (h5.keep (w' := W) (Fz' := frz (bCtx W F0 o5 (tmOf a 5)) W (owned (fun k => if k = 5 then o5 else []) [])) _ _ _ ⟨fun b hb => hb.elim, fun _ _ => rfl⟩).toV
    by_cases e7 : k' = 7
    · subst e7
      rw [h7]
      simp [bSt, stl, RepV, RepC, Value.oneCell']
    · simp [bSt, stl, e2, e5, e7, RepV]
  · by_cases e : k = 5
    · simp [e, hnd]
    · simp [e]
  · by_cases e : j = 5
    · have hk : k ≠ 5 := fun h => hjk (e.trans h.symm)
      simp [hk]
    · simp [e] at hb
  · rintro b (⟨k, hk⟩ | hk)
    · simp only at hk
      split at hk
      · exact ⟨.inl hk, (hlt b hk).1⟩
      · simp at hk
    · simp at hk
theorem bSim {l : List Ty} {fs : List Go.AM.Fd} {k : Int} {W : World} {F0 : Nat → Prop} {o5 : List Nat} {a : Act} {v2 v5 : Value} (hd : a.defers = []) (hn : a.tmps.size = 23) (e2 : tmOf a 2 = v2) (e5 : tmOf a 5 = v5) (h7 : tmOf a 7 = .int .i64 k) (h2 : RepC W F0 (.fptr [.fsl 6 (l.map Ty.z)]) v2 []) (h5 : RepC W noF (.box 32 [.usl 56 3 (fs.map Go.AM.Fd.o)]) v5 o5)
    (hnd : o5.Nodup) (hlt : ∀ b ∈ o5, b < W.heap.size ∧ ¬ F0 b) (hF : ∀ b, F0 b → b < W.heap.size) : Sim (bCtx W F0 o5 v5) 23 (bSt l fs k) a W := by
  subst e2 e5
  exact bSim' hd hn h2 h5 h7 hnd hlt hF
end Go.Proofs.AllF

