/- Own framework, part 19b: the string of some bytes. -/
import Derived.Test.YtleomgfaplldiaaB9
import Derived.Laws.BytesString
namespace Go.AM
set_option linter.unusedVariables false
set_option linter.unusedSimpArgs false

def bytesA : List (List AV) → Option (List Int)
  | [] => some []
  | [.v (.int .u8 n)] :: r => (bytesA r).map (n :: ·)
  | _ => none

def strA (ns : List Int) : ByteArray := ns.foldl (fun r n => r.push (UInt8.ofNat n.toNat)) ByteArray.empty

def b2sV (st : St) (x : AV) (k : AV → Prop) : Prop :=
  match frzB st x with
  | .fsl _ l => (match bytesA l with | some ns => k (.v (.string (strA ns))) | none => False)
  | _ => False

def b2sOk (P : Program) (s d : TypeId) : Bool :=
  (match P.underlying s with | some (.slice e) => (match P.underlying e with | some (.int .u8) => true | _ => false) | _ => false) && (match P.underlying d with | some .string => true | _ => false)

theorem bytes_rep {w : World} {Fz : Nat → Prop} {sz : Nat} : ∀ {l : List (List AV)} {xs : List Value} {o : List Nat} {ns : List Int}, RepRows w Fz sz l xs o → bytesA l = some ns → xs = ns.map (Value.int .u8) ∧ ns.length = l.length
  | [], xs, o, ns, h, hb => by
    simp only [RepRows] at h
    simp only [bytesA, Option.some.injEq] at hb
    subst hb
    exact ⟨by rw [h.1]; rfl, rfl⟩
  | r :: rs, xs, o, ns, h, hb => by
    simp only [RepRows] at h
    obtain ⟨x1, x2, o1, o2, rfl, rfl, hl, h1, h2⟩ := h
    unfold bytesA at hb
    split at hb
    · rename_i he; cases he
    · rename_i n r' he
      simp only [List.cons.injEq] at he
      obtain ⟨rfl, rfl⟩ := he
      simp only [Option.map_eq_some_iff] at hb
      obtain ⟨ns', hb, rfl⟩ := hb
      obtain ⟨rfl, hlen⟩ := bytes_rep h2 hb
      simp only [RepRow, RepC] at h1
      obtain ⟨x, xs', p1, p2, rfl, _, hx, hxs, _⟩ := h1
      rw [hx.1, hxs]
      exact ⟨rfl, by simp [hlen]⟩
    · cases hb

section
variable {P : Program} {o : Oper} {c : Ctx} {st : St} {a : Act} {w : World} {own : Nat → List Nat} {lo : List Nat}

theorem q_b2s (C : Core c st (tmOf a) w own lo) {s d : TypeId} {x : Operand} {x' : Opd} (hx : mOpd x x' = true) (ho : o.op = .convert s d x) (hok : b2sOk P s d = true) {k : AV → Prop} (h : b2sV st (rd st x') k) : QRes P o c st a w own lo k := by
  have rx := rd_rep C hx
  have rf := frzB_rep C (Fz' := fun b => frz c w (owned own lo) b ∨ ∃ k, b ∈ own k) (fun _ h => h) _ rx
  unfold b2sV at h
  split at h
  rotate_left
  · exact h.elim
  rename_i sz l hf
  split at h
  rotate_left
  · exact h.elim
  rename_i ns hns
  rw [hf] at rf
  simp only [RepV, RepC] at rf
  obtain ⟨_, A, cp, hxv, hcp, hl⟩ := rf
  simp only [b2sOk, Bool.and_eq_true] at hok
  obtain ⟨h1, h2⟩ := hok
  split at h1
  rotate_left
  · cases h1
  rename_i e hs
  split at h1
  rotate_left
  · cases h1
  rename_i he
  split at h2
  rotate_left
  · cases h2
  rename_i hd
  refine ⟨.string (strA ns), _, fun w' hS0 => ?_, by simp [RepV, RepC, Value.oneCell'], h⟩
  have hS := hS0 (by rw [ho]; rfl)
  have hconv := run_convert_bytes_string w' s d e A l.length cp hs he hd
  have key : (Conv.bytesToString (.slice A l.length cp)).run P w' = .ok (.string (strA ns)) w' := by
    rcases hl with rfl | ⟨g, hh, xs, rfl, hfz, hrows, hat⟩
    · simp only [bytesA, Option.some.injEq] at hns
      subst hns
      cases A with
      | none => simp [Conv.bytesToString, strA]
      | some ad =>
        exact run_bytesToString w' ad 0 cp [] (by have := run_loadCells_list (P := P) w' ad [] (by simp); simpa using this)
    · obtain ⟨rfl, hlen⟩ := bytes_rep hrows hns
      refine run_bytesToString w' ⟨g, hh, none⟩ l.length cp ns ?_
      have hbk : w'.heap[g]? = w.heap[g]? := hS g (by rcases hfz with h | ⟨k, h⟩; exact .inl h; exact .inr (.inl ⟨k, h⟩))
      have := run_loadCells_list (P := P) w' ⟨g, hh, none⟩ (ns.map (Value.int .u8)) (fun j v hv => by rw [Addr.add_lit]; exact (hat.of_block hbk) j v hv)
      rw [List.length_map, hlen] at this
      exact this
  simp only [execOp, ho, hxv, Sem.run_bind, hconv, key, Result.andThen_ok, Sem.run_pure]
end
end Go.AM
