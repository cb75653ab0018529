/- Own framework, part 10: addresses, parts, slices of what is read. -/
import Derived.Test.YtleomgfaplldiaaA9
namespace Go.AM
set_option linter.unusedVariables false
set_option linter.unusedSimpArgs false

theorem RepRow.dropF {w : World} {Fz : Nat → Prop} {cs : List AV} {xs : List Value} (h : RepRow w Fz cs xs []) (k : Nat) (hk : k ≤ cs.length) : RepRow w Fz (cs.drop k) (xs.drop k) [] := by
  obtain ⟨o1, o2, ho, _, h2⟩ := h.split k hk
  obtain ⟨rfl, rfl⟩ : o1 = [] ∧ o2 = [] := by simpa using ho.symm
  exact h2

theorem RepRows.get {w : World} {Fz : Nat → Prop} {sz : Nat} {l : List (List AV)} {xs : List Value} (h : RepRows w Fz sz l xs []) {i : Nat} (hi : i < l.length) :
    (nth l i).length = sz ∧ RepRow w Fz (nth l i) ((xs.drop (i * sz)).take sz) [] := by
  obtain ⟨o1, o2, ho, _, h2⟩ := h.split i (Nat.le_of_lt hi)
  obtain ⟨rfl, rfl⟩ : o1 = [] ∧ o2 = [] := by simpa using ho.symm
  have hd : l.drop i = nth l i :: l.drop (i + 1) := by
    rw [List.drop_eq_getElem_cons hi]; simp [nth, hi]
  rw [hd] at h2
  simp only [RepRows] at h2
  obtain ⟨x1, x2, p1, p2, hx, hp, hrl, hrow, _⟩ := h2
  obtain ⟨rfl, rfl⟩ : p1 = [] ∧ p2 = [] := by simpa using hp.symm
  refine ⟨hrl, ?_⟩
  rw [hx, List.take_left' (by rw [hrow.length, hrl])]
  exact hrow

theorem At.dropAll {w : World} {b f : Nat} {xs : List Value} (h : At w b f xs) (j : Nat) : At w b (f + j) (xs.drop j) := by
  intro m u hm
  rw [List.getElem?_drop] at hm
  have := h _ _ hm
  rw [← Nat.add_assoc] at this
  exact this

def nilchkV (x : AV) (k : AV → Prop) : Prop :=
  match x with
  | .fptr cs => k (.fptr cs)
  | .ref n p i j => k (.ref n p i j)
  | _ => False

def fadV (off : Nat) (st : St) (x : AV) (k : AV → Prop) : Prop :=
  match x with
  | .fptr cs => off ≤ cs.length ∧ k (.fptr (cs.drop off))
  | .ref n p i j => (match getC (st n) p with | some (.usl _ sz _) => j + off ≤ sz | some (.box _ cs) => j + off ≤ cs.length | _ => False) ∧ k (.ref n p i (j + off))
  | _ => False

def fadOk (P : Program) (s : TypeId) (f off : Nat) : Bool :=
  match P.underlying s with
  | some (.struct fs) => (fs[f]?).any fun fd => fd.offset == off && (P.info? fd.type).any fun i => i.size != 0
  | _ => false

def fldV (agg : Bool) (off sz : Nat) (x : AV) (k : AV → Prop) : Prop :=
  match x with
  | .agg cs => if agg then off + sz ≤ cs.length ∧ k (.agg ((cs.drop off).take sz)) else off < cs.length ∧ k (cs.getD off .dead)
  | _ => False

def fldOk (P : Program) (s : TypeId) (f : Nat) (agg : Bool) (off sz : Nat) : Bool :=
  match P.underlying s with
  | some (.struct fs) => (fs[f]?).any fun fd => fd.offset == off && aggB P fd.type == some agg && (!agg || (P.info? fd.type).map (·.size) == some sz)
  | _ => false

def iadV (sz : Nat) (st : St) (x i : AV) (k : AV → Prop) : Prop :=
  match i with
  | .v (.int _ n) =>
    match x with
    | .fsl sz' l => sz' = sz ∧ 0 ≤ n ∧ n < l.length ∧ k (.fptr (nth l n.toNat))
    | .sref m p off len => (match getC (st m) p with | some (.usl _ sz' _) => sz' = sz | _ => False) ∧ 0 ≤ n ∧ n < len ∧ k (.ref m p (off + n.toNat) 0)
    | _ => False
  | _ => False

def iadOk (P : Program) (t : TypeId) (sz : Nat) : Bool :=
  match P.underlying t with
  | some (.slice e) => (P.info? e).map (·.size) == some sz
  | _ => false

def sAt (s : ByteArray) (n : Int) : Int := ((s.data.toList.getD n.toNat 0).toNat : Int)

def idxV (x i : AV) (k : AV → Prop) : Prop :=
  match x, i with
  | .v (.string s), .v (.int _ n) => 0 ≤ n ∧ n < s.size ∧ k (.v (.int .u8 (sAt s n)))
  | _, _ => False

def extV (st : St) (n i : Nat) (k : AV → Prop) : Prop :=
  match st n with
  | .tup l => i < l.length ∧ k (brw n [(0, i)] (l.getD i .dead))
  | _ => False

section
variable {P : Program} {o : Oper} {c : Ctx} {st : St} {a : Act} {w : World} {own : Nat → List Nat} {lo : List Nat}

theorem q_nilchk (C : Core c st (tmOf a) w own lo) {x : Operand} {x' : Opd} (hx : mOpd x x' = true) (ho : o.op = .nilCheck x) {k : AV → Prop} (h : nilchkV (rd st x') k) : QRes P o c st a w own lo k := by
  have rx := rd_rep C hx
  unfold nilchkV at h
  split at h
  · rename_i cs hb
    rw [hb] at rx
    refine ⟨a.eval x, _, fun w' _ => ?_, rx, h⟩
    simp only [RepV, RepC] at rx
    obtain ⟨_, g, hh, xs, hp, _⟩ := rx
    simp [execOp, ho, hp]
  · rename_i n p i j hb
    rw [hb] at rx
    refine ⟨a.eval x, _, fun w' _ => ?_, rx, h⟩
    simp only [RepV] at rx
    obtain ⟨_, s, y, b, f, _, _, _, _, hp⟩ := rx
    simp [execOp, ho, hp]
  · exact h.elim

theorem q_fad (C : Core c st (tmOf a) w own lo) {s : TypeId} {f off : Nat} {x : Operand} {x' : Opd} (hx : mOpd x x' = true) (ho : o.op = .fieldAddr s x f) (hok : fadOk P s f off = true) {k : AV → Prop}
    (h : fadV off st (rd st x') k) : QRes P o c st a w own lo k := by
  have rx := rd_rep C hx
  unfold fadOk at hok
  split at hok
  rotate_left
  · simp at hok
  rename_i fs hu
  simp only [Option.any_eq_true, Bool.and_eq_true, beq_iff_eq, bne_iff_ne] at hok
  obtain ⟨fd, hfd, hoff, i, hi, hsz⟩ := hok
  have hex : ∀ w' b g, a.eval x = .pointer (some ⟨b, g, none⟩) → (execOp a.eval o).run P w' = .ok (.value (.pointer (some ⟨b, g + off, none⟩))) w' := by
    intro w' b g hp
    simp [execOp, ho, hp, Instr.fieldAt, run_underlying hu, hfd, Instr.sureAddr, fieldPlace, sizeOf, typeInfo, hi, hsz, Addr.add_lit, hoff]
  unfold fadV at h
  split at h
  · rename_i cs hb
    rw [hb] at rx
    simp only [RepV, RepC] at rx
    obtain ⟨_, g, hh, xs, hp, hf, hrow, hat⟩ := rx
    refine ⟨_, _, fun w' _ => hex w' g hh hp, ?_, h.2⟩
    simp only [RepV, RepC]
    exact ⟨trivial, g, hh + off, xs.drop off, rfl, hf, hrow.dropF off h.1, hat.dropAll off⟩
  · rename_i n p i' j hb
    rw [hb] at rx
    simp only [RepV] at rx
    obtain ⟨_, s', y, b, g, hloc, hadr, hi', hj, hp⟩ := rx
    refine ⟨_, _, fun w' _ => hex w' b _ hp, ?_, h.2⟩
    obtain ⟨av, oo, hg, hw, hsh, hrep, hsub⟩ := loc_spot C hloc
    simp only [RepV]
    refine ⟨trivial, s', y, b, g, hloc, hadr, hi', ?_, by simp [Nat.add_assoc]⟩
    have h1 := h.1
    rw [hg] at h1
    cases av <;> simp [shapeOf] at hsh h1
    · subst hsh; exact h1
    · subst hsh; exact h1
  · exact h.elim

theorem RepVs.get {w : World} {Fz : Nat → Prop} {L : Locs} : ∀ {cs : List AV} {xs : List Value}, RepVs w Fz L cs xs [] → ∀ k, k < cs.length → ∃ z, xs[k]? = some z ∧ RepV w Fz L (cs.getD k .dead) z []
  | [], xs, h, k, hk => by simp at hk
  | d :: cs, xs, h, k, hk => by
    simp only [RepVs] at h
    obtain ⟨x, xs', o1, o2, hx, ho, hc, hr⟩ := h
    obtain ⟨rfl, rfl⟩ : o1 = [] ∧ o2 = [] := by simpa using ho.symm
    subst hx
    cases k with
    | zero => exact ⟨x, by simp, by simpa using hc⟩
    | succ k =>
      obtain ⟨z, hz, hr⟩ := RepVs.get hr k (by simpa using hk)
      exact ⟨z, by simpa using hz, by simpa using hr⟩

theorem RepVs.len {w : World} {Fz : Nat → Prop} {L : Locs} : ∀ {cs : List AV} {xs : List Value} {o : List Nat}, RepVs w Fz L cs xs o → xs.length = cs.length
  | [], xs, o, h => by simp only [RepVs] at h; simp [h.1]
  | d :: cs, xs, o, h => by
    simp only [RepVs] at h
    obtain ⟨x, xs', o1, o2, hx, ho, hc, hr⟩ := h
    subst hx
    simp [RepVs.len hr]

theorem RepVs.sub {w : World} {Fz : Nat → Prop} {L : Locs} : ∀ {cs : List AV} {xs : List Value}, RepVs w Fz L cs xs [] → ∀ j n, RepVs w Fz L ((cs.drop j).take n) ((xs.drop j).take n) []
  | [], xs, h, j, n => by simp only [RepVs] at h; simp [h.1, RepVs]
  | d :: cs, xs, h, 0, 0 => by simp [RepVs]
  | d :: cs, xs, h, 0, n + 1 => by
    simp only [RepVs] at h
    obtain ⟨x, xs', o1, o2, hx, ho, hc, hr⟩ := h
    obtain ⟨rfl, rfl⟩ : o1 = [] ∧ o2 = [] := by simpa using ho.symm
    subst hx
    simp only [List.drop_zero, List.take_succ_cons, RepVs]
    have := RepVs.sub hr 0 n
    simp only [List.drop_zero] at this
    exact ⟨x, xs'.take n, [], [], rfl, rfl, hc, this⟩
  | d :: cs, xs, h, j + 1, n => by
    simp only [RepVs] at h
    obtain ⟨x, xs', o1, o2, hx, ho, hc, hr⟩ := h
    obtain ⟨rfl, rfl⟩ : o1 = [] ∧ o2 = [] := by simpa using ho.symm
    subst hx
    simpa using RepVs.sub hr j n

theorem q_fld (C : Core c st (tmOf a) w own lo) {s : TypeId} {f off sz : Nat} {agg : Bool} {x : Operand} {x' : Opd} (hx : mOpd x x' = true) (ho : o.op = .field s x f) (hok : fldOk P s f agg off sz = true) {k : AV → Prop}
    (h : fldV agg off sz (rd st x') k) : QRes P o c st a w own lo k := by
  have rx := rd_rep C hx
  unfold fldOk at hok
  split at hok
  rotate_left
  · simp at hok
  rename_i fs hu
  simp only [Option.any_eq_true, Bool.and_eq_true, Bool.or_eq_true, beq_iff_eq, aggB, Option.map_eq_some_iff] at hok
  obtain ⟨fd, hfd, ⟨hoff, d, hd, hagg⟩, hsz⟩ := hok
  unfold fldV at h
  split at h
  · rename_i cs hb
    rw [hb] at rx
    simp only [RepV] at rx
    obtain ⟨xs, hp, hrow⟩ := rx
    have hlen := hrow.len
    cases agg with
    | true =>
      simp only [if_true] at h
      have hagg' : ∀ w', (isAgg fd.type).run P w' = .ok true w' := by
        intro w'; unfold isAgg; rw [Sem.run_bind, run_underlying hd w']; cases d <;> simp_all [isAggD]
      obtain ⟨i, hi, hs⟩ : ∃ i, P.info? fd.type = some i ∧ i.size = sz := by simpa using hsz
      refine ⟨.agg ((xs.drop off).take sz).toArray, _, fun w' _ => ?_, ?_, h.2⟩
      · simp [execOp, ho, hp, Instr.field, run_underlying hu, hfd, part, hagg', asAgg, sizeOf, typeInfo, hi, hs, hoff]
      · simp only [RepV]; exact ⟨_, rfl, hrow.sub off sz⟩
    | false =>
      simp only [Bool.false_eq_true, if_false] at h
      have hagg' : ∀ w', (isAgg fd.type).run P w' = .ok false w' := by
        intro w'; unfold isAgg; rw [Sem.run_bind, run_underlying hd w']; cases d <;> simp_all [isAggD]
      obtain ⟨z, hz, hr⟩ := hrow.get off h.1
      refine ⟨z, _, fun w' _ => ?_, hr, h.2⟩
      simp [execOp, ho, hp, Instr.field, run_underlying hu, hfd, part, hagg', asAgg, hoff, hz]
  · exact h.elim

theorem q_iad (C : Core c st (tmOf a) w own lo) {t : TypeId} {sz : Nat} {x y : Operand} {x' y' : Opd} (hx : mOpd x x' = true) (hy : mOpd y y' = true) (ho : o.op = .indexAddr t x y) (hok : iadOk P t sz = true) {k : AV → Prop}
    (h : iadV sz st (rd st x') (rd st y') k) : QRes P o c st a w own lo k := by
  have rx := rd_rep C hx
  have ry := rd_rep C hy
  unfold iadOk at hok
  split at hok
  rotate_left
  · simp at hok
  rename_i e hu
  simp only [beq_iff_eq, Option.map_eq_some_iff] at hok
  obtain ⟨i, hi, hsz⟩ := hok
  have hex : ∀ w' kd n b g len cp, a.eval y = .int kd n → a.eval x = .slice (some ⟨b, g, none⟩) len cp → 0 ≤ n → n < len → (execOp a.eval o).run P w' = .ok (.value (.pointer (some ⟨b, g + n.toNat * sz, none⟩))) w' := by
    intro w' kd n b g len cp hn hp h0 h1
    simp [execOp, ho, hp, hn, Instr.indexAt, asIntOf, run_underlying hu, h0, h1, sizeOf, typeInfo, hi, hsz, Addr.add_lit]
  unfold iadV at h
  split at h
  rotate_left
  · exact h.elim
  rename_i kd n hn
  rw [hn] at ry
  have ey := repV_v ry
  split at h
  · rename_i sz' l hb
    rw [hb] at rx
    simp only [RepV, RepC] at rx
    obtain ⟨_, A, cp, hp, _, hl⟩ := rx
    obtain ⟨rfl, h0, h1, hk⟩ := h
    rcases hl with hl | ⟨g, hh, xs, hA, hf, hrows, hat⟩
    · subst hl; simp at h1; omega
    · subst hA
      have hlt : n.toNat < l.length := by omega
      obtain ⟨hrl, hrow⟩ := hrows.get hlt
      refine ⟨_, _, fun w' _ => hex w' kd n g hh _ _ ey hp h0 h1, ?_, hk⟩
      simp only [RepV, RepC]
      exact ⟨trivial, g, _, _, rfl, hf, hrow, hat.drop _ _⟩
  · rename_i m p off len hb
    rw [hb] at rx
    simp only [RepV] at rx
    obtain ⟨_, s, z, hloc, hbx, hle, hwin⟩ := rx
    obtain ⟨hsz', h0, h1, hk⟩ := h
    obtain ⟨av, oo, hg, hw, hsh, hrep, hsub⟩ := loc_spot C hloc
    rw [hg] at hsz'
    cases av <;> simp [shapeOf] at hsh hsz'
    rename_i e' sz'' l
    subst hsh hsz'
    rcases hwin with ⟨_, _, _, hlen⟩ | ⟨g, b, n', cp, kk, cx, hz, hx', hlc, hkc, hko⟩
    · omega
    · have hko' : kk = off := by
        rcases hko with ⟨h, _⟩ | ⟨_, h, _⟩
        · exact h
        · omega
      subst hko'
      refine ⟨_, _, fun w' _ => hex w' kd n g _ _ _ ey hx' h0 h1, ?_, hk⟩
      simp only [RepV]
      refine ⟨trivial, _, z, g, b, hloc, by simp [hz, addrOf], ?_, by simp, ?_⟩
      · simp at hle ⊢; omega
      · simp only [Nat.add_mul, Nat.add_zero, Nat.add_assoc]
  · exact h.elim

theorem q_idx (C : Core c st (tmOf a) w own lo) {t : TypeId} {x y : Operand} {x' y' : Opd} (hx : mOpd x x' = true) (hy : mOpd y y' = true) (ho : o.op = .index t x y) (hu : P.underlying t = some .string) {k : AV → Prop}
    (h : idxV (rd st x') (rd st y') k) : QRes P o c st a w own lo k := by
  have rx := rd_rep C hx
  have ry := rd_rep C hy
  unfold idxV at h
  split at h
  · rename_i s kd n hs hn
    rw [hs] at rx
    rw [hn] at ry
    obtain ⟨h0, h1, hk⟩ := h
    refine ⟨_, _, fun w' _ => ?_, repV_scal rfl, hk⟩
    have hlt : n.toNat < s.size := by omega
    have e : s[n.toNat]? = some (s.data.toList.getD n.toNat 0) := by
      rw [getElem?_pos s n.toNat hlt]
      congr 1
      have : n.toNat < s.data.toList.length := by simpa using hlt
      simp [List.getD, hlt, ByteArray.getElem_eq_getElem_data]
    simp [execOp, ho, repV_v rx, repV_v ry, Instr.index, asIntOf, run_underlying hu, h0, e, sAt]
  · exact h.elim

theorem q_ext (C : Core c st (tmOf a) w own lo) {n i : Nat} (ho : o.op = .extract (.tmp n) i) {k : AV → Prop} (h : extV st n i k) : QRes P o c st a w own lo k := by
  unfold extV at h
  split at h
  · rename_i l hb
    have rn := C.rep n
    rw [hb] at rn
    simp only [RepV] at rn
    obtain ⟨xs, hx, hr⟩ := rn
    obtain ⟨z, o1, oc, o2, _, hz, hcz, _⟩ := hr.at (k := i) (c := l[i]'h.1) (by simp [h.1])
    refine ⟨z, _, fun w' _ => ?_, ?_, h.2⟩
    · have hx' : a.eval (.tmp n) = .tuple xs.toArray := hx
      simp [execOp, ho, hx', Instr.extract, hz]
    · have e : l.getD i .dead = l[i]'h.1 := by simp [h.1]
      rw [e]
      refine brw_rep (L := locs st (tmOf a) w) _ hcz ?_
      intro q r hq
      have : walk w (st n) (tmOf a n) [(0, i)] = some (l[i]'h.1, z) := by
        rw [hb, hx]
        simp [walk, cellOf, cellV, h.1, hz]
      simp only [locs]
      rw [walkSh_append this]
      exact hq
  · exact h.elim
end
end Go.AM
