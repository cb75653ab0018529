/- Own framework, part 4: what the slots of an activation hold; changing one owned thing. -/
import Derived.Test.YtleomgfaplldiaaA3
namespace Go.AM
set_option linter.unusedVariables false

abbrev Locs := Nat → List (Nat × Nat) → Option (Sh × Value)

/-- A slice value x that is a window of the slice value y, from element off on, len elements. -/
def Win (sz : Nat) (y : Value) (off len : Nat) (x : Value) : Prop :=
  (y = .slice none 0 0 ∧ x = .slice none 0 0 ∧ off = 0 ∧ len = 0) ∨
  ∃ g b n c k cx, y = .slice (some ⟨g, b, none⟩) n c ∧ x = .slice (some ⟨g, b + k * sz, none⟩) len cx ∧ len ≤ cx ∧ k + cx ≤ c ∧ ((k = off ∧ k + cx = c) ∨ (off ≠ 0 ∧ len = 0 ∧ cx = 0))

mutual
def RepV (w : World) (Fz : Nat → Prop) (L : Locs) : AV → Value → List Nat → Prop
  | .agg l, x, o => ∃ xs, x = .agg xs.toArray ∧ RepVs w Fz L l xs o
  | .tup l, x, o => ∃ xs, x = .tuple xs.toArray ∧ RepVs w Fz L l xs o
  | .clo f caps, x, o => ∃ xs, x = .func (.func f) #[] xs.toArray ∧ RepVs w Fz L caps xs o
  | .ref n p i k, x, o => o = [] ∧ ∃ s y b f, L n p = some (s, y) ∧ addrOf y = some (b, f) ∧ i < s.len ∧ k ≤ s.sz ∧ x = .pointer (some ⟨b, f + i * s.sz + k, none⟩)
  | .sref n p off len, x, o => o = [] ∧ ∃ s y, L n p = some (s, y) ∧ s.isBox = false ∧ off + len ≤ s.len ∧ Win s.sz y off len x
  | .dead, x, o => o = []
  | .v y, x, o => RepC w Fz (.v y) x o
  | .fsl sz l, x, o => RepC w Fz (.fsl sz l) x o
  | .usl e sz l, x, o => RepC w Fz (.usl e sz l) x o
  | .fptr c, x, o => RepC w Fz (.fptr c) x o
  | .box e c, x, o => RepC w Fz (.box e c) x o
def RepVs (w : World) (Fz : Nat → Prop) (L : Locs) : List AV → List Value → List Nat → Prop
  | [], xs, o => xs = [] ∧ o = []
  | c :: cs, xs, o => ∃ x xs' o1 o2, xs = x :: xs' ∧ o = o1 ++ o2 ∧ RepV w Fz L c x o1 ∧ RepVs w Fz L cs xs' o2
end

theorem RepC.toV {w : World} {Fz : Nat → Prop} {L : Locs} {av : AV} {x : Value} {o : List Nat} (h : RepC w Fz av x o) : RepV w Fz L av x o := by
  cases av with
  | dead => simp only [RepC] at h; simp only [RepV]; exact h.2
  | v y => simp only [RepV]; exact h
  | fsl sz l => simp only [RepV]; exact h
  | usl e sz l => simp only [RepV]; exact h
  | fptr c => simp only [RepV]; exact h
  | box e c => simp only [RepV]; exact h
  | agg _ => simp [RepC] at h
  | ref _ _ _ _ => simp [RepC] at h
  | sref _ _ _ _ => simp [RepC] at h
  | clo _ _ => simp [RepC] at h
  | tup _ => simp [RepC] at h

mutual
def killV (K : Nat → List (Nat × Nat) → Bool) : AV → AV
  | .ref n p i k => if K n p then .dead else .ref n p i k
  | .sref n p off len => if K n p then .dead else .sref n p off len
  | .agg l => .agg (killVs K l)
  | .tup l => .tup (killVs K l)
  | .clo f caps => .clo f (killVs K caps)
  | .v y => .v y
  | .fsl sz l => .fsl sz l
  | .usl e sz l => .usl e sz l
  | .fptr c => .fptr c
  | .box e c => .box e c
  | .dead => .dead
def killVs (K : Nat → List (Nat × Nat) → Bool) : List AV → List AV
  | [] => []
  | c :: cs => killV K c :: killVs K cs
end

theorem killVs_get (K : Nat → List (Nat × Nat) → Bool) : ∀ (l : List AV) (k : Nat), (killVs K l)[k]? = (l[k]?).map (killV K)
  | [], k => by simp [killVs]
  | c :: cs, 0 => by simp [killVs]
  | c :: cs, k + 1 => by simp [killVs, killVs_get K cs k]

theorem shapeOf_kill (K : Nat → List (Nat × Nat) → Bool) (av : AV) : shapeOf (killV K av) = shapeOf av := by
  cases av with
  | ref n p i k => simp only [killV]; split <;> rfl
  | sref n p i k => simp only [killV]; split <;> rfl
  | _ => rfl

mutual
theorem RepV.keep {w w' : World} {Fz Fz' : Nat → Prop} {L L' : Locs} {K : Nat → List (Nat × Nat) → Bool} (hL : ∀ n p r, K n p = false → L n p = some r → L' n p = some r) :
    ∀ (av : AV) (x : Value) (o : List Nat), RepV w Fz L av x o → Agree w w' Fz Fz' o → RepV w' Fz' L' (killV K av) x o
  | .agg l, x, o, h, ag => by
    simp only [RepV, killV] at h ⊢
    obtain ⟨xs, hx, h⟩ := h
    exact ⟨xs, hx, RepVs.keep hL l xs o h ag⟩
  | .tup l, x, o, h, ag => by
    simp only [RepV, killV] at h ⊢
    obtain ⟨xs, hx, h⟩ := h
    exact ⟨xs, hx, RepVs.keep hL l xs o h ag⟩
  | .clo f l, x, o, h, ag => by
    simp only [RepV, killV] at h ⊢
    obtain ⟨xs, hx, h⟩ := h
    exact ⟨xs, hx, RepVs.keep hL l xs o h ag⟩
  | .ref n p i k, x, o, h, ag => by
    simp only [RepV, killV] at h ⊢
    obtain ⟨ho, s, y, b, f, hl, h⟩ := h
    cases hK : K n p with
    | true => simp [RepV, ho]
    | false => simp only [Bool.false_eq_true, if_false, RepV]; exact ⟨ho, s, y, b, f, hL n p _ hK hl, h⟩
  | .sref n p off len, x, o, h, ag => by
    simp only [RepV, killV] at h ⊢
    obtain ⟨ho, s, y, hl, h⟩ := h
    cases hK : K n p with
    | true => simp [RepV, ho]
    | false => simp only [Bool.false_eq_true, if_false, RepV]; exact ⟨ho, s, y, hL n p _ hK hl, h⟩
  | .dead, x, o, h, ag => by simpa [RepV, killV] using h
  | .v y, x, o, h, ag => by simp only [RepV, killV] at h ⊢; exact h.keep _ _ _ ag
  | .fsl sz l, x, o, h, ag => by simp only [RepV, killV] at h ⊢; exact h.keep _ _ _ ag
  | .usl e sz l, x, o, h, ag => by simp only [RepV, killV] at h ⊢; exact h.keep _ _ _ ag
  | .fptr c, x, o, h, ag => by simp only [RepV, killV] at h ⊢; exact h.keep _ _ _ ag
  | .box e c, x, o, h, ag => by simp only [RepV, killV] at h ⊢; exact h.keep _ _ _ ag
theorem RepVs.keep {w w' : World} {Fz Fz' : Nat → Prop} {L L' : Locs} {K : Nat → List (Nat × Nat) → Bool} (hL : ∀ n p r, K n p = false → L n p = some r → L' n p = some r) :
    ∀ (cs : List AV) (xs : List Value) (o : List Nat), RepVs w Fz L cs xs o → Agree w w' Fz Fz' o → RepVs w' Fz' L' (killVs K cs) xs o
  | [], xs, o, h, ag => by simpa [RepVs, killVs] using h
  | c :: cs, xs, o, h, ag => by
    simp only [RepVs, killVs] at h ⊢
    obtain ⟨x, xs', o1, o2, hx, ho, hc, hr⟩ := h
    subst ho
    exact ⟨x, xs', o1, o2, hx, rfl, RepV.keep hL c x o1 hc (ag.sub (by simp +contextual)), RepVs.keep hL cs xs' o2 hr (ag.sub (by simp +contextual))⟩
end

theorem killV_none (av : AV) : killV (fun _ _ => false) av = av := by
  have : (∀ av : AV, killV (fun _ _ => false) av = av) ∧ (∀ l : List AV, killVs (fun _ _ => false) l = l) := by
    constructor
    · intro av
      induction av using AV.rec (motive_2 := fun l => killVs (fun _ _ => false) l = l) (motive_3 := fun _ => True) <;> simp_all [killV, killVs]
    · intro l
      induction l with
      | nil => rfl
      | cons c cs ih =>
        simp only [killVs, ih, List.cons.injEq, and_true]
        induction c using AV.rec (motive_2 := fun l => killVs (fun _ _ => false) l = l) (motive_3 := fun _ => True) <;> simp_all [killV, killVs]
  exact this.1 av

/-- Values in a row, with one taken out. -/
theorem RepVs.at {w : World} {Fz : Nat → Prop} {L : Locs} : ∀ {cs : List AV} {xs : List Value} {o : List Nat} {k : Nat} {c : AV}, RepVs w Fz L cs xs o → cs[k]? = some c →
    ∃ z o1 oc o2, o = o1 ++ (oc ++ o2) ∧ xs[k]? = some z ∧ RepV w Fz L c z oc ∧
      ∀ w' Fz' L' c' oc', (∀ n p r, L n p = some r → L' n p = some r) → Agree w w' Fz Fz' (o1 ++ o2) → RepV w' Fz' L' c' z oc' → RepVs w' Fz' L' (cs.set k c') xs (o1 ++ (oc' ++ o2))
  | [], xs, o, k, c, h, hk => by simp at hk
  | d :: cs, xs, o, 0, c, h, hk => by
    simp only [RepVs] at h
    obtain ⟨x, xs', o1, o2, hx, ho, hc, hr⟩ := h
    subst hx ho
    simp at hk
    subst hk
    refine ⟨x, [], o1, o2, by simp, by simp, hc, ?_⟩
    intro w' Fz' L' c' oc' hL ag hc'
    simp only [List.set_cons_zero, RepVs]
    have := hr.keep (K := fun _ _ => false) (fun n p r _ => hL n p r) _ _ _ (ag.sub (by simp))
    have e : killVs (fun _ _ => false) cs = cs := by
      have := killV_none (.agg cs); simpa [killV] using this
    rw [e] at this
    exact ⟨x, xs', oc', o2, rfl, by simp, hc', this⟩
  | d :: cs, xs, o, k + 1, c, h, hk => by
    simp only [RepVs] at h
    obtain ⟨x, xs', p1, p2, hx, ho, hc, hr⟩ := h
    subst hx ho
    obtain ⟨z, o1, oc, o2, ho, hz, hcz, hput⟩ := RepVs.at hr (by simpa using hk)
    subst ho
    refine ⟨z, p1 ++ o1, oc, o2, by simp, by simpa using hz, hcz, ?_⟩
    intro w' Fz' L' c' oc' hL ag hc'
    simp only [List.set_cons_succ, RepVs]
    have h1 := hc.keep (K := fun _ _ => false) (fun n p r _ => hL n p r) _ _ _ (ag.sub (by simp +contextual))
    rw [killV_none] at h1
    exact ⟨x, xs', p1, o1 ++ (oc' ++ o2), rfl, by simp, h1, hput w' Fz' L' c' oc' hL (ag.sub (by simp only [List.mem_append]; intro b hb; rcases hb with h | h <;> simp [h])) hc'⟩

def isOwner : AV → Bool
  | .usl .. => true
  | .box .. => true
  | _ => false

structure SpotV (w : World) (Fz : Nat → Prop) (L : Locs) (av0 : AV) (y0 : Value) (o0 : List Nat) (p : List (Nat × Nat)) (av : AV) (y : Value) (o oR : List Nat) : Prop where
  rep : RepC w Fz av y o
  mem : ∀ b, b ∈ o0 ↔ b ∈ o ∨ b ∈ oR
  dj : o0.Nodup → o.Nodup ∧ ∀ b ∈ o, b ∉ oR
  put : ∀ (w' : World) (Fz' : Nat → Prop) (L' : Locs) (av' : AV) (o' : List Nat), (∀ n p r, L n p = some r → L' n p = some r) → Agree w w' Fz Fz' oR → RepC w' Fz' av' y o' →
    ∃ o0', RepV w' Fz' L' (setC av0 p av') y0 o0' ∧ (∀ b, b ∈ o0' ↔ b ∈ o' ∨ b ∈ oR) ∧ (o0.Nodup → o'.Nodup → (∀ b ∈ o', b ∉ oR) → o0'.Nodup)
  wk : ∀ (w' : World) (av' : AV), (∀ b ∈ oR, w'.heap[b]? = w.heap[b]?) → ∀ q, walk w' (setC av0 p av') y0 (p ++ q) = walk w' av' y q
  pre : ∀ (w' : World) (av' : AV), (∀ b ∈ oR, w'.heap[b]? = w.heap[b]?) → ∀ q, q <+: p → ¬ p <+: q → walkSh w' (setC av0 p av') y0 q = walkSh w av0 y0 q

theorem Spot.toV {w : World} {Fz : Nat → Prop} {L : Locs} {av0 : AV} {y0 : Value} {o0 : List Nat} {p : List (Nat × Nat)} {av : AV} {y : Value} {o oR : List Nat} (S : Spot w Fz RepC av0 y0 o0 p av y o oR) : SpotV w Fz L av0 y0 o0 p av y o oR :=
  ⟨S.rep, S.mem, S.dj, fun w' Fz' L' av' o' _ ag h' => let ⟨o0', h1, h2, h3⟩ := S.put w' Fz' av' o' ag h'; ⟨o0', h1.toV, h2, h3⟩, S.wk, S.pre⟩

/-- One step of a path through a struct by value, or a tuple. -/
theorem SpotV.step {w : World} {Fz : Nat → Prop} {L : Locs} {l : List AV} {mk : List AV → AV} {mkv : Array Value → Value} {xs : List Value} {o0 : List Nat} {k : Nat} {c : AV} {z : Value} {p : List (Nat × Nat)} {av : AV} {y : Value}
    (hmk : mk = .agg ∧ mkv = .agg ∨ mk = .tup ∧ mkv = .tuple)
    (h : RepVs w Fz L l xs o0) (hc : l[k]? = some c) (hz : xs[k]? = some z)
    (ih : ∀ oc, RepV w Fz L c z oc → ∃ o oR, SpotV w Fz L c z oc p av y o oR) :
    ∃ o oR, SpotV w Fz L (mk l) (mkv xs.toArray) o0 ((0, k) :: p) av y o oR := by
  obtain ⟨z', o1, oc, o2, ho, hz', hcz, hput⟩ := h.at hc
  rw [hz] at hz'
  obtain rfl := Option.some.inj hz'
  subst ho
  obtain ⟨o, oR', S⟩ := ih oc hcz
  have hcell : ∀ l' : List AV, l'[k]? = l'[k]? → cellOf (mk l') 0 k = l'[k]? := by
    intro l' _
    rcases hmk with ⟨rfl, _⟩ | ⟨rfl, _⟩ <;> simp [cellOf]
  have hset : ∀ c', setC (mk l) ((0, k) :: p) c' = mk (l.set k (setC c p c')) := by
    intro c'
    rcases hmk with ⟨rfl, _⟩ | ⟨rfl, _⟩ <;> simp [setC, cellOf, hc, setOf]
  refine ⟨o, oR' ++ (o1 ++ o2), S.rep, ?_, ?_, ?_, ?_, ?_⟩
  · intro b; rw [mem_mid, S.mem, or_assoc, ← List.mem_append (s := oR')]
  · intro hn
    obtain ⟨h1, h2, h3⟩ := nodup_mid hn
    obtain ⟨h4, h5⟩ := S.dj h1
    refine ⟨h4, fun b hb hb' => ?_⟩
    rcases List.mem_append.1 hb' with hb' | hb'
    · exact h5 b hb hb'
    · exact h2 b ((S.mem b).2 (.inl hb)) hb'
  · intro w' Fz' L' av' o' hL ag h'
    obtain ⟨oc', hr, hm, hnd⟩ := S.put w' Fz' L' av' o' hL (ag.sub (by simp +contextual)) h'
    have hrow := hput w' Fz' L' _ oc' hL (ag.sub (fun b hb => List.mem_append.2 (.inr hb))) hr
    refine ⟨o1 ++ (oc' ++ o2), ?_, ?_, ?_⟩
    · rw [hset]
      rcases hmk with ⟨rfl, rfl⟩ | ⟨rfl, rfl⟩ <;> (simp only [RepV]; exact ⟨xs, rfl, hrow⟩)
    · intro b; rw [mem_mid, hm, or_assoc, ← List.mem_append (s := oR')]
    · intro hn ho' hdj
      obtain ⟨h1, h2, h3⟩ := nodup_mid hn
      refine nodup_mk (hnd h1 ho' fun b hb hb' => hdj b hb (by simp [hb'])) (fun b hb hb' => ?_) h3
      rcases (hm b).1 hb with hb | hb
      · exact hdj b hb (List.mem_append.2 (.inr hb'))
      · exact h2 b ((S.mem b).2 (.inr hb)) hb'
  · intro w' av' hk q
    rw [hset]
    have hkl : k < l.length := (List.getElem?_eq_some_iff.1 hc).1
    rcases hmk with ⟨rfl, rfl⟩ | ⟨rfl, rfl⟩ <;>
      (simp only [List.cons_append, walk, cellOf, cellV, if_true, List.getElem?_set_self hkl, Option.bind_some, List.getElem?_toArray, hz]
       exact S.wk w' av' (fun b hb => hk b (by simp [hb])) q)
  · intro w' av' hk q hq hn
    rw [hset]
    have hkl : k < l.length := (List.getElem?_eq_some_iff.1 hc).1
    cases q with
    | nil => rcases hmk with ⟨rfl, rfl⟩ | ⟨rfl, rfl⟩ <;> simp [walkSh, walk, shapeOf]
    | cons ik q =>
      obtain ⟨rfl, hq'⟩ := List.cons_prefix_cons.1 hq
      have hn' : ¬ p <+: q := fun hh => hn (List.cons_prefix_cons.2 ⟨rfl, hh⟩)
      have := S.pre w' av' (fun b hb => hk b (by simp [hb])) q hq' hn'
      rcases hmk with ⟨rfl, rfl⟩ | ⟨rfl, rfl⟩ <;>
        (simp only [walkSh, walk, cellOf, cellV, if_true, List.getElem?_set_self hkl, Option.bind_some, List.getElem?_toArray, hz, hc] at this ⊢
         exact this)

theorem RepV.spot {w : World} {Fz : Nat → Prop} {L : Locs} : ∀ (p : List (Nat × Nat)) {av0 : AV} {y0 : Value} {o0 : List Nat} {av : AV} {y : Value}, RepV w Fz L av0 y0 o0 → walk w av0 y0 p = some (av, y) → isOwner av = true →
    ∃ o oR, SpotV w Fz L av0 y0 o0 p av y o oR
  | p, .usl e sz l, y0, o0, av, y, h, hw, _ => by
    simp only [RepV] at h
    obtain ⟨o, oR, S⟩ := h.spot p hw
    exact ⟨o, oR, S.toV⟩
  | p, .box e c, y0, o0, av, y, h, hw, _ => by
    simp only [RepV] at h
    obtain ⟨o, oR, S⟩ := h.spot p hw
    exact ⟨o, oR, S.toV⟩
  | [], .agg l, y0, o0, av, y, h, hw, ho => by simp [walk] at hw; rw [← hw.1] at ho; simp [isOwner] at ho
  | [], .tup l, y0, o0, av, y, h, hw, ho => by simp [walk] at hw; rw [← hw.1] at ho; simp [isOwner] at ho
  | (i, k) :: p, .agg l, y0, o0, av, y, h, hw, ho => by
    simp only [RepV] at h
    obtain ⟨xs, hx, h⟩ := h
    subst hx
    simp only [walk, Option.bind_eq_some_iff, cellOf, cellV, List.getElem?_toArray] at hw
    obtain ⟨c, hc, z, hz, hw⟩ := hw
    split at hc
    · rename_i hi
      subst hi
      exact SpotV.step (.inl ⟨rfl, rfl⟩) h hc hz fun oc hoc => RepV.spot p hoc hw ho
    · simp at hc
  | (i, k) :: p, .tup l, y0, o0, av, y, h, hw, ho => by
    simp only [RepV] at h
    obtain ⟨xs, hx, h⟩ := h
    subst hx
    simp only [walk, Option.bind_eq_some_iff, cellOf, cellV, List.getElem?_toArray] at hw
    obtain ⟨c, hc, z, hz, hw⟩ := hw
    split at hc
    · rename_i hi
      subst hi
      exact SpotV.step (.inr ⟨rfl, rfl⟩) h hc hz fun oc hoc => RepV.spot p hoc hw ho
    · simp at hc
  | p, .v _, y0, o0, av, y, h, hw, ho => by cases p <;> simp [walk, cellOf] at hw; rw [← hw.1] at ho; simp [isOwner] at ho
  | p, .fsl _ _, y0, o0, av, y, h, hw, ho => by cases p <;> simp [walk, cellOf] at hw; rw [← hw.1] at ho; simp [isOwner] at ho
  | p, .fptr _, y0, o0, av, y, h, hw, ho => by cases p <;> simp [walk, cellOf] at hw; rw [← hw.1] at ho; simp [isOwner] at ho
  | p, .dead, y0, o0, av, y, h, hw, ho => by cases p <;> simp [walk, cellOf] at hw; rw [← hw.1] at ho; simp [isOwner] at ho
  | p, .ref _ _ _ _, y0, o0, av, y, h, hw, ho => by cases p <;> simp [walk, cellOf] at hw; rw [← hw.1] at ho; simp [isOwner] at ho
  | p, .sref _ _ _ _, y0, o0, av, y, h, hw, ho => by cases p <;> simp [walk, cellOf] at hw; rw [← hw.1] at ho; simp [isOwner] at ho
  | p, .clo _ _, y0, o0, av, y, h, hw, ho => by cases p <;> simp [walk, cellOf] at hw; rw [← hw.1] at ho; simp [isOwner] at ho
end Go.AM
