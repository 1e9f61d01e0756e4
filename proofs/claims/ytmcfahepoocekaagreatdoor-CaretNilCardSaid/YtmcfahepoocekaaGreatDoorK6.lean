/-
  An abstract machine for closed calls, and that it is sound (part 6 of 6): what it answers, the function answers. No condition.
-/
import Derived.Test.YtmcfahepoocekaaGreatDoorK5
namespace Go.AbsK
open Go
open Go.RowKit (Below)
set_option linter.unusedVariables false
set_option linter.unusedSimpArgs false
set_option linter.deprecated false

variable {P : Program} {T : Hints} {B : Nat} {w0 : World} {f0 : Nat} {CS : List Frame}

theorem names_ops {ops : Array Oper} {o : Oper} {t : Nat} (h : t ∈ tmpsL o.op.operands.toList) : t ∈ namesOf ops o := by
  unfold namesOf
  split
  · exact h
  · split
    · exact List.mem_cons_of_mem _ h
    · exact h
theorem names_gd {ops : Array Oper} {o : Oper} {j : Nat} {w : Bool} {t : Nat} (h : o.guard = some (j, w)) (hd : dstOf ops j = some t) : t ∈ namesOf ops o := by
  unfold namesOf
  rw [h]
  simp only [hd]
  exact List.mem_cons_self
theorem gdB_congr {ops : Array Oper} {E E' : Nat → AV} {o : Oper} (h : ∀ t ∈ namesOf ops o, E' t = E t) : gdB ops E' o = gdB ops E o := by
  unfold gdB
  cases hg : o.guard with
  | none => rfl
  | some p =>
    obtain ⟨j, w⟩ := p
    simp only []
    cases hd : dstOf ops j with
    | none => rfl
    | some t => simp only []; rw [h t (names_gd hg hd)]
theorem PQ.congr {Hp : HS → Prop} {E E' : Nat → AV} {o : Oper} {v : AV} {xb : Option (Nat × AObj)} (h : PQ P T B w0 Hp E o v xb) (he : ∀ t ∈ tmpsL o.op.operands.toList, E' t = E t) : PQ P T B w0 Hp E' o v xb :=
  fun φ hs w ρ h1 h2 h3 h4 h5 h6 => h φ hs w ρ h1 h2 h3 h4 (fun t ht => by rw [← he t ht]; exact h5 t ht) h6
theorem conc_bool {φ : Plc} {v : AV} {b : Bool} (h : conc φ v = .bool b) : v = .bool b := by
  cases v with
  | bool b' => simp only [conc, Value.bool.injEq] at h; rw [h]
  | oth g a b c d e f x y => simp only [conc] at h; split at h <;> cases h
  | _ => simp [conc] at h
theorem guardB_iff {v : AV} {w : Bool} : guardB v w = true ↔ v = .bool w := by
  cases v with
  | bool b => cases b <;> cases w <;> simp [guardB, notB]
  | _ => simp [guardB]
theorem dstOf_eq (ops : Array Oper) (j : Nat) : dstOf ops j = (ops[j]?).bind (·.dst) := by
  unfold dstOf; rw [fget_eq, Array.getElem?_toList]
theorem wanted_ok {φ : Plc} {ops : Array Oper} {E : Nat → AV} {o : Oper} {tmps : Array Value} (h : ∀ j w t, o.guard = some (j, w) → dstOf ops j = some t → tmps.getD t Go.undef = conc φ (E t)) : Region.wanted o (yielded ops tmps) = gdB ops E o := by
  unfold Region.wanted gdB
  cases hg : o.guard with
  | none => rfl
  | some p =>
    obtain ⟨j, w⟩ := p
    simp only [yielded, ← dstOf_eq]
    cases hd : dstOf ops j with
    | none => rfl
    | some t =>
      have ht := h j w t hg hd
      simp only [Option.bind_some]
      rw [Array.getD_eq_getD_getElem?] at ht
      rw [Bool.eq_iff_iff, guardB_iff, beq_iff_eq]
      cases hv : tmps[t]? with
      | none =>
        rw [hv] at ht
        simp only [Option.getD_none] at ht
        constructor
        · intro h'; cases h'
        · intro h'; rw [h'] at ht; cases ht
      | some u =>
        rw [hv] at ht
        simp only [Option.getD_some] at ht
        constructor
        · intro h'
          split at h'
          · rename_i b hb
            cases hb; cases h'
            exact conc_bool (φ := φ) ht.symm
          · cases h'
        · intro h'
          rw [h'] at ht
          subst ht
          rfl
section
variable {φ : Plc} {fn : Nat} {e : E16} {L : Loc} {ns : List Nat} {tmps : Array Value} {X : Nat → Prop} {dst : Option Tmp}
/-- an answer comes late -/
theorem TmOk.late {ψ : Plc} (h : TmOk P T φ fn e L ns tmps X) (hle : Le φ ψ) {v : AV} (hv : Df ψ v) (hd : ∀ t : Nat, dst = some t → aval e L ns t = v ∧ t < ntOf P fn) :
    TmOk P T ψ fn e L ns (putT tmps dst (conc ψ v)) fun t => X t ∧ dst ≠ some t := by
  refine ⟨by rw [putT_size]; exact h.size, h.loc, fun t hvis hx => ?_⟩
  by_cases ht : dst = some t
  · obtain ⟨a, b⟩ := hd t ht
    rw [a]
    refine ⟨hv, ?_⟩
    have hs := h.size
    subst ht
    simp only [putT]
    rw [Array.getD_eq_getD_getElem?, Array.getElem?_setIfInBounds, if_pos rfl, if_pos (by omega)]; rfl
  · obtain ⟨a, b⟩ := h.at_ t hvis fun hX => hx ⟨hX, ht⟩
    refine ⟨hle.df a, ?_⟩
    rw [hle.conc a, ← b]
    cases dst with
    | none => rfl
    | some d =>
      simp only [putT]
      rw [Array.getD_eq_getD_getElem?, Array.getD_eq_getD_getElem?, Array.getElem?_setIfInBounds, if_neg (fun h' => ht (by rw [h']))]
/-- an answer is known early -/
theorem TmOk.early (h : TmOk P T φ fn e L ns tmps X) {v : AV} (hb : (cDst P T fn dst false).isBad = false) :
    TmOk P T φ fn ((cDst P T fn dst false).upE v e) ((cDst P T fn dst false).upL v L) (pushN T fn dst ns) tmps fun t => X t ∨ dst = some t := by
  refine ⟨h.size, fun t ht => ?_, fun t hvis hx => ?_⟩
  · unfold pushN at ht
    cases dst with
    | none => exact h.loc t ht
    | some d =>
      simp only at ht
      split at ht
      · exact h.loc t ht
      · rename_i hd
        simp only [List.mem_cons] at ht
        rcases ht with rfl | ht
        · simpa using hd
        · exact h.loc t ht
  · have ht : dst ≠ some t := fun h' => hx (.inr h')
    rw [aval_put hb h.loc hvis, if_neg ht]
    exact h.at_ t (((vis_push hb).1 hvis).resolve_left ht) fun h' => hx (.inl h')
end

section
variable {φ : Plc} {fn : Nat} {e : E16} {L : Loc} {ns : List Nat} {hs : HS} {w : World} {fr : Frame} {cs : List Frame} {ops : Array Oper} {l : List (Nat × Bool)} {N : Nat}
  {listed : Array Bool} {fuel done sure : Nat} {ex : List Nat} {xb : Nat → Option (Nat × AObj)} {tmps : Array Value}
/-- what an operation looks at, when its turn has come in truth -/
theorem DrOk.look (D : DrOk P T B w0 N φ hs fn e L ns ops l tmps listed fuel done sure ex xb) {j : Nat} {o : Oper} (ho : ops[j]? = some o) (hj : lst? listed j = false) (hdn : hasT done j = true) (hr : ∀ k, hasT (waitsM o.after.toList) k = true → lst? listed k = true) :
    ∀ t ∈ namesOf ops o, Df φ (aval e L ns t) ∧ tmps.getD t Go.undef = conc φ (aval e L ns t) := fun t ht => by
  have Q := D.pend j o ho hj hdn
  refine D.tm.at_ t (Q.vis t ht) ?_
  rintro ⟨i, oi, h1, h2, h3, h4⟩
  by_cases hij : i = j
  · subst hij
    rw [ho] at h1; cases h1
    exact D.self i o t ho hj hdn h4 ht
  · have := hr i (D.dep i j oi o t h1 ho h2 h3 hj hdn hij h4 ht)
    rw [h2] at this; cases this
/-- in truth a quiet operation comes late -/
theorem DrOk.lateStep (D : DrOk P T B w0 N φ hs fn e L ns ops l tmps listed (fuel + 1) done sure ex xb) (hl : ∀ k, hasT (chkM l 0) k = false) {j : Nat} {o : Oper} (ho : ops[j]? = some o) (hj : lst? listed j = false) (hdn : hasT done j = true)
    (hr : ∀ k, hasT (waitsM o.after.toList) k = true → lst? listed k = true) (H : HOk P T B w0 φ hs w) (G : GlobOk T φ) (hN : N ≤ hs.next) (hq : ∀ c, o.op ≠ .defer c)
    (hm : fr.mode = .run) (ht : fr.tmps = tmps) {rest : List Nat} {Kt : List Item} (htd : fr.todo = .inRegion ops (j :: rest) :: Kt) :
    ∃ φ' w' v, Keep N φ hs φ' hs ∧ HOk P T B w0 φ' hs w' ∧ step P (lone fr cs w) = .next (lone { fr with tmps := putT tmps o.dst v, todo := .inRegion ops rest :: Kt } cs w') ∧
      DrOk P T B w0 N φ' hs fn e L ns ops l (putT tmps o.dst v) (listed.setIfInBounds j true) fuel done sure ex xb := by
  have Q := D.pend j o ho hj hdn
  have lk := D.look ho hj hdn hr
  have hjs : j < listed.size := by rw [D.size]; exact (Array.getElem?_eq_some_iff.1 ho).1
  obtain ⟨v, r1, r2, r3⟩ := Q.run
  have hw := wanted_ok (φ := φ) (E := aval e L ns) (o := o) (ops := ops) (tmps := tmps) fun j w t hg hd => (lk t (names_gd hg hd)).2
  have main : ∃ φ' w', Le φ φ' ∧ HOk P T B w0 φ' hs w' ∧ Df φ' v ∧ step P (lone fr cs w) = .next (lone (fr.finish (conc φ' v)) cs w') ∧ ∀ b, φ b = none → (∀ ob, xb j ≠ some (b, ob)) → φ' b = none := by
    cases hg : gdB ops (aval e L ns) o with
    | false =>
      have hv := r2 hg
      subst hv
      exact ⟨φ, w, Le.refl φ, H, trivial, step_skip' hm htd ho (by rw [ht, hw, hg]), fun b h _ => h⟩
    | true =>
      have pq : ∃ Hp : HS → Prop, Hp hs ∧ PQ P T B w0 Hp (aval e L ns) o v (xb j) := by
        rcases r3 hg with h | h | h
        · rw [hl] at h; cases h.1
        · exact ⟨(· = hs), rfl, h.2⟩
        · exact ⟨fun _ => True, trivial, h⟩
      obtain ⟨Hp, hp, pq⟩ := pq
      obtain ⟨φ', w', a1, a2, a3, a4, a5⟩ := pq φ hs w fr.eval hp H G (evalStd fr) (fun t ht' => by
        obtain ⟨x, y⟩ := lk t (names_ops ht')
        refine ⟨x, ?_⟩
        show fr.tmps.getD t Go.undef = _
        rw [ht]; exact y) (fun b ob hx => let ⟨_, y2, y3, y4⟩ := D.own j b ob hj hdn hx; ⟨y3, y2, y4⟩)
      exact ⟨φ', w', a1, a2, a3, step_value hm htd ho (by rw [ht, hw, hg]) hq a4 (.inl rfl), a5⟩
  obtain ⟨φ', w', a1, a2, a3, a4, a5⟩ := main
  refine ⟨φ', w', conc φ' v, ⟨a1, Nat.le_refl _, fun b hb hn => ⟨a5 b hn fun ob hx => ?_, rfl⟩⟩, a2, ?_, ?_⟩
  · have := (D.own j b ob hj hdn hx).1; omega
  · rw [a4, finish_reg htd ho, ht]
  have st : ∀ k, lst? (listed.setIfInBounds j true) k = false → k ≠ j ∧ lst? listed k = false := fun k hk => by
    refine ⟨fun h => ?_, ?_⟩
    · have := (lst_set (listed := listed) (j := k) hjs).2 (.inl h); rw [hk] at this; cases this
    · cases hk' : lst? listed k with
      | false => rfl
      | true => have := (lst_set (listed := listed) (j := k) hjs).2 (.inr hk'); rw [hk] at this; cases this
  refine ⟨by simp [D.size], by have := open_set hjs hj; have := D.fuel; omega, D.ord, D.exo, D.exd, fun i hi => ?_, fun i hi => (lst_set hjs).2 (.inr (D.sur i hi)), fun i oi hoi hi k hk => ?_, ?_, fun i oi hoi h1 h2 => D.pend i oi hoi (st i h1).2 h2,
    fun i b ob h1 h2 hx => ?_, fun i i' oi oi' t a b c d => fun c' d' => D.dep i i' oi oi' t a b (st i c).2 d (st i' c').2 d', fun i i' oi oi' t a b c d c' d' => D.dis i i' oi oi' t a b (st i c).2 d (st i' c').2 d', fun i oi t a b c => D.self i oi t a (st i b).2 c,
    fun i i' b ob ob' c d c' d' => D.uno i i' b ob ob' (st i c).2 d (st i' c').2 d'⟩
  · rcases (lst_set hjs).1 hi with h | h
    · rw [h]; exact hdn
    · exact D.low i h
  · rcases (lst_set hjs).1 hi with h | h
    · subst h
      rw [ho] at hoi; cases hoi
      exact (lst_set hjs).2 (.inr (hr k hk))
    · exact (lst_set hjs).2 (.inr (D.clo i oi hoi h k hk))
  · refine (D.tm.late a1 a3 (dst := o.dst) fun t hd => ⟨r1 t hd, (Q.dst t hd).2⟩).imp ?_
    rintro t _ ⟨⟨i, oi, h1, h2, h3, h4⟩, h5⟩
    refine ⟨i, oi, h1, ?_, h3, h4⟩
    cases hk : lst? (listed.setIfInBounds j true) i with
    | false => rfl
    | true =>
      rcases (lst_set hjs).1 hk with h | h
      · subst h; rw [ho] at h1; cases h1; exact absurd h4 h5
      · rw [h2] at h; cases h
  · obtain ⟨y1, y2, y3, y4⟩ := D.own i b ob (st i h1).2 h2 hx
    refine ⟨y1, y2, a5 b y3 fun ob' hx' => ?_, y4⟩
    exact (st i h1).1 (D.uno i j b ob ob' (st i h1).2 h2 hj hdn hx hx')
end
end Go.AbsK

namespace Go.AbsK
open Go
open Go.RowKit (Below)
set_option linter.unusedVariables false
set_option linter.unusedSimpArgs false
set_option linter.deprecated false

variable {P : Program} {T : Hints} {B : Nat} {w0 : World} {f0 : Nat} {CS : List Frame}

theorem PendOk.congr {hs hs' : HS} {fn : Nat} {ns ns' : List Nat} {ops : Array Oper} {E E' : Nat → AV} {chk chk' i : Nat} {o : Oper} {xb : Option (Nat × AObj)} (Q : PendOk P T B w0 hs fn ns ops E chk i o xb)
    (hn : ∀ t, Vis T fn ns t → Vis T fn ns' t) (he : ∀ t ∈ namesOf ops o, E' t = E t) (hd : ∀ t, o.dst = some t → E' t = E t)
    (hc : readsOp o.op = true → (hs' = hs ∧ hasT chk i = false) ∨ hasT chk' i = true) (h0 : hasT chk i = true → readsOp o.op = true → hasT chk' i = true) : PendOk P T B w0 hs' fn ns' ops E' chk' i o xb := by
  obtain ⟨q, a, b, v, r1, r2, r3⟩ := Q
  refine ⟨q, fun t ht => hn t (a t ht), fun t ht => ⟨hn t (b t ht).1, (b t ht).2⟩, v, fun t ht => by rw [hd t ht]; exact r1 t ht, fun hg => r2 (by rw [← gdB_congr he]; exact hg), fun hg => ?_⟩
  rcases r3 (by rw [← gdB_congr he]; exact hg) with h | h | h
  · exact .inl ⟨h0 h.1 h.2, h.2⟩
  · rcases hc h.1 with h' | h'
    · rw [h'.1]
      exact .inr (.inl ⟨h.1, h.2.congr fun t ht => he t (names_ops ht)⟩)
    · exact .inl ⟨h', h.1⟩
  · exact .inr (.inr (h.congr fun t ht => he t (names_ops ht)))
theorem memO_false {d : Option Nat} {l : List Nat} (h : memO d l = false) {t : Nat} (hd : d = some t) : t ∉ l := by
  subst hd
  intro hm
  have := memN_iff.2 hm
  simp only [memO] at h
  rw [this] at h; cases h
theorem sameO_false {d d' : Option Nat} (h : sameO d d' = false) {t : Nat} (hd : d = some t) : d' ≠ some t := by
  subst hd
  intro hd'
  subst hd'
  simp only [sameO, Nat.beq_refl] at h
  cases h
section
variable {φ : Plc} {fn : Nat} {e : E16} {L : Loc} {ns : List Nat} {hs : HS} {w : World} {fr : Frame} {cs : List Frame} {ops : Array Oper} {l : List (Nat × Bool)} {N : Nat}
  {listed : Array Bool} {fuel done sure : Nat} {ex : List Nat} {xb : Nat → Option (Nat × AObj)} {tmps : Array Value} {i : Nat} {o : Oper}

/-- a quiet operation is done in the abstract machine -/
theorem DrOk.quiet (D : DrOk P T B w0 N φ hs fn e L ns ops ((i, false) :: l) tmps listed fuel done sure ex xb) (ho : ops[i]? = some o) (hq : quietOp o.op = true) (hb : (cDst P T fn o.dst false).isBad = false) {v : AV} {hs' : HS} {x : Option (Nat × AObj)}
    (hN : N ≤ hs.next) (k1 : hs.next ≤ hs'.next) (k2 : ∀ b, b < hs.next → φ b = none → getH b hs'.heap = getH b hs.heap) (k3 : hs' = hs ∨ newOp o.op = true) (k4 : ∀ b ob, x = some (b, ob) → hs.next ≤ b ∧ b < hs'.next ∧ φ b = none ∧ getH b hs'.heap = ob)
    (hv : ∀ t ∈ namesOf ops o, Vis T fn ns t) (r2 : gdB ops (aval e L ns) o = false → v = undef)
    (r3 : gdB ops (aval e L ns) o = true → (readsOp o.op = true ∧ PQ P T B w0 (· = hs') (aval e L ns) o v x) ∨ PQ P T B w0 (fun _ => True) (aval e L ns) o v x) :
    DrOk P T B w0 N φ hs' fn ((cDst P T fn o.dst false).upE v e) ((cDst P T fn o.dst false).upL v L) (pushN T fn o.dst ns) ops l tmps listed fuel (addT done i) sure (i :: ex) fun k => if k = i then x else xb k := by
  have hord := D.ord
  simp only [ordB] at hord
  rw [fget_eq, infos_get ho] at hord
  simp only [] at hord
  have hq' : (opInfo ops o).q = true := hq
  simp only [hq', Bool.and_eq_true, Bool.not_eq_true'] at hord
  obtain ⟨⟨⟨o1, o2⟩, o3⟩, ⟨⟨o4, o5⟩, o6⟩, o7⟩ := hord
  have hil : lst? listed i = false := by
    cases h : lst? listed i with
    | false => rfl
    | true => have := D.low i h; rw [o1] at this; cases this
  have hsub := (subT_iff _ _).1 o2
  -- what may be open
  have pd : ∀ k, lst? listed k = false → hasT sure k = false := fun k hk => by
    cases h : hasT sure k with
    | false => rfl
    | true => have := D.sur k h; rw [hk] at this; cases this
  have wr0 : ∀ k ok, ops[k]? = some ok → lst? listed k = false → hasT done k = true → memO o.dst (namesOf ops ok) = false ∧ sameO o.dst ok.dst = false := fun k ok hk h1 h2 => by
    have := write_ok o5 k _ (infos_get hk)
    rw [Nat.zero_add] at this
    exact this h2 (pd k h1)
  have lk0 : ∀ k ok t, ops[k]? = some ok → lst? listed k = false → hasT done k = true → ok.dst = some t → t ∈ namesOf ops o → hasT (waitsM o.after.toList) k = true := fun k ok t hk h1 h2 h3 h4 => by
    have := look_ok o3 k _ (infos_get hk)
    rw [Nat.zero_add] at this
    exact this h2 (pd k h1) (by show memO ok.dst (namesOf ops o) = true; rw [h3]; exact memN_iff.2 h4)
  have dn : ∀ k, hasT (addT done i) k = true → k ≠ i → hasT done k = true := fun k hk hne => ((hasT_add _ _ _).1 hk).resolve_left hne
  have vm : ∀ t, Vis T fn ns t → Vis T fn (pushN T fn o.dst ns) t := fun t ht => (vis_push hb).2 (.inr ht)
  have av : ∀ t, Vis T fn (pushN T fn o.dst ns) t → aval ((cDst P T fn o.dst false).upE v e) ((cDst P T fn o.dst false).upL v L) (pushN T fn o.dst ns) t = if o.dst = some t then v else aval e L ns t := fun t ht => aval_put hb D.tm.loc ht
  have self0 : ∀ t, o.dst = some t → t ∉ namesOf ops o := fun t ht => memO_false o4 ht
  refine ⟨D.size, D.fuel, o7, fun l1 k l2 he => ?_, fun k => ?_, fun k hk => (hasT_add _ _ _).2 (.inr (D.low k hk)), D.sur, D.clo, ?_, fun k ok hk h1 h2 => ?_, fun k b ob h1 h2 hx => ?_, fun k k' ok ok' t a a' c d c' d' ne hd hm => ?_, fun k k' ok ok' t a a' c d c' d' ne hd => ?_, fun k ok t a c d hd => ?_, fun k k' b ob ob' c d c' d' hx hx' => ?_⟩
  · cases l1 with
    | nil =>
      simp only [List.nil_append, List.cons.injEq] at he
      obtain ⟨rfl, rfl⟩ := he
      exact ⟨o, ho, fun k hk => (D.exd k).1 (hsub k hk)⟩
    | cons a l1 =>
      simp only [List.cons_append, List.cons.injEq] at he
      exact D.exo l1 k l2 he.2
  · rw [hasT_add, D.exd, List.mem_cons]
  · refine (D.tm.early hb (v := v)).imp ?_
    rintro t _ (⟨k, ok, h1, h2, h3, h4⟩ | h)
    · exact ⟨k, ok, h1, h2, (hasT_add _ _ _).2 (.inr h3), h4⟩
    · exact ⟨i, o, ho, hil, (hasT_add _ _ _).2 (.inl rfl), h⟩
  · by_cases hki : k = i
    · subst hki
      rw [ho] at hk; cases hk
      rw [if_pos rfl]
      have hE : ∀ t ∈ namesOf ops o, aval ((cDst P T fn o.dst false).upE v e) ((cDst P T fn o.dst false).upL v L) (pushN T fn o.dst ns) t = aval e L ns t := fun t ht => by
        rw [av t (vm t (hv t ht)), if_neg fun h' => self0 t h' ht]
      refine ⟨hq, fun t ht => vm t (hv t ht), fun t ht => ⟨(vis_push hb).2 (.inl ht), dst_lt hb ht⟩, v, fun t ht => by rw [av t ((vis_push hb).2 (.inl ht)), if_pos ht], fun hg => r2 (by rw [← gdB_congr hE]; exact hg), fun hg => ?_⟩
      rcases r3 (by rw [← gdB_congr hE]; exact hg) with h | h
      · exact .inr (.inl ⟨h.1, h.2.congr fun t ht => hE t (names_ops ht)⟩)
      · exact .inr (.inr (h.congr fun t ht => hE t (names_ops ht)))
    · rw [if_neg hki]
      have h3 := dn k h2 hki
      obtain ⟨w1, w2⟩ := wr0 k ok hk h1 h3
      have Q := D.pend k ok hk h1 h3
      refine Q.congr vm (fun t ht => by rw [av t (vm t (Q.vis t ht)), if_neg fun h' => memO_false w1 h' ht]) (fun t ht => by rw [av t (vm t (Q.dst t ht).1), if_neg fun h' => sameO_false w2 h' ht]) (fun hr => ?_) (fun hc => by simp [chkM, hasT_zero] at hc)
      rcases k3 with h' | h'
      · exact .inl ⟨h', by simp [chkM, hasT_zero]⟩
      · right
        have hn : (opInfo ops o).n = true := h'
        rw [hn] at o6
        simp only [Bool.not_true, Bool.false_or] at o6
        have o6' : againB done sure (chkM l 0) (opInfos ops) 0 = true := by simpa using o6
        have := again_ok o6' k _ (infos_get hk) hr
        rw [Nat.zero_add] at this
        rcases this h3 with h5 | h5
        · rw [pd k h1] at h5; cases h5
        · exact h5
  · by_cases hki : k = i
    · rw [if_pos hki] at hx
      obtain ⟨y1, y2, y3, y4⟩ := k4 b ob hx
      exact ⟨by omega, y2, y3, y4⟩
    · rw [if_neg hki] at hx
      obtain ⟨y1, y2, y3, y4⟩ := D.own k b ob h1 (dn k h2 hki) hx
      exact ⟨y1, by omega, y3, by rw [k2 b y2 y3]; exact y4⟩
  · by_cases hk' : k' = i
    · subst hk'
      rw [ho] at a'; cases a'
      exact lk0 k ok t a c (dn k d ne) hd hm
    · by_cases hk : k = i
      · subst hk
        rw [ho] at a; cases a
        exact absurd hm (memO_false (wr0 k' ok' a' c' (dn k' d' hk')).1 hd)
      · exact D.dep k k' ok ok' t a a' c (dn k d hk) c' (dn k' d' hk') ne hd hm
  · by_cases hk' : k' = i
    · subst hk'
      rw [ho] at a'; cases a'
      intro h'
      exact sameO_false (wr0 k ok a c (dn k d ne)).2 h' hd
    · by_cases hk : k = i
      · subst hk
        rw [ho] at a; cases a
        exact sameO_false (wr0 k' ok' a' c' (dn k' d' hk')).2 hd
      · exact D.dis k k' ok ok' t a a' c (dn k d hk) c' (dn k' d' hk') ne hd
  · by_cases hk : k = i
    · subst hk
      rw [ho] at a; cases a
      exact self0 t hd
    · exact D.self k ok t a c (dn k d hk) hd
  · by_cases hk : k = i
    · by_cases hk' : k' = i
      · rw [hk, hk']
      · rw [if_pos hk] at hx
        rw [if_neg hk'] at hx'
        have := (k4 b ob hx).1
        have := (D.own k' b ob' c' (dn k' d' hk') hx').2.1
        omega
    · by_cases hk' : k' = i
      · rw [if_neg hk] at hx
        rw [if_pos hk'] at hx'
        have := (k4 b ob' hx').1
        have := (D.own k b ob c (dn k d hk) hx).2.1
        omega
      · rw [if_neg hk] at hx
        rw [if_neg hk'] at hx'
        exact D.uno k k' b ob ob' c (dn k d hk) c' (dn k' d' hk') hx hx'

/-- a read is done again -/
theorem DrOk.chk (D : DrOk P T B w0 N φ hs fn e L ns ops ((i, true) :: l) tmps listed fuel done sure ex xb)
    (hc : ∀ o, ops[i]? = some o → readsOp o.op = true → lst? listed i = false → ∃ v, (∀ t, o.dst = some t → aval e L ns t = v) ∧ (gdB ops (aval e L ns) o = false → v = undef) ∧ (gdB ops (aval e L ns) o = true → PQ P T B w0 (· = hs) (aval e L ns) o v (xb i))) :
    DrOk P T B w0 N φ hs fn e L ns ops l tmps listed fuel done sure ex xb := by
  have hord := D.ord
  simp only [ordB, Bool.and_eq_true] at hord
  refine ⟨D.size, D.fuel, hord.2, D.exo, D.exd, D.low, D.sur, D.clo, D.tm, fun k ok hk h1 h2 => ?_, D.own, D.dep, D.dis, D.self, D.uno⟩
  have Q := D.pend k ok hk h1 h2
  obtain ⟨q, a, b, v, r1, r2, r3⟩ := Q
  cases hch : hasT (chkM l 0) k with
  | true =>
    refine ⟨q, a, b, v, r1, r2, fun hg => ?_⟩
    rcases r3 hg with h | h | h
    · exact .inl ⟨hch, h.2⟩
    · exact .inr (.inl h)
    · exact .inr (.inr h)
  | false =>
    by_cases hki : k = i
    · subst hki
      cases hr : readsOp ok.op with
      | true =>
        obtain ⟨v', s1, s2, s3⟩ := hc ok hk hr h1
        exact ⟨q, a, b, v', s1, s2, fun hg => .inr (.inl ⟨hr, s3 hg⟩)⟩
      | false =>
        refine ⟨q, a, b, v, r1, r2, fun hg => ?_⟩
        rcases r3 hg with h | h | h
        · rw [hr] at h; cases h.2
        · exact .inr (.inl h)
        · exact .inr (.inr h)
    · refine ⟨q, a, b, v, r1, r2, fun hg => ?_⟩
      rcases r3 hg with h | h | h
      · have h' := h.1
        rw [show chkM ((i, true) :: l) 0 = chkM l (addT 0 i) from rfl, chk_cons, hasT_add] at h'
        rcases h' with (h' | h') | h'
        · exact absurd h' hki
        · rw [hasT_zero] at h'; cases h'
        · rw [hch] at h'; cases h'
      · exact .inr (.inl h)
      · exact .inr (.inr h)

/-- behind an operation that acts -/
theorem DrOk.eff (D : DrOk P T B w0 N φ hs fn e L ns ops ((i, false) :: l) tmps listed (fuel + 1) done sure ex xb) (ho : ops[i]? = some o) (hq : quietOp o.op = false) (hb : (cDst P T fn o.dst false).isBad = false)
    (hil : lst? listed i = false) (hr : ∀ k, hasT (waitsM o.after.toList) k = true → lst? listed k = true) {φ' : Plc} {hs' : HS} {v : AV} (hN : N ≤ hs.next) (kp : Keep hs.next φ hs φ' hs') (ha : assignOp o.op = true → hs' = hs) (hv : Df φ' v) :
    ∃ done' sure' ex', DrOk P T B w0 N φ' hs' fn ((cDst P T fn o.dst false).upE v e) ((cDst P T fn o.dst false).upL v L) (pushN T fn o.dst ns) ops l (putT tmps o.dst (conc φ' v)) (listed.setIfInBounds i true) fuel done' sure' ex' xb := by
  have hord := D.ord
  simp only [ordB] at hord
  rw [fget_eq, infos_get ho] at hord
  simp only [] at hord
  have hq' : (opInfo ops o).q = false := hq
  simp only [hq', Bool.and_eq_true, Bool.not_eq_true'] at hord
  obtain ⟨⟨⟨o1, o2⟩, o3⟩, ⟨⟨o4, o5⟩, o6⟩, o7⟩ := hord
  have hjs : i < listed.size := by rw [D.size]; exact (Array.getElem?_eq_some_iff.1 ho).1
  have hsub := (subT_iff _ _).1 o2
  have st : ∀ k, lst? (listed.setIfInBounds i true) k = false → k ≠ i ∧ lst? listed k = false := fun k hk => by
    refine ⟨fun h => ?_, ?_⟩
    · have := (lst_set (listed := listed) (j := k) hjs).2 (.inl h); rw [hk] at this; cases this
    · cases hk' : lst? listed k with
      | false => rfl
      | true => have := (lst_set (listed := listed) (j := k) hjs).2 (.inr hk'); rw [hk] at this; cases this
  have dn : ∀ k, hasT (addT done i) k = true → k ≠ i → hasT done k = true := fun k hk hne => ((hasT_add _ _ _).1 hk).resolve_left hne
  have vm : ∀ t, Vis T fn ns t → Vis T fn (pushN T fn o.dst ns) t := fun t ht => (vis_push hb).2 (.inr ht)
  have av : ∀ t, Vis T fn (pushN T fn o.dst ns) t → aval ((cDst P T fn o.dst false).upE v e) ((cDst P T fn o.dst false).upL v L) (pushN T fn o.dst ns) t = if o.dst = some t then v else aval e L ns t := fun t ht => aval_put hb D.tm.loc ht
  have sur' : ∀ k, hasT (addT (Nat.lor sure (ancM (opInfos ops) ex (opInfo ops o).am)) i) k = true → lst? (listed.setIfInBounds i true) k = true := fun k hk => by
    rcases (hasT_add _ _ _).1 hk with h | h
    · exact (lst_set hjs).2 (.inl h)
    · rcases (hasT_or _ _ _).1 h with h | h
      · exact (lst_set hjs).2 (.inr (D.sur k h))
      · exact (lst_set hjs).2 (.inr (anc_ok (A := fun k => lst? listed k = true) (fun j oj hj h1 k hk => D.clo j oj hj h1 k hk) hr k h))
  have pd : ∀ k, lst? (listed.setIfInBounds i true) k = false → hasT (addT (Nat.lor sure (ancM (opInfos ops) ex (opInfo ops o).am)) i) k = false := fun k hk => by
    cases h : hasT (addT (Nat.lor sure (ancM (opInfos ops) ex (opInfo ops o).am)) i) k with
    | false => rfl
    | true => have := sur' k h; rw [hk] at this; cases this
  refine ⟨_, _, _, by simp [D.size], by have := open_set hjs hil; have := D.fuel; omega, o7, fun l1 k l2 he => ?_, fun k => ?_, fun k hk => ?_, sur', fun k ok hk h1 k' hk' => ?_, ?_, fun k ok hk h1 h2 => ?_, fun k b ob h1 h2 hx => ?_,
    fun k k' ok ok' t a a' c d c' d' ne hd hm => D.dep k k' ok ok' t a a' (st k c).2 (dn k d (st k c).1) (st k' c').2 (dn k' d' (st k' c').1) ne hd hm, fun k k' ok ok' t a a' c d c' d' ne hd => D.dis k k' ok ok' t a a' (st k c).2 (dn k d (st k c).1) (st k' c').2 (dn k' d' (st k' c').1) ne hd,
    fun k ok t a c d hd => D.self k ok t a (st k c).2 (dn k d (st k c).1) hd, fun k k' b ob ob' c d c' d' hx hx' => D.uno k k' b ob ob' (st k c).2 (dn k d (st k c).1) (st k' c').2 (dn k' d' (st k' c').1) hx hx'⟩
  · cases l1 with
    | nil =>
      simp only [List.nil_append, List.cons.injEq] at he
      obtain ⟨rfl, rfl⟩ := he
      exact ⟨o, ho, fun k hk => (D.exd k).1 (hsub k hk)⟩
    | cons a l1 =>
      simp only [List.cons_append, List.cons.injEq] at he
      exact D.exo l1 k l2 he.2
  · rw [hasT_add, D.exd, List.mem_cons]
  · rcases (lst_set hjs).1 hk with h | h
    · exact (hasT_add _ _ _).2 (.inl h)
    · exact (hasT_add _ _ _).2 (.inr (D.low k h))
  · rcases (lst_set hjs).1 h1 with h | h
    · subst h
      rw [ho] at hk; cases hk
      exact (lst_set hjs).2 (.inr (hr k' hk'))
    · exact (lst_set hjs).2 (.inr (D.clo k ok hk h k' hk'))
  · refine (D.tm.put kp.le hv hb).imp ?_
    rintro t _ ⟨⟨k, ok, h1, h2, h3, h4⟩, h5⟩
    refine ⟨k, ok, h1, ?_, (hasT_add _ _ _).2 (.inr h3), h4⟩
    cases hk : lst? (listed.setIfInBounds i true) k with
    | false => rfl
    | true =>
      rcases (lst_set hjs).1 hk with h | h
      · subst h; rw [o1] at h3; cases h3
      · rw [h2] at h; cases h
  · obtain ⟨hki, h1'⟩ := st k h1
    have h3 := dn k h2 hki
    have Q := D.pend k ok hk h1' h3
    have w0' := write_ok o5 k _ (infos_get hk)
    rw [Nat.zero_add] at w0'
    have w1 : memO o.dst (namesOf ops ok) = false := (w0' h3 (pd k h1)).1
    have w2 : sameO o.dst ok.dst = false := (w0' h3 (pd k h1)).2
    refine Q.congr vm (fun t ht => by rw [av t (vm t (Q.vis t ht)), if_neg fun h' => memO_false w1 h' ht]) (fun t ht => by rw [av t (vm t (Q.dst t ht).1), if_neg fun h' => sameO_false w2 h' ht]) (fun hrd => ?_) (fun hc => by simp [chkM, hasT_zero] at hc)
    cases hasg : assignOp o.op with
    | true => exact .inl ⟨ha hasg, by simp [chkM, hasT_zero]⟩
    | false =>
      right
      have hn : (opInfo ops o).asg = false := hasg
      rw [hn, Bool.false_or] at o6
      have := again_ok o6 k _ (infos_get hk) hrd
      rw [Nat.zero_add] at this
      rcases this h3 with h5 | h5
      · rw [pd k h1] at h5; cases h5
      · exact h5
  · obtain ⟨y1, y2, y3, y4⟩ := D.own k b ob (st k h1).2 (dn k h2 (st k h1).1) hx
    obtain ⟨z1, z2⟩ := kp.un b y2 y3
    exact ⟨y1, Nat.lt_of_lt_of_le y2 kp.next, z1, z2.trans y4⟩
end
end Go.AbsK

namespace Go.AbsK
open Go
open Go.RowKit (Below)
set_option linter.unusedVariables false
set_option linter.unusedSimpArgs false
set_option linter.deprecated false

variable {P : Program} {T : Hints} {B : Nat} {w0 : World} {f0 : Nat} {CS : List Frame}

theorem quiet_noDefer {o : Oper} (h : quietOp o.op = true) : ∀ c, o.op ≠ .defer c := fun c hc => by rw [hc] at h; cases h
section
variable {φ : Plc} {fn : Nat} {e : E16} {L : Loc} {ns : List Nat} {hs : HS} {w : World} {fr : Frame} {cs : List Frame} {ops : Array Oper} {l : List (Nat × Bool)} {N : Nat}
  {done sure : Nat} {ex : List Nat} {tmps : Array Value} {Kt : List Item}
/-- what is behind in truth comes after -/
theorem DrOk.catch_ (hl : ∀ k, hasT (chkM l 0) k = false) (hN : N ≤ hs.next) : ∀ (n : Nat) {φ : Plc} {w : World} {fr : Frame} {listed : Array Bool} {fuel tt : Nat} {tmps : Array Value} {xb : Nat → Option (Nat × AObj)}, open_ listed ≤ n →
    DrOk P T B w0 N φ hs fn e L ns ops l tmps listed fuel done sure ex xb → HOk P T B w0 φ hs w → GlobOk T φ → fr.mode = .run → fr.tmps = tmps → fr.todo = .inRegion ops (Region.linearise.go .any ops fuel tt listed []) :: Kt →
    ∃ φ' w' tmps' listed' fuel' tt' rest, Keep N φ hs φ' hs ∧ HOk P T B w0 φ' hs w' ∧ Steps P (lone fr cs w) (lone { fr with tmps := tmps', todo := .inRegion ops rest :: Kt } cs w') ∧
      DrOk P T B w0 N φ' hs fn e L ns ops l tmps' listed' fuel' done sure ex xb ∧
      ((rest = [] ∧ (fuel' = 0 ∨ Region.ready .any ops listed' = [])) ∨
       (∃ j o fuel'', fuel' = fuel'' + 1 ∧ rest = j :: Region.linearise.go .any ops fuel'' tt' (listed'.setIfInBounds j true) [] ∧ ops[j]? = some o ∧ hasT done j = false ∧ lst? listed' j = false ∧ ∀ k, hasT (waitsM o.after.toList) k = true → lst? listed' k = true)) := by
  intro n
  induction n with
  | zero =>
    intro φ w fr listed fuel tt tmps xb hn D H G hm ht htd
    have same : ({ fr with tmps := tmps, todo := .inRegion ops (Region.linearise.go .any ops fuel tt listed []) :: Kt } : Frame) = fr := by cases fr; cases ht; cases htd; rfl
    rcases lin_step ops fuel tt listed with ⟨h1, h2⟩ | ⟨i, fuel', tt', h1, h2, h3⟩
    · refine ⟨φ, w, tmps, listed, fuel, tt, [], Keep.refl _ _ _, H, ?_, D, .inl ⟨rfl, h2⟩⟩
      rw [h1] at same
      rw [same]; exact Steps.refl _ _
    · obtain ⟨o, o1, o2, o3⟩ := (ready_iff D.size).1 h2
      have := open_zero (listed := listed) (by omega) (i := i) (by rw [D.size]; exact (Array.getElem?_eq_some_iff.1 o1).1)
      rw [o2] at this; cases this
  | succ n ihn =>
    intro φ w fr listed fuel tt tmps xb hn D H G hm ht htd
    have same : ({ fr with tmps := tmps, todo := .inRegion ops (Region.linearise.go .any ops fuel tt listed []) :: Kt } : Frame) = fr := by cases fr; cases ht; cases htd; rfl
    rcases lin_step ops fuel tt listed with ⟨h1, h2⟩ | ⟨i, fuel', tt', h1, h2, h3⟩
    · refine ⟨φ, w, tmps, listed, fuel, tt, [], Keep.refl _ _ _, H, ?_, D, .inl ⟨rfl, h2⟩⟩
      rw [h1] at same
      rw [same]; exact Steps.refl _ _
    · obtain ⟨o, o1, o2, o3⟩ := (ready_iff D.size).1 h2
      cases hd : hasT done i with
      | false =>
        refine ⟨φ, w, tmps, listed, fuel, tt', _, Keep.refl _ _ _, H, ?_, D, .inr ⟨i, o, fuel', h1, rfl, o1, hd, o2, o3⟩⟩
        rw [h3] at same
        rw [same]; exact Steps.refl _ _
      | true =>
        subst h1
        have his : i < listed.size := by rw [D.size]; exact (Array.getElem?_eq_some_iff.1 o1).1
        rw [h3] at htd
        obtain ⟨φ', w', v, a1, a2, a3, a4⟩ := D.lateStep (cs := cs) hl o1 o2 hd o3 H G hN (quiet_noDefer (D.pend i o o1 o2 hd).q) hm ht htd
        obtain ⟨φ'', w'', tmps'', listed'', fuel'', tt'', rest, b1, b2, b3, b4, b5⟩ := ihn (fr := { fr with tmps := putT tmps o.dst v, todo := .inRegion ops (Region.linearise.go .any ops fuel' tt' (listed.setIfInBounds i true) []) :: Kt }) (tt := tt') (by have := open_set his o2; omega) a4 a2 (G.up a1.le) hm rfl rfl
        exact ⟨φ'', w'', tmps'', listed'', fuel'', tt'', rest, a1.trans b1, b2, Steps.head a3 b3, b4, b5⟩
end

theorem hdOk_of {N : Nat} {φ : Plc} {hs : HS} {fn : Nat} {e : E16} {L : Loc} {tmps : Array Value} {k : Todo} {K : List Item} (t : TodoOk φ k K) (h : EnvOk P T φ fn e tmps) : HdOk P T B w0 N φ hs fn e L tmps k K := by
  cases t with
  | nil => exact ⟨.nil, h⟩
  | code t => exact ⟨.code t, h⟩
  | inBlock t => exact ⟨.inBlock t, h⟩
  | inLoop t => exact ⟨.inLoop t, h⟩
  | inScope t => exact ⟨.inScope t, h⟩
  | endRF hl t => exact ⟨.endRF hl t, h⟩
  | begR t => exact ⟨.begR t, h⟩
/-- a step within a frame -/
theorem step_todo {fr : Frame} {cs : List Frame} {w : World} {ops : Array Oper} {K : List Item} (hm : fr.mode = .run) (ht : fr.todo = .inRegion ops [] :: K) : step P (lone fr cs w) = .next (lone { fr with todo := K } cs w) := by
  refine step_lone_go ?_
  cases fr with
  | mk fn tmps todo defers mode kind roundOf => cases hm; cases ht; simp [stepG, stepG.exec]

-- the end of a region that draws
theorem blk_drEnd {fn : Nat} {ops : Array Oper} {ns : List Nat} {k : Todo} {b : Blk} (hb : BlkOk P T B w0 f0 CS fn k b) : BlkOk P T B w0 f0 CS fn (.dr ops [] ns :: k) (bDrop b) := by
  intro ih I e L fi s hs N φ w fr cs R
  have F := R.fr_
  rcases F.go with ⟨hm, K, listed, tt, fuel, done, sure, ex, xb, htd, tk, D⟩ | ⟨_, _, hk, _⟩
  · obtain ⟨φ', w', tmps', listed', fuel', tt', rest, a1, a2, a3, a4, a5⟩ := D.catch_ (cs := cs) (fun k => by simp [chkM, hasT_zero]) R.bnd (open_ listed) (Nat.le_refl _) R.heap R.glob hm rfl htd
    have hord := a4.ord
    simp only [ordB] at hord
    have hall : ∀ j, j < ops.size → hasT done j = true := fun j hj => by
      have := beqN_iff.1 hord
      rw [hasT_tb, this]
      have e1 : (opInfos ops).length = ops.size := by simp [opInfos]
      rw [e1]
      show ((1 <<< ops.size) - 1).testBit j = true
      rw [Nat.one_shiftLeft, Nat.testBit_two_pow_sub_one]
      simpa using hj
    have hls : ∀ j o, ops[j]? = some o → lst? listed' j = true := fun j o ho => by
      have hj := (Array.getElem?_eq_some_iff.1 ho).1
      rcases a5 with ⟨_, h | h⟩ | ⟨j', o', f, _, _, h1, h2, _⟩
      · exact open_zero (by have := a4.fuel; omega) (by rw [a4.size]; exact hj)
      · cases hf : lst? listed' j with
        | true => rfl
        | false =>
          obtain ⟨i, hi⟩ := ready_ex a4.size ex a4.exo ⟨j, (a4.exd j).1 (hall j hj), hf⟩
          rw [h] at hi; simp at hi
      · rw [hall j' (Array.getElem?_eq_some_iff.1 h1).1] at h2; cases h2
    have hrest : rest = [] := by
      rcases a5 with ⟨h, _⟩ | ⟨j', o', f, _, _, h1, h2, _⟩
      · exact h
      · rw [hall j' (Array.getElem?_eq_some_iff.1 h1).1] at h2; cases h2
    subst hrest
    have henv : EnvOk P T φ' fn e tmps' := (a4.tm.imp (Y := fun _ => False) fun t _ ⟨i, o, h1, h2, _⟩ => by rw [hls i o h1] at h2; cases h2).env
    refine Good.steps (a3.trans (.one (step_todo (fr := { fr with tmps := tmps', todo := .inRegion ops [] :: K }) hm rfl))) ?_
    show Good P B w0 f0 CS _ (blkK b ih e .nil fn fi s hs)
    exact hb ih I e .nil fi s hs N φ' w' _ cs ⟨R.bnd, a2, R.glob.up a1.le, ⟨F.fn_, F.kind, by rw [F.rd_]; cases hr : fi.rd with | none => rfl | some l => simp only [Option.map_some, a1.le.pl (F.rds l hr)], fun l hl => a1.le.some (F.rds l hl), by rw [F.ds_]; exact (concD_up a1.le F.dsd).symm, F.dsd.up a1.le, .inl ⟨hm, hdOk_of (tk.up a1.le) henv⟩⟩, R.stk.keep a1⟩
  · cases hk
/-- a frame whose blocks lie where they lay, in more -/
theorem FrOk.mk' {N : Nat} {φ φ' : Plc} {hs hs' : HS} {e e' : E16} {k k' : Todo} {L L' : Loc} {fn : Nat} {dfr : Bool} {rd : Option Nat} {ds : DL} {fr fr' : Frame} (F : FrOk P T B w0 N φ hs e k L fn dfr rd ds fr) (hle : Le φ φ') (h1 : fr'.fn = fr.fn) (h2 : fr'.kind = fr.kind) (h3 : fr'.roundOf = fr.roundOf) (h4 : fr'.defers = fr.defers)
    (h5 : (fr'.mode = .run ∧ HdOk P T B w0 N φ' hs' fn e' L' fr'.tmps k' fr'.todo) ∨ (fr'.mode = .returning ∧ rd = none ∧ k' = [.code .ret] ∧ EnvOk P T φ' fn e' fr'.tmps)) : FrOk P T B w0 N φ' hs' e' k' L' fn dfr rd ds fr' :=
  ⟨h1.trans F.fn_, h2.trans F.kind, by rw [h3, F.rd_]; cases hr : rd with | none => rfl | some l => simp only [Option.map_some, hle.pl (F.rds l hr)], fun l hl => hle.some (F.rds l hl), by rw [h4, F.ds_]; exact (concD_up hle F.dsd).symm, F.dsd.up hle, h5⟩
end Go.AbsK

namespace Go.AbsK
open Go
open Go.RowKit (Below)
set_option linter.unusedVariables false
set_option linter.unusedSimpArgs false
set_option linter.deprecated false

variable {P : Program} {T : Hints} {B : Nat} {w0 : World} {f0 : Nat} {CS : List Frame}

theorem oper_eta (o : Oper) : ({ dst := o.dst, op := o.op, type := o.type, pos := o.pos, after := o.after, guard := o.guard } : Oper) = o := by cases o; rfl
theorem visB_ok {fn : Nat} {ns : List Nat} : ∀ {l : List Nat}, visB T fn ns l = true → ∀ t ∈ l, Vis T fn ns t
  | [], _, t, h => by simp at h
  | u :: l, h, t, ht => by
    simp only [visB, Bool.and_eq_true, Bool.or_eq_true] at h
    rcases List.mem_cons.1 ht with rfl | ht
    · rcases h.1 with h1 | h1
      · exact .inl (memN_iff.1 h1)
      · exact .inr ⟨Nat.le_of_ble_eq_true h1.2, h1.1⟩
    · exact visB_ok h.2 t ht
section
variable {φ : Plc} {fn : Nat} {e : E16} {L : Loc} {ns : List Nat} {hs : HS} {w : World} {fr : Frame} {cs : List Frame} {ops : Array Oper} {N : Nat} {o : Oper} {i : Nat} {k : Todo} {d : DB} {fi : FI} {s : Stk} {ih : K} {rest : List Nat} {Kt : List Item}

theorem pq_v {g : VO} {v : AV} {h0 : HS} {x : Option (Nat × AObj)} (hgo : cOp P T o.op fn ns = .v g) (hv : g e L hs (fun v => .done v hs) = .done v h0) :
    (readsOp o.op = true ∧ PQ P T B w0 (· = hs) (aval e L ns) o v x) ∨ PQ P T B w0 (fun _ => True) (aval e L ns) o v x := by
  have key := opOk (P := P) (T := T) (B := B) (w0 := w0) (fn := fn) (ns := ns) (t := o.type) o.op
  rw [hgo] at key
  have fin : ∀ {φ : Plc} {w : World} {ρ : Operand → Value} {hs' : HS}, HOk P T B w0 φ hs' w → VOk P g o.op o.type φ e L hs w ρ →
      ∃ φ' w', Le φ φ' ∧ HOk P T B w0 φ' hs' w' ∧ Df φ' v ∧ (execOp ρ o).run P w = .ok (.value (conc φ' v)) w' ∧ ∀ b, φ b = none → (∀ ob, x ≠ some (b, ob)) → φ' b = none := fun {φ w ρ hs'} H ho => by
    rcases ho with ho | ⟨v', h1, h2, h3⟩
    · rw [ho] at hv; cases hv
    · rw [h1] at hv
      cases hv
      have := h3 o.dst o.pos o.after o.guard
      exact ⟨φ, w, Le.refl φ, H, h2, this, fun b hb _ => hb⟩
  cases key with
  | pure hg => exact .inr fun φ hs' w ρ _ H G S ha _ => fin H (hg φ e L hs w ρ (opA G S fun t ht _ => ha t ht))
  | read hr hg => exact .inl ⟨hr, fun φ hs' w ρ he H G S ha _ => by subst he; exact fin H (hg φ e L hs' w ρ H (opA G S fun t ht _ => ha t ht))⟩
theorem askO_eq (g : VO) (e : E16) (L : Loc) (hs : HS) (q : AV → Out) : askO g e L hs q = match g e L hs (fun v => .done v hs) with | .done v _ => q v | _ => .fail := by
  unfold askO
  cases g e L hs (fun v => .done v hs) <;> rfl
theorem gd_some {E : Nat → AV} {j t : Nat} {w' : Bool} (h : o.guard = some (j, w')) (hd : dstOf ops j = some t) : gdB ops E o = guardB (E t) w' := by
  unfold gdB
  rw [h]
  simp only [hd]
theorem bGuard_blk {x : OB} {w' : Bool} {a b : Blk} {ih : K} {fi : FI} {s : Stk} : blkK (bGuard x w' a b) ih e L fn fi s hs = if guardB (ev x e L) w' = true then blkK a ih e L fn fi s hs else blkK b ih e L fn fi s hs := by
  show @Bool.rec (fun _ => Out) (blkK b ih e L fn fi s hs) (blkK a ih e L fn fi s hs) (guardB (ev x e L) w') = _
  cases guardB (ev x e L) w' <;> rfl

/-- a quiet operation of a region that draws -/
theorem blk_drQuiet {l : List (Nat × Bool)} (ho : ops[i]? = some o) (hq : quietOp o.op = true) : BlkOk P T B w0 f0 CS fn (.dr ops ((i, false) :: l) ns :: k) (cQuiet P T fn ns ops o (cDst P T fn o.dst false) (.dr ops l (pushN T fn o.dst ns) :: k)) := by
  intro ih I e L fi s hs N φ w fr cs R
  have F := R.fr_
  unfold cQuiet
  cases hvb : visB T fn ns (namesOf ops o) with
  | false => trivial
  | true =>
    have hvis := visB_ok hvb
    simp only []
    rcases F.go with ⟨hm, K, listed, tt, fuel, done, sure, ex, xb, htd, tk, D⟩ | ⟨_, _, hk, _⟩
    · have fin : ∀ {hs' : HS} {v : AV} {x : Option (Nat × AObj)}, HOk P T B w0 φ hs' w → hs.next ≤ hs'.next → (∀ b, b < hs.next → φ b = none → getH b hs'.heap = getH b hs.heap) → (hs' = hs ∨ newOp o.op = true) →
          (∀ b ob, x = some (b, ob) → hs.next ≤ b ∧ b < hs'.next ∧ φ b = none ∧ getH b hs'.heap = ob) → (gdB ops (aval e L ns) o = false → v = undef) →
          (gdB ops (aval e L ns) o = true → (readsOp o.op = true ∧ PQ P T B w0 (· = hs') (aval e L ns) o v x) ∨ PQ P T B w0 (fun _ => True) (aval e L ns) o v x) →
          Good P B w0 f0 CS (lone fr cs w) (finK (finOf (cDst P T fn o.dst false)) v ih (.dr ops l (pushN T fn o.dst ns) :: k) e L fn fi s hs') := fun {hs' v x} H k1 k2 k3 k4 k5 k6 => by
        have kp : Keep N φ hs φ hs' := ⟨Le.refl φ, k1, fun b hb hn => ⟨hn, k2 b (Nat.lt_of_lt_of_le hb R.bnd) hn⟩⟩
        exact fin_ok I (fun _ => trivial) (Steps.refl _ _) (Nat.le_trans R.bnd k1) H R.glob (fun hb => F.mk' (Le.refl φ) rfl rfl rfl rfl (.inl ⟨hm, K, listed, tt, fuel, _, _, _, _, htd, tk, D.quiet ho hq hb R.bnd k1 k2 k3 k4 hvis k5 k6⟩)) (R.stk.keep kp)
      have run : gdB ops (aval e L ns) o = true → Good P B w0 f0 CS (lone fr cs w) (blkK (goBlkR (cOp P T o.op fn ns) (cDst P T fn o.dst false) (.dr ops l (pushN T fn o.dst ns) :: k)) ih e L fn fi s hs) := fun hgd => by
        cases hgo : cOp P T o.op fn ns with
        | bad => trivial
        | v g =>
          show Good P B w0 f0 CS (lone fr cs w) (askO g e L hs fun v => finK (finOf (cDst P T fn o.dst false)) v ih (.dr ops l (pushN T fn o.dst ns) :: k) e L fn fi s hs)
          rw [askO_eq]
          split
          · rename_i v h0 hv
            exact fin (x := none) R.heap (Nat.le_refl _) (fun _ _ _ => rfl) (.inl rfl) (fun _ _ h => by cases h) (fun h => by rw [hgd] at h; cases h) (fun _ => pq_v hgo hv)
          · trivial
        | h g =>
          show Good P B w0 f0 CS (lone fr cs w) (blkK (bH g (finOf (cDst P T fn o.dst false)) (.dr ops l (pushN T fn o.dst ns) :: k)) ih e L fn fi s hs)
          rw [bH_blk]
          have key := opOk (P := P) (T := T) (B := B) (w0 := w0) (fn := fn) (ns := ns) (t := o.type) o.op
          rw [hgo] at key
          cases key with
          | eff hne _ => rw [hq] at hne; cases hne
          | new hnew hg =>
            rcases hg e L hs with h1 | ⟨ob, v, h1, h2, h3, h4⟩
            · rw [h1]; trivial
            · rw [h1]
              refine fin (x := some (hs.next, ob)) (R.heap.push ob h2 h3) (by rw [HS.push_next]; omega) (fun b hb _ => HS.push_ne ob hs (by omega) (by omega) (by omega)) (.inr hnew) (fun b ob' h => ?_) (fun h => by rw [hgd] at h; cases h) (fun _ => .inr ?_)
              · cases h
                exact ⟨Nat.le_refl _, by rw [HS.push_next]; omega, R.heap.nextNone, HS.push_same _ _⟩
              · intro φ1 hs1 w1 ρ _ H1 G1 S1 ha hx
                obtain ⟨x1, x2, x3⟩ := hx _ _ rfl
                obtain ⟨p, w2, y1, y2, y3⟩ := h4 φ1 hs1 w1 ρ (opA G1 S1 fun t ht _ => ha t ht) H1 x1 x2 x3
                have := y3 o.dst o.pos o.after o.guard
                refine ⟨_, w2, Le.set1 x1 p, y1, y2, this, fun b hb hne => ?_⟩
                unfold set1
                rw [if_neg (fun h => hne ob (by rw [h]))]
                exact hb
      split
      · rename_i hg
        exact run (by unfold gdB; rw [hg])
      · rename_i j w' hg
        split
        · rename_i x hx
          simp only [Option.bind_eq_some_iff] at hx
          obtain ⟨t, t1, t2⟩ := hx
          obtain ⟨_, hev⟩ := cO_tmp t2
          rw [bGuard_blk, hev e L]
          have hgd := gd_some (E := aval e L ns) hg t1
          split
          · rename_i hgt; exact run (by rw [hgd]; exact hgt)
          · rename_i hgf
            have hgf' : gdB ops (aval e L ns) o = false := by rw [hgd]; simpa using hgf
            show Good P B w0 f0 CS (lone fr cs w) (blkK (bV (fun _ _ _ q => q undef) (finOf (cDst P T fn o.dst false)) (.dr ops l (pushN T fn o.dst ns) :: k)) ih e L fn fi s hs)
            rw [bV_blk]
            exact fin (x := none) R.heap (Nat.le_refl _) (fun _ _ _ => rfl) (.inl rfl) (fun _ _ h => by cases h) (fun _ => rfl) (fun h => by rw [hgf'] at h; cases h)
        · trivial
    · cases hk
theorem eqV_eq : ∀ {a b : AV}, eqV a b = true → a = b := by
  intro a
  induction a with
  | int k n => intro b h; cases b <;> first | (simp only [eqV, Bool.and_eq_true] at h; rw [sameK_iff.1 h.1]; have := h.2; rw [zEq_iff] at this; rw [show n = _ from by simpa using this]) | cases h
  | bool x => intro b h; cases b <;> first | (simp only [eqV, beq_iff_eq] at h; rw [h]) | cases h
  | ptr x y z => intro b h; cases b <;> first | (simp only [eqV, Bool.and_eq_true] at h; rw [beqN_iff.1 h.1.1, beqN_iff.1 h.1.2, beqN_iff.1 h.2]) | cases h
  | sl x y z u o => intro b h; cases b <;> first | (simp only [eqV, Bool.and_eq_true, beq_iff_eq] at h; rw [beqN_iff.1 h.1.1.1.1, beqN_iff.1 h.1.1.1.2, beqN_iff.1 h.1.1.2, beqN_iff.1 h.1.2, h.2]) | cases h
  | str s => intro b h; cases b <;> first | (simp only [eqV, beq_iff_eq] at h; rw [h]) | cases h
  | nil => intro b h; cases b <;> first | rfl | cases h
  | cons x y ihx ihy => intro b h; cases b <;> first | (simp only [eqV, Bool.and_eq_true] at h; rw [ihx h.1, ihy h.2]) | cases h
  | agg l ihl => intro b h; cases b <;> first | (simp only [eqV] at h; rw [ihl h]) | cases h
  | oth g a b c d e f x y ihx ihy => intro b' h; cases b' <;> first | (simp only [eqV, Bool.and_eq_true] at h; obtain ⟨⟨⟨⟨⟨⟨⟨⟨h1, h2⟩, h3⟩, h4⟩, h5⟩, h6⟩, h7⟩, h8⟩, h9⟩ := h; rw [beqN_iff.1 h1, beqN_iff.1 h2, beqN_iff.1 h3, beqN_iff.1 h4, beqN_iff.1 h5, beqN_iff.1 h6, beqN_iff.1 h7, ihx h8, ihy h9]) | cases h
/-- a read is done again -/
theorem blk_drChk {l : List (Nat × Bool)} (ho : ops[i]? = some o) : BlkOk P T B w0 f0 CS fn (.dr ops ((i, true) :: l) ns :: k) (cChk P T fn ns ops o (.dr ops l ns :: k)) := by
  intro ih I e L fi s hs N φ w fr cs R
  have F := R.fr_
  unfold cChk
  split
  · rename_i g x hgo hx
    rcases F.go with ⟨hm, K, listed, tt, fuel, done, sure, ex, xb, htd, tk, D⟩ | ⟨_, _, hk, _⟩
    · simp only [Option.bind_eq_some_iff] at hx
      obtain ⟨t, t1, t2⟩ := hx
      obtain ⟨_, hev⟩ := cO_tmp t2
      have hdn : hasT done i = true := by
        have := D.ord
        simp only [ordB, Bool.and_eq_true] at this
        exact this.1
      have fin : (gdB ops (aval e L ns) o = true → ∃ h0, g e L hs (fun v => .done v hs) = .done (aval e L ns t) h0) → Good P B w0 f0 CS (lone fr cs w) (ih e (.dr ops l ns :: k) L fn fi s hs) := fun hg => by
        refine I _ _ _ _ _ _ _ N φ w fr cs ⟨R.bnd, R.heap, R.glob, F.mk' (Le.refl φ) rfl rfl rfl rfl (.inl ⟨hm, K, listed, tt, fuel, _, _, _, _, htd, tk, D.chk fun o' ho' hr hl' => ?_⟩), R.stk⟩
        rw [ho] at ho'; cases ho'
        obtain ⟨v, r1, r2, _⟩ := (D.pend i o ho hl' hdn).run
        refine ⟨v, r1, r2, fun hgd => ?_⟩
        obtain ⟨h0, hv⟩ := hg hgd
        rw [r1 t t1] at hv
        rcases pq_v (P := P) (T := T) (B := B) (w0 := w0) (x := xb i) hgo hv with h | h
        · exact h.2
        · exact fun φ hs w ρ _ => h φ hs w ρ trivial
      have run : Good P B w0 f0 CS (lone fr cs w) (blkK (bChk g x (.dr ops l ns :: k)) ih e L fn fi s hs) := by
        show Good P B w0 f0 CS (lone fr cs w) (askO g e L hs fun v => ifO (eqV v (ev x e L)) (ih e (.dr ops l ns :: k) L fn fi s hs) .fail)
        rw [askO_eq]
        split
        · rename_i v h0 hv
          cases hq : eqV v (ev x e L) with
          | false => trivial
          | true =>
            have := eqV_eq hq
            rw [hev e L] at this
            subst this
            exact fin fun _ => ⟨h0, hv⟩
        · trivial
      split
      · exact run
      · rename_i j w' hg
        split
        · rename_i y hy
          simp only [Option.bind_eq_some_iff] at hy
          obtain ⟨u, u1, u2⟩ := hy
          obtain ⟨_, hev'⟩ := cO_tmp u2
          rw [bGuard_blk, hev' e L]
          split
          · exact run
          · rename_i hgf
            exact fin fun hgd => absurd hgd (by rw [gd_some (E := aval e L ns) hg u1]; exact hgf)
        · trivial
    · cases hk
  · trivial
/-- what holds where an operation, guarded maybe, is about to be done -/
theorem good_guarded (W : ProgOk P) (I : KOk P T B w0 f0 CS ih) (mode : fr.mode = .run) (todo : fr.todo = .inRegion ops (i :: rest) :: Kt) (op : ops[i]? = some o) (bnd : N ≤ hs.next) (heap : HOk P T B w0 φ hs w) (glob : GlobOk T φ)
    (args : OpA T fn ns o.op.operands.toList φ e L fr.eval) (aft : d.isBad = false → After P T B w0 N φ hs e k L fn fi d o fr) (stk : StkOk P T B w0 f0 CS N φ hs fn fi s cs)
    (hk : fr.kind = if fi.dfr then .deferred else .normal) (hrd : fr.roundOf = fi.rd.map fun l => (pl φ l).blk) (hds : fr.defers = concD φ fi.ds) (hdd : DfD φ fi.ds)
    (hag : ∀ t ∈ namesOf ops o, Vis T fn ns t → fr.tmps.getD t Go.undef = conc φ (aval e L ns t)) :
    Good P B w0 f0 CS (lone fr cs w) (blkK (cGuarded P T fn ns ops o d k) ih e L fn fi s hs) := by
  unfold cGuarded
  split
  · rename_i hg
    exact (Here.mk mode todo op (by unfold Region.wanted; rw [hg]) bnd heap glob args aft stk).op_ok W I hk hrd hds hdd
  · rename_i j w' hg
    split
    · rename_i x hx
      simp only [Option.bind_eq_some_iff] at hx
      obtain ⟨t, t1, t2⟩ := hx
      obtain ⟨hvt, hev⟩ := cO_tmp t2
      have hw : Region.wanted o (yielded ops fr.tmps) = guardB (aval e L ns t) w' := by
        rw [wanted_ok (φ := φ) (E := aval e L ns) (ops := ops) fun j' w'' t' h1 h2 => by
          rw [hg] at h1; cases h1
          rw [t1] at h2; cases h2
          exact hag t (names_gd hg t1) hvt]
        exact gd_some hg t1
      rw [bGuard_blk, hev e L]
      split
      · rename_i hgt
        exact (Here.mk mode todo op (by rw [hw]; exact hgt) bnd heap glob args aft stk).op_ok W I hk hrd hds hdd
      · rename_i hgf
        show Good P B w0 f0 CS (lone fr cs w) (blkK (bV (fun _ _ _ q => q undef) (finOf d) k) ih e L fn fi s hs)
        rw [bV_blk]
        exact fin_ok I (fun _ => trivial) (.one (step_skip' mode todo op (by rw [hw]; simpa using hgf))) bnd heap glob (fun hb => aft hb φ hs undef (Keep.refl _ _ _) (fun _ => rfl) trivial) stk
    · trivial
/-- an operation that acts, of a region that draws -/
theorem blk_drEff (W : ProgOk P) {l : List (Nat × Bool)} (ho : ops[i]? = some o) (hq : quietOp o.op = false) : BlkOk P T B w0 f0 CS fn (.dr ops ((i, false) :: l) ns :: k) (cGuarded P T fn ns ops o (cDst P T fn o.dst false) (.dr ops l (pushN T fn o.dst ns) :: k)) := by
  intro ih I e L fi s hs N φ w fr cs R
  have F := R.fr_
  rcases F.go with ⟨hm, K, listed, tt, fuel, done, sure, ex, xb, htd, tk, D⟩ | ⟨_, _, hk, _⟩
  · obtain ⟨φ', w', tmps', listed', fuel', tt', rest, a1, a2, a3, a4, a5⟩ := D.catch_ (cs := cs) (fun k => by simp [chkM, hasT_zero]) R.bnd (open_ listed) (Nat.le_refl _) R.heap R.glob hm rfl htd
    have hord := a4.ord
    simp only [ordB] at hord
    rw [fget_eq, infos_get ho] at hord
    simp only [] at hord
    have hq' : (opInfo ops o).q = false := hq
    simp only [hq', Bool.and_eq_true, Bool.not_eq_true'] at hord
    obtain ⟨⟨⟨o1, o2⟩, o3⟩, ⟨⟨o4, o5⟩, o6⟩, o7⟩ := hord
    have his : i < ops.size := (Array.getElem?_eq_some_iff.1 ho).1
    have hil : lst? listed' i = false := by
      cases h : lst? listed' i with
      | false => rfl
      | true => have := a4.low i h; rw [o1] at this; cases this
    have hsub := (subT_iff _ _).1 o2
    -- the machine has come to just this operation
    have main : ∃ fuel'' tt'', fuel' = fuel'' + 1 ∧ rest = i :: Region.linearise.go .any ops fuel'' tt'' (listed'.setIfInBounds i true) [] ∧ ∀ k, hasT (waitsM o.after.toList) k = true → lst? listed' k = true := by
      rcases a5 with ⟨_, h | h⟩ | ⟨j, oj, f, h1, h2, h3, h4, h5, h6⟩
      · have := open_zero (listed := listed') (by have := a4.fuel; omega) (i := i) (by rw [a4.size]; exact his)
        rw [hil] at this; cases this
      · exfalso
        rcases Classical.em (∃ k ∈ ex, lst? listed' k = false) with hc | hc
        · obtain ⟨k, hk⟩ := ready_ex a4.size ex a4.exo hc
          rw [h] at hk; simp at hk
        · have : i ∈ Region.ready .any ops listed' := (ready_iff a4.size).2 ⟨o, ho, hil, fun k hk => by
            cases hk' : lst? listed' k with
            | true => rfl
            | false => exact absurd ⟨k, (a4.exd k).1 (hsub k hk), hk'⟩ hc⟩
          rw [h] at this; simp at this
      · have hji : j = i := by
          have := only_ok o4 j _ (infos_get h3)
          rw [Nat.zero_add] at this
          rcases this with h | h | h
          · rw [h4] at h; cases h
          · exact h.symm
          · have hs' : subT (opInfo ops oj).am done = true := (subT_iff _ _).2 fun k hk => a4.low k (h6 k hk)
            rw [hs'] at h; cases h
        subst hji
        rw [ho] at h3; cases h3
        exact ⟨f, tt', h1, h2, h6⟩
    obtain ⟨fuel'', tt'', m1, m2, m3⟩ := main
    subst m1
    subst m2
    have lk : ∀ t ∈ namesOf ops o, Vis T fn ns t → Df φ' (aval e L ns t) ∧ tmps'.getD t Go.undef = conc φ' (aval e L ns t) := fun t ht hv => by
      refine a4.tm.at_ t hv ?_
      rintro ⟨q, oq, h1, h2, h3, h4⟩
      have := look_ok o3 q _ (infos_get h1)
      rw [Nat.zero_add] at this
      have hsq : hasT sure q = false := by
        cases h : hasT sure q with
        | false => rfl
        | true => have := a4.sur q h; rw [h2] at this; cases this
      have := m3 q (this h3 hsq (by show memO oq.dst (namesOf ops o) = true; rw [h4]; exact memN_iff.2 ht))
      rw [h2] at this; cases this
    refine Good.steps a3 ?_
    have F' := F.mk' (φ' := φ') (hs' := hs) (e' := e) (L' := L) (k' := .dr ops ((i, false) :: l) ns :: k) (fr' := { fr with tmps := tmps', todo := .inRegion ops (i :: Region.linearise.go .any ops fuel'' tt'' (listed'.setIfInBounds i true) []) :: K }) a1.le rfl rfl rfl rfl
    refine good_guarded (fr := { fr with tmps := tmps', todo := .inRegion ops (i :: Region.linearise.go .any ops fuel'' tt'' (listed'.setIfInBounds i true) []) :: K }) W I hm rfl ho R.bnd a2 (R.glob.up a1.le)
      (opA (R.glob.up a1.le) (evalStd _) fun t ht hv => lk t (names_ops ht) hv) (fun hb φ'' hs'' v kp hasg hv => ?_) (R.stk.keep a1) F.kind (by rw [F.rd_]; cases hr : fi.rd with | none => rfl | some l => simp only [Option.map_some, a1.le.pl (F.rds l hr)]) (by rw [F.ds_]; exact (concD_up a1.le F.dsd).symm) (F.dsd.up a1.le) (fun t ht hv => (lk t ht hv).2)
    obtain ⟨done', sure', ex', D'⟩ := a4.eff ho hq hb hil m3 R.bnd kp hasg hv
    rw [finish_reg (rest := Region.linearise.go .any ops fuel'' tt'' (listed'.setIfInBounds i true) []) rfl ho]
    exact F.mk' (a1.le.trans kp.le) rfl rfl rfl rfl (.inl ⟨hm, K, _, tt'', fuel'', done', sure', ex', xb, rfl, tk.up (a1.le.trans kp.le), D'⟩)
  · cases hk
/-- an operation of a region that goes by the text -/
theorem blk_rg (W : ProgOk P) {l : List Oper} : BlkOk P T B w0 f0 CS fn (.rg ops (o :: l) ns :: k) (cGuarded P T fn ns ops o (cDst P T fn o.dst l.isEmpty) (.rg ops l (pushN T fn o.dst ns) :: k)) := by
  intro ih I e L fi s hs N φ w fr cs R
  have F := R.fr_
  rcases F.go with ⟨hm, K, htd, tk, hle, hl, _, h2⟩ | ⟨_, _, hk, _⟩
  · have tm := h2 (by simp)
    simp only [List.length_cons] at hle hl htd
    have ho : ops[ops.size - (l.length + 1)]? = some o := by
      have : (ops.toList.drop (ops.size - (l.length + 1)))[0]? = some o := by rw [← hl]; rfl
      rw [List.getElem?_drop, Array.getElem?_toList] at this
      simpa using this
    have hl' : l = ops.toList.drop (ops.size - l.length) := by
      have : (o :: l).drop 1 = (ops.toList.drop (ops.size - (l.length + 1))).drop 1 := by rw [← hl]
      rw [List.drop_drop] at this
      rw [show ops.size - l.length = ops.size - (l.length + 1) + 1 by omega]
      exact this
    have hr : List.range' (ops.size - (l.length + 1)) (l.length + 1) = (ops.size - (l.length + 1)) :: List.range' (ops.size - l.length) l.length := by
      rw [List.range'_succ]
      rw [show ops.size - (l.length + 1) + 1 = ops.size - l.length by omega]
    rw [hr] at htd
    refine good_guarded W I hm htd ho R.bnd R.heap R.glob (opA R.glob (evalStd _) fun t ht hv => tm.at_ t hv (fun x => x)) (fun hb φ' hs' v kp _ hv => ?_) R.stk F.kind F.rd_ F.ds_ F.dsd (fun t ht hv => (tm.at_ t hv (fun x => x)).2)
    rw [finish_reg htd ho]
    refine F.mk' kp.le rfl rfl rfl rfl (.inl ⟨hm, K, rfl, tk.up kp.le, by omega, hl', fun hn => ?_, fun hn => ?_⟩)
    · exact EnvOk.put tm kp.le hv hb
    · have he : l.isEmpty = false := by cases l with | nil => exact absurd rfl hn | cons _ _ => rfl
      rw [he] at hb ⊢
      exact (tm.put kp.le hv hb).imp fun t _ h => h.1
  · cases hk
theorem blk_rgEnd {b : Blk} (hb : BlkOk P T B w0 f0 CS fn k b) : BlkOk P T B w0 f0 CS fn (.rg ops [] ns :: k) b := by
  intro ih I e L fi s hs N φ w fr cs R
  have F := R.fr_
  rcases F.go with ⟨hm, K, htd, tk, hle, hl, h1, _⟩ | ⟨_, _, hk, _⟩
  · have henv := h1 rfl
    simp only [List.length_nil, List.range'_zero] at htd
    exact Good.steps (.one (step_todo hm htd)) (hb ih I e L fi s hs N φ w _ cs ⟨R.bnd, R.heap, R.glob, F.mk' (Le.refl φ) rfl rfl rfl rfl (.inl ⟨hm, hdOk_of tk henv⟩), R.stk⟩)
  · cases hk
end
end Go.AbsK

namespace Go.AbsK
open Go
open Go.RowKit (Below)
set_option linter.unusedVariables false
set_option linter.unusedSimpArgs false
set_option linter.deprecated false

variable {P : Program} {T : Hints} {B : Nat} {w0 : World} {f0 : Nat} {CS : List Frame}

-- results
theorem run_value_inv {s : Sem Value} {v : Value} {w w' : World} (h : (do pure (Next.value (← s)) : Sem Next).run P w = .ok (.value v) w') : s.run P w = .ok v w' := by
  simp only [Sem.run_bind] at h
  cases hs : s.run P w with
  | ok a w1 =>
    rw [hs] at h
    simp only [Result.andThen_ok, Sem.run_pure, Result.ok.injEq, Next.value.injEq] at h
    rw [h.1, h.2]
  | halt a w1 => rw [hs] at h; cases h
def resOne (tmps : Array Value) : ResultVar → Sem Value := fun
    | .tmp t => pure (tmps.getD t Go.undef)
    | .cell a t => do loadVar t (← asAddr (tmps.getD a Go.undef))
theorem cell_load {φ : Plc} {e : E16} {n ty : Nat} {hs : HS} {w : World} {tmps : Array Value} {g : VO} (E : EvOk φ e .nil (fun o => match o with | .tmp t => tmps.getD t Go.undef | _ => Go.undef) (opSlot n) (.tmp n)) (h : ∀ t, VOk P g (.load ty (.tmp n)) t φ e .nil hs w (fun o => match o with | .tmp t => tmps.getD t Go.undef | _ => Go.undef)) :
    Ans (g e .nil hs) fun v => Df φ v ∧ (resOne tmps (.cell n ty)).run P w = .ok (conc φ v) w := by
  refine (h 0).mono fun v ⟨h1, h2⟩ => ⟨h1, ?_⟩
  have h3 := h2 none "" #[] none
  simp only [execOp] at h3
  have h4 := run_value_inv h3
  have he := E.eq
  simp only at he h4
  unfold resOne
  simp only []
  rw [he] at h4 ⊢
  generalize conc φ (ev (opSlot n) e .nil) = cv at h4 ⊢
  simp only [Instr.loadAt, Sem.run_bind] at h4
  cases cv with
  | pointer a =>
    cases a with
    | some a =>
      simp only [Instr.sureAddr, Sem.run_pure, Result.andThen_ok] at h4
      simp only [asAddr, Sem.run_bind, Sem.run_pure, Result.andThen_ok]
      exact h4
    | none => simp [Instr.sureAddr, runtimePanic, Sem.run] at h4
  | _ => simp [Instr.sureAddr, stuck, runtimePanic, Sem.run] at h4
def ResOk (P : Program) (tmps : Array Value) (w : World) (φ : Plc) (l : List ResultVar) (r : AV) : Prop := DfL φ r ∧ (l.mapM (resOne tmps)).run P w = .ok (concL φ r) w
theorem resL_ok {φ : Plc} {hs : HS} {w : World} (H : HOk P T B w0 φ hs w) {f : Nat} {e : E16} {tmps : Array Value} (he : EnvOk P T φ f e tmps) : ∀ (l : List ResultVar),
    Ans (resL P (resR T f l) e hs) (ResOk P tmps w φ l) := by
  intro l
  induction l with
  | nil => exact Ans.ret (R := ResOk P tmps w φ []) ⟨trivial, by simp [concL]⟩
  | cons r l ih =>
    have slot : ∀ n, hasT (slotsOf T f) n = true → Nat.ble n 255 = true → EvOk φ e .nil (fun o => match o with | .tmp t => tmps.getD t Go.undef | _ => Go.undef) (opSlot n) (.tmp n) := fun n h1 h2 => by
      obtain ⟨a, b⟩ := he.2 n (Nat.le_of_ble_eq_true h2) h1
      exact ⟨by rw [ev_opSlot]; exact a, by rw [ev_opSlot]; exact b⟩
    have fin : ∀ {v : AV} {r' : AV}, Df φ v → (resOne tmps r).run P w = .ok (conc φ v) w → ResOk P tmps w φ l r' → ResOk P tmps w φ (r :: l) (AV.cons v r') := fun {v r'} h1 h2 h3 => by
      refine ⟨⟨h1, h3.1⟩, ?_⟩
      simp only [List.mapM_cons, Sem.run_bind, h2, Result.andThen_ok, h3.2, Sem.run_pure]
      rfl
    cases r with
    | tmp n =>
      simp only [resR]
      split
      · rename_i hc
        simp only [Bool.and_eq_true] at hc
        have E := slot n hc.1 hc.2
        refine Ans.bind (f := fun r q => q (AV.cons (ev (opSlot n) e .nil) r)) (S := ResOk P tmps w φ (.tmp n :: l)) ih fun r' h3 => Ans.ret (R := ResOk P tmps w φ (.tmp n :: l)) (fin E.df ?_ h3)
        unfold resOne
        simp only [Sem.run_pure]
        exact congrArg (fun v => Result.ok v w) E.eq
      · exact .inl fun _ => rfl
    | cell n ty =>
      simp only [resR]
      split
      · rename_i hc
        simp only [Bool.and_eq_true] at hc
        have E := slot n hc.1 hc.2
        have go : ∀ {v : AV}, Df φ v ∧ (resOne tmps (.cell n ty)).run P w = .ok (conc φ v) w → Ans (fun q => resL P (resR T f l) e hs fun r => q (AV.cons v r)) (ResOk P tmps w φ (.cell n ty :: l)) := fun {v} ⟨h1, h2⟩ =>
          Ans.bind (f := fun r q => q (AV.cons v r)) (S := ResOk P tmps w φ (.cell n ty :: l)) ih fun r' h3 => Ans.ret (R := ResOk P tmps w φ (.cell n ty :: l)) (fin h1 h2 h3)
        cases ha : aggQ P ty with
        | none => exact .inl fun q => by simp only [resL, ha]
        | some b =>
          cases b with
          | true =>
            have : ∀ q, resL P (.cell n ty (resR T f l)) e hs q = vLoadA (csz P ty) (opSlot n) e .nil hs fun v => resL P (resR T f l) e hs fun r => q (AV.cons v r) := fun q => by simp only [resL, ha]
            simp only [funext this]
            exact Ans.bind (f := fun v q => resL P (resR T f l) e hs fun r => q (AV.cons v r)) (S := ResOk P tmps w φ (.cell n ty :: l)) (cell_load E fun t => ok_loadA H E ha) fun v h => go h
          | false =>
            have : ∀ q, resL P (.cell n ty (resR T f l)) e hs q = vLoad1 (opSlot n) e .nil hs fun v => resL P (resR T f l) e hs fun r => q (AV.cons v r) := fun q => by simp only [resL, ha]
            simp only [funext this]
            exact Ans.bind (f := fun v q => resL P (resR T f l) e hs fun r => q (AV.cons v r)) (S := ResOk P tmps w φ (.cell n ty :: l)) (cell_load E fun t => ok_load1 H E ha) fun v h => go h
      · exact .inl fun _ => rfl
theorem results_ok {fn : Func} {tmps : Array Value} {w : World} {φ : Plc} {r : AV} (h : ResOk P tmps w φ fn.results.toList r) : (results fn tmps).run P w = .ok (conc φ (oneV r)) w ∧ Df φ (oneV r) := by
  obtain ⟨hr, h⟩ := h
  have e : results fn tmps = (do let vs ← fn.results.mapM (resOne tmps); pure (if h : vs.size = 1 then vs[0] else .tuple vs)) := rfl
  have h2 : (fn.results.mapM (resOne tmps)).run P w = .ok (concL φ r).toArray w := by
    rw [Array.mapM_eq_mapM_toList, ← bind_pure_comp]
    simp only [Sem.run_bind, h, Result.andThen_ok, Sem.run_pure]
  rw [e]
  simp only [Sem.run_bind, h2, Result.andThen_ok, Sem.run_pure]
  cases r with
  | cons v t =>
    cases t with
    | nil => exact ⟨rfl, hr.1⟩
    | cons v' t' => exact ⟨by simp only [oneV, conc, concL]; rfl, hr⟩
    | _ => exact hr.2.elim
  | nil => exact ⟨rfl, trivial⟩
  | _ => exact hr.elim
end Go.AbsK

namespace Go.AbsK
open Go
open Go.RowKit (Below)
set_option linter.unusedVariables false
set_option linter.unusedSimpArgs false
set_option linter.deprecated false

variable {P : Program} {T : Hints} {B : Nat} {w0 : World} {f0 : Nat} {CS : List Frame}

section steps
variable {fr : Frame} {cs : List Frame} {w : World}
/-- a frame that goes to its end -/
def Leaves (fr : Frame) (jump : Option Code) : Prop := (fr.todo = [] ∧ jump = none) ∨ (∃ k, fr.todo = .code .ret :: k ∧ jump = some .ret) ∨
  (∃ id k, fr.todo = .code (.exit id) :: k ∧ exitTo id k = none ∧ jump = some (.exit id)) ∨ (∃ l k, fr.todo = .code (.goto l) :: k ∧ gotoIn l k = none ∧ jump = some (.goto l))
theorem step_return (hm : fr.mode = .run) (hr : fr.roundOf = none) {jump : Option Code} (hl : Leaves fr jump) (hj : jump = none ∨ jump = some .ret) : step P (lone fr cs w) = .next (lone { fr with mode := .returning } cs w) := by
  refine step_lone_go ?_
  cases fr with
  | mk fn tmps todo defers mode kind roundOf =>
    cases hm; cases hr
    rcases hl with ⟨h1, h2⟩ | ⟨k, h1, h2⟩ | ⟨id, k, h1, h2, h3⟩ | ⟨l, k, h1, h2, h3⟩
    · cases h1; simp [stepG, stepG.exec]
    · cases h1; simp [stepG, stepG.exec]
    · subst h3; rcases hj with h | h <;> cases h
    · subst h3; rcases hj with h | h <;> cases h
theorem back_ret {dfr : Bool} {c : Frame} {v : Value} (hk : fr.kind = if dfr then .deferred else .normal) (hp : ∀ ch, c.mode ≠ .panicking ch) : doReturn P true fr (c :: cs) none v w = .go { frame := back1 dfr c v, callers := cs, status := .running, dying := none } w := by
  unfold doReturn back1
  rw [hk]
  cases dfr with
  | false => rfl
  | true =>
    simp only [if_true]
    cases hm : c.mode with
    | panicking ch => exact absurd hm (hp ch)
    | _ => rfl
theorem step_leave {dfr : Bool} {c : Frame} {fn : Func} {v : Value} (hm : fr.mode = .returning) (hd : fr.defers = []) (hf : P.funcs[fr.fn]? = some fn) (hr : (results fn fr.tmps).run P w = .ok v w) (hk : fr.kind = if dfr then .deferred else .normal) (hp : ∀ ch, c.mode ≠ .panicking ch) :
    step P (lone fr (c :: cs) w) = .next (lone (back1 dfr c v) cs w) := by
  refine step_lone_go ?_
  have hb := back_ret (P := P) (fr := fr) (cs := cs) (w := w) (v := v) hk hp
  simp only [stepG, unwind, hm, hd, hf, Sem.runT_eq, hr, hb, GStep.bare_after, GStep.bare_go]
theorem step_mark {blk : Nat} {as : Array Value} {ds : List Deferred} {w' : World} (hm : fr.mode = .returning) (hd : fr.defers = { target := .collected blk, args := as } :: ds) (hr : (Instr.takeDeferred blk).run P w = .ok [] w') :
    step P (lone fr cs w) = .next (lone { fr with defers := ds } cs w') := by
  refine step_lone_go ?_
  simp only [stepG, unwind, hm, hd, Sem.runT_eq, hr, GStep.bare_after, GStep.bare_go, List.nil_append]
theorem step_callDef {d : Deferred} {ds : List Deferred} {f : FuncId} {as : Array Value} {w' : World} (hm : fr.mode = .returning) (hd : fr.defers = d :: ds) (hn : ∀ b, d.target ≠ .collected b) (hr : (invoke d.target d.args).run P w = .ok (.enter f as) w') :
    step P (lone fr cs w) = .next (lone (Frame.enter P f as .deferred) ({ fr with defers := ds } :: cs) w') := by
  refine step_lone_go ?_
  obtain ⟨tg, as0⟩ := d
  cases tg with
  | collected b => exact absurd rfl (hn b)
  | _ => simp [stepG, unwind, hm, hd, callDeferred, Sem.runT_eq, hr, GStep.bare_after, GStep.bare_go]
theorem step_endRound {b : Nat} {jump : Option Code} {dfr : Bool} {c : Frame} {v : Value} {w' : World} (hm : fr.mode = .run) (hr : fr.roundOf = some b) (hl : Leaves fr jump) (he : (Instr.endRound b jump).run P w = .ok v w') (hk : fr.kind = if dfr then .deferred else .normal) (hp : ∀ ch, c.mode ≠ .panicking ch) :
    step P (lone fr (c :: cs) w) = .next (lone (back1 dfr c v) cs w') := by
  refine step_lone_go ?_
  have hb := back_ret (P := P) (fr := fr) (cs := cs) (w := w') (v := v) hk hp
  cases fr with
  | mk fn tmps todo defers mode kind roundOf =>
    cases hm; cases hr
    rcases hl with ⟨h1, h2⟩ | ⟨k, h1, h2⟩ | ⟨id, k, h1, h2, h3⟩ | ⟨l, k, h1, h2, h3⟩
    · cases h1; subst h2; simp only [stepG, stepG.exec, Sem.runT_eq, he, GStep.bare_after, hb, GStep.bare_go]
    · cases h1; subst h2; simp only [stepG, stepG.exec, Sem.runT_eq, he, GStep.bare_after, hb, GStep.bare_go]
    · cases h1; subst h3; simp only [stepG, stepG.exec, h2, Option.elim_none, Sem.runT_eq, he, GStep.bare_after, hb, GStep.bare_go]
    · cases h1; subst h3; simp only [stepG, stepG.exec, h2, Option.elim_none, Sem.runT_eq, he, GStep.bare_after, hb, GStep.bare_go]
end steps

section
variable {φ : Plc} {fn : Nat} {e : E16} {L : Loc} {hs : HS} {w : World} {fr : Frame} {cs : List Frame} {N : Nat} {fi : FI} {s : Stk} {ih : K} {m : Machine}
theorem pop_ok (I : KOk P T B w0 f0 CS ih) {v : AV} (H : HOk P T B w0 φ hs w) (G : GlobOk T φ) (hN : N ≤ hs.next) (hv : Df φ v) (S : StkOk P T B w0 f0 CS N φ hs fn fi s cs)
    (bot : s = .nil → ∃ fr', Steps P m (lone fr' CS w) ∧ fr'.fn = f0 ∧ fr'.leaving P w (.returned (conc φ v)))
    (st : ∀ c cs', cs = c :: cs' → (∀ ch, c.mode ≠ .panicking ch) → Steps P m (lone (back1 fi.dfr c (conc φ v)) cs' w)) : Good P B w0 f0 CS m (popK v ih s hs) := by
  cases s with
  | nil =>
    obtain ⟨fr', a, b, c⟩ := bot rfl
    exact ⟨φ, w, fr', a, b, c, H.below⟩
  | fr e k L fn' fi' d t =>
    obtain ⟨c, cs', M, rfl, h2, h3, h4, h5⟩ := S
    show Good P B w0 f0 CS m (finK (finOf d) v ih k e L fn' fi' t hs)
    exact fin_ok I (fun _ => trivial) (st c cs' rfl h3) (Nat.le_trans h2 hN) H G (fun hb => h4 φ hs v hb (Keep.refl _ _ _) hv) h5
theorem defd_at (H : HOk P T B w0 φ hs w) {r : Nat} (hd : (φ r).isSome = true) {ds : Option DL} (hg : getH r hs.heap = .defd ds) : w.heap[(pl φ r).blk]? = some (.deferred (ds.map (concD φ))) := by
  obtain ⟨p, hp⟩ := some_pl hd
  obtain ⟨_, _, h3⟩ := H.dom r p hp
  have h3 := h3 (by unfold live; rw [hg]; trivial)
  rw [hg] at h3
  rw [unop_blk hp]
  exact h3.1
/-- a frame that returns -/
theorem ret_ok (W : ProgOk P) (I : KOk P T B w0 f0 CS ih) {dfr : Bool} {ds : DL} (hm : fr.mode = .returning) (hfn : fr.fn = fn) (hk : fr.kind = if dfr then .deferred else .normal) (hr : fr.roundOf = none) (hds : fr.defers = concD φ ds) (hdd : DfD φ ds) (henv : EnvOk P T φ fn e fr.tmps)
    (H : HOk P T B w0 φ hs w) (G : GlobOk T φ) (hN : N ≤ hs.next) (S : StkOk P T B w0 f0 CS N φ hs fn (.mk dfr none ds) s cs) : Good P B w0 f0 CS (lone fr cs w) (retK P T fn e L dfr ds ih s hs) := by
  cases ds with
  | nil =>
    show Good P B w0 f0 CS (lone fr cs w) (resL P (resOf P T fn) e hs fun r => popK (oneV r) ih s hs)
    unfold resOf
    rw [fnAt_eq]
    cases hf : P.funcs[fn]? with
    | none => trivial
    | some f =>
      simp only []
      rcases resL_ok H henv f.results.toList with h | ⟨r, h1, h2⟩
      · rw [h]; trivial
      · rw [h1]
        obtain ⟨r1, r2⟩ := results_ok h2
        have hd0 : fr.defers = [] := hds
        exact pop_ok I H G hN r2 S (fun hs' => ⟨fr, by
            have := S
            subst hs'
            rw [this.1]; exact Steps.refl _ _, by subst hs'; rw [hfn]; exact S.2.1, hm, hd0, by subst hs'; have := S.2.2.1; simp only [FI.dfr] at this; subst this; exact hk, f, by rw [hfn]; exact hf, r1⟩)
          (fun c cs' hcs hp => by subst hcs; exact .one (step_leave hm hd0 (by rw [hfn]; exact hf) r1 hk hp))
  | mark r t =>
    show Good P B w0 f0 CS (lone fr cs w) (match getH r hs.heap with | .defd (some .nil) => ih e [.code .ret] L fn (.mk dfr none t) s (hs.put r (.defd none)) | _ => .fail)
    split
    · rename_i hg
      obtain ⟨p, hp⟩ := some_pl hdd.1
      have hbn := (H.dom r p hp).1
      have hd := defd_at H hdd.1 hg
      have hd' : w.heap[p.blk]? = some (.deferred (some [])) := by rw [unop_blk hp] at hd; exact hd
      have H' : HOk P T B w0 φ (hs.put r (.defd none)) { w with heap := w.heap.setIfInBounds p.blk (.deferred none) } :=
        obj_put H hp (by rw [hg]; trivial) rfl (by rw [hg]; rfl) rfl ⟨setObj_get hd', fun l h => by cases h⟩
      have hrun : (Instr.takeDeferred (pl φ r).blk).run P w = .ok [] { w with heap := w.heap.setIfInBounds p.blk (.deferred none) } := by
        rw [unop_blk hp]
        simp only [Instr.takeDeferred, Sem.run_bind, getObj_run hd' (fun _ _ _ h => by cases h), Result.andThen_ok, setObj_run hd' (fun _ _ _ h => by cases h), Sem.run_pure]
      have kp : Keep N φ hs φ (hs.put r (.defd none)) := (Keep.of (Le.refl φ) (put_unt hp _ H.lim hbn) fun _ _ h => h).mono hN
      refine Good.steps (.one (step_mark hm hds hrun)) (I _ _ _ _ _ _ _ N φ _ _ cs ⟨Nat.le_trans hN kp.next, H', G, ⟨hfn, hk, hr, fun _ h => (by cases h), rfl, hdd.2, .inr ⟨hm, rfl, rfl, henv⟩⟩, (S.keep kp).fi rfl rfl⟩)
    · trivial
  | call fv args t =>
    have hds' : fr.defers = tgt (conc φ fv) (concL φ args).toArray :: concD φ t := hds
    refine callV_ok W I H G hdd.1.1 hdd.1.2 (cs := { fr with defers := concD φ t } :: cs) (fun fn' fi' hf => ⟨_, cs, N, rfl, hN, (fun ch hch => by rw [hm] at hch; cases hch), fun φ' hs' v hb kp hv => ?_, S.fi rfl rfl⟩) (fun f as hrun => .one ?_) (fun _ _ _ _ _ h => by cases h)
    · unfold back1
      rw [hf]
      exact ⟨hfn, hk, hr, fun _ h => (by cases h), (concD_up kp.le hdd.2).symm, hdd.2.up kp.le, .inr ⟨hm, rfl, rfl, henv.up kp.le⟩⟩
    · refine step_callDef hm hds' (fun b hb => ?_) hrun
      unfold tgt at hb
      split at hb <;> cases hb
theorem blk_leave (W : ProgOk P) {k : Todo} {jump : Option Code} (hk : ∀ {φ todo e L tmps N hs}, HdOk P T B w0 N φ hs fn e L tmps k todo → TodoOk φ k todo ∧ EnvOk P T φ fn e tmps)
    (hl : ∀ {φ : Plc} {fr : Frame}, TodoOk φ k fr.todo → Leaves fr jump) (hret : k = [.code .ret] → jump = some .ret) : BlkOk P T B w0 f0 CS fn k (bLeave P T jump) := by
  intro ih I e L fi s hs N φ w fr cs R
  have F := R.fr_
  cases fi with
  | mk dfr rd ds =>
    cases rd with
    | none =>
      have hr : fr.roundOf = none := F.rd_
      have main : (jump = none ∨ jump = some .ret) → Good P B w0 f0 CS (lone fr cs w) (retK P T fn e L dfr ds ih s hs) := fun hj => by
        rcases F.go with ⟨hm, hd⟩ | ⟨hm, _, _, henv⟩
        · obtain ⟨tk, henv⟩ := hk hd
          exact Good.steps (.one (step_return hm hr (hl tk) hj)) (ret_ok (fr := { fr with mode := .returning }) W I rfl F.fn_ F.kind hr F.ds_ F.dsd henv R.heap R.glob R.bnd R.stk)
        · exact ret_ok W I hm F.fn_ F.kind hr F.ds_ F.dsd henv R.heap R.glob R.bnd R.stk
      cases jump with
      | none => exact main (.inl rfl)
      | some c =>
        cases c with
        | ret => exact main (.inr rfl)
        | _ => trivial
    | some l =>
      cases ds with
      | nil =>
        rcases F.go with ⟨hm, hd⟩ | ⟨_, h, _, _⟩
        · obtain ⟨tk, henv⟩ := hk hd
          show Good P B w0 f0 CS (lone fr cs w) (endRound l jump ih s hs)
          unfold endRound
          split
          · rename_i st pend f env ps as bd df hg
            have hls := F.rds l rfl
            obtain ⟨l1, tmps, l2, l3⟩ := loop_at R.heap hls hg
            obtain ⟨p, hp⟩ := some_pl hls
            have hbn := (R.heap.dom l p hp).1
            rw [unop_blk hp] at l3
            have H' : HOk P T B w0 φ (hs.put l (.loop (if jump.isNone then 0 else 2) jump f env ps as bd df)) { w with heap := w.heap.setIfInBounds p.blk (.loop { state := loopState (if jump.isNone then 0 else 2), pending := jump, fn := f, tmps, params := ps.toArray, assign := as, body := bd, defers := (pl φ df).blk }) } :=
              obj_put R.heap hp (by rw [hg]; trivial) rfl (by rw [hg]; rfl) rfl ⟨l1, tmps, l2, setObj_get l3⟩
            have hrun : (Instr.endRound p.blk jump).run P w = .ok (.bool jump.isNone) { w with heap := w.heap.setIfInBounds p.blk (.loop { state := loopState (if jump.isNone then 0 else 2), pending := jump, fn := f, tmps, params := ps.toArray, assign := as, body := bd, defers := (pl φ df).blk }) } := by
              simp only [Instr.endRound, Instr.getLoop, Sem.run_bind, getObj_run l3 (fun _ _ _ h => by cases h), Result.andThen_ok, Sem.run_pure, setObj_run l3 (fun _ _ _ h => by cases h)]
              cases jump <;> rfl
            have kp : Keep N φ hs φ (hs.put l (.loop (if jump.isNone then 0 else 2) jump f env ps as bd df)) := (Keep.of (Le.refl φ) (put_unt hp _ R.heap.lim hbn) fun _ _ h => h).mono R.bnd
            have hrd : fr.roundOf = some p.blk := by rw [F.rd_]; show some (pl φ l).blk = _; rw [unop_blk hp]
            refine pop_ok I H' R.glob (Nat.le_trans R.bnd kp.next) (show Df φ (.bool jump.isNone) from trivial) (R.stk.keep kp) (fun hs' => ?_) (fun c cs' hcs hpan => by subst hcs; exact .one (step_endRound hm hrd (hl tk) hrun F.kind hpan))
            subst hs'
            have := R.stk.2.2.2
            cases this
          · trivial
        · cases h
      | _ => trivial
end
end Go.AbsK

namespace Go.AbsK
open Go
open Go.RowKit (Below)
set_option linter.unusedVariables false
set_option linter.unusedSimpArgs false
set_option linter.deprecated false

variable {P : Program} {T : Hints} {B : Nat} {w0 : World} {f0 : Nat} {CS : List Frame}

section
variable {fn : Nat} {k k' : Todo} {b : Blk}
/-- a step that nobody sees -/
theorem blk_quiet (hk : ∀ {φ todo e L tmps N hs}, HdOk P T B w0 N φ hs fn e L tmps k todo → TodoOk φ k todo ∧ EnvOk P T φ fn e tmps) (hne : k ≠ [.code .ret])
    (hs : ∀ {φ : Plc} {fr : Frame} {cs : List Frame} {w : World}, fr.mode = .run → TodoOk φ k fr.todo → ∃ todo', TodoOk φ k' todo' ∧ step P (lone fr cs w) = .next (lone { fr with todo := todo' } cs w)) (hb : BlkOk P T B w0 f0 CS fn k' b) : BlkOk P T B w0 f0 CS fn k b := by
  intro ih I e L fi s hs' N φ w fr cs R
  have F := R.fr_
  rcases F.go with ⟨hm, hd⟩ | ⟨_, _, h, _⟩
  · obtain ⟨tk, henv⟩ := hk hd
    obtain ⟨todo', t1, t2⟩ := hs hm tk
    exact Good.steps (.one t2) (hb ih I e L fi s hs' N φ w _ cs ⟨R.bnd, R.heap, R.glob, F.mk' (Le.refl φ) rfl rfl rfl rfl (.inl ⟨hm, hdOk_of t1 henv⟩), R.stk⟩)
  · exact absurd h hne
end
section
variable {fn : Nat} {k : Todo} {b : Blk} {n : Nat} {a c : Code}
theorem blk_skip (hb : BlkOk P T B w0 f0 CS fn k b) : BlkOk P T B w0 f0 CS fn (.code .skip :: k) b :=
  blk_quiet (fun h => h) (by simp) (fun {φ fr cs w} hm tk => by
    cases fr with
    | mk fn tmps todo defers mode kind roundOf =>
      cases hm
      cases tk with
      | code t => exact ⟨_, t, step_lone_go (by simp [stepG, stepG.exec])⟩) hb
theorem blk_label (hb : BlkOk P T B w0 f0 CS fn k b) : BlkOk P T B w0 f0 CS fn (.code (.label n) :: k) b :=
  blk_quiet (fun h => h) (by simp) (fun {φ fr cs w} hm tk => by
    cases fr with
    | mk fn tmps todo defers mode kind roundOf =>
      cases hm
      cases tk with
      | code t => exact ⟨_, t, step_lone_go (by simp [stepG, stepG.exec])⟩) hb
theorem blk_seq (hb : BlkOk P T B w0 f0 CS fn (.code a :: .code c :: k) b) : BlkOk P T B w0 f0 CS fn (.code (.seq a c) :: k) b :=
  blk_quiet (fun h => h) (by simp) (fun {φ fr cs w} hm tk => by
    cases fr with
    | mk fn tmps todo defers mode kind roundOf =>
      cases hm
      cases tk with
      | code t => exact ⟨_, .code (.code t), step_lone_go (by simp [stepG, stepG.exec])⟩) hb
theorem blk_block (hb : BlkOk P T B w0 f0 CS fn (.code a :: .inBlock n :: k) b) : BlkOk P T B w0 f0 CS fn (.code (.block n a) :: k) b :=
  blk_quiet (fun h => h) (by simp) (fun {φ fr cs w} hm tk => by
    cases fr with
    | mk fn tmps todo defers mode kind roundOf =>
      cases hm
      cases tk with
      | code t => exact ⟨_, .code (.inBlock t), step_lone_go (by simp [stepG, stepG.exec])⟩) hb
theorem blk_loop (hb : BlkOk P T B w0 f0 CS fn (.code a :: .inLoop a :: k) b) : BlkOk P T B w0 f0 CS fn (.code (.loop a) :: k) b :=
  blk_quiet (fun h => h) (by simp) (fun {φ fr cs w} hm tk => by
    cases fr with
    | mk fn tmps todo defers mode kind roundOf =>
      cases hm
      cases tk with
      | code t => exact ⟨_, .code (.inLoop t), step_lone_go (by simp [stepG, stepG.exec])⟩) hb
theorem blk_scope (hb : BlkOk P T B w0 f0 CS fn (.code a :: .inScope a :: k) b) : BlkOk P T B w0 f0 CS fn (.code (.scope a) :: k) b :=
  blk_quiet (fun h => h) (by simp) (fun {φ fr cs w} hm tk => by
    cases fr with
    | mk fn tmps todo defers mode kind roundOf =>
      cases hm
      cases tk with
      | code t => exact ⟨_, .code (.inScope t), step_lone_go (by simp [stepG, stepG.exec])⟩) hb
theorem blk_inBlock (hb : BlkOk P T B w0 f0 CS fn k b) : BlkOk P T B w0 f0 CS fn (.inBlock n :: k) b :=
  blk_quiet (fun h => h) (by simp) (fun {φ fr cs w} hm tk => by
    cases fr with
    | mk fn tmps todo defers mode kind roundOf =>
      cases hm
      cases tk with
      | inBlock t => exact ⟨_, t, step_lone_go (by simp [stepG, stepG.exec])⟩) hb
theorem blk_inLoop (hb : BlkOk P T B w0 f0 CS fn (.code a :: .inLoop a :: k) b) : BlkOk P T B w0 f0 CS fn (.inLoop a :: k) b :=
  blk_quiet (fun h => h) (by simp) (fun {φ fr cs w} hm tk => by
    cases fr with
    | mk fn tmps todo defers mode kind roundOf =>
      cases hm
      cases tk with
      | inLoop t => exact ⟨_, .code (.inLoop t), step_lone_go (by simp [stepG, stepG.exec])⟩) hb
theorem blk_inScope (hb : BlkOk P T B w0 f0 CS fn k b) : BlkOk P T B w0 f0 CS fn (.inScope a :: k) b :=
  blk_quiet (fun h => h) (by simp) (fun {φ fr cs w} hm tk => by
    cases fr with
    | mk fn tmps todo defers mode kind roundOf =>
      cases hm
      cases tk with
      | inScope t => exact ⟨_, t, step_lone_go (by simp [stepG, stepG.exec])⟩) hb
theorem blk_exit (hb : ∀ k', exitToA n k = some k' → BlkOk P T B w0 f0 CS fn k' b) {k' : Todo} (he : exitToA n k = some k') : BlkOk P T B w0 f0 CS fn (.code (.exit n) :: k) b :=
  blk_quiet (fun h => h) (by simp) (fun {φ fr cs w} hm tk => by
    cases fr with
    | mk fn tmps todo defers mode kind roundOf =>
      cases hm
      cases tk with
      | code t =>
        rcases exit_ok (id := n) t with ⟨h, _⟩ | ⟨k1, K1, h1, h2, h3⟩
        · rw [he] at h; cases h
        · rw [he] at h1; cases h1
          exact ⟨_, h3, step_lone_go (by simp [stepG, stepG.exec, h2])⟩) (hb k' he)
theorem blk_goto (hb : ∀ k', gotoInA n k = some k' → BlkOk P T B w0 f0 CS fn k' b) {k' : Todo} (he : gotoInA n k = some k') : BlkOk P T B w0 f0 CS fn (.code (.goto n) :: k) b :=
  blk_quiet (fun h => h) (by simp) (fun {φ fr cs w} hm tk => by
    cases fr with
    | mk fn tmps todo defers mode kind roundOf =>
      cases hm
      cases tk with
      | code t =>
        rcases goto_ok (l := n) t with ⟨h, _⟩ | ⟨k1, K1, h1, h2, h3⟩
        · rw [he] at h; cases h
        · rw [he] at h1; cases h1
          exact ⟨_, h3, step_lone_go (by simp [stepG, stepG.exec, h2])⟩) (hb k' he)
theorem blk_cond {x : Operand} {y : OB} (hx : cO T fn [] x = some y) : BlkOk P T B w0 f0 CS fn (.code (.cond x a c) :: k) (bCond y (.code a :: k) (.code c :: k)) := by
  intro ih I e L fi s hs N φ w fr cs R
  have F := R.fr_
  rcases F.go with ⟨hm, hd⟩ | ⟨_, _, h, _⟩
  · obtain ⟨tk, henv⟩ : TodoOk φ (.code (.cond x a c) :: k) fr.todo ∧ EnvOk P T φ fn e fr.tmps := hd
    have E : EvOk φ e L fr.eval y x := cO_ok R.glob (evalStd fr) hx fun t ht hv => by
      have := (henv.tm (L := L)).at_ t hv (fun x => x)
      exact this
    show Good P B w0 f0 CS (lone fr cs w) (boolO (ev y e L) (ih e (.code a :: k) L fn fi s hs) (ih e (.code c :: k) L fn fi s hs))
    rw [boolO_eq]
    have heq := E.eq
    split
    · rename_i hv
      rw [hv] at heq
      have heq : fr.eval x = .bool true := heq
      obtain ⟨todo', t1, t2⟩ : ∃ todo', TodoOk φ (.code a :: k) todo' ∧ step P (lone fr cs w) = .next (lone { fr with todo := todo' } cs w) := by
        cases fr with
        | mk fn tmps todo defers mode kind roundOf =>
          cases hm
          cases tk with
          | code t =>
            have : Frame.eval { fn := fn, tmps := tmps, todo := _, defers := defers, mode := .run, kind := kind, roundOf := roundOf } x = .bool true := heq
            exact ⟨_, .code t, step_lone_go (by simp [stepG, stepG.exec, this])⟩
      exact Good.steps (.one t2) (I _ _ _ _ _ _ _ N φ w _ cs ⟨R.bnd, R.heap, R.glob, F.mk' (Le.refl φ) rfl rfl rfl rfl (.inl ⟨hm, hdOk_of t1 henv⟩), R.stk⟩)
    · rename_i hv
      rw [hv] at heq
      have heq : fr.eval x = .bool false := heq
      obtain ⟨todo', t1, t2⟩ : ∃ todo', TodoOk φ (.code c :: k) todo' ∧ step P (lone fr cs w) = .next (lone { fr with todo := todo' } cs w) := by
        cases fr with
        | mk fn tmps todo defers mode kind roundOf =>
          cases hm
          cases tk with
          | code t =>
            have : Frame.eval { fn := fn, tmps := tmps, todo := _, defers := defers, mode := .run, kind := kind, roundOf := roundOf } x = .bool false := heq
            exact ⟨_, .code t, step_lone_go (by simp [stepG, stepG.exec, this])⟩
      exact Good.steps (.one t2) (I _ _ _ _ _ _ _ N φ w _ cs ⟨R.bnd, R.heap, R.glob, F.mk' (Le.refl φ) rfl rfl rfl rfl (.inl ⟨hm, hdOk_of t1 henv⟩), R.stk⟩)
    · trivial
  · cases h
theorem blk_region {ops : Array Oper} (hb : BlkOk P T B w0 f0 CS fn (.rg ops ops.toList [] :: k) b) : BlkOk P T B w0 f0 CS fn (.code (.region n ops false) :: k) b := by
  intro ih I e L fi s hs N φ w fr cs R
  have F := R.fr_
  rcases F.go with ⟨hm, hd⟩ | ⟨_, _, h, _⟩
  · obtain ⟨tk, henv⟩ : TodoOk φ (.code (.region n ops false) :: k) fr.todo ∧ EnvOk P T φ fn e fr.tmps := hd
    obtain ⟨K, t1, t2⟩ : ∃ K, TodoOk φ k K ∧ step P (lone fr cs w) = .next (lone { fr with todo := .inRegion ops (List.range ops.size) :: K } cs w) := by
      cases fr with
      | mk fn tmps todo defers mode kind roundOf =>
        cases hm
        cases tk with
        | code t => exact ⟨_, t, step_lone_go (by simp [stepG, stepG.exec])⟩
    refine Good.steps (.one t2) (hb ih I e L fi s hs N φ w _ cs ⟨R.bnd, R.heap, R.glob, F.mk' (Le.refl φ) rfl rfl rfl rfl (.inl ⟨hm, K, ?_, t1, by simp, by simp, fun _ => henv, fun _ => henv.tm⟩), R.stk⟩)
    simp [List.range_eq_range']
  · cases h
theorem HOk.drew {φ : Plc} {hs : HS} {w : World} (H : HOk P T B w0 φ hs w) : HOk P T B w0 φ hs { w with drawn := w.drawn + 1 } :=
  ⟨H.lim, fun b p h => let ⟨a, c, d⟩ := H.dom b p h; ⟨a, c, fun l => (d l).up (Le.refl φ) rfl⟩, H.sep, H.vers, H.uno, H.vers0, H.own, H.size, ⟨H.below.os, H.below.tape, H.below.output, H.below.size, H.below.block⟩⟩
theorem blk_regionD (W : ProgOk P) {ops : Array Oper} {l : List (Nat × Bool)} (ho : orderOk ops l = true) (hb : BlkOk P T B w0 f0 CS fn (.dr ops l [] :: k) b) : BlkOk P T B w0 f0 CS fn (.code (.region n ops true) :: k) b := by
  intro ih I e L fi s hs N φ w fr cs R
  have F := R.fr_
  rcases F.go with ⟨hm, hd⟩ | ⟨_, _, h, _⟩
  · obtain ⟨tk, henv⟩ : TodoOk φ (.code (.region n ops true) :: k) fr.todo ∧ EnvOk P T φ fn e fr.tmps := hd
    obtain ⟨K, tt, t1, t2⟩ : ∃ K tt, TodoOk φ k K ∧ step P (lone fr cs w) = .next (lone { fr with todo := .inRegion ops (Region.linearise.go .any ops ops.size tt (Array.replicate ops.size false) []) :: K } cs { w with drawn := w.drawn + 1 }) := by
      cases fr with
      | mk fn tmps todo defers mode kind roundOf =>
        cases hm
        cases tk with
        | code t =>
          refine ⟨_, w.tape w.drawn (.order fn n), t, step_lone_go ?_⟩
          simp [stepG, stepG.exec, choose, Sem.run, Question.forced, Question.cut, Region.schedule, W.mixed, Region.linearise]
    have fl : ∀ i, lst? (Array.replicate ops.size false) i = false := fun i => by
      unfold lst?
      rw [Array.getD_eq_getD_getElem?, Array.getElem?_replicate]
      split <;> rfl
    have D : DrOk P T B w0 N φ hs fn e L [] ops l fr.tmps (Array.replicate ops.size false) ops.size 0 0 [] (fun _ => none) := by
      have z : ∀ i, hasT 0 i = true → False := fun i h => by rw [hasT_zero] at h; cases h
      have fl' : ∀ i, lst? (Array.replicate ops.size false) i = true → False := fun i h => by rw [fl] at h; cases h
      refine ⟨by simp, ?_, ho, fun l1 i l2 h => absurd h (by simp), fun i => by simp [hasT_zero], fun i h => (fl' i h).elim, fun i h => (z i h).elim, fun i o _ h => (fl' i h).elim, henv.tm.imp fun t _ h => h.elim,
        fun i o _ _ h => (z i h).elim, fun i _ _ _ h => (z i h).elim, fun i j _ _ _ _ _ _ h => (z i h).elim, fun i j _ _ _ _ _ _ h => (z i h).elim, fun i _ _ _ _ h => (z i h).elim, fun i j _ _ _ _ h => (z i h).elim⟩
      unfold open_
      exact Nat.le_trans (List.countP_le_length) (by simp)
    exact Good.steps (.one t2) (hb ih I e L fi s hs N φ _ _ cs ⟨R.bnd, R.heap.drew, R.glob, F.mk' (Le.refl φ) rfl rfl rfl rfl (.inl ⟨hm, K, _, tt, _, _, _, _, _, rfl, t1, D⟩), R.stk⟩)
  · cases h
end
end Go.AbsK

namespace Go.AbsK
open Go
open Go.RowKit (Below)
set_option linter.unusedVariables false
set_option linter.unusedSimpArgs false
set_option linter.deprecated false

variable {P : Program} {T : Hints} {B : Nat} {w0 : World} {f0 : Nat} {CS : List Frame}

section
variable {fn : Nat} {k : Todo} {b : Blk} {n : Nat} {a c : Code}
theorem obj_put' {φ : Plc} {hs : HS} {w : World} {N l : Nat} {p : Pl} {o : AObj} {x x0 : Obj} (H : HOk P T B w0 φ hs w) (hN : N ≤ hs.next) (hp : φ l = some p) (hwr : wr (getH l hs.heap)) (h1 : famOf o = none) (h2 : famOf (getH l hs.heap) = none) (h0 : w.heap[p.blk]? = some x0)
    (ho : ObjOk P T φ o p { w with heap := w.heap.setIfInBounds p.blk x }) : HOk P T B w0 φ (hs.put l o) { w with heap := w.heap.setIfInBounds p.blk x } ∧ Keep N φ hs φ (hs.put l o) :=
  ⟨obj_put H hp hwr h1 h2 rfl ho, (Keep.of (Le.refl φ) (put_unt hp _ H.lim (H.dom l p hp).1) fun _ _ h => h).mono hN⟩
theorem blk_endRF {l : Nat} : BlkOk P T B w0 f0 CS fn (.endRF l :: k) (bEndRF l k) := by
  intro ih I e L fi s hs N φ w fr cs R
  have F := R.fr_
  rcases F.go with ⟨hm, hd⟩ | ⟨_, _, h, _⟩
  · obtain ⟨tk, henv⟩ : TodoOk φ (.endRF l :: k) fr.todo ∧ EnvOk P T φ fn e fr.tmps := hd
    show Good P B w0 f0 CS (lone fr cs w) (match getH l hs.heap with
      | .loop st p f env ps assign body df => if Nat.beq st 1 then .fail else ih e (match p with | some c => .code c :: k | none => k) L fn fi s (hs.put l (.loop 3 p f env ps assign body df))
      | _ => .fail)
    split
    · rename_i st pend f env ps as bd df hg
      split
      · trivial
      · rename_i hst
        have hls : (φ l).isSome = true := by
          revert tk
          generalize fr.todo = td
          intro tk
          cases tk with | endRF h _ => exact h
        obtain ⟨l1, tmps, l2, l3⟩ := loop_at R.heap hls hg
        obtain ⟨p, hp⟩ := some_pl hls
        rw [unop_blk hp] at l3
        obtain ⟨H', kp⟩ := obj_put' (x := .loop { state := .exhausted, pending := pend, fn := f, tmps, params := ps.toArray, assign := as, body := bd, defers := (pl φ df).blk }) (o := .loop 3 pend f env ps as bd df) R.heap R.bnd hp (by rw [hg]; trivial) rfl (by rw [hg]; rfl) l3 ⟨l1, tmps, l2, setObj_get l3⟩
        have hnb : (loopState st == LoopState.busy) = false := by
          match st with
          | 0 => rfl
          | 1 => exact absurd rfl hst
          | 2 => rfl
          | n + 3 => rfl
        have hrun : (Instr.endLoop p.blk).run P w = .ok pend { w with heap := w.heap.setIfInBounds p.blk (.loop { state := .exhausted, pending := pend, fn := f, tmps, params := ps.toArray, assign := as, body := bd, defers := (pl φ df).blk }) } := by
          simp only [Instr.endLoop, Instr.getLoop, Sem.run_bind, getObj_run l3 (fun _ _ _ h => by cases h), Result.andThen_ok, Sem.run_pure, hnb, Bool.false_eq_true, if_false, setObj_run l3 (fun _ _ _ h => by cases h)]
        obtain ⟨todo', t1, t2⟩ : ∃ todo', TodoOk φ (match pend with | some c => .code c :: k | none => k) todo' ∧ step P (lone fr cs w) = .next (lone { fr with todo := todo' } cs { w with heap := w.heap.setIfInBounds p.blk (.loop { state := .exhausted, pending := pend, fn := f, tmps, params := ps.toArray, assign := as, body := bd, defers := (pl φ df).blk }) }) := by
          cases fr with
          | mk fn tmps todo defers mode kind roundOf =>
            cases hm
            cases tk with
            | endRF h t =>
              rw [unop_blk hp]
              refine ⟨(pend.map Item.code).toList ++ _, ?_, step_lone_go (by simp only [stepG, stepG.exec, Sem.runT_eq, hrun, GStep.bare_after, GStep.bare_go]; rfl)⟩
              cases pend with
              | none => exact t
              | some c => exact .code t
        exact Good.steps (.one t2) (I _ _ _ _ _ _ _ N φ _ _ cs ⟨Nat.le_trans R.bnd kp.next, H', R.glob, F.mk' (Le.refl φ) rfl rfl rfl rfl (.inl ⟨hm, hdOk_of t1 henv⟩), R.stk.keep kp⟩)
    · trivial
  · cases h
theorem blk_begR : BlkOk P T B w0 f0 CS fn (.begR :: k) (bBegR k) := by
  intro ih I e L fi s hs N φ w fr cs R
  have F := R.fr_
  rcases F.go with ⟨hm, hd⟩ | ⟨_, _, h, _⟩
  · obtain ⟨tk, henv⟩ : TodoOk φ (.begR :: k) fr.todo ∧ EnvOk P T φ fn e fr.tmps := hd
    cases fi with
    | mk dfr rd ds =>
      cases rd with
      | none => trivial
      | some l =>
        show Good P B w0 f0 CS (lone fr cs w) (match getH l hs.heap with
          | .loop 0 p f env ps assign body df => ih e k L fn (.mk dfr (some l) ds) s (hs.put l (.loop 1 p f env ps assign body df))
          | _ => .fail)
        split
        · rename_i pend f env ps as bd df hg
          have hls := F.rds l rfl
          obtain ⟨l1, tmps, l2, l3⟩ := loop_at R.heap hls hg
          obtain ⟨p, hp⟩ := some_pl hls
          rw [unop_blk hp] at l3
          obtain ⟨H', kp⟩ := obj_put' (x := .loop { state := .busy, pending := pend, fn := f, tmps, params := ps.toArray, assign := as, body := bd, defers := (pl φ df).blk }) (o := .loop 1 pend f env ps as bd df) R.heap R.bnd hp (by rw [hg]; trivial) rfl (by rw [hg]; rfl) l3 ⟨l1, tmps, l2, setObj_get l3⟩
          have hrun : (Instr.beginRound p.blk).run P w = .ok () { w with heap := w.heap.setIfInBounds p.blk (.loop { state := .busy, pending := pend, fn := f, tmps, params := ps.toArray, assign := as, body := bd, defers := (pl φ df).blk }) } := by
            simp only [Instr.beginRound, Instr.getLoop, Sem.run_bind, getObj_run l3 (fun _ _ _ h => by cases h), Result.andThen_ok, Sem.run_pure, setObj_run l3 (fun _ _ _ h => by cases h)]
            rfl
          have hrd : fr.roundOf = some p.blk := by rw [F.rd_]; show some (pl φ l).blk = _; rw [unop_blk hp]
          obtain ⟨todo', t1, t2⟩ : ∃ todo', TodoOk φ k todo' ∧ step P (lone fr cs w) = .next (lone { fr with todo := todo' } cs { w with heap := w.heap.setIfInBounds p.blk (.loop { state := .busy, pending := pend, fn := f, tmps, params := ps.toArray, assign := as, body := bd, defers := (pl φ df).blk }) }) := by
            cases fr with
            | mk fn tmps todo defers mode kind roundOf =>
              cases hm; cases hrd
              cases tk with
              | begR t => exact ⟨_, t, step_lone_go (by simp [stepG, stepG.exec, stepG.apply, Sem.runT_eq, Sem.run_bind, hrun, Frame.finish])⟩
          exact Good.steps (.one t2) (I _ _ _ _ _ _ _ N φ _ _ cs ⟨Nat.le_trans R.bnd kp.next, H', R.glob, F.mk' (Le.refl φ) rfl rfl rfl rfl (.inl ⟨hm, hdOk_of t1 henv⟩), R.stk.keep kp⟩)
        · trivial
  · cases h
/-- a loop over a function begins -/
theorem range_go (W : ProgOk P) {ih : K} (I : KOk P T B w0 f0 CS ih) {x : Operand} {y : OB} (hx : cO T fn [] x = some y) {ps : Array Nat} {e : E16} {L : Loc} {dfr : Bool} {rd : Option Nat} {ds ds' : DL} {s : Stk} {hs0 hs : HS} {N l : Nat} {φ0 φ : Plc} {w0' w : World} {fr : Frame} {cs : List Frame}
    (R : Rel P T B w0 f0 CS e (.code (.rangeFunc x ps a c) :: k) L fn (.mk dfr rd ds) s hs0 N φ0 w0' fr cs) (kp : Keep hs0.next φ0 hs0 φ hs) (H : HOk P T B w0 φ hs w) (hl : (φ l).isSome = true) (hdd : DfD φ ds') {mark : List Deferred} (hds : concD φ ds' = mark ++ fr.defers)
    (hloop : (Instr.enterLoop fr.fn fr.tmps ps a c fr.roundOf).run P w0' = .ok ((pl φ l).blk, mark) w) (hm : fr.mode = .run) (tk : TodoOk φ0 (.code (.rangeFunc x ps a c) :: k) fr.todo) (henv : EnvOk P T φ0 fn e fr.tmps) :
    Good P B w0 f0 CS (lone fr cs w0') (callV P (ev y e L) (.cons (vYl l) .nil) false ih (.fr e (.endRF l :: k) L fn (.mk dfr rd ds') (.none false) s) hs) := by
  have F := R.fr_
  have E : EvOk φ0 e L fr.eval y x := cO_ok R.glob (evalStd fr) hx fun t ht hv => (henv.tm (L := L)).at_ t hv (fun x => x)
  have G : GlobOk T φ := R.glob.up kp.le
  have hda : DfL φ (.cons (vYl l) .nil) := ⟨hl, trivial⟩
  obtain ⟨K, htd, tk'⟩ : ∃ K, fr.todo = .code (.rangeFunc x ps a c) :: K ∧ TodoOk φ0 k K := by
    revert tk
    generalize fr.todo = td
    intro tk
    cases tk with
    | code t => exact ⟨_, rfl, t⟩
  -- the frame that waits
  have S : ∀ fn' fi', FI.dfr fi' = false → StkOk P T B w0 f0 CS hs.next φ hs fn' fi' (.fr e (.endRF l :: k) L fn (.mk dfr rd ds') (.none false) s) ({ fr with todo := .inRangeFunc (pl φ l).blk :: K, defers := mark ++ fr.defers } :: cs) := fun fn' fi' hf =>
    ⟨_, cs, N, rfl, Nat.le_trans R.bnd kp.next, (fun ch hch => by rw [show _ = FrameMode.run from hm] at hch; cases hch), fun φ' hs' v hb kp' hv => by
      unfold back1
      rw [hf]
      have hle := kp.le.trans kp'.le
      refine ⟨F.fn_, F.kind, by rw [show ({ fr with todo := .inRangeFunc (pl φ l).blk :: K, defers := mark ++ fr.defers } : Frame).finish (conc φ' v) = { fr with todo := .endRangeFunc (pl φ l).blk :: K, defers := mark ++ fr.defers } from rfl]; show fr.roundOf = _; rw [F.rd_]; cases hr : rd with | none => rfl | some l => simp only [FI.rd, Option.map_some, hle.pl (F.rds l hr)],
        fun l' hl' => hle.some (F.rds l' hl'), by show mark ++ fr.defers = _; rw [← hds]; exact (concD_up kp'.le hdd).symm, hdd.up kp'.le, .inl ⟨hm, ?_⟩⟩
      show HdOk P T B w0 N φ' hs' fn e L fr.tmps (.endRF l :: k) (.endRangeFunc (pl φ l).blk :: K)
      rw [← kp'.le.pl hl]
      exact hdOk_of (.endRF (kp'.le.some hl) (tk'.up hle)) (henv.up hle), (R.stk.keep (kp.mono R.bnd)).fi rfl rfl⟩
  have hca : (concL φ (.cons (vYl l) .nil)).toArray = #[.func (.yield (pl φ l).blk) #[] #[]] := rfl
  have hfn : ∀ {nx}, (invoke (tgt (conc φ (ev y e L)) (concL φ (.cons (vYl l) .nil)).toArray).target (tgt (conc φ (ev y e L)) (concL φ (.cons (vYl l) .nil)).toArray).args).run P w = .ok nx w → (∃ f a b, conc φ (ev y e L) = .func f a b) →
      (do let d ← resolve fr.eval { callee := .value x, args := #[.const (.func (.yield (pl φ l).blk) #[] #[])], argTypes := #[] } 0; invoke d.target d.args : Sem Next).run P w = .ok nx w := fun {nx} hr ⟨f, a, b, hv⟩ => by
    have he : fr.eval x = .func f a b := by rw [E.eq, ← kp.le.conc E.df]; exact hv
    have hav : (#[Operand.const (.func (.yield (pl φ l).blk) #[] #[])]).map fr.eval = #[.func (.yield (pl φ l).blk) #[] #[]] := by simp [Frame.eval]
    simp only [resolve, Sem.run_bind, he, Deferred.ofValue, Sem.run_pure, Result.andThen_ok, hav]
    rw [hv, hca] at hr
    exact hr
  rcases Classical.em (∃ f a b, conc φ (ev y e L) = .func f a b) with hv | hv
  · refine callV_ok W I H G (kp.le.df E.df) hda S (fun f as hr => .one (step_lone_go ?_)) (fun l' f tmps as bd _ hr => .one (step_lone_go ?_))
    · have h2 := hfn hr hv
      cases fr with
      | mk fn tmps todo defers mode kind roundOf =>
        cases hm; cases htd
        have h2' := h2
        have hev : Frame.eval { fn := fn, tmps := tmps, todo := .inRangeFunc (pl φ l).blk :: K, defers := mark ++ defers, mode := .run, kind := kind, roundOf := roundOf } = Frame.eval { fn := fn, tmps := tmps, todo := .code (.rangeFunc x ps a c) :: K, defers := defers, mode := .run, kind := kind, roundOf := roundOf } := by funext o; cases o <;> rfl
        rw [← hev] at h2'
        have hloop' : (Instr.enterLoop fn tmps ps a c roundOf).run P w0' = .ok ((pl φ l).blk, mark) w := hloop
        simp only [stepG, stepG.exec, Sem.runT_eq, hloop', stepG.apply, if_true, h2', GStep.bare_after, GStep.bare_go]
        rfl
    · have h2 := hfn hr hv
      cases fr with
      | mk fn tmps todo defers mode kind roundOf =>
        cases hm; cases htd
        have h2' := h2
        have hev : Frame.eval { fn := fn, tmps := tmps, todo := .inRangeFunc (pl φ l).blk :: K, defers := mark ++ defers, mode := .run, kind := kind, roundOf := roundOf } = Frame.eval { fn := fn, tmps := tmps, todo := .code (.rangeFunc x ps a c) :: K, defers := defers, mode := .run, kind := kind, roundOf := roundOf } := by funext o; cases o <;> rfl
        rw [← hev] at h2'
        have hloop' : (Instr.enterLoop fn tmps ps a c roundOf).run P w0' = .ok ((pl φ l).blk, mark) w := hloop
        simp only [stepG, stepG.exec, Sem.runT_eq, hloop', stepG.apply, if_true, h2', GStep.bare_after, GStep.bare_go]
  · have : ∀ s' : Stk, callV P (ev y e L) (.cons (vYl l) .nil) false ih s' hs = .fail := fun s' => by
      unfold callV
      split
      · rename_i hh; exact absurd ⟨_, _, _, by rw [hh]; rfl⟩ hv
      · rename_i hh; exact absurd ⟨_, _, _, by rw [hh]; rfl⟩ hv
      · rfl
    rw [this]; trivial
end
end Go.AbsK

namespace Go.AbsK
open Go
open Go.RowKit (Below)
set_option linter.unusedVariables false
set_option linter.unusedSimpArgs false
set_option linter.deprecated false

variable {P : Program} {T : Hints} {B : Nat} {w0 : World} {f0 : Nat} {CS : List Frame}

section
variable {fn : Nat} {k : Todo} {a c : Code}
theorem newObj_run (o : Obj) (w : World) : (newObj o).run P w = .ok w.heap.size { w with heap := w.heap.push o } := rfl
theorem blk_rangeF (W : ProgOk P) {x : Operand} {y : OB} (hx : cO T fn [] x = some y) {ps : Array Nat} : BlkOk P T B w0 f0 CS fn (.code (.rangeFunc x ps a c) :: k) (bRangeF P y ps.toList a c k) := by
  intro ih I e L fi s hs N φ w fr cs R
  have F := R.fr_
  rcases F.go with ⟨hm, hd⟩ | ⟨_, _, h, _⟩
  · obtain ⟨tk, henv⟩ : TodoOk φ (.code (.rangeFunc x ps a c) :: k) fr.todo ∧ EnvOk P T φ fn e fr.tmps := hd
    cases fi with
    | mk dfr rd ds =>
      cases rd with
      | none =>
        have hrd : fr.roundOf = none := F.rd_
        show Good P B w0 f0 CS (lone fr cs w) (match hs.new (.defd (some .nil)) with
          | (r, hs) => match hs.new (.loop 0 none fn e ps.toList a c r) with
            | (l, hs) => ifO (Nat.ble l 1000000) (callV P (ev y e L) (.cons (vYl l) .nil) false ih (.fr e (.endRF l :: k) L fn (.mk dfr none (.mark r ds)) (.none false) s) hs) .fail)
        simp only [new_eq]
        cases hb : Nat.ble (hs.push (.defd (some .nil))).next 1000000 with
        | false => trivial
        | true =>
          have hb' := Nat.le_of_ble_eq_true hb
          have hn0 : hs.next ≤ 1000000 := by rw [HS.push_next] at hb'; omega
          obtain ⟨φ1, w1, rfl, rfl, k1, k2, k3, k4⟩ := make_ok R.heap hn0 (o := .defd (some .nil)) rfl (.deferred (some [])) (p := ⟨w.heap.size, 0, 0, 0⟩) rfl ⟨push_get _ _, fun l h => by cases h; trivial⟩
          have hr1 : (set1 φ hs.next ⟨w.heap.size, 0, 0, 0⟩) hs.next = some ⟨w.heap.size, 0, 0, 0⟩ := set1_same _ _ _
          generalize hφ1 : set1 φ hs.next ⟨w.heap.size, 0, 0, 0⟩ = φ1 at *
          have hle2 := Le.set1 k2.nextNone (⟨w.heap.size + 1, 0, 0, 0⟩ : Pl)
          obtain ⟨φ2, w2, hw2, hφ2, m1, m2, m3, m4⟩ := make_ok k2 hb' (o := .loop 0 none fn e ps.toList a c hs.next) rfl (.loop { state := .ready, pending := none, fn, tmps := fr.tmps, params := ps, assign := a, body := c, defers := w.heap.size }) (p := ⟨w.heap.size + 1, 0, 0, 0⟩) (by simp)
            ⟨hle2.some (by rw [hr1]; rfl), fr.tmps, (henv.up k1).up hle2, by
              rw [hle2.pl (by rw [hr1]; rfl)]
              have : (pl φ1 hs.next).blk = w.heap.size := by simp [pl, hr1]
              rw [this]
              have : (⟨w.heap.size + 1, 0, 0, 0⟩ : Pl).blk = ({ w with heap := w.heap.push (.deferred (some [])) } : World).heap.size := by simp
              rw [this, push_get]
              simp [loopState]⟩
          have hl2 : φ2 (hs.push (.defd (some .nil))).next = some ⟨w.heap.size + 1, 0, 0, 0⟩ := by rw [hφ2]; exact set1_same _ _ _
          have hr2 : φ2 hs.next = some ⟨w.heap.size, 0, 0, 0⟩ := m1 _ _ hr1
          have kp : Keep hs.next φ hs φ2 ((hs.push (.defd (some .nil))).push (.loop 0 none fn e ps.toList a c hs.next)) :=
            (Keep.of k1 k3 k4).trans ((Keep.of m1 m3 m4).mono (by rw [HS.push_next]; omega))
          refine range_go W I hx (ds' := .mark hs.next ds) (mark := [{ target := .collected w.heap.size, args := #[] }]) R kp m2 (by rw [hl2]; rfl) ⟨by rw [hr2]; rfl, F.dsd.up kp.le⟩ ?_ ?_ hm tk henv
          · rw [F.ds_]
            show { target := Target.collected (pl φ2 hs.next).blk, args := #[] } :: concD φ2 ds = _
            rw [show (pl φ2 hs.next).blk = w.heap.size from by simp [pl, hr2], (show concD φ2 ds = concD φ ds from concD_up kp.le F.dsd)]
            rfl
          · rw [hrd, F.fn_, show (pl φ2 (hs.push (.defd (some .nil))).next).blk = w.heap.size + 1 from by simp [pl, hl2], hw2]
            simp only [Instr.enterLoop, Sem.run_bind, newObj_run, Result.andThen_ok, Sem.run_pure, Array.size_push]
      | some o =>
        have hrd : fr.roundOf = some (pl φ o).blk := F.rd_
        show Good P B w0 f0 CS (lone fr cs w) (match getH o hs.heap with
          | .loop _ _ _ _ _ _ _ df => match hs.new (.loop 0 none fn e ps.toList a c df) with
            | (l, hs) => ifO (Nat.ble l 1000000) (callV P (ev y e L) (.cons (vYl l) .nil) false ih (.fr e (.endRF l :: k) L fn (.mk dfr (some o) ds) (.none false) s) hs) .fail
          | _ => .fail)
        split
        · rename_i st pend f env ps' as bd df hg
          simp only [new_eq]
          cases hb : Nat.ble hs.next 1000000 with
          | false => trivial
          | true =>
            have hb' := Nat.le_of_ble_eq_true hb
            obtain ⟨l1, tmps, l2, l3⟩ := loop_at R.heap (F.rds o rfl) hg
            have hle2 := Le.set1 R.heap.nextNone (⟨w.heap.size, 0, 0, 0⟩ : Pl)
            obtain ⟨φ2, w2, hw2, hφ2, m1, m2, m3, m4⟩ := make_ok R.heap hb' (o := .loop 0 none fn e ps.toList a c df) rfl (.loop { state := .ready, pending := none, fn, tmps := fr.tmps, params := ps, assign := a, body := c, defers := (pl φ df).blk }) (p := ⟨w.heap.size, 0, 0, 0⟩) rfl
              ⟨hle2.some l1, fr.tmps, henv.up hle2, by
                rw [hle2.pl l1, push_get]
                simp [loopState]⟩
            have hl2 : φ2 hs.next = some ⟨w.heap.size, 0, 0, 0⟩ := by rw [hφ2]; exact set1_same _ _ _
            have kp : Keep hs.next φ hs φ2 (hs.push (.loop 0 none fn e ps.toList a c df)) := Keep.of m1 m3 m4
            refine range_go W I hx (ds' := ds) (mark := []) R kp m2 (by rw [hl2]; rfl) (F.dsd.up kp.le) ?_ ?_ hm tk henv
            · rw [F.ds_, (show concD φ2 ds = concD φ ds from concD_up kp.le F.dsd)]; rfl
            · rw [hrd, F.fn_, show (pl φ2 hs.next).blk = w.heap.size from by simp [pl, hl2], hw2]
              simp only [Instr.enterLoop, Instr.getLoop, Sem.run_bind, getObj_run l3 (fun _ _ _ h => by cases h), newObj_run, Result.andThen_ok, Sem.run_pure]
        · trivial
  · cases h
/-- every block that the decoder makes is sound -/
theorem decode_ok (W : ProgOk P) : ∀ (n : Nat) (k : Todo), BlkOk P T B w0 f0 CS fn k (decode P T fn n k) := by
  intro n
  induction n with
  | zero => exact fun k => BlkOk.bad
  | succ n ih =>
    intro k
    cases k with
    | nil => exact blk_leave W (k := []) (jump := none) (fun h => h) (fun {φ fr} tk => by
        left
        refine ⟨?_, rfl⟩
        revert tk
        generalize fr.todo = td
        intro tk; cases tk; rfl) (fun h => by cases h)
    | cons it t =>
      show BlkOk P T B w0 f0 CS fn (it :: t) (dItem P T it (decode P T fn n) fn t)
      cases it with
      | inBlock id => exact blk_inBlock (ih t)
      | inScope c => exact blk_inScope (ih t)
      | inLoop c => exact blk_inLoop (ih _)
      | endRF l => exact blk_endRF
      | begR => exact blk_begR
      | rg ops l ns =>
        cases l with
        | nil => exact blk_rgEnd (ih t)
        | cons o l => exact blk_rg W
      | dr ops l ns =>
        cases l with
        | nil => exact blk_drEnd (ih t)
        | cons p l =>
          obtain ⟨i, chk⟩ := p
          show BlkOk P T B w0 f0 CS fn _ (match fget ops.toList i with | some o => _ | none => bBad)
          cases ho : fget ops.toList i with
          | none => exact BlkOk.bad
          | some o =>
            rw [fget_eq, Array.getElem?_toList] at ho
            cases chk with
            | true => exact blk_drChk ho
            | false =>
              show BlkOk P T B w0 f0 CS fn _ (@Bool.rec (fun _ => Blk) _ _ (quietOp o.op))
              cases hq : quietOp o.op with
              | true => exact blk_drQuiet ho hq
              | false => exact blk_drEff W ho hq
      | code c =>
        cases c with
        | skip => exact blk_skip (ih t)
        | label l => exact blk_label (ih t)
        | seq a b => exact blk_seq (ih _)
        | block id b => exact blk_block (ih _)
        | loop b => exact blk_loop (ih _)
        | scope b => exact blk_scope (ih _)
        | refuse w => exact BlkOk.bad
        | ret => exact blk_leave W (k := .code .ret :: t) (jump := some .ret) (fun h => h) (fun {φ fr} tk => by
            right; left
            revert tk
            generalize fr.todo = td
            intro tk
            cases tk with | code _ => exact ⟨_, rfl, rfl⟩) (fun _ => rfl)
        | region id ops draw =>
          cases draw with
          | false => exact blk_region (ih _)
          | true =>
            show BlkOk P T B w0 f0 CS fn _ (match ordOf T fn id with | some l => @Bool.rec (fun _ => Blk) bBad (decode P T fn n (.dr ops l [] :: t)) (orderOk ops l) | none => bBad)
            cases ordOf T fn id with
            | none => exact BlkOk.bad
            | some l =>
              simp only []
              cases ho : orderOk ops l with
              | false => exact BlkOk.bad
              | true => exact blk_regionD W ho (ih _)
        | cond x a b =>
          show BlkOk P T B w0 f0 CS fn _ (match cO T fn [] x with | some x => bCond x (.code a :: t) (.code b :: t) | none => bBad)
          cases hx : cO T fn [] x with
          | none => exact BlkOk.bad
          | some y => exact blk_cond hx
        | rangeFunc x ps a b =>
          show BlkOk P T B w0 f0 CS fn _ (match cO T fn [] x with | some x => bRangeF P x ps.toList a b t | none => bBad)
          cases hx : cO T fn [] x with
          | none => exact BlkOk.bad
          | some y => exact blk_rangeF W hx
        | exit id =>
          show BlkOk P T B w0 f0 CS fn _ (match exitToA id t with | some k => decode P T fn n k | none => bLeave P T (some (.exit id)))
          cases he : exitToA id t with
          | some k' => exact blk_exit (fun k'' h => by rw [he] at h; cases h; exact ih _) he
          | none => exact blk_leave W (k := .code (.exit id) :: t) (jump := some (.exit id)) (fun h => h) (fun {φ fr} tk => by
              right; right; left
              revert tk
              generalize fr.todo = td
              intro tk
              cases tk with
              | code t' =>
                refine ⟨id, _, rfl, ?_, rfl⟩
                rcases exit_ok (id := id) t' with ⟨_, h⟩ | ⟨_, _, h, _⟩
                · exact h
                · rw [he] at h; cases h) (fun h => by cases h)
        | goto l =>
          show BlkOk P T B w0 f0 CS fn _ (match gotoInA l t with | some k => decode P T fn n k | none => bLeave P T (some (.goto l)))
          cases he : gotoInA l t with
          | some k' => exact blk_goto (fun k'' h => by rw [he] at h; cases h; exact ih _) he
          | none => exact blk_leave W (k := .code (.goto l) :: t) (jump := some (.goto l)) (fun h => h) (fun {φ fr} tk => by
              right; right; right
              revert tk
              generalize fr.todo = td
              intro tk
              cases tk with
              | code t' =>
                refine ⟨l, _, rfl, ?_, rfl⟩
                rcases goto_ok (l := l) t' with ⟨_, h⟩ | ⟨_, _, h, _⟩
                · exact h
                · rw [he] at h; cases h) (fun h => by cases h)
end
theorem run_succ (n : Nat) (e : E16) (k : Todo) (L : Loc) (fn : Nat) (fi : FI) (s : Stk) (hs : HS) : run P T (n + 1) e k L fn fi s hs = blkK (decode P T fn 1000 k) (run P T n) e L fn fi s hs := by
  delta run
  generalize decode P T = d
  generalize 1000 = q
  rfl
/-- the abstract machine is sound -/
theorem run_ok (W : ProgOk P) : ∀ n, KOk P T B w0 f0 CS (run P T n)
  | 0 => fun _ _ _ _ _ _ _ _ _ _ _ _ _ => trivial
  | n + 1 => fun e k L fn fi s hs N φ w fr cs R => by
    rw [run_succ]
    exact decode_ok W 1000 k (run P T n) (run_ok W n) e L fi s hs N φ w fr cs R
/-- a run: what the abstract machine answers, the function answers, in whatever world that fits -/
theorem calls_of_run (W : ProgOk P) {f : Nat} (hb : hasBody P f = true) {φ : Plc} {hs : HS} {w : World} (H : HOk P T w.heap.size w φ hs w) (G : GlobOk T φ) {args : AV} (hd : DfL φ args) (hl : (lst args).length ≤ 200) {n : Nat} {v : AV} {hs' : HS}
    (hr : run P T n (argsE args 0 e0) (todoOf P f) .nil f (.mk false none .nil) .nil hs = .done v hs') :
    Calls P f (concL φ args).toArray w fun e w' => (∃ φ', e = .returned (conc φ' v)) ∧ Below w.heap.size w w' := by
  intro cs
  have key := run_ok (T := T) (B := w.heap.size) (w0 := w) (f0 := f) (CS := cs) W n (argsE args 0 e0) (todoOf P f) .nil f (.mk false none .nil) .nil hs hs.next φ w (Frame.enter P f (concL φ args).toArray .normal) cs
    ⟨Nat.le_refl _, H, G, frame_enter_ok (args := args) hb hd hl rfl false _, rfl, rfl, rfl, rfl⟩
  rw [hr] at key
  obtain ⟨φ', w', fr', a, b, c, d⟩ := key
  exact ⟨_, w', fr', ⟨⟨φ', rfl⟩, d⟩, a, b, c⟩
/-- an answer of the abstract machine, told apart -/
def ansB : Out → Bool
  | .done (.bool b) _ => b
  | _ => false
theorem ansB_ok {o : Out} (h : ansB o = true) : ∃ hs, o = .done (.bool true) hs := by
  cases o with
  | done v hs => cases v <;> first | (simp only [ansB] at h; subst h; exact ⟨hs, rfl⟩) | cases h
  | _ => cases h
-- a start: n places of whole numbers, and no other memory
def encZ : Int → Nat
  | .ofNat n => 2 * n
  | .negSucc n => 2 * n + 1
theorem decZ_even (n : Nat) : decZ (2 * n) = Int.ofNat n := by
  unfold decZ
  rw [if_pos (by omega)]
  congr 1; omega
theorem decZ_odd (n : Nat) : decZ (2 * n + 1) = Int.negSucc n := by
  unfold decZ
  rw [if_neg (by omega)]
  congr 1; omega
theorem dec_enc (z : Int) : decZ (encZ z) = z := by
  cases z with
  | ofNat n => exact decZ_even n
  | negSucc n => exact decZ_odd n
def startφ (zs : List Int) : Plc := fun b => (zs[b]?).map fun z => ⟨0, 0, encZ z, 0⟩
def startArgs : Nat → Nat → AV
  | 0, _ => .nil
  | n + 1, b => .cons (.oth 20 b 0 0 0 0 0 .nil .nil) (startArgs n (b + 1))
noncomputable def startHS (n : Nat) : HS := .mk h5 n h5
theorem getH_h5 (b : Nat) : getH b h5 = .dead := by
  unfold getH
  have a5 : ∀ d, H5.get d h5 = h4 := fun d => by cases d <;> rfl
  have a4 : ∀ d, H4.get d h4 = h3 := fun d => by cases d <;> rfl
  have a3 : ∀ d, H3.get d h3 = h2 := fun d => by cases d <;> rfl
  have a2 : ∀ d, H2.get d h2 = h1 := fun d => by cases d <;> rfl
  have a1 : ∀ d, H1.get d h1 = .dead := fun d => by cases d <;> rfl
  rw [a5, a4, a3, a2, a1]
theorem start_ok (zs : List Int) (hz : zs.length ≤ 100) (w : World) (hw : 0 < w.heap.size) : HOk P T w.heap.size w (startφ zs) (startHS zs.length) w := by
  have hn : (startHS zs.length).next = zs.length := rfl
  have hg : ∀ b, getH b (startHS zs.length).heap = .dead := getH_h5
  refine ⟨by rw [hn]; omega, fun b p h => ?_, fun b b' p p' _ _ _ _ hwr => ?_, fun b _ fam ver own sh hf => ?_, fun b b' fam ver ver' sh sh' _ _ hf => ?_, fun f _ _ => ?_, fun b p _ hwr => ?_, Nat.le_refl _, Below.refl _ _⟩
  · unfold startφ at h
    simp only [Option.map_eq_some_iff] at h
    obtain ⟨z, h1, h2⟩ := h
    subst h2
    refine ⟨by rw [hn]; exact (List.getElem?_eq_some_iff.1 h1).1, hw, fun hl => ?_⟩
    unfold live at hl
    rw [hg] at hl
    exact hl.elim
  · rw [hg] at hwr; exact hwr.elim
  · rw [hg] at hf; cases hf
  · rw [hg] at hf; cases hf
  · show verOf f h5 = 0
    unfold verOf
    rw [getH_h5]
  · rw [hg] at hwr; exact hwr.elim
theorem startArgs_ok : ∀ (zs pre : List Int), DfL (startφ (pre ++ zs)) (startArgs zs.length pre.length) ∧ concL (startφ (pre ++ zs)) (startArgs zs.length pre.length) = zs.map (Value.int .i64) ∧ (lst (startArgs zs.length pre.length)).length = zs.length
  | [], pre => ⟨trivial, rfl, rfl⟩
  | z :: zs, pre => by
    obtain ⟨a, b, c⟩ := startArgs_ok zs (pre ++ [z])
    simp only [List.append_assoc, List.singleton_append, List.length_append, List.length_cons, List.length_nil, Nat.zero_add] at a b c
    have h0 : startφ (pre ++ z :: zs) pre.length = some ⟨0, 0, encZ z, 0⟩ := by simp [startφ]
    refine ⟨⟨?_, a⟩, ?_, ?_⟩
    · show (startφ (pre ++ z :: zs) pre.length).isSome = true
      rw [h0]; rfl
    · simp only [startArgs, List.length_cons, concL, List.map_cons, b]
      congr 1
      show Value.int .i64 (decZ (pl (startφ (pre ++ z :: zs)) pre.length).cap) = _
      simp only [pl, h0, Option.getD_some, dec_enc]
    · simp only [startArgs, List.length_cons, lst, c]
/-- a run from whole numbers that nobody looks at: the function answers true, in every world -/
theorem calls_true (W : ProgOk P) {f : Nat} (hb : hasBody P f = true) (hT : T.globs = []) (zs : List Int) (hz : zs.length ≤ 100) {n : Nat} (hr : ansB (run P T n (argsE (startArgs zs.length 0) 0 e0) (todoOf P f) .nil f (.mk false none .nil) .nil (startHS zs.length)) = true) (w : World) (hw : 0 < w.heap.size) :
    Calls P f (zs.map (Value.int .i64)).toArray w fun e w' => e = .returned (.bool true) ∧ Below w.heap.size w w' := by
  obtain ⟨hs', hr⟩ := ansB_ok hr
  obtain ⟨a, b, c⟩ := startArgs_ok zs []
  simp only [List.nil_append, List.length_nil] at a b c
  have := calls_of_run W hb (start_ok (P := P) (T := T) zs hz w hw) (fun g hg => by rw [hT] at hg; cases hg) a (by omega) hr
  rw [b] at this
  exact this.mono fun e w' ⟨⟨φ', h1⟩, h2⟩ => ⟨h1, h2⟩
end Go.AbsK
