/-
  An abstract machine for closed calls, and that it is sound (part 5 of 6): what it answers, the function answers. No condition.
-/
import Derived.Test.YtmcfahepoocekaaGreatDoorK4
import Derived.Calls
import Derived.Orders
namespace Go.AbsK
open Go
open Go.RowKit (Below)
set_option linter.unusedVariables false
set_option linter.unusedSimpArgs false
set_option linter.deprecated false

variable {P : Program} {T : Hints} {B : Nat} {w0 : World}

-- temporaries
noncomputable def nthV (d : Nat) (L : Loc) : AV := (nthLoc d L).hd
theorem ev_locOB (d : Nat) (e : E16) (L : Loc) : ev (locOB d) e L = nthV d L := by
  unfold locOB; split <;> rfl
/-- what a temporary is -/
noncomputable def aval (e : E16) (L : Loc) (ns : List Nat) (t : Nat) : AV := match idx t ns 0 with | some d => nthV d L | none => gS t e
theorem idx_add (t : Nat) : ∀ (l : List Nat) (n : Nat), idx t l (n + 1) = (idx t l n).map (· + 1)
  | [], _ => rfl
  | u :: l, n => by
    simp only [idx]
    split
    · rfl
    · exact idx_add t l (n + 1)
theorem idx_none {t : Nat} : ∀ {l : List Nat} {n : Nat}, idx t l n = none → t ∉ l
  | [], _, _ => by simp
  | u :: l, n, h => by
    simp only [idx] at h
    split at h
    · cases h
    · rename_i hb
      have := idx_none h
      have hne : t ≠ u := fun e => hb (beqN_iff.2 e)
      simp [hne, this]
theorem idx_some {t : Nat} : ∀ {l : List Nat} {n d : Nat}, idx t l n = some d → t ∈ l
  | [], _, _, h => by cases h
  | u :: l, n, d, h => by
    simp only [idx] at h
    split at h
    · rename_i hb; have := beqN_iff.1 hb; simp [this]
    · exact List.mem_cons_of_mem _ (idx_some h)
theorem aval_cons (e : E16) (v : AV) (L : Loc) (u : Nat) (ns : List Nat) (t : Nat) : aval e (.cons v L) (u :: ns) t = if t = u then v else aval e L ns t := by
  unfold aval
  simp only [idx]
  by_cases h : t = u
  · subst h
    rw [if_pos (Nat.beq_refl t), if_pos rfl]
    rfl
  · rw [if_neg (fun hb => h (beqN_iff.1 hb)), if_neg h, idx_add]
    cases idx t ns 0 with
    | none => rfl
    | some d => rfl
theorem aval_slot {e : E16} {L : Loc} {ns : List Nat} {t : Nat} (h : t ∉ ns) : aval e L ns t = gS t e := by
  unfold aval
  cases hi : idx t ns 0 with
  | none => rfl
  | some d => exact absurd (idx_some hi) h
def Vis (T : Hints) (fn : Nat) (ns : List Nat) (t : Nat) : Prop := t ∈ ns ∨ (t ≤ 255 ∧ hasT (slotsOf T fn) t = true)
theorem cO_tmp {fn : Nat} {ns : List Nat} {t : Nat} {x : OB} (h : cO T fn ns (.tmp t) = some x) : Vis T fn ns t ∧ ∀ e L, ev x e L = aval e L ns t := by
  simp only [cO] at h
  split at h
  · rename_i d hd
    cases h
    exact ⟨.inl (idx_some hd), fun e L => by rw [ev_locOB]; unfold aval; rw [hd]⟩
  · rename_i hd
    split at h
    · rename_i hc
      cases h
      simp only [Bool.and_eq_true] at hc
      exact ⟨.inr ⟨Nat.le_of_ble_eq_true hc.2, hc.1⟩, fun e L => by rw [ev_opSlot]; unfold aval; rw [hd]⟩
    · cases h

/-- package variables lie where they lie -/
def GlobOk (T : Hints) (φ : Plc) : Prop := ∀ g ∈ T.globs, ∃ p, φ g = some p ∧ p.blk = g ∧ p.base = 0
theorem GlobOk.up {φ ψ : Plc} (h : GlobOk T φ) (k : Le φ ψ) : GlobOk T ψ := fun g hg => let ⟨p, a, b⟩ := h g hg; ⟨p, k _ _ a, b⟩

/-- the frame's temporaries hold what they are, but those of X -/
structure TmOk (P : Program) (T : Hints) (φ : Plc) (fn : Nat) (e : E16) (L : Loc) (ns : List Nat) (tmps : Array Value) (X : Nat → Prop) : Prop where
  size : ntOf P fn ≤ tmps.size
  loc : ∀ t ∈ ns, hasT (slotsOf T fn) t = false
  at_ : ∀ t, Vis T fn ns t → ¬ X t → Df φ (aval e L ns t) ∧ tmps.getD t Go.undef = conc φ (aval e L ns t)
section
variable {φ : Plc} {fn : Nat} {e : E16} {L : Loc} {ns : List Nat} {tmps : Array Value} {X : Nat → Prop}
theorem TmOk.env (h : TmOk P T φ fn e L ns tmps fun _ => False) : EnvOk P T φ fn e tmps :=
  ⟨h.size, fun t ht hs => by
    have := h.at_ t (.inr ⟨ht, hs⟩) (fun x => x)
    have hn : t ∉ ns := fun hm => by rw [h.loc t hm] at hs; cases hs
    rwa [aval_slot hn] at this⟩
theorem EnvOk.tm (h : EnvOk P T φ fn e tmps) : TmOk P T φ fn e L [] tmps fun _ => False :=
  ⟨h.1, fun t ht => by simp at ht, fun t hv _ => by
    rcases hv with h' | ⟨h1, h2⟩
    · simp at h'
    · rw [aval_slot (by simp)]; exact h.2 t h1 h2⟩
theorem TmOk.up {ψ : Plc} (k : Le φ ψ) (h : TmOk P T φ fn e L ns tmps X) : TmOk P T ψ fn e L ns tmps X :=
  ⟨h.size, h.loc, fun t hv hx => let ⟨a, b⟩ := h.at_ t hv hx; ⟨k.df a, by rw [k.conc a]; exact b⟩⟩
theorem TmOk.imp {Y : Nat → Prop} (h : TmOk P T φ fn e L ns tmps X) (k : ∀ t, Vis T fn ns t → X t → Y t) : TmOk P T φ fn e L ns tmps Y :=
  ⟨h.size, h.loc, fun t hv hy => h.at_ t hv fun hx => hy (k t hv hx)⟩
/-- an operand that was turned -/
theorem cO_ok (G : GlobOk T φ) {ρ : Operand → Value} (S : StdR ρ) {o : Operand} {x : OB} (h : cO T fn ns o = some x)
    (ht : ∀ t, o = .tmp t → Vis T fn ns t → Df φ (aval e L ns t) ∧ ρ (.tmp t) = conc φ (aval e L ns t)) : EvOk φ e L ρ x o := by
  cases o with
  | tmp t =>
    obtain ⟨a, b⟩ := cO_tmp h
    obtain ⟨c, d⟩ := ht t rfl a
    exact ⟨by rw [b]; exact c, by rw [b]; exact d⟩
  | const v =>
    simp only [cO] at h
    split at h
    · rename_i hp
      cases h
      obtain ⟨a, b⟩ := ofValue_ok φ v hp
      exact ⟨b, by rw [S.const]; exact a.symm⟩
    · cases h
  | global g =>
    simp only [cO] at h
    split at h
    · rename_i hg
      cases h
      obtain ⟨p, p1, p2, p3⟩ := G g (List.contains_iff_mem.1 hg)
      refine ⟨?_, ?_⟩
      · show (φ g).isSome = true
        rw [p1]; rfl
      · rw [S.glob]
        show _ = Value.pointer (some (adr φ g 0 0))
        rw [adr_eq p1, p2, p3]; simp
    · cases h
  | func f =>
    simp only [cO] at h
    cases h
    exact ⟨⟨trivial, trivial⟩, by rw [S.func]; rfl⟩
theorem tmpsL_mem {t : Nat} : ∀ {os : List Operand}, Operand.tmp t ∈ os → t ∈ tmpsL os
  | [], h => by simp at h
  | o :: os, h => by
    simp only [List.mem_cons] at h
    rcases h with rfl | h
    · simp [tmpsL]
    · cases o <;> simp only [tmpsL, List.mem_cons] <;> first | exact .inr (tmpsL_mem h) | exact tmpsL_mem h
theorem opA (G : GlobOk T φ) {ρ : Operand → Value} (S : StdR ρ) {os : List Operand} (ht : ∀ t ∈ tmpsL os, Vis T fn ns t → Df φ (aval e L ns t) ∧ ρ (.tmp t) = conc φ (aval e L ns t)) : OpA T fn ns os φ e L ρ :=
  ⟨S, fun o ho x hx => cO_ok G S hx fun t h => by subst h; exact ht t (tmpsL_mem ho)⟩
end
theorem evalStd (fr : Frame) : StdR fr.eval := ⟨fun _ => rfl, fun _ => rfl, fun _ => rfl⟩

-- where an answer goes
noncomputable def DB.upE : DB → AV → E16 → E16
  | .slot n _, v, e => setSB n v e
  | _, _, e => e
def DB.upL : DB → AV → Loc → Loc
  | .none true, _, _ => .nil
  | .slot _ true, _, _ => .nil
  | .loc, v, L => .cons v L
  | _, _, L => L
def DB.isBad : DB → Bool
  | .bad => true
  | _ => false
theorem finK_eq (d : DB) (v : AV) (ih : K) (k : Todo) (e : E16) (L : Loc) (fn : Nat) (fi : FI) (s : Stk) (hs : HS) :
    finK (finOf d) v ih k e L fn fi s hs = .fail ∨ (d.isBad = false ∧ finK (finOf d) v ih k e L fn fi s hs = ih (d.upE v e) k (d.upL v L) fn fi s hs) := by
  cases d with
  | none last => cases last <;> exact .inr ⟨rfl, rfl⟩
  | slot n last =>
    cases last with
    | false =>
      refine .inr ⟨rfl, ?_⟩
      show finK (finSlot (stSlot n)) v ih k e L fn fi s hs = ih (setSB n v e) k L fn fi s hs
      unfold setSB
      generalize stSlot n = sb
      cases sb; rfl
    | true =>
      refine .inr ⟨rfl, ?_⟩
      show finK (finSlotL (stSlot n)) v ih k e L fn fi s hs = ih (setSB n v e) k .nil fn fi s hs
      unfold setSB
      generalize stSlot n = sb
      cases sb; rfl
  | loc => exact .inr ⟨rfl, rfl⟩
  | bad => exact .inl rfl
def putT (tmps : Array Value) (dst : Option Tmp) (v : Value) : Array Value := match dst with
  | some d => tmps.setIfInBounds d v
  | none => tmps
section
variable {φ : Plc} {fn : Nat} {e : E16} {L : Loc} {ns : List Nat} {tmps : Array Value} {X : Nat → Prop} {dst : Option Tmp} {last : Bool}
theorem vis_push {t : Nat} (hb : (cDst P T fn dst last).isBad = false) : Vis T fn (pushN T fn dst ns) t ↔ (dst = some t ∨ Vis T fn ns t) := by
  unfold pushN Vis
  cases dst with
  | none => simp
  | some d =>
    simp only [Option.some.injEq]
    cases hd : hasT (slotsOf T fn) d with
    | true =>
      simp only [if_true]
      constructor
      · exact .inr
      · rintro (h | h)
        · subst h
          refine .inr ⟨?_, hd⟩
          simp only [cDst, hd, if_true] at hb
          split at hb
          · rename_i hc
            simp only [Bool.and_eq_true] at hc
            exact Nat.le_of_ble_eq_true hc.2
          · cases hb
        · exact h
    | false =>
      simp only [Bool.false_eq_true, if_false, List.mem_cons]
      constructor
      · rintro ((h | h) | h)
        · exact .inl h.symm
        · exact .inr (.inl h)
        · exact .inr (.inr h)
      · rintro (h | h | h)
        · exact .inl (.inl h.symm)
        · exact .inl (.inr h)
        · exact .inr h
theorem aval_put {v : AV} (hb : (cDst P T fn dst false).isBad = false) (hl : ∀ t ∈ ns, hasT (slotsOf T fn) t = false) {t : Nat} (hv : Vis T fn (pushN T fn dst ns) t) :
    aval ((cDst P T fn dst false).upE v e) ((cDst P T fn dst false).upL v L) (pushN T fn dst ns) t = if dst = some t then v else aval e L ns t := by
  cases dst with
  | none => simp [cDst, DB.upE, DB.upL, pushN]
  | some d =>
    cases hd : hasT (slotsOf T fn) d with
    | true =>
      simp only [cDst, hd, if_true] at hb ⊢
      split at hb
      · rename_i hc
        rw [if_pos hc]
        simp only [Bool.and_eq_true] at hc
        have h255 := Nat.le_of_ble_eq_true hc.2
        simp only [DB.upE, DB.upL, pushN, hd, if_true, Option.some.injEq]
        have hdn : d ∉ ns := fun hm => by rw [hl d hm] at hd; cases hd
        by_cases h : d = t
        · subst h
          rw [if_pos rfl, aval_slot hdn, gS_set_same]
        · rw [if_neg h]
          unfold aval
          cases hi : idx t ns 0 with
          | some k => rfl
          | none =>
            simp only []
            refine gS_set_ne ?_ (by omega) (Ne.symm h) _ _
            simp only [pushN, hd, if_true] at hv
            rcases hv with hm | ⟨h1, _⟩
            · exact absurd hm (idx_none hi)
            · omega
      · cases hb
    | false =>
      simp only [cDst, hd, Bool.false_eq_true, if_false] at hb ⊢
      split at hb
      · rename_i hc
        rw [if_pos hc]
        simp only [DB.upE, DB.upL, pushN, hd, Bool.false_eq_true, if_false, aval_cons, Option.some.injEq]
        by_cases h : d = t
        · subst h; simp
        · rw [if_neg h, if_neg (fun h' => h h'.symm)]
      · cases hb
theorem putT_size (tmps : Array Value) (dst : Option Tmp) (v : Value) : (putT tmps dst v).size = tmps.size := by
  cases dst <;> simp [putT]
theorem dst_lt (hb : (cDst P T fn dst last).isBad = false) {t : Nat} (h : dst = some t) : t < ntOf P fn := by
  subst h
  simp only [cDst] at hb
  split at hb
  · split at hb
    · rename_i hc
      simp only [Bool.and_eq_true] at hc
      exact ltN_iff.1 hc.1
    · cases hb
  · split at hb
    · rename_i hc; exact ltN_iff.1 hc
    · cases hb
/-- an answer is put away -/
theorem TmOk.put {ψ : Plc} (h : TmOk P T φ fn e L ns tmps X) (hle : Le φ ψ) {v : AV} (hv : Df ψ v) (hb : (cDst P T fn dst false).isBad = false) :
    TmOk P T ψ fn ((cDst P T fn dst false).upE v e) ((cDst P T fn dst false).upL v L) (pushN T fn dst ns) (putT tmps dst (conc ψ v)) fun t => X t ∧ dst ≠ some t := by
  refine ⟨by rw [putT_size]; exact h.size, fun t ht => ?_, fun t hvis hx => ?_⟩
  · unfold pushN at ht
    cases dst with
    | none => exact h.loc t ht
    | some d =>
      simp only at ht
      split at ht
      · exact h.loc t ht
      · rename_i hd
        simp only [List.mem_cons] at ht
        rcases ht with rfl | ht
        · simpa using hd
        · exact h.loc t ht
  · rw [aval_put hb h.loc hvis]
    by_cases ht : dst = some t
    · rw [if_pos ht]
      refine ⟨hv, ?_⟩
      have := dst_lt hb ht
      have hs := h.size
      subst ht
      simp only [putT]
      rw [Array.getD_eq_getD_getElem?, Array.getElem?_setIfInBounds, if_pos rfl, if_pos (by omega)]; rfl
    · rw [if_neg ht]
      have hv' : Vis T fn ns t := ((vis_push hb).1 hvis).resolve_left ht
      obtain ⟨a, b⟩ := h.at_ t hv' fun hX => hx ⟨hX, ht⟩
      refine ⟨hle.df a, ?_⟩
      rw [hle.conc a, ← b]
      cases dst with
      | none => rfl
      | some d =>
        simp only [putT]
        rw [Array.getD_eq_getD_getElem?, Array.getD_eq_getD_getElem?, Array.getElem?_setIfInBounds, if_neg (fun h' => ht (by rw [h']))]
/-- .. the last one of a region -/
theorem EnvOk.put {ψ : Plc} (h : TmOk P T φ fn e L ns tmps fun _ => False) (hle : Le φ ψ) {v : AV} (hv : Df ψ v) (hb : (cDst P T fn dst last).isBad = false) :
    EnvOk P T ψ fn ((cDst P T fn dst last).upE v e) (putT tmps dst (conc ψ v)) := by
  have hb' : (cDst P T fn dst false).isBad = false := by
    cases last with
    | false => exact hb
    | true =>
      revert hb
      cases dst with
      | none => intro; rfl
      | some d => simp only [cDst]; split <;> split <;> intro h <;> first | rfl | exact h
  have he : (cDst P T fn dst last).upE v e = (cDst P T fn dst false).upE v e := by
    cases last with
    | false => rfl
    | true =>
      cases dst with
      | none => rfl
      | some d => simp only [cDst]; split <;> split <;> rfl
  rw [he]
  exact ((h.put hle hv hb').imp (Y := fun _ => False) fun t _ hx => hx.1).env
end
end Go.AbsK

namespace Go.AbsK
open Go
open Go.RowKit (Below)
set_option linter.unusedVariables false
set_option linter.unusedSimpArgs false
set_option linter.deprecated false

variable {P : Program} {T : Hints} {B : Nat} {w0 : World}

-- what is left to do
inductive TodoOk (φ : Plc) : Todo → List Item → Prop where
  | nil : TodoOk φ [] []
  | code {c k K} : TodoOk φ k K → TodoOk φ (.code c :: k) (.code c :: K)
  | inBlock {id k K} : TodoOk φ k K → TodoOk φ (.inBlock id :: k) (.inBlock id :: K)
  | inLoop {c k K} : TodoOk φ k K → TodoOk φ (.inLoop c :: k) (.inLoop c :: K)
  | inScope {c k K} : TodoOk φ k K → TodoOk φ (.inScope c :: k) (.inScope c :: K)
  | endRF {l k K} : (φ l).isSome = true → TodoOk φ k K → TodoOk φ (.endRF l :: k) (.endRangeFunc (pl φ l).blk :: K)
  | begR {k K} : TodoOk φ k K → TodoOk φ (.begR :: k) (.beginRound :: K)
theorem TodoOk.up {φ ψ : Plc} (h : Le φ ψ) {k : Todo} {K : List Item} (t : TodoOk φ k K) : TodoOk ψ k K := by
  induction t with
  | nil => exact .nil
  | code _ ih => exact .code ih
  | inBlock _ ih => exact .inBlock ih
  | inLoop _ ih => exact .inLoop ih
  | inScope _ ih => exact .inScope ih
  | endRF hl _ ih => rw [← h.pl hl]; exact .endRF (h.some hl) ih
  | begR _ ih => exact .begR ih
theorem exit_ok {φ : Plc} {id : Nat} {k : Todo} {K : List Item} (t : TodoOk φ k K) :
    (exitToA id k = none ∧ exitTo id K = none) ∨ ∃ k' K', exitToA id k = some k' ∧ exitTo id K = some K' ∧ TodoOk φ k' K' := by
  induction t with
  | nil => exact .inl ⟨rfl, rfl⟩
  | @inBlock id' k K t ih =>
    simp only [exitToA, exitTo]
    by_cases h : id' = id
    · subst h; simp only [Nat.beq_refl, if_true, beq_self_eq_true]; exact .inr ⟨_, _, rfl, rfl, t⟩
    · have h1 : Nat.beq id' id = false := by cases hb : Nat.beq id' id with | false => rfl | true => exact absurd (beqN_iff.1 hb) h
      simp only [h1, Bool.false_eq_true, if_false, beq_eq_false_iff_ne.2 h]; exact ih
  | _ => simp only [exitToA, exitTo]; assumption
theorem goto_ok {φ : Plc} {l : Nat} {k : Todo} {K : List Item} (t : TodoOk φ k K) :
    (gotoInA l k = none ∧ gotoIn l K = none) ∨ ∃ k' K', gotoInA l k = some k' ∧ gotoIn l K = some K' ∧ TodoOk φ k' K' := by
  induction t with
  | nil => exact .inl ⟨rfl, rfl⟩
  | @inScope c k K t ih =>
    simp only [gotoInA, gotoIn]
    cases findLabel c l with
    | none => exact ih
    | some rest => exact .inr ⟨_, _, rfl, rfl, .code (.inScope t)⟩
  | _ => simp only [gotoInA, gotoIn]; assumption

/-- blocks below N that lie nowhere go on lying nowhere, and stay as they are -/
structure Keep (N : Nat) (φ : Plc) (hs : HS) (φ' : Plc) (hs' : HS) : Prop where
  le : Le φ φ'
  next : hs.next ≤ hs'.next
  un : ∀ b, b < N → φ b = none → φ' b = none ∧ getH b hs'.heap = getH b hs.heap
theorem Keep.refl (N : Nat) (φ : Plc) (hs : HS) : Keep N φ hs φ hs := ⟨Le.refl φ, Nat.le_refl _, fun _ _ h => ⟨h, rfl⟩⟩
theorem Keep.trans {N : Nat} {φ φ' φ'' : Plc} {hs hs' hs'' : HS} (h : Keep N φ hs φ' hs') (k : Keep N φ' hs' φ'' hs'') : Keep N φ hs φ'' hs'' :=
  ⟨h.le.trans k.le, Nat.le_trans h.next k.next, fun b hb hn => let ⟨a, c⟩ := h.un b hb hn; let ⟨d, e⟩ := k.un b hb a; ⟨d, e.trans c⟩⟩
theorem Keep.mono {N M : Nat} {φ φ' : Plc} {hs hs' : HS} (h : Keep N φ hs φ' hs') (k : M ≤ N) : Keep M φ hs φ' hs' := ⟨h.le, h.next, fun b hb => h.un b (by omega)⟩
theorem Keep.of {φ φ' : Plc} {hs hs' : HS} (h : Le φ φ') (u : Unt φ hs hs') (n : ∀ b, b < hs.next → φ b = none → φ' b = none) : Keep hs.next φ hs φ' hs' :=
  ⟨h, u.1, fun b hb hn => ⟨n b hb hn, u.2 b hb hn⟩⟩

-- regions that draw
def open_ (listed : Array Bool) : Nat := listed.toList.countP fun b => !b
def lst? (listed : Array Bool) (i : Nat) : Bool := listed.getD i false
/-- what an operation asks for, and answers, whenever it is done -/
def PQ (P : Program) (T : Hints) (B : Nat) (w0 : World) (Hp : HS → Prop) (E : Nat → AV) (o : Oper) (v : AV) (xb : Option (Nat × AObj)) : Prop :=
  ∀ φ hs w ρ, Hp hs → HOk P T B w0 φ hs w → GlobOk T φ → StdR ρ → (∀ t ∈ tmpsL o.op.operands.toList, Df φ (E t) ∧ ρ (.tmp t) = conc φ (E t)) →
    (∀ b ob, xb = some (b, ob) → φ b = none ∧ b < hs.next ∧ getH b hs.heap = ob) →
    ∃ φ' w', Le φ φ' ∧ HOk P T B w0 φ' hs w' ∧ Df φ' v ∧ (execOp ρ o).run P w = .ok (.value (conc φ' v)) w' ∧ ∀ b, φ b = none → (∀ ob, xb ≠ some (b, ob)) → φ' b = none
noncomputable def gdB (ops : Array Oper) (E : Nat → AV) (o : Oper) : Bool := match o.guard with
  | none => true
  | some (j, w) => match dstOf ops j with
    | some t => guardB (E t) w
    | none => false
structure PendOk (P : Program) (T : Hints) (B : Nat) (w0 : World) (hs : HS) (fn : Nat) (ns : List Nat) (ops : Array Oper) (E : Nat → AV) (chk : Nat) (i : Nat) (o : Oper) (xb : Option (Nat × AObj)) : Prop where
  q : quietOp o.op = true
  vis : ∀ t ∈ namesOf ops o, Vis T fn ns t
  dst : ∀ t, o.dst = some t → Vis T fn ns t ∧ t < ntOf P fn
  run : ∃ v, (∀ t, o.dst = some t → E t = v) ∧ (gdB ops E o = false → v = undef) ∧
    (gdB ops E o = true → (hasT chk i = true ∧ readsOp o.op = true) ∨ (readsOp o.op = true ∧ PQ P T B w0 (· = hs) E o v xb) ∨ PQ P T B w0 (fun _ => True) E o v xb)
/-- where a region that draws stands -/
structure DrOk (P : Program) (T : Hints) (B : Nat) (w0 : World) (N : Nat) (φ : Plc) (hs : HS) (fn : Nat) (e : E16) (L : Loc) (ns : List Nat) (ops : Array Oper) (l : List (Nat × Bool)) (tmps : Array Value)
    (listed : Array Bool) (fuel : Nat) (done sure : Nat) (ex : List Nat) (xb : Nat → Option (Nat × AObj)) : Prop where
  size : listed.size = ops.size
  fuel : open_ listed ≤ fuel
  ord : ordB (opInfos ops) l done sure ex = true
  exo : ∀ l1 i l2, ex = l1 ++ i :: l2 → ∃ o, ops[i]? = some o ∧ ∀ k, hasT (waitsM o.after.toList) k = true → k ∈ l2
  exd : ∀ i, hasT done i = true ↔ i ∈ ex
  low : ∀ i, lst? listed i = true → hasT done i = true
  sur : ∀ i, hasT sure i = true → lst? listed i = true
  clo : ∀ i o, ops[i]? = some o → lst? listed i = true → ∀ k, hasT (waitsM o.after.toList) k = true → lst? listed k = true
  tm : TmOk P T φ fn e L ns tmps fun t => ∃ i o, ops[i]? = some o ∧ lst? listed i = false ∧ hasT done i = true ∧ o.dst = some t
  pend : ∀ i o, ops[i]? = some o → lst? listed i = false → hasT done i = true → PendOk P T B w0 hs fn ns ops (aval e L ns) (chkM l 0) i o (xb i)
  own : ∀ i b ob, lst? listed i = false → hasT done i = true → xb i = some (b, ob) → N ≤ b ∧ b < hs.next ∧ φ b = none ∧ getH b hs.heap = ob
  dep : ∀ i j oi oj t, ops[i]? = some oi → ops[j]? = some oj → lst? listed i = false → hasT done i = true → lst? listed j = false → hasT done j = true → i ≠ j → oi.dst = some t → t ∈ namesOf ops oj → hasT (waitsM oj.after.toList) i = true
  dis : ∀ i j oi oj t, ops[i]? = some oi → ops[j]? = some oj → lst? listed i = false → hasT done i = true → lst? listed j = false → hasT done j = true → i ≠ j → oi.dst = some t → oj.dst ≠ some t
  self : ∀ i oi t, ops[i]? = some oi → lst? listed i = false → hasT done i = true → oi.dst = some t → t ∉ namesOf ops oi
  uno : ∀ i j b ob ob', lst? listed i = false → hasT done i = true → lst? listed j = false → hasT done j = true → xb i = some (b, ob) → xb j = some (b, ob') → i = j

/-- the head of what is left to do -/
def HdOk (P : Program) (T : Hints) (B : Nat) (w0 : World) (N : Nat) (φ : Plc) (hs : HS) (fn : Nat) (e : E16) (L : Loc) (tmps : Array Value) : Todo → List Item → Prop
  | .rg ops l ns :: k, todo => ∃ K, todo = .inRegion ops (List.range' (ops.size - l.length) l.length) :: K ∧ TodoOk φ k K ∧ l.length ≤ ops.size ∧ l = ops.toList.drop (ops.size - l.length) ∧
      (l = [] → EnvOk P T φ fn e tmps) ∧ (l ≠ [] → TmOk P T φ fn e L ns tmps fun _ => False)
  | .dr ops l ns :: k, todo => ∃ K listed tt fuel done sure ex xb, todo = .inRegion ops (Region.linearise.go .any ops fuel tt listed []) :: K ∧ TodoOk φ k K ∧ DrOk P T B w0 N φ hs fn e L ns ops l tmps listed fuel done sure ex xb
  | k, todo => TodoOk φ k todo ∧ EnvOk P T φ fn e tmps
structure FrOk (P : Program) (T : Hints) (B : Nat) (w0 : World) (N : Nat) (φ : Plc) (hs : HS) (e : E16) (k : Todo) (L : Loc) (fn : Nat) (dfr : Bool) (rd : Option Nat) (ds : DL) (fr : Frame) : Prop where
  fn_ : fr.fn = fn
  kind : fr.kind = if dfr then .deferred else .normal
  rd_ : fr.roundOf = rd.map fun l => (pl φ l).blk
  rds : ∀ l, rd = some l → (φ l).isSome = true
  ds_ : fr.defers = concD φ ds
  dsd : DfD φ ds
  go : (fr.mode = .run ∧ HdOk P T B w0 N φ hs fn e L fr.tmps k fr.todo) ∨ (fr.mode = .returning ∧ rd = none ∧ k = [.code .ret] ∧ EnvOk P T φ fn e fr.tmps)
/-- how a frame goes on when it is come back to -/
def back1 (dfr : Bool) (c : Frame) (v : Value) : Frame := if dfr then c else c.finish v
def FI.dfr : FI → Bool | .mk d _ _ => d
def FI.rd : FI → Option Nat | .mk _ r _ => r
def FI.ds : FI → DL | .mk _ _ d => d
/-- the callers; f0, CS: where all began -/
def StkOk (P : Program) (T : Hints) (B : Nat) (w0 : World) (f0 : Nat) (CS : List Frame) : (N : Nat) → Plc → HS → (fn : Nat) → FI → Stk → List Frame → Prop
  | N, φ, hs, fn, fi, .nil, cs => cs = CS ∧ fn = f0 ∧ fi.dfr = false ∧ fi.rd = none
  | N, φ, hs, fn, fi, .fr e k L fn' fi' d t, cs => ∃ c cs' M, cs = c :: cs' ∧ M ≤ N ∧ (∀ ch, c.mode ≠ .panicking ch) ∧
      (∀ φ' hs' v, d.isBad = false → Keep N φ hs φ' hs' → Df φ' v → FrOk P T B w0 M φ' hs' (d.upE v e) k (d.upL v L) fn' fi'.dfr fi'.rd fi'.ds (back1 fi.dfr c (conc φ' v))) ∧
      StkOk P T B w0 f0 CS M φ hs fn' fi' t cs'
theorem StkOk.keep {f0 : Nat} {CS : List Frame} : ∀ {s : Stk} {N : Nat} {φ φ' : Plc} {hs hs' : HS} {fn : Nat} {fi : FI} {cs : List Frame}, StkOk P T B w0 f0 CS N φ hs fn fi s cs → Keep N φ hs φ' hs' → StkOk P T B w0 f0 CS N φ' hs' fn fi s cs
  | .nil, _, _, _, _, _, _, _, _, h, _ => h
  | .fr e k L fn' fi' d t, N, φ, φ', hs, hs', fn, fi, cs, h, kp => by
    obtain ⟨c, cs', M, h1, h2, h3, h4, h5⟩ := h
    exact ⟨c, cs', M, h1, h2, h3, fun φ'' hs'' v hb k' hv => h4 φ'' hs'' v hb (kp.trans k') hv, h5.keep (kp.mono h2)⟩
theorem StkOk.fi {f0 : Nat} {CS : List Frame} {s : Stk} {N : Nat} {φ : Plc} {hs : HS} {fn : Nat} {fi fi' : FI} {cs : List Frame} (h : StkOk P T B w0 f0 CS N φ hs fn fi s cs) (h1 : fi'.dfr = fi.dfr) (h2 : fi'.rd = fi.rd) : StkOk P T B w0 f0 CS N φ hs fn fi' s cs := by
  cases s with
  | nil =>
    obtain ⟨a, b, c, d⟩ := h
    exact ⟨a, b, h1.trans c, h2.trans d⟩
  | fr e k L fn'' fi'' d t =>
    obtain ⟨c, cs', M, a1, a2, a3, a4, a5⟩ := h
    exact ⟨c, cs', M, a1, a2, a3, by rw [h1]; exact a4, a5⟩
/-- a state of the abstract machine, and one of the machine's -/
structure Rel (P : Program) (T : Hints) (B : Nat) (w0 : World) (f0 : Nat) (CS : List Frame) (e : E16) (k : Todo) (L : Loc) (fn : Nat) (fi : FI) (s : Stk) (hs : HS) (N : Nat) (φ : Plc) (w : World) (fr : Frame) (cs : List Frame) : Prop where
  bnd : N ≤ hs.next
  heap : HOk P T B w0 φ hs w
  glob : GlobOk T φ
  fr_ : FrOk P T B w0 N φ hs e k L fn fi.dfr fi.rd fi.ds fr
  stk : StkOk P T B w0 f0 CS N φ hs fn fi s cs
/-- what an end of the abstract machine says -/
def Good (P : Program) (B : Nat) (w0 : World) (f0 : Nat) (CS : List Frame) (m : Machine) : Out → Prop
  | .done v hs => ∃ φ w' fr', Steps P m (lone fr' CS w') ∧ fr'.fn = f0 ∧ fr'.leaving P w' (.returned (conc φ v)) ∧ Below B w0 w'
  | _ => True
theorem Good.steps {f0 : Nat} {CS : List Frame} {m m' : Machine} {o : Out} (h : Steps P m m') (g : Good P B w0 f0 CS m' o) : Good P B w0 f0 CS m o := by
  cases o with
  | done v hs =>
    obtain ⟨φ, w', fr', a, b⟩ := g
    exact ⟨φ, w', fr', h.trans a, b⟩
  | _ => trivial
/-- what goes on is sound -/
def KOk (P : Program) (T : Hints) (B : Nat) (w0 : World) (f0 : Nat) (CS : List Frame) (ih : K) : Prop :=
  ∀ e k L fn fi s hs N φ w fr cs, Rel P T B w0 f0 CS e k L fn fi s hs N φ w fr cs → Good P B w0 f0 CS (lone fr cs w) (ih e k L fn fi s hs)
/-- a block is sound -/
def BlkOk (P : Program) (T : Hints) (B : Nat) (w0 : World) (f0 : Nat) (CS : List Frame) (fn : Nat) (k : Todo) (b : Blk) : Prop :=
  ∀ ih, KOk P T B w0 f0 CS ih → ∀ e L fi s hs N φ w fr cs, Rel P T B w0 f0 CS e k L fn fi s hs N φ w fr cs → Good P B w0 f0 CS (lone fr cs w) (blkK b ih e L fn fi s hs)
theorem BlkOk.bad {f0 : Nat} {CS : List Frame} {fn : Nat} {k : Todo} : BlkOk P T B w0 f0 CS fn k bBad := fun _ _ _ _ _ _ _ _ _ _ _ _ _ => trivial
end Go.AbsK

namespace Go.AbsK
open Go
open Go.RowKit (Below)
set_option linter.unusedVariables false
set_option linter.unusedSimpArgs false
set_option linter.deprecated false

variable {P : Program} {T : Hints} {B : Nat} {w0 : World} {f0 : Nat} {CS : List Frame}

/-- closed facts of the program -/
structure ProgOk (P : Program) : Prop where
  num : ∀ (f : Nat) (fn : Func), P.funcs[f]? = some fn → fn.name ≠ "runtime.NumGoroutine"
  mixed : P.follows .mixedOrders = true

-- steps of a frame in a region
section steps
variable {fr : Frame} {cs : List Frame} {w : World} {ops : Array Oper} {i : Nat} {rest : List Nat} {K : List Item} {o : Oper}
theorem stepG_op' (hm : fr.mode = .run) (ht : fr.todo = .inRegion ops (i :: rest) :: K) (ho : ops[i]? = some o) (hw : Region.wanted o (yielded ops fr.tmps) = true) (hd : ∀ c, o.op = .defer c → fr.roundOf = none) :
    stepG P true { frame := fr, callers := cs, status := .running, dying := none } w = stepG.apply P true fr cs none (execOp fr.eval o) w := by
  cases fr with
  | mk fn tmps todo defers mode kind roundOf =>
    cases hm; cases ht
    have he : ({ fn := fn, tmps := tmps, todo := .inRegion ops (i :: rest) :: K, defers := defers, mode := .run, kind := kind, roundOf := roundOf } : Frame).oper? = some o := ho
    have hw' : Region.wanted o (yielded ops tmps) = true := hw
    simp only [stepG, stepG.exec, ho, Option.map_some, Option.getD_some, hw', if_true, stepG.oper, he]
    cases roundOf with
    | none => rfl
    | some l =>
      cases hop : o.op with
      | defer c => exact absurd (hd c hop) (by simp)
      | _ => rfl
theorem step_skip' (hm : fr.mode = .run) (ht : fr.todo = .inRegion ops (i :: rest) :: K) (ho : ops[i]? = some o) (hw : Region.wanted o (yielded ops fr.tmps) = false) :
    step P (lone fr cs w) = .next (lone (fr.finish Go.undef) cs w) := by
  refine step_lone_go ?_
  cases fr with
  | mk fn tmps todo defers mode kind roundOf =>
    cases hm; cases ht
    have hw' : Region.wanted o (yielded ops tmps) = false := hw
    simp [stepG, stepG.exec, ho, hw']
theorem step_value (hm : fr.mode = .run) (ht : fr.todo = .inRegion ops (i :: rest) :: K) (ho : ops[i]? = some o) (hw : Region.wanted o (yielded ops fr.tmps) = true) (hd : ∀ c, o.op ≠ .defer c) {nx : Next} {v : Value} {w' : World}
    (hr : (execOp fr.eval o).run P w = .ok nx w') (hn : nx = .value v ∨ (nx = .skip ∧ v = Go.undef)) : step P (lone fr cs w) = .next (lone (fr.finish v) cs w') := by
  refine step_lone_go ?_
  rw [stepG_op' hm ht ho hw fun c h => absurd h (hd c)]
  rcases hn with rfl | ⟨rfl, rfl⟩ <;> simp only [stepG.apply, Sem.runT_eq, hr, if_true, GStep.bare_after, GStep.bare_go]
theorem step_enter (hm : fr.mode = .run) (ht : fr.todo = .inRegion ops (i :: rest) :: K) (ho : ops[i]? = some o) (hw : Region.wanted o (yielded ops fr.tmps) = true) (hd : ∀ c, o.op ≠ .defer c) {f : FuncId} {args : Array Value} {w' : World}
    (hr : (execOp fr.eval o).run P w = .ok (.enter f args) w') : step P (lone fr cs w) = .next (lone (Frame.enter P f args .normal) (fr :: cs) w') := by
  refine step_lone_go ?_
  rw [stepG_op' hm ht ho hw fun c h => absurd h (hd c)]
  simp only [stepG.apply, Sem.runT_eq, hr, if_true, GStep.bare_after, GStep.bare_go, ht]
theorem step_round (hm : fr.mode = .run) (ht : fr.todo = .inRegion ops (i :: rest) :: K) (ho : ops[i]? = some o) (hw : Region.wanted o (yielded ops fr.tmps) = true) (hd : ∀ c, o.op ≠ .defer c) {l f : Nat} {tmps : Array Value} {as bd : Code} {w' : World}
    (hr : (execOp fr.eval o).run P w = .ok (.round l f tmps as bd) w') : step P (lone fr cs w) = .next (lone (Frame.round l f tmps as bd .normal) (fr :: cs) w') := by
  refine step_lone_go ?_
  rw [stepG_op' hm ht ho hw fun c h => absurd h (hd c)]
  simp only [stepG.apply, Sem.runT_eq, hr, if_true, GStep.bare_after, GStep.bare_go]
theorem finish_reg (ht : fr.todo = .inRegion ops (i :: rest) :: K) (ho : ops[i]? = some o) (v : Value) : fr.finish v = { fr with tmps := putT fr.tmps o.dst v, todo := .inRegion ops rest :: K } := by
  unfold Frame.finish
  rw [ht]
  simp only [ho, Option.bind_some]
  cases o.dst <;> rfl
end steps

-- a function is entered
theorem argsE_eq : ∀ (args : AV) (n : Nat) (e : E16) (t : Nat), t < 256 → n + (lst args).length ≤ 256 →
    (n ≤ t → t < n + (lst args).length → (lst args)[t - n]? = some (gS t (argsE args n e))) ∧ ((t < n ∨ n + (lst args).length ≤ t) → gS t (argsE args n e) = gS t e) := by
  intro args
  induction args with
  | cons h r ih1 ih2 =>
    intro n e t ht hn
    have hl : (lst (.cons h r)).length = (lst r).length + 1 := rfl
    rw [hl] at hn ⊢
    have ee : gS t (argsE (.cons h r) n e) = gS t (argsE r (n + 1) (setSB n h e)) := rfl
    obtain ⟨a, b⟩ := ih2 (n + 1) (setSB n h e) t ht (by omega)
    rw [ee]
    refine ⟨fun h1 h2 => ?_, fun h1 => ?_⟩
    · by_cases h3 : t = n
      · subst h3
        rw [b (.inl (by omega)), gS_set_same]
        simp [lst]
      · have := a (by omega) (by omega)
        have e2 : t - n = (t - (n + 1)) + 1 := by omega
        rw [e2]; simpa [lst] using this
    · rw [b (by omega), gS_set_ne ht (by omega) (by omega)]
  | _ => exact fun n e t ht hn => ⟨fun h1 h2 => absurd h2 (by simp [lst]; omega), fun _ => rfl⟩
theorem lst_length (φ : Plc) (v : AV) : (concL φ v).length = (lst v).length := by rw [lst_conc]; simp
theorem lenLe_ok : ∀ {n : Nat} {v : AV}, lenLe n v = true → (lst v).length ≤ n
  | 0, v, h => by
    cases v <;> first | (simp [lst]; done) | exact absurd h (by simp [lenLe])
  | n + 1, v, h => by
    cases v with
    | cons a t => simp only [lst, List.length_cons]; have := lenLe_ok (n := n) (v := t) h; omega
    | _ => simp [lst]
theorem undef_conc (φ : Plc) : conc φ undef = Go.undef := rfl
theorem enter_env {φ : Plc} {f : Nat} {fn : Func} (hf : P.funcs[f]? = some fn) {args : AV} (hd : DfL φ args) (hl : (lst args).length ≤ 200) {as : Array Value} (ha : as = (concL φ args).toArray) :
    EnvOk P T φ f (argsE args 0 e0) (as ++ Array.replicate (fn.ntmps - as.size) Go.undef) := by
  subst ha
  have hlen : (concL φ args).toArray.size = (lst args).length := by simp [lst_length]
  refine ⟨?_, fun t ht hs => ?_⟩
  · have : ntOf P f = fn.ntmps := by unfold ntOf; rw [fnAt_eq, hf]
    rw [this]; simp; omega
  · obtain ⟨q1, q2⟩ := argsE_eq args 0 e0 t (by omega) (by omega)
    by_cases h : t < (lst args).length
    · have hm := q1 (by omega) (by omega)
      simp only [Nat.sub_zero] at hm
      refine ⟨lst_df hd _ (List.mem_of_getElem? hm), ?_⟩
      rw [Array.getD_eq_getD_getElem?, Array.getElem?_append_left (by rw [hlen]; exact h)]
      simp only [List.getElem?_toArray, lst_conc, List.getElem?_map, hm]; rfl
    · rw [q2 (.inr (by omega)), gS_e0]
      refine ⟨trivial, ?_⟩
      rw [undef_conc, Array.getD_eq_getD_getElem?, Array.getElem?_append_right (by rw [hlen]; omega)]
      simp only [Array.getElem?_replicate]
      split <;> rfl
theorem hasBody_fn {f : Nat} (h : hasBody P f = true) : ∃ fn b, P.funcs[f]? = some fn ∧ fn.body = some b ∧ todoOf P f = [.code b] := by
  unfold hasBody at h
  unfold todoOf
  rw [fnAt_eq] at h ⊢
  cases hf : P.funcs[f]? with
  | none => rw [hf] at h; cases h
  | some fn =>
    rw [hf] at h
    cases hb : fn.body with
    | none => exfalso; revert h; cases fn; cases hb; simp
    | some b => refine ⟨fn, b, rfl, hb, ?_⟩; cases fn; cases hb; rfl
theorem callFunc_run (W : ProgOk P) {f : Nat} (h : hasBody P f = true) (args : Array Value) (w : World) : (callFunc f args).run P w = .ok (.enter f args) w := by
  obtain ⟨fn, b, h1, h2, _⟩ := hasBody_fn h
  have hn := W.num f fn h1
  simp [callFunc, h1, h2, hn]
theorem appL_ok (φ : Plc) : ∀ {a b : AV}, DfL φ a → DfL φ b → DfL φ (appL a b) ∧ concL φ (appL a b) = concL φ a ++ concL φ b := by
  intro a b ha hb
  induction a with
  | cons h t _ ih2 =>
    obtain ⟨x, y⟩ := ih2 ha.2
    exact ⟨⟨ha.1, x⟩, by show conc φ h :: concL φ (appL t b) = _; rw [y]; rfl⟩
  | nil => exact ⟨hb, rfl⟩
  | _ => exact ha.elim
theorem frame_enter_ok {φ : Plc} {hs : HS} {f : Nat} (hb : hasBody P f = true) {args : AV} (hd : DfL φ args) (hl : (lst args).length ≤ 200) {as : Array Value} (ha : as = (concL φ args).toArray) (dfr : Bool) (N : Nat) :
    FrOk P T B w0 N φ hs (argsE args 0 e0) (todoOf P f) .nil f dfr none .nil (Frame.enter P f as (if dfr then .deferred else .normal)) := by
  obtain ⟨fn, b, h1, h2, h3⟩ := hasBody_fn hb
  refine ⟨rfl, rfl, rfl, fun _ h => (by cases h), rfl, trivial, .inl ⟨rfl, ?_⟩⟩
  rw [h3]
  refine ⟨?_, ?_⟩
  · show TodoOk φ _ [.code ((P.funcs[f]?.bind (·.body)).getD _)]
    rw [h1]
    simp only [Option.bind_some, h2, Option.getD_some]
    exact .code .nil
  · show EnvOk P T φ f _ (as ++ Array.replicate (((P.funcs[f]?).map (·.ntmps)).getD 0 - as.size) Go.undef)
    rw [h1]
    exact enter_env h1 hd hl ha

/-- a function is called: entered, or a round is begun -/
theorem params_ok {φ : Plc} {fn : Nat} {l : List Nat} : ∀ {args : AV} {e : E16} {tmps : Array Value}, EnvOk P T φ fn e tmps → DfL φ args → lenIs l.length args = true → l.all (fun p => Nat.ble p 255 && ltN p (ntOf P fn)) = true →
    EnvOk P T φ fn (paramsE l args e) ((l.zip (concL φ args)).foldl (fun tmps (x : Nat × Value) => tmps.setIfInBounds x.1 x.2) tmps) := by
  induction l with
  | nil => intro args e tmps h _ _ _; exact h
  | cons p ps ih =>
    intro args e tmps h hd hl hp
    cases args with
    | cons a r =>
      simp only [List.all_cons, Bool.and_eq_true] at hp
      obtain ⟨⟨p1, p2⟩, p3⟩ := hp
      have p1 := Nat.le_of_ble_eq_true p1
      have p2 := ltN_iff.1 p2
      simp only [concL, List.zip_cons_cons, List.foldl_cons]
      refine ih (args := r) (e := setSB p a e) ?_ hd.2 hl p3
      refine ⟨by simp; exact h.1, fun t ht hs => ?_⟩
      by_cases hpt : t = p
      · subst hpt
        rw [gS_set_same]
        refine ⟨hd.1, ?_⟩
        have := h.1
        rw [Array.getD_eq_getD_getElem?, Array.getElem?_setIfInBounds, if_pos rfl, if_pos (by omega)]; rfl
      · rw [gS_set_ne (by omega) (by omega) hpt]
        obtain ⟨x, y⟩ := h.2 t ht hs
        refine ⟨x, ?_⟩
        rw [← y, Array.getD_eq_getD_getElem?, Array.getD_eq_getD_getElem?, Array.getElem?_setIfInBounds, if_neg (Ne.symm hpt)]
    | nil => exact absurd hl (by simp [lenIs])
    | _ => exact hd.elim
theorem loop_at {φ : Plc} {hs : HS} {w : World} (H : HOk P T B w0 φ hs w) {l : Nat} (hd : (φ l).isSome = true) {st : Nat} {pend : Option Code} {fn : Nat} {env : E16} {params : List Nat} {as bd : Code} {df : Nat} (hg : getH l hs.heap = .loop st pend fn env params as bd df) :
    (φ df).isSome = true ∧ ∃ tmps, EnvOk P T φ fn env tmps ∧ w.heap[(pl φ l).blk]? = some (.loop { state := loopState st, pending := pend, fn, tmps, params := params.toArray, assign := as, body := bd, defers := (pl φ df).blk }) := by
  obtain ⟨p, hp⟩ := some_pl hd
  obtain ⟨_, _, h3⟩ := H.dom l p hp
  have h3 := h3 (by unfold live; rw [hg]; trivial)
  rw [hg] at h3
  have : pl φ l = p := by simp [pl, hp]
  rw [this]
  exact h3
theorem zip_arr (ps : List Nat) (as : List Value) (tmps : Array Value) : ((ps.toArray.zip as.toArray).foldl (fun tmps (x : Nat × Value) => tmps.setIfInBounds x.1 x.2) tmps) = (ps.zip as).foldl (fun tmps (x : Nat × Value) => tmps.setIfInBounds x.1 x.2) tmps := by
  rw [← Array.foldl_toList]
  simp
theorem callV_ok (W : ProgOk P) {φ : Plc} {hs : HS} {w : World} {m : Machine} {fv args : AV} {dfr : Bool} {s : Stk} {cs : List Frame} {ih : K} (I : KOk P T B w0 f0 CS ih) (H : HOk P T B w0 φ hs w) (G : GlobOk T φ) (hf : Df φ fv) (ha : DfL φ args)
    (S : ∀ fn fi, fi.dfr = dfr → StkOk P T B w0 f0 CS hs.next φ hs fn fi s cs)
    (se : ∀ f as, (invoke (tgt (conc φ fv) (concL φ args).toArray).target (tgt (conc φ fv) (concL φ args).toArray).args).run P w = .ok (.enter f as) w → Steps P m (lone (Frame.enter P f as (if dfr then .deferred else .normal)) cs w))
    (sr : ∀ l f tmps as bd, dfr = false → (invoke (tgt (conc φ fv) (concL φ args).toArray).target (tgt (conc φ fv) (concL φ args).toArray).args).run P w = .ok (.round l f tmps as bd) w → Steps P m (lone (Frame.round l f tmps as bd .normal) cs w)) :
    Good P B w0 f0 CS m (callV P fv args dfr ih s hs) := by
  unfold callV
  split
  · rename_i f _ _ _ _ _ x y
    simp only [Df] at hf
    split
    · rename_i hc
      simp only [Bool.and_eq_true] at hc
      obtain ⟨d1, c1⟩ := appL_ok φ ha hf.2
      obtain ⟨d2, c2⟩ := appL_ok φ hf.1 d1
      refine Good.steps (se f (concL φ (appL x (appL args y))).toArray ?_) (I _ _ _ _ _ _ _ hs.next φ w _ cs ⟨Nat.le_refl _, H, G, frame_enter_ok hc.1 d2 (lenLe_ok hc.2) rfl dfr _, S _ _ rfl⟩)
      simp only [conc, tgt, invoke]
      rw [callFunc_run W hc.1, c2, c1]
      simp
    · trivial
  · rename_i l _ _ _ _ _ _ _
    simp only [Df] at hf
    split
    · trivial
    · rename_i hdf
      have hdf : dfr = false := by simpa using hdf
      unfold yieldK
      split
      · rename_i st pend fn env ps as bd df hg
        split
        · rename_i hc
          simp only [Bool.and_eq_true] at hc
          obtain ⟨l1, tmps, l2, l3⟩ := loop_at H hf hg
          have hlen : (concL φ args).length = ps.length := lenIs_len hc.1
          have hen := params_ok l2 ha hc.1 hc.2
          refine Good.steps (sr (pl φ l).blk fn _ as bd hdf ?_) (I _ _ _ _ _ _ _ hs.next φ w _ cs ⟨Nat.le_refl _, H, G, ⟨rfl, rfl, rfl, fun _ h => (by cases h; exact hf), rfl, trivial, .inl ⟨rfl, .code (.begR (.code .nil)), hen⟩⟩, S _ _ hdf.symm⟩)
          simp only [conc, tgt, invoke, Instr.yield, Instr.getLoop, Sem.run_bind, getObj_run l3 (fun _ _ _ h => by cases h), Result.andThen_ok, Sem.run_pure]
          have e1 : (#[] ++ (concL φ args).toArray).size = ps.toArray.size := by simp [hlen]
          simp only [ne_eq, e1, not_true, if_false, Sem.run_bind, Sem.run_pure, Result.andThen_ok]
          rw [← zip_arr]
          simp
        · trivial
      · trivial
  · trivial
end Go.AbsK

namespace Go.AbsK
open Go
open Go.RowKit (Below)
set_option linter.unusedVariables false
set_option linter.unusedSimpArgs false
set_option linter.deprecated false

variable {P : Program} {T : Hints} {B : Nat} {w0 : World} {f0 : Nat} {CS : List Frame}

/-- how a frame goes on behind an operation -/
def After (P : Program) (T : Hints) (B : Nat) (w0 : World) (N : Nat) (φ : Plc) (hs : HS) (e : E16) (k : Todo) (L : Loc) (fn : Nat) (fi : FI) (d : DB) (o : Oper) (fr : Frame) : Prop :=
  ∀ φ' hs' v, Keep hs.next φ hs φ' hs' → (assignOp o.op = true → hs' = hs) → Df φ' v → FrOk P T B w0 N φ' hs' (d.upE v e) k (d.upL v L) fn fi.dfr fi.rd fi.ds (fr.finish (conc φ' v))
/-- .. and a deferred call more -/
def After' (P : Program) (T : Hints) (B : Nat) (w0 : World) (N : Nat) (φ : Plc) (hs : HS) (e : E16) (k : Todo) (L : Loc) (fn : Nat) (fi : FI) (d : DB) (o : Oper) (fr : Frame) : Prop :=
  After P T B w0 N φ hs e k L fn fi d o fr
section
variable {φ : Plc} {fn : Nat} {e : E16} {L : Loc} {ns : List Nat} {hs : HS} {w : World} {fr : Frame} {cs : List Frame} {ops : Array Oper} {i : Nat} {rest : List Nat} {Kt : List Item} {o : Oper} {d : DB} {k : Todo} {fi : FI} {s : Stk} {N : Nat} {ih : K}

theorem fin_ok (I : KOk P T B w0 f0 CS ih) (hb : d.isBad = false → True) {φ' : Plc} {hs' : HS} {w' : World} {v : AV} {m : Machine} {fr' : Frame} (hs1 : Steps P m (lone fr' cs w')) (hN : N ≤ hs'.next) (H : HOk P T B w0 φ' hs' w') (G : GlobOk T φ')
    (F : d.isBad = false → FrOk P T B w0 N φ' hs' (d.upE v e) k (d.upL v L) fn fi.dfr fi.rd fi.ds fr') (S : StkOk P T B w0 f0 CS N φ' hs' fn fi s cs) : Good P B w0 f0 CS m (finK (finOf d) v ih k e L fn fi s hs') := by
  rcases finK_eq d v ih k e L fn fi s hs' with h | ⟨h0, h⟩
  · rw [h]; trivial
  · rw [h]; exact Good.steps hs1 (I _ _ _ _ _ _ _ N φ' w' fr' cs ⟨hN, H, G, F h0, S⟩)
theorem bV_blk (g : VO) (d : DB) (k : Todo) (ih : K) (fi : FI) (s : Stk) : blkK (bV g (finOf d) k) ih e L fn fi s hs = g e L hs fun v => finK (finOf d) v ih k e L fn fi s hs := by
  unfold bV finK
  cases finOf d; rfl
theorem bH_blk (g : HO) (d : DB) (k : Todo) (ih : K) (fi : FI) (s : Stk) : blkK (bH g (finOf d) k) ih e L fn fi s hs = g e L hs fun v hs' => finK (finOf d) v ih k e L fn fi s hs' := by
  unfold bH finK
  cases finOf d; rfl
/-- what holds where an operation is about to be done -/
structure Here (P : Program) (T : Hints) (B : Nat) (w0 : World) (f0 : Nat) (CS : List Frame) (N : Nat) (φ : Plc) (hs : HS) (w : World) (e : E16) (L : Loc) (ns : List Nat) (fn : Nat) (fi : FI) (s : Stk) (fr : Frame) (cs : List Frame) (ops : Array Oper) (i : Nat) (rest : List Nat) (Kt : List Item) (o : Oper) (d : DB) (k : Todo) : Prop where
  mode : fr.mode = .run
  todo : fr.todo = .inRegion ops (i :: rest) :: Kt
  op : ops[i]? = some o
  want : Region.wanted o (yielded ops fr.tmps) = true
  bnd : N ≤ hs.next
  heap : HOk P T B w0 φ hs w
  glob : GlobOk T φ
  args : OpA T fn ns o.op.operands.toList φ e L fr.eval
  aft : d.isBad = false → After P T B w0 N φ hs e k L fn fi d o fr
  stk : StkOk P T B w0 f0 CS N φ hs fn fi s cs
variable (h : Here P T B w0 f0 CS N φ hs w e L ns fn fi s fr cs ops i rest Kt o d k)
include h
theorem Here.v (I : KOk P T B w0 f0 CS ih) (hd : ∀ c, o.op ≠ .defer c) {g : VO} (hg : VOk P g o.op o.type φ e L hs w fr.eval) : Good P B w0 f0 CS (lone fr cs w) (blkK (bV g (finOf d) k) ih e L fn fi s hs) := by
  rw [bV_blk]
  rcases hg with hg | ⟨v, h1, h2, h3⟩
  · rw [hg]; trivial
  · rw [h1]
    have hr := h3 o.dst o.pos o.after o.guard
    have ho : ({ dst := o.dst, op := o.op, type := o.type, pos := o.pos, after := o.after, guard := o.guard } : Oper) = o := by cases o; rfl
    rw [ho] at hr
    exact fin_ok I (fun _ => trivial) (.one (step_value h.mode h.todo h.op h.want hd hr (.inl rfl))) h.bnd h.heap h.glob (fun hb => h.aft hb φ hs v (Keep.refl _ _ _) (fun _ => rfl) h2) h.stk
theorem Here.hh (I : KOk P T B w0 f0 CS ih) (hd : ∀ c, o.op ≠ .defer c) (hna : assignOp o.op = false) {g : HO} (hg : EffOk P T B w0 g o.op o.type φ e L hs w fr.eval) : Good P B w0 f0 CS (lone fr cs w) (blkK (bH g (finOf d) k) ih e L fn fi s hs) := by
  rw [bH_blk]
  rcases hg with hg | ⟨v, hs', h1, φ', w', h2, h3, h4, h5, h6, h7⟩
  · rw [hg]; trivial
  · rw [h1]
    obtain ⟨nx, hr, hn⟩ := h7 o.dst o.pos o.after o.guard
    have ho : ({ dst := o.dst, op := o.op, type := o.type, pos := o.pos, after := o.after, guard := o.guard } : Oper) = o := by cases o; rfl
    rw [ho] at hr
    have kp : Keep hs.next φ hs φ' hs' := Keep.of h2 h4 h5
    refine fin_ok I (fun _ => trivial) (.one (step_value (v := conc φ' v) h.mode h.todo h.op h.want hd hr ?_)) (Nat.le_trans h.bnd h4.1) h3 (h.glob.up h2) (fun hb => h.aft hb φ' hs' v kp (fun ha => by rw [hna] at ha; cases ha) h6) (h.stk.keep (kp.mono h.bnd))
    rcases hn with hn | ⟨hn, hv⟩
    · exact .inl hn
    · exact .inr ⟨hn, by subst hv; rfl⟩
theorem Here.go (I : KOk P T B w0 f0 CS ih) (hd : ∀ c, o.op ≠ .defer c) : Good P B w0 f0 CS (lone fr cs w) (blkK (goBlk (cOp P T o.op fn ns) d k) ih e L fn fi s hs) := by
  have key := opOk (P := P) (T := T) (B := B) (w0 := w0) (fn := fn) (ns := ns) (t := o.type) o.op
  have hna : ∀ g, cOp P T o.op fn ns = .h g → assignOp o.op = false := fun g hg => by
    cases hop : o.op with
    | assign x =>
      rw [hop] at hg
      have : cV (cO T fn ns x) vMove = .h g := hg
      cases hx : cO T fn ns x with
      | none => rw [hx] at this; cases this
      | some a => rw [hx] at this; cases this
    | _ => rfl
  generalize hgo : cOp P T o.op fn ns = go at key hna
  cases key with
  | bad => trivial
  | pure hg => exact h.v I hd (hg _ _ _ _ _ _ h.args)
  | read _ hg => exact h.v I hd (hg _ _ _ _ _ _ h.heap h.args)
  | new _ hg => exact h.hh I hd (hna _ rfl) ((hg e L hs).eff h.args h.heap)
  | eff _ hg => exact h.hh I hd (hna _ rfl) (hg _ _ _ _ _ _ h.heap h.args)
/-- what stands behind a call -/
theorem Here.stk' (hna : assignOp o.op = false) : ∀ fn' fi', FI.dfr fi' = false → StkOk P T B w0 f0 CS hs.next φ hs fn' fi' (.fr e k L fn fi d s) (fr :: cs) := fun fn' fi' hf =>
  ⟨fr, cs, N, rfl, h.bnd, (fun ch hch => by rw [h.mode] at hch; cases hch), fun φ' hs' v hb kp hv => by
    have := h.aft hb φ' hs' v kp (fun ha => by rw [hna] at ha; cases ha) hv
    unfold back1
    rw [hf]
    exact this, h.stk⟩
theorem Here.callS (W : ProgOk P) (I : KOk P T B w0 f0 CS ih) {c : Call} (hop : o.op = .call c) {f : Nat} (hc : c.callee = .value (.func f)) (hbd : hasBody P f = true) {l : OL} (hl : cOL T fn ns c.args.toList = some l) (hle : lenOL l ≤ 200) :
    Good P B w0 f0 CS (lone fr cs w) (blkK (bCallS P f l d k) ih e L fn fi s hs) := by
  have A : OLOk φ e L fr.eval l c.args.toList := cOL_ok (fun o' ho' => h.args.ev o' (by rw [hop]; exact argsIn ho')) hl
  obtain ⟨a1, a2⟩ := evL_ok A
  have hlen : (lst (evL l e L)).length ≤ 200 := by
    have : (lst (evL l e L)).length = lenOL l := by
      clear a1 a2 A hl hle
      induction l with
      | nil => rfl
      | cons x t ih => show (lst (evL t e L)).length + 1 = lenOL t + 1; rw [ih]
    omega
  have hr : (execOp fr.eval o).run P w = .ok (.enter f (concL φ (evL l e L)).toArray) w := by
    have : execOp fr.eval o = (do let d ← resolve fr.eval c o.type; invoke d.target d.args) := by cases o; cases hop; rfl
    rw [this]
    simp only [resolve, hc, Sem.run_bind, Deferred.ofValue, h.args.std.func, Sem.run_pure, Result.andThen_ok, invoke, Array.empty_append, Array.append_empty]
    rw [callFunc_run W hbd, evL_arr A]
  refine Good.steps (.one (step_enter h.mode h.todo h.op h.want (fun c' hc' => by rw [hop] at hc'; cases hc') hr)) ?_
  exact I _ _ _ _ _ _ _ hs.next φ w _ _ ⟨Nat.le_refl _, h.heap, h.glob, frame_enter_ok hbd a1 hlen rfl false _, h.stk' (by rw [hop]; rfl) _ _ rfl⟩
theorem Here.callD (W : ProgOk P) (I : KOk P T B w0 f0 CS ih) {c : Call} (hop : o.op = .call c) {y : Operand} (hc : c.callee = .value y) {x : OB} (hx : cO T fn ns y = some x) {l : OL} (hl : cOL T fn ns c.args.toList = some l) :
    Good P B w0 f0 CS (lone fr cs w) (blkK (bCallD P x l d k) ih e L fn fi s hs) := by
  have A : OLOk φ e L fr.eval l c.args.toList := cOL_ok (fun o' ho' => h.args.ev o' (by rw [hop]; exact argsIn ho')) hl
  have E : EvOk φ e L fr.eval x y := h.args.ev y (by rw [hop]; simp [Op.operands, Call.operands, hc]) x hx
  obtain ⟨a1, a2⟩ := evL_ok A
  show Good P B w0 f0 CS (lone fr cs w) (callV P (ev x e L) (evL l e L) false ih (.fr e k L fn fi d s) hs)
  have hex : execOp fr.eval o = (do let d ← resolve fr.eval c o.type; invoke d.target d.args) := by cases o; cases hop; rfl
  have hfn : ∀ {nx}, (invoke (tgt (conc φ (ev x e L)) (concL φ (evL l e L)).toArray).target (tgt (conc φ (ev x e L)) (concL φ (evL l e L)).toArray).args).run P w = .ok nx w → (∃ f a b, conc φ (ev x e L) = .func f a b) → (execOp fr.eval o).run P w = .ok nx w := fun {nx} hr ⟨f, a, b, hv⟩ => by
    rw [hex]
    simp only [resolve, hc, Sem.run_bind, E.eq, hv, Deferred.ofValue, Sem.run_pure, Result.andThen_ok, ← evL_arr A]
    rw [hv] at hr
    exact hr
  have hd : ∀ c', o.op ≠ .defer c' := fun c' hc' => by rw [hop] at hc'; cases hc'
  -- what is called is a function
  rcases Classical.em (∃ f a b, conc φ (ev x e L) = .func f a b) with hv | hv
  · exact callV_ok W I h.heap h.glob E.df a1 (fun fn' fi' hf => h.stk' (by rw [hop]; rfl) fn' fi' hf)
      (fun f as hr => .one (step_enter h.mode h.todo h.op h.want hd (hfn hr hv)))
      (fun l f tmps as bd _ hr => .one (step_round h.mode h.todo h.op h.want hd (hfn hr hv)))
  · have : ∀ s' : Stk, callV P (ev x e L) (evL l e L) false ih s' hs = .fail := fun s' => by
      unfold callV
      split
      · rename_i hh; exact absurd ⟨_, _, _, by rw [hh]; rfl⟩ hv
      · rename_i hh; exact absurd ⟨_, _, _, by rw [hh]; rfl⟩ hv
      · rfl
    rw [this]; trivial
theorem Here.ext (I : KOk P T B w0 f0 CS ih) {c : Call} (hop : o.op = .call c) {f : Nat} (hc : c.callee = .value (.func f)) (hbd : hasBody P f = false) {l : OL} (hl : cOL T fn ns c.args.toList = some l) :
    Good P B w0 f0 CS (lone fr cs w) (blkK (bH (hSlow (sExtern (nameOf P f) l)) (finOf d) k) ih e L fn fi s hs) := by
  have A : OLOk φ e L fr.eval l c.args.toList := cOL_ok (fun o' ho' => h.args.ev o' (by rw [hop]; exact argsIn ho')) hl
  exact h.hh I (fun c' hc' => by rw [hop] at hc'; cases hc') (by rw [hop]; rfl) (by rw [hop]; exact ok_extern h.heap A hc (h.args.std.func f) hbd)
theorem Here.recov (I : KOk P T B w0 f0 CS ih) {c : Call} (hop : o.op = .call c) (hc : c.callee = .builtin .recover) (hk : fr.kind = if fi.dfr then .deferred else .normal) (hrd : fr.roundOf = fi.rd.map fun l => (pl φ l).blk) :
    Good P B w0 f0 CS (lone fr cs w) (blkK (bRecover (finOf d) k) ih e L fn fi s hs) := by
  have hr : (execOp fr.eval o).run P w = .ok .recover w := by
    have : execOp fr.eval o = (do let d ← resolve fr.eval c o.type; invoke d.target d.args) := by cases o; cases hop; rfl
    rw [this]
    simp only [resolve, hc, Sem.run_bind, Sem.run_pure, Result.andThen_ok, invoke, builtin]
  cases fi with
  | mk dfr rd ds =>
    cases rd with
    | some l => trivial
    | none =>
      have hrd : fr.roundOf = none := hrd
      show Good P B w0 f0 CS (lone fr cs w) (finK (finOf d) vNili ih k e L fn (.mk dfr none ds) s hs)
      have hno : tryRecover fr cs = none := by
        unfold tryRecover
        rw [hk]
        cases dfr with
        | false => rfl
        | true =>
          have hstk := h.stk
          cases s with
          | nil => exact absurd hstk.2.2.1 (by simp [FI.dfr])
          | fr e' k' L' fn' fi' d' t =>
            obtain ⟨c', cs', M, rfl, _, hpan, _⟩ := hstk
            simp only [FI.dfr, if_true]
            split
            · rename_i hm; exact absurd hm (hpan _)
            · rfl
      refine fin_ok (fr' := fr.finish .nilIface) (w' := w) I (fun _ => trivial) (.one (step_lone_go ?_)) h.bnd h.heap h.glob (fun hb => h.aft hb φ hs vNili (Keep.refl _ _ _) (fun _ => rfl) trivial) h.stk
      rw [stepG_op' h.mode h.todo h.op h.want fun c' hc' => by rw [hop] at hc'; cases hc']
      simp only [stepG.apply, Sem.runT_eq, hr, if_true, hrd, hno, GStep.bare_after, GStep.bare_go]
theorem Here.dfr (I : KOk P T B w0 f0 CS ih) {c : Call} (hop : o.op = .defer c) {y : Operand} (hc : c.callee = .value y) {x : OB} (hx : cO T fn ns y = some x) {l : OL} (hl : cOL T fn ns c.args.toList = some l) (hrd : fr.roundOf = fi.rd.map fun l => (pl φ l).blk)
    (hds : fr.defers = concD φ fi.ds) (hdd : DfD φ fi.ds) : Good P B w0 f0 CS (lone fr cs w) (blkK (bDefer x l (finOf d) k) ih e L fn fi s hs) := by
  have A : OLOk φ e L fr.eval l c.args.toList := cOL_ok (fun o' ho' => h.args.ev o' (by rw [hop]; simp [Op.operands, Call.operands] at ho' ⊢; exact .inr ho')) hl
  have E : EvOk φ e L fr.eval x y := h.args.ev y (by rw [hop]; simp [Op.operands, Call.operands, hc]) x hx
  obtain ⟨a1, a2⟩ := evL_ok A
  cases fi with
  | mk dfr rd ds =>
    cases rd with
    | some l => trivial
    | none =>
      have hrd : fr.roundOf = none := hrd
      unfold bDefer blkK
      simp only []
      split
      · rename_i a _ _ _ _ _ yy zz hxv
        have hdf := E.df
        have heq := E.eq
        rw [hxv] at hdf heq
        have hdf' : Df φ (vFn a yy zz) := hdf
        have hr : (execOp fr.eval o).run P w = .ok (.defer (tgt (conc φ (vFn a yy zz)) (concL φ (evL l e L)).toArray)) w := by
          have : execOp fr.eval o = (do pure (.defer (← resolve fr.eval c o.type))) := by cases o; cases hop; rfl
          rw [this]
          simp only [resolve, hc, Sem.run_bind, heq, conc, Deferred.ofValue, Sem.run_pure, Result.andThen_ok, tgt, evL_arr A]
        refine fin_ok (fi := .mk dfr none (.call (vFn a yy zz) (evL l e L) ds)) (fr' := { fr with defers := tgt (conc φ (vFn a yy zz)) (concL φ (evL l e L)).toArray :: fr.defers }.finish Go.undef) (w' := w) I (fun _ => trivial) (.one (step_lone_go ?_)) h.bnd h.heap h.glob (fun hb => ?_) (h.stk.fi rfl rfl)
        · rw [stepG_op' h.mode h.todo h.op h.want fun c' hc' => hrd]
          simp only [stepG.apply, Sem.runT_eq, hr, if_true, GStep.bare_after, GStep.bare_go]
        · have F := h.aft hb φ hs undef (Keep.refl _ _ _) (fun _ => rfl) trivial
          rw [finish_reg h.todo h.op] at F
          rw [finish_reg (fr := { fr with defers := tgt (conc φ (vFn a yy zz)) (concL φ (evL l e L)).toArray :: fr.defers }) h.todo h.op]
          exact ⟨F.fn_, F.kind, F.rd_, F.rds, by simp only [FI.ds, concD, hds], ⟨⟨hdf', a1⟩, hdd⟩, F.go⟩
      · trivial
/-- an operation is done -/
theorem Here.op_ok (W : ProgOk P) (I : KOk P T B w0 f0 CS ih) (hk : fr.kind = if fi.dfr then .deferred else .normal) (hrd : fr.roundOf = fi.rd.map fun l => (pl φ l).blk) (hds : fr.defers = concD φ fi.ds) (hdd : DfD φ fi.ds) :
    Good P B w0 f0 CS (lone fr cs w) (blkK (cOper P T fn ns o d k) ih e L fn fi s hs) := by
  have hgo : (∀ c, o.op ≠ .defer c) → Good P B w0 f0 CS (lone fr cs w) (blkK (goBlk (cOp P T o.op fn ns) d k) ih e L fn fi s hs) := h.go I
  unfold cOper
  cases hop : o.op with
  | call c =>
    show Good P B w0 f0 CS (lone fr cs w) (blkK (kCall P T c fn ns d k) ih e L fn fi s hs)
    unfold kCall
    cases hc : c.callee with
    | value y =>
      show Good P B w0 f0 CS (lone fr cs w) (blkK (kCallV P T y c.args fn ns d k) ih e L fn fi s hs)
      unfold kCallV
      cases hl : cOL T fn ns c.args.toList with
      | none => trivial
      | some l =>
        cases y with
        | func f =>
          simp only []
          cases hbd : hasBody P f with
          | true =>
            simp only [if_true]
            split
            · rename_i hle; exact h.callS W I hop hc hbd hl (Nat.le_of_ble_eq_true hle)
            · trivial
          | false => exact h.ext I hop hc hbd hl
        | _ =>
          simp only []
          split
          · rename_i x hx; exact h.callD W I hop hc hx hl
          · trivial
    | invoke r m => trivial
    | builtin b =>
      have hgo' : cOp P T o.op fn ns = gBuiltin P T b c fn ns := by
        rw [hop]
        show gCall P T c fn ns = _
        unfold gCall
        rw [hc]
      have hg := hgo (fun c' hc' => by rw [hop] at hc'; cases hc')
      rw [hgo'] at hg
      cases b with
      | recover => exact h.recov I hop hc hk hrd
      | _ => exact hg
  | defer c =>
    show Good P B w0 f0 CS (lone fr cs w) (blkK (kDefer T c fn ns d k) ih e L fn fi s hs)
    unfold kDefer
    cases hc : c.callee with
    | value y =>
      simp only []
      split
      · rename_i x l hx hl; exact h.dfr I hop hc hx hl hrd hds hdd
      · trivial
    | _ => trivial
  | go c => trivial
  | panic x => trivial
  | send a b => trivial
  | recv a b c => trivial
  | select a b => trivial
  | _ =>
    have hg := hgo (fun c' hc' => by rw [hop] at hc'; cases hc')
    rw [hop] at hg
    exact hg
end
end Go.AbsK

namespace Go.AbsK
open Go
open Go.RowKit (Below)
set_option linter.unusedVariables false
set_option linter.unusedSimpArgs false
set_option linter.deprecated false

variable {P : Program} {T : Hints} {B : Nat} {w0 : World} {f0 : Nat} {CS : List Frame}

-- bits
theorem hasT_tb (m t : Nat) : hasT m t = m.testBit t := by
  unfold hasT Nat.testBit
  show Nat.beq ((m >>> t) &&& 1) 1 = (1 &&& (m >>> t) != 0)
  rw [Nat.and_comm]
  have h : 1 &&& (m >>> t) = (m >>> t) % 2 := by rw [Nat.and_comm]; exact Nat.and_one_is_mod _
  rw [h]
  rcases Nat.mod_two_eq_zero_or_one (m >>> t) with h | h <;> rw [h] <;> rfl
theorem hasT_add (m t j : Nat) : hasT (addT m t) j = true ↔ j = t ∨ hasT m j = true := by
  rw [hasT_tb, hasT_tb]
  unfold addT
  show (m ||| (1 <<< t)).testBit j = true ↔ _
  rw [Nat.testBit_or, Nat.one_shiftLeft, Nat.testBit_two_pow, Bool.or_eq_true, decide_eq_true_eq]
  constructor
  · rintro (h | h)
    · exact .inr h
    · exact .inl h.symm
  · rintro (h | h)
    · exact .inr h.symm
    · exact .inl h
theorem hasT_or (a b j : Nat) : hasT (Nat.lor a b) j = true ↔ hasT a j = true ∨ hasT b j = true := by
  rw [hasT_tb, hasT_tb, hasT_tb]
  show (a ||| b).testBit j = true ↔ _
  rw [Nat.testBit_or, Bool.or_eq_true]
theorem hasT_zero (j : Nat) : hasT 0 j = false := by rw [hasT_tb]; simp
theorem subT_iff (a b : Nat) : subT a b = true ↔ ∀ k, hasT a k = true → hasT b k = true := by
  unfold subT
  rw [beqN_iff]
  show a &&& b = a ↔ _
  constructor
  · intro h k hk
    rw [hasT_tb] at hk ⊢
    rw [← h, Nat.testBit_and, Bool.and_eq_true] at hk
    exact hk.2
  · intro h
    apply Nat.eq_of_testBit_eq
    intro k
    rw [Nat.testBit_and]
    cases ha : a.testBit k with
    | false => rfl
    | true => have := h k (by rw [hasT_tb]; exact ha); rw [hasT_tb] at this; rw [this]; rfl
theorem waits_iff {l : List Edge} {k : Nat} : hasT (waitsM l) k = true ↔ ∃ e ∈ l, Region.binds .any e = true ∧ e.on = k := by
  induction l with
  | nil => simp [waitsM, hasT_zero]
  | cons e l ih =>
    simp only [waitsM, List.mem_cons]
    cases hb : Region.binds .any e with
    | false =>
      simp only []
      rw [ih]
      constructor
      · rintro ⟨x, h1, h2⟩; exact ⟨x, .inr h1, h2⟩
      · rintro ⟨x, h1 | h1, h2⟩
        · subst h1; rw [hb] at h2; cases h2.1
        · exact ⟨x, h1, h2⟩
    | true =>
      simp only []
      rw [hasT_add, ih]
      constructor
      · rintro (h | ⟨x, h1, h2⟩)
        · exact ⟨e, .inl rfl, hb, h.symm⟩
        · exact ⟨x, .inr h1, h2⟩
      · rintro ⟨x, h1 | h1, h2⟩
        · subst h1; exact .inl h2.2.symm
        · exact .inr ⟨x, h1, h2⟩
theorem memN_iff {t : Nat} {l : List Nat} : memN t l = true ↔ t ∈ l := by
  induction l with
  | nil => simp [memN]
  | cons u l ih => simp only [memN, Bool.or_eq_true, ih, beqN_iff, List.mem_cons]

-- checks over all operations
theorem infos_get {ops : Array Oper} {j : Nat} {o : Oper} (h : ops[j]? = some o) : (opInfos ops)[j]? = some (opInfo ops o) := by
  unfold opInfos
  rw [List.getElem?_map, Array.getElem?_toList, h]; rfl
theorem infos_some {ops : Array Oper} {j : Nat} {p : OpI} (h : fget (opInfos ops) j = some p) : ∃ o, ops[j]? = some o ∧ p = opInfo ops o := by
  rw [fget_eq] at h
  unfold opInfos at h
  rw [List.getElem?_map, Array.getElem?_toList] at h
  cases ho : ops[j]? with
  | none => rw [ho] at h; cases h
  | some o => rw [ho] at h; cases h; exact ⟨o, rfl, rfl⟩
theorem only_ok {done i : Nat} : ∀ {is : List OpI} {n : Nat}, onlyB done i is n = true → ∀ (j : Nat) o, is[j]? = some o → hasT done (n + j) = true ∨ i = n + j ∨ subT o.am done = false
  | [], _, _, j, o, h => by simp at h
  | p :: l, n, h, j, o, hj => by
    simp only [onlyB, Bool.and_eq_true, Bool.or_eq_true, Bool.not_eq_true'] at h
    cases j with
    | zero =>
      simp only [List.getElem?_cons_zero, Option.some.injEq] at hj
      subst hj
      rcases h.1 with (h1 | h1) | h1
      · exact .inl h1
      · exact .inr (.inl (beqN_iff.1 h1))
      · exact .inr (.inr h1)
    | succ j =>
      have := only_ok (n := n + 1) h.2 j o (by simpa using hj)
      rwa [show n + 1 + j = n + (j + 1) by omega] at this
theorem again_ok {done sure chk : Nat} : ∀ {is : List OpI} {n : Nat}, againB done sure chk is n = true → ∀ (j : Nat) o, is[j]? = some o → o.r = true → hasT done (n + j) = true → hasT sure (n + j) = true ∨ hasT chk (n + j) = true
  | [], _, _, j, o, h => by simp at h
  | p :: l, n, h, j, o, hj => by
    simp only [againB, Bool.and_eq_true, Bool.or_eq_true, Bool.not_eq_true'] at h
    cases j with
    | zero =>
      simp only [List.getElem?_cons_zero, Option.some.injEq] at hj
      subst hj
      intro h1 h2
      rcases h.1 with ((h3 | h3) | h3) | h3
      · rw [h1] at h3; cases h3
      · rw [Nat.add_zero] at h2; rw [h2] at h3; cases h3
      · exact .inl h3
      · exact .inr h3
    | succ j =>
      have := again_ok (n := n + 1) h.2 j o (by simpa using hj)
      rwa [show n + 1 + j = n + (j + 1) by omega] at this
theorem look_ok {done sure : Nat} {q : OpI} : ∀ {is : List OpI} {n : Nat}, lookB done sure q is n = true → ∀ (j : Nat) o, is[j]? = some o → hasT done (n + j) = true → hasT sure (n + j) = false → memO o.dst q.nm = true → hasT q.am (n + j) = true
  | [], _, _, j, o, h => by simp at h
  | p :: l, n, h, j, o, hj => by
    simp only [lookB, Bool.and_eq_true, Bool.or_eq_true, Bool.not_eq_true'] at h
    cases j with
    | zero =>
      simp only [List.getElem?_cons_zero, Option.some.injEq] at hj
      subst hj
      intro h1 h2 h4
      rw [Nat.add_zero] at h1 h2 ⊢
      rcases h.1 with ((h3 | h3) | h3) | h3
      · rw [h1] at h3; cases h3
      · rw [h2] at h3; cases h3
      · rw [h4] at h3; cases h3
      · exact h3
    | succ j =>
      have := look_ok (n := n + 1) h.2 j o (by simpa using hj)
      rwa [show n + 1 + j = n + (j + 1) by omega] at this
theorem write_ok {done sure : Nat} {q : OpI} : ∀ {is : List OpI} {n : Nat}, writeB done sure q is n = true → ∀ (j : Nat) o, is[j]? = some o → hasT done (n + j) = true → hasT sure (n + j) = false → memO q.dst o.nm = false ∧ sameO q.dst o.dst = false
  | [], _, _, j, o, h => by simp at h
  | p :: l, n, h, j, o, hj => by
    simp only [writeB, Bool.and_eq_true, Bool.or_eq_true, Bool.not_eq_true'] at h
    cases j with
    | zero =>
      simp only [List.getElem?_cons_zero, Option.some.injEq] at hj
      subst hj
      intro h1 h2
      rw [Nat.add_zero] at h1 h2
      rcases h.1 with (h3 | h3) | h3
      · rw [h1] at h3; cases h3
      · rw [h2] at h3; cases h3
      · exact h3
    | succ j =>
      have := write_ok (n := n + 1) h.2 j o (by simpa using hj)
      rwa [show n + 1 + j = n + (j + 1) by omega] at this
theorem chk_cons {l : List (Nat × Bool)} {m j : Nat} : hasT (chkM l m) j = true ↔ hasT m j = true ∨ hasT (chkM l 0) j = true := by
  induction l generalizing m with
  | nil => simp [chkM, hasT_zero]
  | cons p l ih =>
    obtain ⟨i, b⟩ := p
    cases b with
    | false => simp [chkM, hasT_zero]
    | true =>
      simp only [chkM]
      rw [ih, ih (m := addT 0 i), hasT_add, hasT_add]
      simp only [hasT_zero, Bool.false_eq_true, or_false]
      constructor
      · rintro ((h | h) | h)
        · exact .inr (.inl h)
        · exact .inl h
        · exact .inr (.inr h)
      · rintro (h | h | h)
        · exact .inl (.inr h)
        · exact .inl (.inl h)
        · exact .inr h
theorem anc_ok {ops : Array Oper} {A : Nat → Prop} (hA : ∀ i o, ops[i]? = some o → A i → ∀ k, hasT (waitsM o.after.toList) k = true → A k) : ∀ {ex : List Nat} {m : Nat}, (∀ k, hasT m k = true → A k) → ∀ k, hasT (ancM (opInfos ops) ex m) k = true → A k
  | [], m, h => h
  | j :: ex, m, h => by
    simp only [ancM]
    refine anc_ok hA (ex := ex) ?_
    split
    · rename_i hj
      split
      · rename_i p hp
        obtain ⟨o, ho, rfl⟩ := infos_some hp
        intro k hk
        rw [hasT_or] at hk
        rcases hk with hk | hk
        · exact h k hk
        · exact hA j o ho (h j hj) k hk
      · exact h
    · exact h

-- the machine's own order
theorem lin_step (ops : Array Oper) (fuel tt : Nat) (listed : Array Bool) :
    (Region.linearise.go .any ops fuel tt listed [] = [] ∧ (fuel = 0 ∨ Region.ready .any ops listed = [])) ∨
    ∃ i fuel' tt', fuel = fuel' + 1 ∧ i ∈ Region.ready .any ops listed ∧ Region.linearise.go .any ops fuel tt listed [] = i :: Region.linearise.go .any ops fuel' tt' (listed.setIfInBounds i true) [] := by
  cases fuel with
  | zero => exact .inl ⟨by simp [Region.linearise.go], .inl rfl⟩
  | succ fuel =>
    have e : Region.linearise.go .any ops (fuel + 1) tt listed [] = (match (Region.ready .any ops listed)[tt % (Region.ready .any ops listed).length]? with
      | some i => Region.linearise.go .any ops fuel (tt / (Region.ready .any ops listed).length) (listed.setIfInBounds i true) [i]
      | none => [].reverse) := by simp only [Region.linearise.go]; rfl
    rw [e]
    cases hi : (Region.ready .any ops listed)[tt % (Region.ready .any ops listed).length]? with
    | none =>
      refine .inl ⟨rfl, .inr ?_⟩
      cases hr : Region.ready .any ops listed with
      | nil => rfl
      | cons x xs =>
        rw [hr] at hi
        have hlt : tt % (x :: xs).length < (x :: xs).length := Nat.mod_lt _ (by simp)
        rw [List.getElem?_eq_none_iff] at hi
        omega
    | some i =>
      refine .inr ⟨i, fuel, tt / (Region.ready .any ops listed).length, rfl, List.mem_of_getElem? hi, ?_⟩
      simp only []
      rw [linearise_go_acc, List.reverse_singleton, List.singleton_append]
theorem ready_iff {ops : Array Oper} {listed : Array Bool} (hsz : listed.size = ops.size) {i : Nat} : i ∈ Region.ready .any ops listed ↔ ∃ o, ops[i]? = some o ∧ lst? listed i = false ∧ ∀ k, hasT (waitsM o.after.toList) k = true → lst? listed k = true := by
  unfold Region.ready lst?
  simp only [List.mem_filter, List.mem_range, Bool.and_eq_true, Bool.not_eq_true']
  constructor
  · rintro ⟨h1, h2, h3⟩
    obtain ⟨o, ho⟩ : ∃ o, ops[i]? = some o := ⟨_, Array.getElem?_eq_getElem h1⟩
    rw [ho] at h3
    simp only [Option.map_some, Option.getD_some] at h3
    refine ⟨o, ho, ?_, fun k hk => ?_⟩
    · rw [Array.getD_eq_getD_getElem?] at h2 ⊢
      have : i < listed.size := by omega
      rw [Array.getElem?_eq_getElem this] at h2 ⊢
      exact h2
    · obtain ⟨ed, e1, e2, e3⟩ := waits_iff.1 hk
      have := (Array.all_eq_true_iff_forall_mem.1 h3) ed (by simpa using e1)
      simp only [e2, Bool.not_true, Bool.false_or] at this
      rw [← e3]; exact this
  · rintro ⟨o, ho, h2, h3⟩
    have h1 := (Array.getElem?_eq_some_iff.1 ho).1
    refine ⟨h1, ?_, ?_⟩
    · rw [Array.getD_eq_getD_getElem?] at h2 ⊢
      have : i < listed.size := by omega
      rw [Array.getElem?_eq_getElem this] at h2 ⊢
      exact h2
    · rw [ho]
      simp only [Option.map_some, Option.getD_some]
      rw [Array.all_eq_true_iff_forall_mem]
      intro ed hed
      cases hb : Region.binds .any ed with
      | false => rfl
      | true =>
        simp only [Bool.not_true, Bool.false_or]
        exact h3 ed.on (waits_iff.2 ⟨ed, by simpa using hed, hb, rfl⟩)
theorem lst_set {listed : Array Bool} {i j : Nat} (hi : i < listed.size) : lst? (listed.setIfInBounds i true) j = true ↔ j = i ∨ lst? listed j = true := by
  unfold lst?
  rw [Array.getD_eq_getD_getElem?, Array.getD_eq_getD_getElem?, Array.getElem?_setIfInBounds]
  by_cases h : i = j
  · subst h; rw [if_pos rfl, if_pos hi]; simp
  · rw [if_neg h]
    constructor
    · exact .inr
    · rintro (h' | h')
      · exact absurd h'.symm h
      · exact h'
theorem open_set {listed : Array Bool} {i : Nat} (hi : i < listed.size) (h : lst? listed i = false) : open_ (listed.setIfInBounds i true) + 1 = open_ listed := by
  unfold open_
  have hg : listed[i]? = some false := by
    unfold lst? at h
    rw [Array.getD_eq_getD_getElem?, Array.getElem?_eq_getElem hi] at h
    rw [Array.getElem?_eq_getElem hi]
    simpa using h
  rw [Array.toList_setIfInBounds]
  have hg' : listed.toList[i]? = some false := by rw [Array.getElem?_toList]; exact hg
  have key : ∀ (l : List Bool) (k : Nat), l[k]? = some false → (l.set k true).countP (fun b => !b) + 1 = l.countP fun b => !b := by
    intro l
    induction l with
    | nil => intro k hk; simp at hk
    | cons b l ih =>
      intro k hk
      cases k with
      | zero =>
        simp only [List.getElem?_cons_zero, Option.some.injEq] at hk
        subst hk
        simp
      | succ k =>
        have := ih k (by simpa using hk)
        simp only [List.set_cons_succ, List.countP_cons]
        omega
  exact key _ _ hg'
theorem open_zero {listed : Array Bool} (h : open_ listed = 0) {i : Nat} (hi : i < listed.size) : lst? listed i = true := by
  unfold open_ at h
  rw [List.countP_eq_zero] at h
  unfold lst?
  rw [Array.getD_eq_getD_getElem?, Array.getElem?_eq_getElem hi]
  have := h listed[i] (by simp)
  simpa using this
theorem ready_ex {ops : Array Oper} {listed : Array Bool} (hsz : listed.size = ops.size) : ∀ (ex : List Nat), (∀ l1 i l2, ex = l1 ++ i :: l2 → ∃ o, ops[i]? = some o ∧ ∀ k, hasT (waitsM o.after.toList) k = true → k ∈ l2) → (∃ i ∈ ex, lst? listed i = false) → ∃ i, i ∈ Region.ready .any ops listed
  | [], _, h => by obtain ⟨i, hi, _⟩ := h; simp at hi
  | j :: r, ho, h => by
    rcases Classical.em (∃ i ∈ r, lst? listed i = false) with h' | h'
    · exact ready_ex hsz r (fun l1 i l2 e => ho (j :: l1) i l2 (by rw [e]; rfl)) h'
    · obtain ⟨o, o1, o2⟩ := ho [] j r rfl
      refine ⟨j, (ready_iff hsz).2 ⟨o, o1, ?_, fun k hk => ?_⟩⟩
      · obtain ⟨i, hi, hf⟩ := h
        rcases List.mem_cons.1 hi with rfl | hi
        · exact hf
        · exact absurd ⟨i, hi, hf⟩ h'
      · cases hk' : lst? listed k with
        | true => rfl
        | false => exact absurd ⟨k, o2 k hk, hk'⟩ h'
end Go.AbsK
