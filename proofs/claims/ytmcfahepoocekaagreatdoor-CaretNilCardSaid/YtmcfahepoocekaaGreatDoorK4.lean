/-
  An abstract machine for closed calls, and that it is sound (part 4 of 6): what it answers, the function answers. No condition.
-/
import Derived.Test.YtmcfahepoocekaaGreatDoorK3
import Derived.Lib.Bytealg
namespace Go.AbsK
open Go
open Go.RowKit (Below)
set_option linter.unusedVariables false
set_option linter.unusedSimpArgs false
set_option linter.deprecated false

variable {P : Program} {T : Hints} {B : Nat} {w0 : World}
section
variable {φ : Plc} {e : E16} {L : Loc} {hs : HS} {w : World} {ρ : Operand → Value} {t : TypeId}

theorem setObj_run {r : Nat} {o o' : Obj} (h : w.heap[r]? = some o') (hc : ∀ a b c, o' ≠ .cells a b c) : (setObj r o).run P w = .ok () { w with heap := w.heap.setIfInBounds r o } := by
  show (Sem.setObj r o (.pure ())).run P w = _
  simp only [Sem.run, h]
theorem But.setObj {k : Nat} {w : World} (o : Obj) : But k w { w with heap := w.heap.setIfInBounds k o } :=
  ⟨rfl, rfl, rfl, by simp, fun i _ hk => by show (w.heap.setIfInBounds k o)[i]? = _; rw [Array.getElem?_setIfInBounds]; simp [Ne.symm hk]⟩
theorem setObj_get {k : Nat} {w : World} {o o' : Obj} (h : w.heap[k]? = some o') : ({ w with heap := w.heap.setIfInBounds k o } : World).heap[k]? = some o := by
  have := (Array.getElem?_eq_some_iff.1 h).1
  show (w.heap.setIfInBounds k o)[k]? = _
  rw [Array.getElem?_setIfInBounds]; simp [this]
theorem unop_blk {b : Nat} {p : Pl} (hp : φ b = some p) : (pl φ b).blk = p.blk := by simp [pl, hp]
/-- a map is written -/
theorem map_put (H : HOk P T B w0 φ hs w) {b : Nat} {p : Pl} (hp : φ b = some p) {es es' : ML} {cl cl' : Nat} (hg : getH b hs.heap = .map es cl) (hd : DfM φ es') :
    HOk P T B w0 φ (hs.put b (.map es' cl')) { w with heap := w.heap.setIfInBounds p.blk (.map (concM φ es').toArray cl') } := by
  have m := (map_at H (by rw [hp]; rfl) hg).1
  rw [unop_blk hp] at m
  exact H.put hp _ (by rw [hg]; trivial) (by rw [hg]; rfl) (fun _ _ _ => by rw [hg]; simp [famOf]) (But.setObj _) ⟨setObj_get m, hd⟩
theorem concM_push (φ : Plc) (k v : AV) (b : Nat) : ∀ es, concM φ (pushM k v b es) = concM φ es ++ [⟨conc φ k, conc φ v, b⟩]
  | .nil => rfl
  | .cons k' v' b' t => by simp only [pushM, concM, List.cons_append, concM_push φ k v b t]
theorem DfM_push {k v : AV} {b : Nat} (hk : keyOk k) (hv : Df φ v) : ∀ {es}, DfM φ es → DfM φ (pushM k v b es)
  | .nil, _ => ⟨⟨hk, hv⟩, trivial⟩
  | .cons k' v' b' t, h => ⟨h.1, DfM_push hk hv h.2⟩
theorem sameBits_key {k : AV} (h : keyOk k) : Instr.sameBits 10000 (conc φ k) (conc φ k) = true := by
  cases k with
  | int a b => simp [conc, Instr.sameBits]
  | bool a => simp [conc, Instr.sameBits]
  | str s =>
    simp only [conc, Instr.sameBits]
    show ((bs s).data == (bs s).data) = true
    exact beq_self_eq_true _
  | _ => exact h.elim
theorem ok_mapUpdate (H : HOk P T B w0 φ hs w) {m k x : OB} {mo ko xo : Operand} (hm : EvOk φ e L ρ m mo) (hk : EvOk φ e L ρ k ko) (hx : EvOk φ e L ρ x xo) {tt : TypeId} {ins : Bool} :
    EffOk P T B w0 (hSlow (sMapUpdate (keyCls P tt) m k x)) (if ins then .insert tt mo ko xo else .mapUpdate tt mo ko xo) t φ e L hs w ρ := by
  rcases hSlow_eq (sMapUpdate (keyCls P tt) m k x) e L hs with h | ⟨hn, v, hs2, h1, h2⟩
  · exact .inl h
  unfold sMapUpdate at h1
  split at h1
  · rename_i hki
    obtain ⟨kt, el, d, hu, hkt, hd, hko⟩ := keyIs_ok hki
    split at h1
    · rename_i r _ _ _ _ _ _ _ hmv
      have hmd := hm.df
      have hme := hm.eq
      rw [hmv] at hmd hme
      obtain ⟨p, hp⟩ := some_pl (show (φ r).isSome = true by simpa [Df] using hmd)
      have hbn := (H.dom r p hp).1
      split at h1
      · rename_i es cl hg
        obtain ⟨m1, m2⟩ := map_at H (by rw [hp]; rfl) hg
        rw [unop_blk hp] at m1
        obtain ⟨f1, f2⟩ := findM_ok (φ := φ) hd hki es 0 m2
        have step : ∀ w', (Instr.mapUpdate tt (conc φ (.oth 5 r 0 0 0 0 0 .nil .nil)) (conc φ (ev k e L)) (conc φ (ev x e L))).run P w = .ok () w' → ∀ dst pos after guard, ∃ nx, (execOp ρ { dst, op := (if ins then .insert tt mo ko xo else .mapUpdate tt mo ko xo), type := t, pos, after, guard }).run P w = .ok nx w' ∧ (nx = .value (conc φ undef) ∨ (nx = .skip ∧ undef = undef)) := fun w' hr dst pos after guard => by
          refine ⟨.skip, ?_, .inr ⟨rfl, rfl⟩⟩
          cases ins <;> simp only [if_true, Bool.false_eq_true, if_false, execOp, hme, hk.eq, hx.eq, Sem.run_bind] <;> (simp only [conc] at hr ⊢; rw [hr]; rfl)
        split at h1
        · rename_i v' born hf
          cases h1
          obtain ⟨dv, i, k', g1, g2, ⟨g3, g4⟩, g5, g6, g7, g8⟩ := f2 _ _ hf
          refine .inr ⟨_, _, h2, φ, _, Le.refl φ, map_put (cl' := cl) H hp hg (g7 _ hko hx.df), put_unt hp _ H.lim hbn, fun _ _ h => h, trivial, fun _ _ _ _ => step _ ?_ _ _ _ _⟩
          have e1 : (concM φ (setM (ev k e L) (ev x e L) es)).toArray = (concM φ es).toArray.modify i fun en => { en with key := conc φ (ev k e L), val := conc φ (ev x e L) } := by
            rw [g5]; apply Array.ext'; simp
          have e2 : ((((concM φ es).toArray[i]?).map (·.key)).getD (conc φ (ev k e L))) = conc φ (ev k e L) := by simp [g2]
          have e3 : (Instr.keyThatStays (conc φ (ev k e L)) (conc φ (ev k e L))).run P w = .ok (conc φ (ev k e L)) w := by
            simp only [Instr.keyThatStays, sameBits_key hko, if_true, Sem.run_pure]
          rw [Nat.zero_add] at g1
          simp only [Instr.mapUpdate, Sem.run_bind, und_run hu, Result.andThen_ok, conc, unop_blk hp, getObj_run m1 (fun _ _ _ h => by cases h), checkKey_run hkt hd, findKey_run hkt g1, e2, e3, setObj_run m1 (fun _ _ _ h => by cases h), e1]
        · rename_i hf
          cases h1
          refine .inr ⟨_, _, h2, φ, _, Le.refl φ, map_put (cl' := cl + 1) H hp hg (DfM_push hko hx.df m2), put_unt hp _ H.lim hbn, fun _ _ h => h, trivial, fun _ _ _ _ => step _ ?_ _ _ _ _⟩
          have e1 : (concM φ (pushM (ev k e L) (ev x e L) cl es)).toArray = (concM φ es).toArray.push ⟨conc φ (ev k e L), conc φ (ev x e L), cl⟩ := by
            rw [concM_push]; apply Array.ext'; simp
          simp only [Instr.mapUpdate, Sem.run_bind, und_run hu, Result.andThen_ok, conc, unop_blk hp, getObj_run m1 (fun _ _ _ h => by cases h), checkKey_run hkt hd, findKey_run hkt (f1 hf), setObj_run m1 (fun _ _ _ h => by cases h), e1]
        · cases h1
      · cases h1
    · cases h1
  · cases h1
theorem set_self {w : World} {k : Nat} {o : Obj} (h : w.heap[k]? = some o) : ({ w with heap := w.heap.setIfInBounds k o } : World) = w := by
  cases w with
  | mk heap tape drawn os output =>
    congr 1
    apply Array.ext_getElem?
    intro j
    rw [Array.getElem?_setIfInBounds]
    split
    · rename_i hj
      subst hj
      have := (Array.getElem?_eq_some_iff.1 h).1
      rw [if_pos this]; exact h.symm
    · rfl
theorem modify_self {es : List MapEntry} {i : Nat} {k v : Value} {b : Nat} (h : es[i]? = some ⟨k, v, b⟩) : es.modify i (fun e => { e with key := k }) = es := by
  apply List.ext_getElem?
  intro j
  rw [List.getElem?_modify]
  split
  · rename_i hj
    subst hj
    rw [h]; rfl
  · simp
theorem ok_mapEntry (H : HOk P T B w0 φ hs w) {m k : OB} {mo ko : Operand} (hm : EvOk φ e L ρ m mo) (hk : EvOk φ e L ρ k ko) {tt kt0 el0 : TypeId} {z : AV} (hu0 : und P tt = some (.map kt0 el0)) (hz : zeroP P el0 = some z) :
    EffOk P T B w0 (hSlow (sMapEntry (keyCls P tt) z m k)) (.mapEntry tt mo ko) t φ e L hs w ρ := by
  rcases hSlow_eq (sMapEntry (keyCls P tt) z m k) e L hs with h | ⟨hn, v, hs2, h1, h2⟩
  · exact .inl h
  unfold sMapEntry at h1
  split at h1
  · rename_i hki
    obtain ⟨kt, el, d, hu, hkt, hd, hko⟩ := keyIs_ok hki
    rw [hu0] at hu; cases hu
    split at h1
    · rename_i r _ _ _ _ _ _ _ hmv
      have hmd := hm.df
      have hme := hm.eq
      rw [hmv] at hmd hme
      obtain ⟨p, hp⟩ := some_pl (show (φ r).isSome = true by simpa [Df] using hmd)
      have hbn := (H.dom r p hp).1
      split at h1
      · rename_i es cl hg
        obtain ⟨m1, m2⟩ := map_at H (by rw [hp]; rfl) hg
        rw [unop_blk hp] at m1
        obtain ⟨f1, f2⟩ := findM_ok (φ := φ) hd hki es 0 m2
        obtain ⟨zr, zd⟩ := zero_run (P := P) (w := w) φ hz
        have step : ∀ r' w', (Instr.mapEntry tt (conc φ (.oth 5 r 0 0 0 0 0 .nil .nil)) (conc φ (ev k e L))).run P w = .ok r' w' → ∀ dst pos after guard, (execOp ρ { dst, op := .mapEntry tt mo ko, type := t, pos, after, guard }).run P w = .ok (.value r') w' := fun r' w' hr dst pos after guard => by
          simp only [execOp]
          refine run_valueOf _ _ _ _ ?_
          rw [hme, hk.eq]
          simp only [conc] at hr ⊢
          exact hr
        split at h1
        · rename_i v' born hf
          cases h1
          obtain ⟨dv, i, k', g1, g2, ⟨g3, g4⟩, g5, g6, g7, g8⟩ := f2 _ _ hf
          refine .inr ⟨_, _, h2, φ, w, Le.refl φ, H, unt_refl φ hs, fun _ _ h => h, ⟨dv, trivial, trivial⟩, fun _ _ _ _ => ⟨_, step _ _ ?_ _ _ _ _, .inl rfl⟩⟩
          have e1 : (concM φ es).toArray.modify i (fun en => { en with key := conc φ (ev k e L) }) = (concM φ es).toArray := by
            apply Array.ext'; simp only [Array.toList_modify]; exact modify_self g2
          have e2 : ((((concM φ es).toArray[i]?).map (·.key)).getD (conc φ (ev k e L))) = conc φ (ev k e L) := by simp [g2]
          have e4 : ((((concM φ es).toArray[i]?).map (fun x => (x.born : Int))).getD 0) = (born : Int) := by simp [g2]
          have e3 : (Instr.keyThatStays (conc φ (ev k e L)) (conc φ (ev k e L))).run P w = .ok (conc φ (ev k e L)) w := by
            simp only [Instr.keyThatStays, sameBits_key hko, if_true, Sem.run_pure]
          rw [Nat.zero_add] at g1
          simp only [Instr.mapEntry, Sem.run_bind, und_run hu0, Result.andThen_ok, conc, unop_blk hp, getObj_run m1 (fun _ _ _ h => by cases h), checkKey_run hkt hd, findKey_run hkt g1, e2, e3, e1, setObj_run m1 (fun _ _ _ h => by cases h), set_self m1, Sem.run_pure, e4, concL, unl, goInt]
          rfl
        · rename_i hf
          cases h1
          have e1 : (concM φ (pushM (ev k e L) z cl es)).toArray = (concM φ es).toArray.push ⟨conc φ (ev k e L), conc φ z, cl⟩ := by
            rw [concM_push]; apply Array.ext'; simp
          refine .inr ⟨_, _, h2, φ, _, Le.refl φ, map_put (cl' := cl + 1) H hp hg (DfM_push hko zd m2), put_unt hp _ H.lim hbn, fun _ _ h => h, ⟨zd, trivial, trivial⟩, fun _ _ _ _ => ⟨_, step _ _ ?_ _ _ _ _, .inl rfl⟩⟩
          simp only [Instr.mapEntry, Sem.run_bind, und_run hu0, Result.andThen_ok, conc, unop_blk hp, getObj_run m1 (fun _ _ _ h => by cases h), checkKey_run hkt hd, findKey_run hkt (f1 hf), zr, setObj_run m1 (fun _ _ _ h => by cases h), e1, Sem.run_pure, concL, unl, goInt]
          rfl
        · cases h1
      · cases h1
    · cases h1
  · cases h1
theorem ok_delete (H : HOk P T B w0 φ hs w) {m k : OB} {mo ko : Operand} (hm : EvOk φ e L ρ m mo) (hk : EvOk φ e L ρ k ko) {c : Call} {tt : TypeId} (hc : c.callee = .builtin .delete) (ha : c.args.toList = [mo, ko]) (ht : c.argTypes[0]? = some tt) :
    EffOk P T B w0 (hSlow (sDelete (keyCls P tt) m k)) (.call c) t φ e L hs w ρ := by
  rcases hSlow_eq (sDelete (keyCls P tt) m k) e L hs with h | ⟨hn, v, hs2, h1, h2⟩
  · exact .inl h
  unfold sDelete at h1
  split at h1
  · rename_i hki
    obtain ⟨kt, el, d, hu, hkt, hd, hko⟩ := keyIs_ok hki
    have step : ∀ w', (Builtin.delete_ c.argTypes t #[ρ mo, ρ ko]).run P w = .ok (.tuple #[]) w' → ∀ dst pos after guard, (execOp ρ { dst, op := .call c, type := t, pos, after, guard }).run P w = .ok (.value (conc φ undef)) w' := fun w' hr dst pos after guard => by
      rw [run_builtin hc, args2 ha]
      simp only [builtin, Sem.run_bind, hr, Result.andThen_ok, Sem.run_pure]
      rfl
    split at h1
    · rename_i hmv
      have hme := hm.eq
      rw [hmv] at hme
      cases h1
      refine .inr ⟨_, _, h2, φ, w, Le.refl φ, H, unt_refl φ _, fun _ _ h => h, trivial, fun _ _ _ _ => ⟨_, step _ ?_ _ _ _ _, .inl rfl⟩⟩
      simp [Builtin.delete_, ht, hme, conc, Sem.run_bind, und_run hu, checkKey_run hkt hd]
    · rename_i r _ _ _ _ _ _ _ hmv
      have hmd := hm.df
      have hme := hm.eq
      rw [hmv] at hmd hme
      obtain ⟨p, hp⟩ := some_pl (show (φ r).isSome = true by simpa [Df] using hmd)
      have hbn := (H.dom r p hp).1
      split at h1
      · rename_i es cl hg
        obtain ⟨m1, m2⟩ := map_at H (by rw [hp]; rfl) hg
        rw [unop_blk hp] at m1
        obtain ⟨f1, f2⟩ := findM_ok (φ := φ) hd hki es 0 m2
        split at h1
        · rename_i vv hf
          obtain ⟨v', born⟩ := vv
          cases h1
          obtain ⟨dv, i, k', g1, g2, ⟨g3, g4⟩, g5, g6, g7, g8⟩ := f2 _ _ hf
          rw [Nat.zero_add] at g1
          refine .inr ⟨_, _, h2, φ, _, Le.refl φ, map_put (cl' := cl) H hp hg g8, put_unt hp _ H.lim hbn, fun _ _ h => h, trivial, fun _ _ _ _ => ⟨_, step _ ?_ _ _ _ _, .inl rfl⟩⟩
          have e1 : (concM φ (delM (ev k e L) es)).toArray = (concM φ es).toArray.eraseIdxIfInBounds i := by
            have hi : i < (concM φ es).length := (List.getElem?_eq_some_iff.1 g2).1
            rw [g6]; apply Array.ext'; simp [Array.eraseIdxIfInBounds, hi]
          simp [Builtin.delete_, ht, hme, hk.eq, conc, Sem.run_bind, und_run hu, checkKey_run hkt hd, unop_blk hp, getObj_run m1 (fun _ _ _ h => by cases h), findKey_run hkt g1, setObj_run m1 (fun _ _ _ h => by cases h), e1]
        · rename_i hf
          cases h1
          refine .inr ⟨_, _, h2, φ, w, Le.refl φ, H, unt_refl φ _, fun _ _ h => h, trivial, fun _ _ _ _ => ⟨_, step _ ?_ _ _ _ _, .inl rfl⟩⟩
          simp [Builtin.delete_, ht, hme, hk.eq, conc, Sem.run_bind, und_run hu, checkKey_run hkt hd, unop_blk hp, getObj_run m1 (fun _ _ _ h => by cases h), findKey_run hkt (f1 hf), setObj_run m1 (fun _ _ _ h => by cases h), set_self m1]
        · cases h1
      · cases h1
    · cases h1
  · cases h1
end
end Go.AbsK

namespace Go.AbsK
open Go
open Go.RowKit (Below)
set_option linter.unusedVariables false
set_option linter.unusedSimpArgs false
set_option linter.deprecated false

variable {P : Program} {T : Hints} {B : Nat} {w0 : World}
section
variable {φ : Plc} {e : E16} {L : Loc} {hs : HS} {w : World} {ρ : Operand → Value} {t : TypeId}

theorem setBorn_ok {n : Nat} {v : AV} (hv : Df φ v) : ∀ (es : ML), DfM φ es → hasBorn n es = true → DfM φ (setBorn n v es) ∧ ∃ i, (concM φ es).findIdx? (fun e => (e.born : Int) == (n : Int)) = some i ∧
    concM φ (setBorn n v es) = (concM φ es).modify i fun e => { e with val := conc φ v }
  | .nil, _, h => by simp [hasBorn] at h
  | .cons k v' b t, hd, h => by
    cases hb : Nat.beq b n with
    | true =>
      have hb' := beqN_iff.1 hb
      refine ⟨?_, 0, ?_, ?_⟩
      · simp only [setBorn, hb, if_true]; exact ⟨⟨hd.1.1, hv⟩, hd.2⟩
      · simp [concM, List.findIdx?_cons, hb']
      · simp [setBorn, hb, concM]
    | false =>
      have hne : ¬ b = n := fun h => by rw [beqN_iff.2 h] at hb; cases hb
      simp only [hasBorn, hb, Bool.false_or] at h
      obtain ⟨h1, i, h2, h3⟩ := setBorn_ok hv t hd.2 h
      refine ⟨?_, i + 1, ?_, ?_⟩
      · simp only [setBorn, hb, Bool.false_eq_true, if_false]; exact ⟨hd.1, h1⟩
      · have : ((b : Int) == (n : Int)) = false := by simp; omega
        simp [concM, List.findIdx?_cons, this, h2]
      · simp only [setBorn, hb, Bool.false_eq_true, if_false, concM, h3]; rfl
theorem ok_entryStore (H : HOk P T B w0 φ hs w) {m s x : OB} {mo so xo : Operand} (hm : EvOk φ e L ρ m mo) (hs0 : EvOk φ e L ρ s so) (hx : EvOk φ e L ρ x xo) {tt : TypeId} :
    EffOk P T B w0 (hSlow (sEntryStore m s x)) (.entryStore tt mo so xo) t φ e L hs w ρ := by
  rcases hSlow_eq (sEntryStore m s x) e L hs with h | ⟨hn, v, hs2, h1, h2⟩
  · exact .inl h
  unfold sEntryStore at h1
  split at h1
  · rename_i r _ _ _ _ _ _ _ born hmv hsv
    have hmd := hm.df
    have hme := hm.eq
    rw [hmv] at hmd hme
    obtain ⟨ks, hsk⟩ := asNat_ok hsv
    obtain ⟨p, hp⟩ := some_pl (show (φ r).isSome = true by simpa [Df] using hmd)
    have hbn := (H.dom r p hp).1
    split at h1
    · rename_i es cl hg
      split at h1
      · rename_i hb
        obtain ⟨m1, m2⟩ := map_at H (by rw [hp]; rfl) hg
        rw [unop_blk hp] at m1
        obtain ⟨s1, i, s2, s3⟩ := setBorn_ok hx.df es m2 hb
        cases h1
        refine .inr ⟨_, _, h2, φ, _, Le.refl φ, map_put (cl' := cl) H hp hg s1, put_unt hp _ H.lim hbn, fun _ _ h => h, trivial, fun _ _ _ _ => ⟨.skip, ?_, .inr ⟨rfl, rfl⟩⟩⟩
        have e1 : (concM φ (setBorn born (ev x e L) es)).toArray = (concM φ es).toArray.modify i fun en => { en with val := conc φ (ev x e L) } := by
          rw [s3]; apply Array.ext'; simp
        have e2 : (concM φ es).toArray.findIdx? (fun e => (e.born : Int) == (born : Int)) = some i := by simpa using s2
        have as : (asInt (conc φ (.int ks (Int.ofNat born)))).run P w = .ok (born : Int) w := rfl
        simp only [execOp, hme, hs0.eq, hsk, hx.eq, Sem.run_bind]
        simp only [Instr.entryStore, conc, Sem.run_bind, unop_blk hp, getObj_run m1 (fun _ _ _ h => by cases h), Result.andThen_ok]
        simp only [conc] at as
        simp only [as, Result.andThen_ok, e2, setObj_run m1 (fun _ _ _ h => by cases h), e1]
        rfl
      · cases h1
    · cases h1
  · cases h1
/-- an object made, and laid -/
theorem make_ok (H : HOk P T B w0 φ hs w) (hn : hs.next ≤ 1000000) {o : AObj} (hf : famOf o = none) (x : Obj) {p : Pl} (hp : p.blk = w.heap.size) (ho : ObjOk P T (set1 φ hs.next p) o p { w with heap := w.heap.push x }) :
    ∃ φ' w', w' = { w with heap := w.heap.push x } ∧ φ' = set1 φ hs.next p ∧ Le φ φ' ∧ HOk P T B w0 φ' (hs.push o) w' ∧ Unt φ hs (hs.push o) ∧ (∀ d, d < hs.next → φ d = none → φ' d = none) :=
  ⟨_, _, rfl, rfl, Le.set1 H.nextNone p, place_own (H.push o hn hf) (by rw [HS.push_next]; omega) H.nextNone x hp (by rw [HS.push_same]; exact ho), unt_push _ (unt_refl φ hs) (by omega) (Nat.le_refl _), fun d hd hφ => by unfold set1; rw [if_neg (by omega)]; exact hφ⟩
theorem ok_range (H : HOk P T B w0 φ hs w) {x : OB} {o : Operand} (h : EvOk φ e L ρ x o) {tt : TypeId} {st : Bool} (hu : (st = true ∧ und P tt = some .string) ∨ (st = false ∧ ∃ k el, und P tt = some (.map k el))) :
    EffOk P T B w0 (hSlow (sRange st x)) (.range tt o) t φ e L hs w ρ := by
  rcases hSlow_eq (sRange st x) e L hs with h' | ⟨hn, v, hs2, h1, h2⟩
  · exact .inl h'
  unfold sRange at h1
  have hd := h.df
  have he := h.eq
  have step : ∀ {r w'}, (Instr.range tt (conc φ (ev x e L))).run P w = .ok r w' → ∀ dst pos after guard, (execOp ρ { dst, op := .range tt o, type := t, pos, after, guard }).run P w = .ok (.value r) w' := fun {r w'} hr dst pos after guard => by
    simp only [execOp]
    refine run_valueOf _ _ _ _ ?_
    rw [he]; exact hr
  generalize ev x e L = xv at *
  have pd : ∀ (p : Pl), Df (set1 φ hs.next p) (.ptr hs.next 0 0) := fun p => by show ((set1 φ hs.next p) hs.next).isSome = true; rw [set1_same]; rfl
  have pc : ∀ (n : Nat), conc (set1 φ hs.next ⟨n, 0, 0, 0⟩) (.ptr hs.next 0 0) = .pointer (some ⟨n, 0, none⟩) := fun n => by simp [conc, adr_eq (set1_same φ hs.next _)]
  split at h1
  · cases st with
    | true => cases h1
    | false =>
      simp only [Bool.false_eq_true, if_false, new_eq, Option.some.injEq, Prod.mk.injEq] at h1
      obtain ⟨rfl, rfl⟩ := h1
      rcases hu with ⟨hh, _⟩ | ⟨_, k, el, hu⟩
      · cases hh
      obtain ⟨φ', w', rfl, rfl, k1, k2, k3, k4⟩ := make_ok H hn (o := .mapIter none 0 [] 0) rfl (.mapIter none 0 #[] 0) (p := ⟨w.heap.size, 0, 0, 0⟩) rfl ⟨push_get _ _, rfl, fun _ h => by cases h⟩
      refine .inr ⟨_, _, h2, _, _, k1, k2, k3, k4, pd _, fun _ _ _ _ => ⟨_, step ?_ _ _ _ _, .inl rfl⟩⟩
      rw [pc]
      simp only [Instr.range, Sem.run_bind, und_run hu, Result.andThen_ok, conc, Sem.run_pure]
      rfl
  · rename_i m _ _ _ _ _ _ _
    cases st with
    | true => cases h1
    | false =>
      simp only [Bool.false_eq_true, if_false] at h1
      split at h1
      · rename_i es cl hg
        simp only [new_eq, Option.some.injEq, Prod.mk.injEq] at h1
        obtain ⟨rfl, rfl⟩ := h1
        rcases hu with ⟨hh, _⟩ | ⟨_, k, el, hu⟩
        · cases hh
        have hdm : (φ m).isSome = true := by simpa [Df] using hd
        obtain ⟨m1, m2⟩ := map_at H hdm hg
        have hle := Le.set1 H.nextNone (⟨w.heap.size, 0, 0, 0⟩ : Pl)
        obtain ⟨φ', w', rfl, rfl, k1, k2, k3, k4⟩ := make_ok H hn (o := .mapIter (some m) cl [] cl) rfl (.mapIter (some (pl φ m).blk) cl #[] cl) (p := ⟨w.heap.size, 0, 0, 0⟩) rfl
          ⟨by rw [push_get]; simp only [Option.map_some, hle.pl hdm], rfl, fun b h => by cases h; exact hle.some hdm⟩
        refine .inr ⟨_, _, h2, _, _, k1, k2, k3, k4, pd _, fun _ _ _ _ => ⟨_, step ?_ _ _ _ _, .inl rfl⟩⟩
        rw [pc]
        simp only [Instr.range, Sem.run_bind, und_run hu, Result.andThen_ok, conc, getObj_run m1 (fun _ _ _ h => by cases h), Sem.run_pure]
        rfl
      · cases h1
  · rename_i s
    cases st with
    | false => cases h1
    | true =>
      simp only [if_true, new_eq, Option.some.injEq, Prod.mk.injEq] at h1
      obtain ⟨rfl, rfl⟩ := h1
      have hu : und P tt = some .string := by
        rcases hu with ⟨_, hu⟩ | ⟨hh, _⟩
        · exact hu
        · cases hh
      obtain ⟨φ', w', rfl, rfl, k1, k2, k3, k4⟩ := make_ok H hn (o := .strIter s 0) rfl (.stringIter (bs s) 0) (p := ⟨w.heap.size, 0, 0, 0⟩) rfl ⟨push_get _ _, rfl⟩
      refine .inr ⟨_, _, h2, _, _, k1, k2, k3, k4, pd _, fun _ _ _ _ => ⟨_, step ?_ _ _ _ _, .inl rfl⟩⟩
      rw [pc]
      simp only [Instr.range, Sem.run_bind, und_run hu, Result.andThen_ok, conc, Sem.run_pure]
      rfl
  · cases h1
end
end Go.AbsK

namespace Go.AbsK
open Go
open Go.RowKit (Below)
set_option linter.unusedVariables false
set_option linter.unusedSimpArgs false
set_option linter.deprecated false

variable {P : Program} {T : Hints} {B : Nat} {w0 : World}
section
variable {φ : Plc} {e : E16} {L : Loc} {hs : HS} {w : World} {ρ : Operand → Value} {t : TypeId}

theorem choose_forced {q : Question} (h : q.forced = true) : (choose q).run P w = .ok 0 w := by
  show (Sem.choose q .pure).run P w = _
  simp only [Sem.run, h, if_true]
theorem copy_run {c : Call} {dt el : TypeId} (ht : c.argTypes[0]? = some dt) (hu : und P dt = some (.slice el)) (hz : csz P el ≠ 0) {base : Option Addr} {l cap : Nat} {sv : Value} {src : List AV} (E : ElsOk φ w (csz P el) sv src) :
    (Builtin.copy_ c.argTypes t #[.slice base l cap, sv]).run P w =
      ((match base with | some a => storeCells a (flat φ (src.take l)) | none => pure () : Sem Unit).run P w).andThen fun _ w' => .ok (goInt (src.take l).length) w' := by
  have hm : Nat.min src.length l ≤ src.length := Nat.min_le_left _ _
  have hf := E.first (P := P) (fun _ => trivial) (Nat.min src.length l) hm
  have htk : src.take (Nat.min src.length l) = src.take l := by
    show src.take (min src.length l) = src.take l
    apply List.ext_getElem?
    intro k
    simp only [List.getElem?_take]
    by_cases h1 : k < src.length
    · by_cases h2 : k < l
      · rw [if_pos (by omega), if_pos h2]
      · rw [if_neg (by omega), if_neg h2]
    · rw [List.getElem?_eq_none (by omega)]; simp
  rw [htk] at hf
  have hlen : (Nat.min src.length l : Int) = ((src.take l).length : Int) := by
    rw [List.length_take]; congr 1; exact Nat.min_comm _ _
  simp only [Builtin.copy_, ht, List.getElem?_toArray, List.getElem?_cons_zero, List.getElem?_cons_succ, Sem.run_bind, und_run hu, Result.andThen_ok, E.lenOf (P := P), csz_run hz, hf]
  cases base with
  | none => simp only [Sem.run_pure, Result.andThen_ok]; rw [hlen]
  | some a => simp only [Sem.run_bind, Sem.run_pure]; rw [hlen]
theorem ok_copy (H : HOk P T B w0 φ hs w) {d s : OB} {dop so : Operand} (hd : EvOk φ e L ρ d dop) (hs0 : EvOk φ e L ρ s so) {c : Call} {dt el : TypeId} (hc : c.callee = .builtin .copy) (ha : c.args.toList = [dop, so])
    (ht : c.argTypes[0]? = some dt) (hu : und P dt = some (.slice el)) (hz : csz P el ≠ 0) : EffOk P T B w0 (hSlow (sCopy (csz P el) d s)) (.call c) t φ e L hs w ρ := by
  rcases hSlow_eq (sCopy (csz P el) d s) e L hs with h | ⟨hn, v, hs2, h1, h2⟩
  · exact .inl h
  unfold sCopy at h1
  have step : ∀ {r w'}, (Builtin.copy_ c.argTypes t #[ρ dop, ρ so]).run P w = .ok r w' → ∀ dst pos after guard, (execOp ρ { dst, op := .call c, type := t, pos, after, guard }).run P w = .ok (.value r) w' := fun {r w'} hr dst pos after guard => by
    rw [run_builtin hc, args2 ha]
    simp only [builtin, Sem.run_bind, hr, Result.andThen_ok, Sem.run_pure]
  have hdd := hd.df
  have hde := hd.eq
  have hsd := hs0.df
  have hse := hs0.eq
  generalize ev d e L = dv at *
  generalize ev s e L = sv at *
  split at h1
  · rename_i b i l cc o src hsrc
    split at h1
    · rename_i hal
      have E := elemsOf_ok H hsd hsrc (lenB_ok hal)
      split at h1
      · rename_i elem z m els hg
        split at h1
        · rename_i hch
          simp only [Bool.and_eq_true] at hch
          have c1 := Nat.le_of_ble_eq_true hch.1
          have c2 := beqN_iff.1 hch.2
          subst c2
          cases h1
          obtain ⟨p, hp⟩ := some_pl hdd.1
          have hbn := (H.dom b p hp).1
          have hob := (H.dom b p hp).2.2 (live_of_wr (by rw [hg]; trivial))
          rw [hg] at hob
          have hwr : wr (.cells elem (csz P el) m els .ex) := trivial
          obtain ⟨arr, a1⟩ : ∃ arr, w.heap[p.blk]? = some (.cells arr elem (0, 0)) := by
            obtain ⟨arr, frz, a1, _, _, _, _, a6, _⟩ := hob
            have := a6 hwr; subst this
            exact ⟨arr, a1⟩
          have hnz : ∀ c ∈ src.take l, (concL φ c).length = csz P el := fun c hc => E.len c (List.mem_of_mem_take hc)
          have hnd : ∀ c ∈ src.take l, DfC φ c := fun c hc => E.df c (List.mem_of_mem_take hc)
          have hlt : (src.take l).length ≤ l := by rw [List.length_take]; omega
          obtain ⟨k1, arr', k2, k3⟩ := cells_many (w' := w.setRow p.blk (spl arr (p.base + i * p.sz) (flat φ (src.take l)))) (m := i) hob hwr hnz hnd (by omega) (fun arr2 ha => by rw [a1] at ha; cases ha; exact setRow_heap w p.blk _ _ _ _ a1)
          rw [a1] at k2; cases k2
          refine .inr ⟨_, _, h2, φ, _, Le.refl φ, H.put hp _ (by rw [hg]; trivial) (by rw [hg]; rfl) (fun _ _ _ => by rw [hg]; simp [famOf]) (But.setRow _) k1, put_unt hp _ H.lim hbn, fun _ _ h => h, trivial, fun _ _ _ _ => ⟨_, step ?_ _ _ _ _, .inl rfl⟩⟩
          have hcv : conc φ (.sl b i l cc o) = .slice (some (adr φ b i 0)) l (if o then (pl φ b).cap - cc else cc) := rfl
          rw [hde, hse, hcv, copy_run ht hu hz E]
          have := storeCells_run (P := P) (off := p.base + i * p.sz) a1 (new := flat φ (src.take l)) (by rw [flat_len hnz]; exact k3) fun v hv => by
            obtain ⟨c, hc, hv⟩ := List.mem_flatMap.1 hv
            exact ones (hnd c hc) v hv
          simp only [adr_eq hp, Nat.add_zero, this, Result.andThen_ok]
          rfl
        · cases h1
      · cases h1
    · cases h1
  · rename_i src hsrc
    split at h1
    · rename_i hal
      have E := elemsOf_ok H hsd hsrc (lenB_ok hal)
      cases h1
      refine .inr ⟨_, _, h2, φ, w, Le.refl φ, H, unt_refl φ _, fun _ _ h => h, trivial, fun _ _ _ _ => ⟨_, step ?_ _ _ _ _, .inl rfl⟩⟩
      rw [hde, hse]
      simp only [conc]
      rw [copy_run ht hu hz E]
      rfl
    · cases h1
  · rename_i src hsrc
    split at h1
    · rename_i hal
      have E := elemsOf_ok H hsd hsrc (lenB_ok hal)
      cases h1
      refine .inr ⟨_, _, h2, φ, w, Le.refl φ, H, unt_refl φ _, fun _ _ h => h, trivial, fun _ _ _ _ => ⟨_, step ?_ _ _ _ _, .inl rfl⟩⟩
      rw [hde, hse]
      simp only [conc]
      rw [copy_run ht hu hz E]
      rfl
    · cases h1
  · cases h1
end
end Go.AbsK

namespace Go.AbsK
open Go
open Go.RowKit (Below)
set_option linter.unusedVariables false
set_option linter.unusedSimpArgs false
set_option linter.deprecated false

variable {P : Program} {T : Hints} {B : Nat} {w0 : World}
section
variable {φ : Plc} {e : E16} {L : Loc} {hs : HS} {w : World} {ρ : Operand → Value} {t : TypeId}

theorem stri_at (H : HOk P T B w0 φ hs w) {r : Nat} (hd : (φ r).isSome = true) {s : List Nat} {pos : Nat} (hg : getH r hs.heap = .strIter s pos) :
    adr φ r 0 0 = ⟨(pl φ r).blk, 0, none⟩ ∧ w.heap[(pl φ r).blk]? = some (.stringIter (bs s) pos) := by
  obtain ⟨p, hp⟩ := some_pl hd
  obtain ⟨_, _, h3⟩ := H.dom r p hp
  have h3 := h3 (by unfold live; rw [hg]; trivial)
  rw [hg] at h3
  have : pl φ r = p := by simp [pl, hp]
  rw [this]
  exact ⟨by rw [adr_eq hp, h3.2]; simp, h3.1⟩
theorem key_df {k : AV} (h : keyOk k) : Df φ k := by cases k <;> first | trivial | exact h.elim
theorem decode_ascii {s : List Nat} {pos c : Nat} (h : s[pos]? = some c) (hc : c < 128) : Utf8.decode (bs s) pos = (c, 1) ∧ pos < (bs s).size := by
  have hlt := (List.getElem?_eq_some_iff.1 h).1
  have hg : ((bs s).get! pos).toNat = c := by
    have e : (bs s).get! pos = UInt8.ofNat c := by
      simp only [bs, ByteArray.get!]
      simp [Array.getElem!_eq_getD, Array.getD_eq_getD_getElem?, h]
    rw [e]
    simp; omega
  refine ⟨?_, by rw [size_bs]; exact hlt⟩
  unfold Utf8.decode
  simp only [Nat.add_zero, hg]
  rw [if_pos hc]
theorem obj_put (H : HOk P T B w0 φ hs w) {b : Nat} {p : Pl} (hp : φ b = some p) {o : AObj} (hwr : wr (getH b hs.heap)) (h1 : famOf o = none) (h2 : famOf (getH b hs.heap) = none) {x : Obj} {w' : World} (hw' : w' = { w with heap := w.heap.setIfInBounds p.blk x })
    (ho : ObjOk P T φ o p w') : HOk P T B w0 φ (hs.put b o) w' := by
  subst hw'
  exact H.put hp _ hwr (by rw [h1, h2]) (fun _ _ _ => by rw [h2]; simp) (But.setObj _) ho
theorem ok_next (H : HOk P T B w0 φ hs w) {x : OB} {o : Operand} (h : EvOk φ e L ρ x o) {st : Bool} : EffOk P T B w0 (hSlow (sNext false st x)) (.next o st) t φ e L hs w ρ := by
  rcases hSlow_eq (sNext false st x) e L hs with h' | ⟨hn, v, hs2, h1, h2⟩
  · exact .inl h'
  unfold sNext at h1
  have hd := h.df
  have he := h.eq
  have step : ∀ {r w'}, (Instr.next (conc φ (ev x e L)) st t).run P w = .ok r w' → ∀ dst pos after guard, (execOp ρ { dst, op := .next o st, type := t, pos, after, guard }).run P w = .ok (.value r) w' := fun {r w'} hr dst pos after guard => by
    simp only [execOp]
    refine run_valueOf _ _ _ _ ?_
    rw [he]; exact hr
  generalize ev x e L = xv at *
  split at h1
  · rename_i r
    obtain ⟨p, hp⟩ := some_pl (show (φ r).isSome = true from hd)
    have hbn := (H.dom r p hp).1
    split at h1
    · rename_i since seen last hg
      obtain ⟨i1, i2, i3⟩ := iter_at H hd hg
      split at h1
      · cases h1
      · rename_i hst
        have : st = false := by simpa using hst
        subst this
        cases h1
        refine .inr ⟨_, _, h2, φ, w, Le.refl φ, H, unt_refl φ _, fun _ _ h => h, ⟨trivial, trivial⟩, fun _ _ _ _ => ⟨_, step ?_ _ _ _ _, .inl rfl⟩⟩
        simp only [conc, i1, Instr.next, Sem.run_bind, getObj_run i2 (fun _ _ _ h => by cases h), Result.andThen_ok, Option.map_none, Sem.run_pure, concL, unl]
    · rename_i m since seen last hg
      obtain ⟨i1, i2, i3⟩ := iter_at H hd hg
      have hm := i3 m rfl
      rw [unop_blk hp] at i1 i2
      split at h1
      · cases h1
      · rename_i hst
        have : st = false := by simpa using hst
        subst this
        split at h1
        · rename_i es clock hgm
          obtain ⟨m1, m2⟩ := map_at H hm hgm
          simp only [] at h1
          split at h1
          · cases h1
          · rename_i c1
            split at h1
            · cases h1
            · rename_i c2
              let f : AV × AV × Nat → MapEntry := fun x => ⟨conc φ x.1, conc φ x.2.1, x.2.2⟩
              have hes : concM φ es = (entriesM es).map f := mapEntries es
              have hall : (!seen.toArray.isEmpty && !(concM φ es).toArray.isEmpty && (concM φ es).toArray.all (fun e => decide (e.born ≥ last))) = false := by
                rw [Bool.eq_false_iff]
                intro hh
                apply c1
                simp only [Bool.and_eq_true, Bool.not_eq_true', List.isEmpty_toArray, List.all_toArray, hes] at hh ⊢
                refine ⟨⟨hh.1.1, by cases hl : entriesM es with | nil => rw [hl] at hh; simp at hh | cons _ _ => rfl⟩, ?_⟩
                have h3 := hh.2
                rw [List.all_map] at h3
                rw [List.all_eq_true] at h3 ⊢
                intro x hx
                have := h3 x hx
                exact Nat.ble_eq_true_of_le (by simpa [f] using this)
              have hleft : (concM φ es).toArray.filter (fun e => !seen.toArray.contains e.born) = (((entriesM es).filter fun e => !seen.contains e.2.2).map f).toArray := by
                rw [hes, List.filter_toArray', List.filter_map]
                · congr 2
                  apply List.filter_congr
                  intro x hx
                  simp [f]
                · simp
              have hold : ((((entriesM es).filter fun e => !seen.contains e.2.2).map f).toArray.filter (·.born < since)) = (((entriesM es).filter fun e => !seen.contains e.2.2).map f).toArray := by
                rw [Array.filter_eq_self]
                intro x hx
                simp only [List.mem_toArray, List.mem_map] at hx
                obtain ⟨y, hy, rfl⟩ := hx
                have c2' : ∀ y ∈ (entriesM es).filter fun e => !seen.contains e.2.2, Nat.ble since y.2.2 = false := by
                  intro y hy
                  cases hb : Nat.ble since y.2.2 with
                  | false => rfl
                  | true => exact absurd (List.any_eq_true.2 ⟨y, hy, hb⟩) c2
                have := c2' y hy
                have : ¬ since ≤ y.2.2 := fun hle => by rw [Nat.ble_eq_true_of_le hle] at this; cases this
                simp [f]; omega
              have hnew : ((((entriesM es).filter fun e => !seen.contains e.2.2).map f).toArray.filter (·.born ≥ since)) = #[] := by
                rw [Array.filter_eq_empty_iff]
                intro x hx
                have := Array.filter_eq_self.1 hold x hx
                simp at this ⊢; omega
              generalize hl : (entriesM es).filter (fun e => !seen.contains e.2.2) = left at *
              split at h1
              · cases h1
                refine .inr ⟨_, _, h2, φ, w, Le.refl φ, H, unt_refl φ _, fun _ _ h => h, ⟨trivial, trivial⟩, fun _ _ _ _ => ⟨_, step ?_ _ _ _ _, .inl rfl⟩⟩
                simp only [conc, i1, Instr.next, Sem.run_bind, getObj_run i2 (fun _ _ _ h => by cases h), Result.andThen_ok, Option.map_some, getObj_run m1 (fun _ _ _ h => by cases h), hall, Bool.false_eq_true, if_false, hleft, hold, hnew]
                exact (by simp only [List.map_nil, List.isEmpty_toArray, List.isEmpty_nil, if_true, Array.append_empty, List.map_toArray]; exact (congrArg (fun r => Result.andThen r _) (choose_forced (P := P) (w := w) (q := .mapNext 1) rfl)).trans rfl)
              · rename_i k v' born rest
                split at h1
                · rename_i hr
                  have hr : rest = [] := by simpa using hr
                  subst hr
                  cases h1
                  have hmem : (k, v', born) ∈ entriesM es := (List.mem_filter.1 (hl.symm ▸ List.mem_cons_self)).1
                  obtain ⟨ko, vo⟩ := DfM_entries m2 _ hmem
                  refine .inr ⟨_, _, h2, φ, _, Le.refl φ, obj_put H hp (by rw [hg]; trivial) rfl (by rw [hg]; rfl) (x := .mapIter (some (pl φ m).blk) since (seen.toArray.push born) clock) rfl ?_, put_unt hp _ H.lim hbn, fun _ _ h => h, ⟨trivial, key_df ko, vo, trivial⟩, fun _ _ _ _ => ⟨_, step ?_ _ _ _ _, .inl rfl⟩⟩
                  · have ob := (H.dom r p hp).2.2 (by unfold live; rw [hg]; trivial)
                    rw [hg] at ob
                    have hq := (setObj_get (o := .mapIter (some (pl φ m).blk) since (seen.toArray.push born) clock) i2)
                    refine ⟨?_, ob.2.1, ob.2.2⟩
                    have : (seen ++ [born]).toArray = seen.toArray.push born := by simp
                    rw [this]
                    exact hq
                  · simp only [conc, i1, Instr.next, Sem.run_bind, getObj_run i2 (fun _ _ _ h => by cases h), Result.andThen_ok, Option.map_some, getObj_run m1 (fun _ _ _ h => by cases h), hall, Bool.false_eq_true, if_false, hleft, hold, hnew]
                    have hcand : ((if (List.map f [(k, v', born)]).toArray.isEmpty = true then #[none] else #[]) ++ Array.map some ((List.map f [(k, v', born)]).toArray ++ #[]) : Array (Option MapEntry)) = #[some (f (k, v', born))] := by simp
                    rw [hcand]
                    show ((choose (.mapNext 1)).run P w).andThen _ = _
                    rw [choose_forced rfl]
                    simp only [Result.andThen_ok, List.getElem?_toArray, List.getElem?_cons_zero, Sem.run_bind, setObj_run i2 (fun _ _ _ h => by cases h), Sem.run_pure, concL, unl]
                    rfl
                · cases h1
        · cases h1
    · rename_i s pos hg
      obtain ⟨i1, i2⟩ := stri_at H hd hg
      rw [unop_blk hp] at i1 i2
      split at h1
      · rename_i hst
        subst hst
        split at h1
        · rename_i hs'
          cases h1
          refine .inr ⟨_, _, h2, φ, w, Le.refl φ, H, unt_refl φ _, fun _ _ h => h, ⟨trivial, trivial⟩, fun _ _ _ _ => ⟨_, step ?_ _ _ _ _, .inl rfl⟩⟩
          have : ¬ pos < (bs s).size := by rw [size_bs]; have := List.getElem?_eq_none_iff.1 hs'; omega
          simp only [conc, i1, Instr.next, Sem.run_bind, getObj_run i2 (fun _ _ _ h => by cases h), Result.andThen_ok, if_neg this, Sem.run_pure, concL, unl]
        · rename_i c hs'
          split at h1
          · rename_i hc
            cases h1
            obtain ⟨d1, d2⟩ := decode_ascii hs' hc
            refine .inr ⟨_, _, h2, φ, _, Le.refl φ, obj_put H hp (by rw [hg]; trivial) rfl (by rw [hg]; rfl) rfl ⟨setObj_get i2, ?_⟩, put_unt hp _ H.lim hbn, fun _ _ h => h, ⟨trivial, trivial, trivial, trivial⟩, fun _ _ _ _ => ⟨_, step ?_ _ _ _ _, .inl rfl⟩⟩
            · have := (H.dom r p hp).2.2 (by unfold live; rw [hg]; trivial)
              rw [hg] at this; exact this.2
            · simp only [conc, i1, Instr.next, Sem.run_bind, getObj_run i2 (fun _ _ _ h => by cases h), Result.andThen_ok, if_pos d2, d1, setObj_run i2 (fun _ _ _ h => by cases h), Sem.run_pure, concL, unl, goInt]
              rfl
          · cases h1
      · cases h1
    · cases h1
  · cases h1
end
end Go.AbsK

namespace Go.AbsK
open Go
open Go.RowKit (Below)
set_option linter.unusedVariables false
set_option linter.unusedSimpArgs false
set_option linter.deprecated false

variable {P : Program} {T : Hints} {B : Nat} {w0 : World}

/-- an array that is written no more: its block's frozen part may be another one -/
theorem HOk.shut {φ : Plc} {hs : HS} {w w' : World} (H : HOk P T B w0 φ hs w) {b : Nat} {p : Pl} (hφ : φ b = some p) {elem sz n : Nat} {els : Env} {kd : Kd} (hg : getH b hs.heap = .cells elem sz n els kd) (hwr : wr (.cells elem sz n els kd))
    (hw : But p.blk w w') (hb2 : ∀ arr el frz, w.heap[p.blk]? = some (.cells arr el frz) → ∃ frz', w'.heap[p.blk]? = some (.cells arr el frz')) :
    HOk P T B w0 φ (hs.put b (.cells elem sz n els .ro)) w' := by
  obtain ⟨h, nx, f⟩ := hs
  have hb : b < 1048576 := H.bnd hφ
  have hbn : b < nx := (H.dom b p hφ).1
  have lim : nx ≤ 1000004 := H.lim
  have hg : getH b h = _ := hg
  have hne : ∀ c, c ≠ b → c < 1048576 → getH c (setH b (.cells elem sz n els .ro) h) = getH c h := fun c e hc => getH_ne hc hb e _ h
  have hwrb : wr (getH b h) := by rw [hg]; exact hwr
  have lv : ∀ c, c < 1048576 → live (.mk (setH b (.cells elem sz n els .ro) h) nx f) c → live (.mk h nx f) c := fun c hc hl => by
    by_cases ec : c = b
    · subst ec; exact live_of_wr hwrb
    · exact (live_put_ne _ hb hc ec).1 hl
  -- objects other than b in the same block are readers only: what they say goes on
  have same : ∀ c q, c ≠ b → φ c = some q → live (.mk h nx f) c → q.blk = p.blk → ∃ el z m e own sh fam ver, getH c h = .cells el z m e (.opn own sh fam ver) ∧ own = false := fun c q ne e hl hq => by
    obtain ⟨fm, v, v', s', h1, h2, h3⟩ := H.sep b c p q (Ne.symm ne) hφ e hq.symm hwrb hl
    have h2 : famOf (getH c h) = some (fm, v', false, s') := h2
    cases hc : getH c h with
    | cells el z m e kd2 =>
      rw [hc] at h2
      cases kd2 with
      | opn own sh fam ver =>
        simp only [famOf, Option.some.injEq, Prod.mk.injEq] at h2
        exact ⟨_, _, _, _, _, _, _, _, rfl, h2.2.2.1⟩
      | ex => cases h2
      | ro => cases h2
    | _ => rw [hc] at h2; cases h2
  refine ⟨H.lim, fun c q e => ?_, fun c c' q q' ne e e' hq hwr' hl => ?_, fun c hc fm v own s hf => ?_, fun c c' fm v v' s s' hc hc' h1 h2 => ?_, H.vers0, fun c q e hwr' => ?_, Nat.le_trans H.size hw.size, hw.below H.below (H.own b p hφ hwrb) H.size⟩
  · obtain ⟨h1, h2, h3⟩ := H.dom c q e
    refine ⟨h1, by have := hw.size; omega, fun hl => ?_⟩
    have hl' := lv c (H.bnd e) hl
    have k := h3 hl'
    show ObjOk P T φ (getH c (setH b _ h)) q w'
    by_cases ec : c = b
    · subst ec
      rw [hφ] at e; cases e
      rw [getH_same]
      simp only [HS.heap, hg] at k
      obtain ⟨arr, frz, a1, a2, a3, a4, a5, a6, a7, a8⟩ := k
      obtain ⟨frz', a1'⟩ := hb2 _ _ _ a1
      exact ⟨arr, frz', a1', a2, a3, a4, a5, fun h => h.elim, (fun h => by cases h), a8⟩
    · rw [hne c ec (H.bnd e)]
      by_cases eb : q.blk = p.blk
      · obtain ⟨el, z, m, e2, own, sh, fam, ver, g1, rfl⟩ := same c q ec e hl' eb
        have k : ObjOk P T φ (getH c h) q w := k
        rw [g1] at k ⊢
        obtain ⟨arr, frz, a1, a2, a3, a4, a5, a6, a7, a8⟩ := k
        obtain ⟨frz', a1'⟩ := hb2 _ _ _ (eb ▸ a1)
        exact ⟨arr, frz', eb ▸ a1', a2, a3, a4, a5, fun h => h.elim, (fun h => by cases h), a8⟩
      · exact k.up (Le.refl φ) (hw.block _ h2 eb)
  · show ∃ fam ver ver' sh', famOf (getH c (setH b _ h)) = _ ∧ famOf (getH c' (setH b _ h)) = _ ∧ eo (getH c' (setH b _ h)) q' ≤ eo (getH c (setH b _ h)) q
    by_cases ec : c = b
    · subst ec
      simp only [HS.put, HS.heap, getH_same] at hwr'
      exact hwr'.elim
    · have hw2 : wr (getH c h) := by have := hwr'; simp only [HS.put, HS.heap, hne c ec (H.bnd e)] at this; exact this
      obtain ⟨fm, v, v', s', h1, h2, h3⟩ := H.sep c c' q q' ne e e' hq hw2 (lv c' (H.bnd e') hl)
      by_cases ec' : c' = b
      · subst ec'
        exact absurd hwrb (notWr h2)
      · rw [hne c ec (H.bnd e), hne c' ec' (H.bnd e')]
        exact ⟨fm, v, v', s', h1, h2, h3⟩
  · have hc : c < nx := hc
    by_cases ec : c = b
    · subst ec
      simp only [HS.put, HS.heap, getH_same, famOf] at hf
      cases hf
    · simp only [HS.put, HS.heap, hne c ec (by omega)] at hf
      exact H.vers c hc fm v own s hf
  · have hc : c < nx := hc
    have hc' : c' < nx := hc'
    by_cases ec : c = b
    · subst ec
      simp only [HS.put, HS.heap, getH_same, famOf] at h1
      cases h1
    · by_cases ec' : c' = b
      · subst ec'
        simp only [HS.put, HS.heap, getH_same, famOf] at h2
        cases h2
      · simp only [HS.put, HS.heap, hne c ec (by omega), hne c' ec' (by omega)] at h1 h2
        exact H.uno c c' fm v v' s s' hc hc' h1 h2
  · by_cases ec : c = b
    · subst ec
      simp only [HS.put, HS.heap, getH_same] at hwr'
      exact hwr'.elim
    · exact H.own c q e (by have := hwr'; simp only [HS.put, HS.heap, hne c ec (H.bnd e)] at this; exact this)
section
variable {φ : Plc} {e : E16} {L : Loc} {hs : HS} {w : World} {ρ : Operand → Value} {t : TypeId}

theorem loadBytes_run {l : List Nat} (h : ∀ n ∈ l, n < 256) : ∀ {a : Addr} {acc : List Nat}, (∀ (i : Nat) v, (l.map fun n => Value.int .u8 (.ofNat n))[i]? = some v → w.cell? (a.add i) = some v) →
    (loadBytes a (bs acc) l.length).run P w = .ok (bs (acc ++ l)) w := by
  induction l with
  | nil => intro a acc _; simp [loadBytes]
  | cons n l ih =>
    intro a acc hc
    have h0 := hc 0 _ rfl
    have ha : a.add 0 = a := by cases a; simp [Addr.add]
    rw [ha] at h0
    have hp : (bs acc).push n.toUInt8 = bs (acc ++ [n]) := by
      apply ByteArray.ext
      simp [bs, ByteArray.push]
    have := ih (fun m hm => h m (List.mem_cons_of_mem _ hm)) (a := a.add 1) (acc := acc ++ [n]) fun i v hv => by
      have := hc (i + 1) v (by simpa using hv)
      have e2 : (a.add 1).add i = a.add (i + 1) := by
        unfold Addr.add
        by_cases hj : i = 0
        · subst hj; simp
        · simp [hj]; omega
      rw [e2]; exact this
    simp only [List.length_cons, loadBytes, Sem.run_bind, run_load, h0, Result.andThen_ok]
    show (loadBytes (a.add 1) ((bs acc).push (Int.ofNat n).toNat.toUInt8) l.length).run P w = _
    rw [show (Int.ofNat n).toNat = n from rfl, hp, this, List.append_assoc]
    rfl
theorem undId_eq (t : TypeId) : undId P t = P.underlyingId t := by
  unfold undId Program.underlyingId
  rw [infoT_eq]
  cases P.info? t with
  | none => rfl
  | some i => cases i with | mk d => cases d <;> rfl
theorem lies_byte {el u : TypeId} {off n size : Nat} (hc : csz P el = 1) (hu : undId P el = undId P u) (h : off + n ≤ size) : liesAt P P.depth el (size / P.cellsOf el) off u n = true := by
  rw [csz_eq] at hc
  rw [undId_eq, undId_eq] at hu
  have hd : P.depth = (2 * (P.types.size + Made.depth) + 1) + 1 := rfl
  generalize 2 * (P.types.size + Made.depth) + 1 = k at hd
  have hs : sameLayout P P.depth el u = true := by rw [hd]; simp [sameLayout, hu]
  rw [hd, hc]
  simp only [liesAt]
  have hr : rowAt P (sameLayout P P.depth · u) P.depth el (size / 1) off n = true := by
    rw [hd]
    simp only [rowAt, hc]
    rw [← hd]
    simp [hs, h, Nat.mod_one]
  rw [hr]; rfl
theorem freeze_but {a : Addr} {n : Nat} : But a.block w (w.freeze a n) := by
  unfold World.freeze
  split
  · exact But.refl _ _
  · exact ⟨rfl, rfl, rfl, by simp, fun i _ hk => by show (w.heap.modify a.block _)[i]? = _; rw [Array.getElem?_modify, if_neg (fun h => hk h.symm)]⟩
theorem freeze_row {a : Addr} {n : Nat} {arr : Array Value} {el : TypeId} {frz : Nat × Nat} (h : w.heap[a.block]? = some (.cells arr el frz)) : ∃ frz', (w.freeze a n).heap[a.block]? = some (.cells arr el frz') := by
  unfold World.freeze
  split
  · exact ⟨frz, h⟩
  · refine ⟨if frz.1 == frz.2 then (a.off, a.off + n) else (min frz.1 a.off, max frz.2 (a.off + n)), ?_⟩
    show (w.heap.modify a.block _)[a.block]? = _
    rw [Array.getElem?_modify, if_pos rfl, h]; rfl
theorem us_zero {ats : Array TypeId} {pt : TypeId} (ht : ats[0]? = some pt) {k : IntKind} {p : Option Addr} : (Builtin.unsafeString_ ats t #[.pointer p, .int k (.ofNat 0)]).run P w = .ok (.string (bs [])) w := by
  cases p with
  | none =>
    rw [show Builtin.unsafeString_ ats t #[.pointer none, .int k (.ofNat 0)] = (asInt (.int k (.ofNat 0)) >>= _) from rfl]
    simp [asInt, asIntOf, ht, IntKind.max, IntKind.bits, IntKind.signed]
    rfl
  | some a =>
    rw [show Builtin.unsafeString_ ats t #[.pointer (some a), .int k (.ofNat 0)] = (asInt (.int k (.ofNat 0)) >>= _) from rfl]
    simp [asInt, asIntOf, ht, IntKind.max, IntKind.bits, IntKind.signed]
    rfl
theorem us_some {ats : Array TypeId} {pt u : TypeId} (ht : ats[0]? = some pt) (hu : und P pt = some (.pointer u)) {k : IntKind} {a : Addr} {l : List Nat} (h0 : l ≠ []) (h6 : l.length ≤ 1000000) (hb : ∀ n ∈ l, n < 256)
    (hc : ∀ (i : Nat) v, (l.map fun n => Value.int .u8 (.ofNat n))[i]? = some v → w.cell? (a.add i) = some v) {el : TypeId} {size : Nat} (hs : w.shape? a.block = some (el, size)) (hl : liesAt P P.depth el (size / P.cellsOf el) a.off u l.length = true) :
    (Builtin.unsafeString_ ats t #[.pointer (some a), .int k (.ofNat l.length)]).run P w = .ok (.string (bs l)) (w.freeze a l.length) := by
  rw [show Builtin.unsafeString_ ats t #[.pointer (some a), .int k (.ofNat l.length)] = (asInt (.int k (.ofNat l.length)) >>= _) from rfl]
  have hl0 : l.length ≠ 0 := by simpa using h0
  have hneg : ¬ (l.length : Int) < 0 := by omega
  have h63 : ¬ (9223372036854775807 : Int) < (l.length : Int) := by omega
  have hmax : IntKind.i64.max = 9223372036854775807 := rfl
  have hlb := loadBytes_run (P := P) (w := w) hb (a := a) (acc := []) hc
  have he : (bs []) = ByteArray.empty := rfl
  rw [he, List.nil_append] at hlb
  simp [asInt, asIntOf, ht, hneg, h63, h0, hmax, Go.elemOf, und_run hu, variablesAt, hs, hl, hlb, run_freeze]
theorem ok_unsafeString (H : HOk P T B w0 φ hs w) {x n : OB} {xo no : Operand} (hx : EvOk φ e L ρ x xo) (hn0 : EvOk φ e L ρ n no) {c : Call} {pt u : TypeId} (hc : c.callee = .builtin .unsafeString) (ha : c.args.toList = [xo, no])
    (ht : c.argTypes[0]? = some pt) (hu : und P pt = some (.pointer u)) : EffOk P T B w0 (hSlow (sUnsafeString P u x n)) (.call c) t φ e L hs w ρ := by
  rcases hSlow_eq (sUnsafeString P u x n) e L hs with h | ⟨hn, v, hs2, h1, h2⟩
  · exact .inl h
  unfold sUnsafeString at h1
  have step : ∀ {r w'}, (Builtin.unsafeString_ c.argTypes t #[ρ xo, ρ no]).run P w = .ok r w' → ∀ dst pos after guard, (execOp ρ { dst, op := .call c, type := t, pos, after, guard }).run P w = .ok (.value r) w' := fun {r w'} hr dst pos after guard => by
    rw [run_builtin hc, args2 ha]
    simp only [builtin, Sem.run_bind, hr, Result.andThen_ok, Sem.run_pure]
  have hxd := hx.df
  have hxe := hx.eq
  have hne := hn0.eq
  generalize ev x e L = xv at *
  generalize ev n e L = nv at *
  split at h1
  · rename_i hnv
    obtain ⟨k, rfl⟩ := asNat_ok hnv
    cases h1
    refine .inr ⟨_, _, h2, φ, w, Le.refl φ, H, unt_refl φ _, fun _ _ h => h, trivial, fun _ _ _ _ => ⟨_, step ?_ _ _ _ _, .inl rfl⟩⟩
    rw [hxe, hne]
    exact us_zero ht
  · rename_i b i m hnv
    obtain ⟨k, rfl⟩ := asNat_ok hnv
    split at h1
    · rename_i h0
      subst h0
      cases h1
      refine .inr ⟨_, _, h2, φ, w, Le.refl φ, H, unt_refl φ _, fun _ _ h => h, trivial, fun _ _ _ _ => ⟨_, step ?_ _ _ _ _, .inl rfl⟩⟩
      rw [hxe, hne]
      exact us_zero ht
    · rename_i h0
      split at h1
      · rename_i elem z mm els kd hg
        split at h1
        · cases h1
        · rename_i hch
          simp only [Bool.or_eq_true, not_or, Bool.not_eq_true', Bool.not_eq_true, Bool.not_eq_false'] at hch
          obtain ⟨⟨⟨⟨c0, c1⟩, c2⟩, c3⟩, c4⟩ := hch
          have c1 := beqN_iff.1 (by simpa using c1)
          have c2 := beqN_iff.1 (by simpa using c2)
          have c3 := beqN_iff.1 (by simpa using c3)
          have c4 := Nat.le_of_ble_eq_true (by simpa using c4)
          subst c1
          have hwr : wr (.cells elem 1 mm els kd) := by
            cases kd with
            | ex => trivial
            | ro => cases c0
            | opn own sh fam ver => cases own with
              | true => trivial
              | false => cases c0
          split at h1
          · rename_i l hl
            cases hb : l.mapM byteOfCells with
            | none => rw [hb] at h1; cases h1
            | some bs' =>
              rw [hb] at h1
              simp only [Option.map_some, Option.some.injEq, Prod.mk.injEq] at h1
              obtain ⟨rfl, rfl⟩ := h1
              obtain ⟨b1, b2, b3, b4⟩ := bytes_ok (φ := φ) hb
              obtain ⟨p, hp⟩ := some_pl (show (φ b).isSome = true from hxd)
              have hbn := (H.dom b p hp).1
              have hob := (H.dom b p hp).2.2 (live_of_wr (by rw [hg]; exact hwr))
              rw [hg] at hob
              obtain ⟨arr, frz, a1, a2, a3, a4, a5, a6, a7, a8⟩ := hob
              unfold elemsOf at hl
              simp only [hg] at hl
              split at hl
              · rename_i hal
                simp only [Bool.and_eq_true] at hal
                have hnn := Nat.le_of_ble_eq_true hal.2
                cases hl
                have hlen : m = bs'.length := by rw [← b3]; simp
                have hne0 : bs' ≠ [] := fun h => by rw [h] at hlen; exact h0 hlen
                have hcell : ∀ (j : Nat) v, (bs'.map fun n => Value.int .u8 (.ofNat n))[j]? = some v → w.cell? ((adr φ b i 0).add j) = some v := fun j v hv => by
                  rw [adr_eq hp, add_off]
                  have hj : j < m := by rw [hlen]; have := (List.getElem?_eq_some_iff.1 hv).1; simpa using this
                  obtain ⟨d1, d2, d3⟩ := a8 (i + j) (by omega)
                  have hfl := flat_at (φ := φ) (z := 1) b1 (k := j) (j := 0) (v := v) (by simpa using hj)
                  have hgetD : ((List.range m).map fun k => getE (pathOf (i + k)) els).getD j .nil = gE (i + j) els := by
                    simp [List.getD_eq_getElem?_getD, hj, gE]
                  rw [hgetD] at hfl
                  obtain ⟨v', hv'⟩ : ∃ v', (concL φ (gE (i + j) els))[0]? = some v' := by
                    rw [List.getElem?_eq_getElem (by omega)]; exact ⟨_, rfl⟩
                  have h5 := d3 0 v' hv'
                  have h6 := flat_at (φ := φ) (z := 1) b1 (k := j) (j := 0) (v := v') (by simpa using hj) (by rw [hgetD]; exact hv')
                  rw [b2, Nat.mul_one, Nat.add_zero, hv] at h6
                  cases h6
                  simp only [World.cell?, a1, Option.isSome_none, Bool.false_eq_true, if_false]
                  rw [a2]
                  rw [show p.base + i * 1 + 0 + j = p.base + (i + j) * 1 + 0 by omega]
                  exact h5
                have hsh : w.shape? (adr φ b i 0).block = some (elem, arr.size) := by
                  rw [adr_eq hp]; simp only [World.shape?, a1]
                have hlies := lies_byte (P := P) (u := u) (off := (adr φ b i 0).off) (n := bs'.length) (size := arr.size) c2 c3 (by rw [adr_eq hp, a2]; show p.base + i * 1 + 0 + bs'.length ≤ arr.size; omega)
                have run := us_some (t := t) ht hu (k := k) hne0 (by omega) b4 hcell hsh hlies
                rw [← hlen] at run
                have eb : (adr φ b i 0).block = p.blk := by rw [adr_eq hp]
                refine .inr ⟨_, _, h2, φ, _, Le.refl φ, H.shut hp hg hwr (by rw [← eb]; exact freeze_but (a := adr φ b i 0) (n := m)) (fun arr' el' frz' hh => by
                  rw [a1] at hh; cases hh; rw [← eb] at a1 ⊢; exact freeze_row a1), put_unt hp _ H.lim hbn, fun _ _ h => h, trivial, fun _ _ _ _ => ⟨_, step ?_ _ _ _ _, .inl rfl⟩⟩
                rw [hxe, hne]
                exact run
              · cases hl
          · cases h1
      · cases h1
  · cases h1
end
end Go.AbsK

namespace Go.AbsK
open Go
open Go.RowKit (Below)
set_option linter.unusedVariables false
set_option linter.unusedSimpArgs false
set_option linter.deprecated false

variable {P : Program} {T : Hints} {B : Nat} {w0 : World}
section
variable {φ : Plc} {e : E16} {L : Loc} {hs : HS} {w : World} {ρ : Operand → Value} {t : TypeId}

theorem count_ok (c : Nat) : ∀ (s : List Nat) (n : Nat), countL c s n = n + Lib.countByte (s.map UInt8.ofNat) (UInt8.ofNat c)
  | [], n => by simp [countL, Lib.countByte]
  | b :: r, n => by
    have e : Nat.beq (b % 256) (c % 256) = (UInt8.ofNat b == UInt8.ofNat c) := by
      rw [Bool.eq_iff_iff, beqN_iff, beq_iff_eq]
      constructor
      · intro h; apply UInt8.toNat_inj.1; simpa using h
      · intro h; have := congrArg UInt8.toNat h; simpa using this
    simp only [countL, count_ok c r, Lib.countByte, List.map_cons, List.count_cons, e]
    split <;> omega
theorem index_ok (c : Nat) : ∀ (s : List Nat) (i : Nat), indexByteL c s i = (if Lib.indexByte (s.map UInt8.ofNat) (UInt8.ofNat c) = -1 then -1 else Lib.indexByte (s.map UInt8.ofNat) (UInt8.ofNat c) + i)
  | [], i => by simp [indexByteL, Lib.indexByte]
  | b :: r, i => by
    have e : Nat.beq (b % 256) (c % 256) = (UInt8.ofNat b == UInt8.ofNat c) := by
      rw [Bool.eq_iff_iff, beqN_iff, beq_iff_eq]
      constructor
      · intro h; apply UInt8.toNat_inj.1; simpa using h
      · intro h; have := congrArg UInt8.toNat h; simpa using this
    have hg := Lib.indexByte_ge (r.map UInt8.ofNat) (UInt8.ofNat c)
    simp only [indexByteL, index_ok c r, Lib.indexByte, List.map_cons, e]
    cases (UInt8.ofNat b == UInt8.ofNat c) with
    | true => simp
    | false =>
      simp only [Bool.false_eq_true, if_false, beq_iff_eq]
      by_cases h : Lib.indexByte (r.map UInt8.ofNat) (UInt8.ofNat c) = -1
      · simp [h]
      · simp only [h, if_false]
        rw [if_neg (by omega)]
        omega
theorem toUInt8_eq (c : Nat) : (Int.ofNat c).toNat.toUInt8 = UInt8.ofNat c := rfl
/-- a library function without a Go body, by its name -/
theorem ext_find {fn : Func} (ho : fn.origin = "") {name : String} (hn : fn.name = name) {e : Array Value → Sem Value}
    (h1 : Extern.allNextRows.lookup name = none) (h2 : Extern.allNextRows.lookup "" = none)
    (h3 : Extern.allGenericRows.lookup name = none) (h4 : Extern.allTypedRows.lookup name = none) (h5 : Extern.allRows.lookup name = some e) : Extern.findNext fn = none ∧ Extern.find fn = some e := by
  subst hn
  unfold Extern.findNext Extern.find
  simp only [ho, h1, h2, h3, h4, h5]
  exact ⟨rfl, rfl⟩
set_option maxRecDepth 100000 in
theorem none_next : Extern.allNextRows.lookup "" = none := by kernel_rfl
theorem ext_call {f : Nat} {fn : Func} (hf : P.funcs[f]? = some fn) (hb : fn.body.isNone = true) (ho : fn.origin = "") {name : String} (hn : fn.name = name) {e : Array Value → Sem Value} (hne : (name == "runtime.NumGoroutine") = false)
    (h1 : Extern.allNextRows.lookup name = none) (h3 : Extern.allGenericRows.lookup name = none) (h4 : Extern.allTypedRows.lookup name = none) (h5 : Extern.allRows.lookup name = some e)
    {c : Call} (hc : c.callee = .value (.func f)) (hρ : ρ (.func f) = .func (.func f) #[] #[]) {v : Value} {w' : World} (hr : (e (c.args.map ρ)).run P w = .ok v w') (dst pos after guard) :
    (execOp ρ { dst, op := .call c, type := t, pos, after, guard }).run P w = .ok (.value v) w' := by
  obtain ⟨a, b⟩ := ext_find ho hn h1 none_next h3 h4 h5
  have key := run_callFunc_extern hf (by rw [hn]; exact hne) hb a b (c.args.map ρ) w
  rw [hr] at key
  simp only [execOp, resolve, hc, Sem.run_bind, Deferred.ofValue, hρ, Sem.run_pure, Result.andThen_ok, invoke, Array.empty_append, Array.append_empty]
  simp only [Result.andThen_ok] at key
  exact key
theorem lst_conc : ∀ (v : AV), concL φ v = (lst v).map (conc φ)
  | .cons h t => by simp only [concL, lst, List.map_cons, lst_conc t]
  | .nil => rfl
  | .int _ _ => rfl
  | .bool _ => rfl
  | .ptr _ _ _ => rfl
  | .sl _ _ _ _ _ => rfl
  | .str _ => rfl
  | .agg _ => rfl
  | .oth _ _ _ _ _ _ _ _ _ => rfl
theorem lst_df : ∀ {v : AV}, DfL φ v → ∀ x ∈ lst v, Df φ x
  | .cons h t, d => fun x hx => by
    simp only [lst, List.mem_cons] at hx
    rcases hx with rfl | hx
    · exact d.1
    · exact lst_df d.2 x hx
  | .nil, _ => fun x hx => by simp [lst] at hx
  | .int _ _, d => d.elim
  | .bool _, d => d.elim
  | .ptr _ _ _, d => d.elim
  | .sl _ _ _ _ _, d => d.elim
  | .str _, d => d.elim
  | .agg _, d => d.elim
  | .oth _ _ _ _ _ _ _ _ _, d => d.elim
theorem nameOf_fn {f : Nat} {s : String} (h : nameOf P f = s) (hs : s ≠ "") (hb : hasBody P f = false) : ∃ fn, P.funcs[f]? = some fn ∧ fn.body.isNone = true ∧ fn.origin = "" ∧ fn.name = s := by
  unfold nameOf at h
  unfold hasBody at hb
  rw [fnAt_eq] at h hb
  cases hf : P.funcs[f]? with
  | none => rw [hf] at h; exact absurd h.symm hs
  | some fn =>
    rw [hf] at h hb
    refine ⟨fn, rfl, ?_, ?_, ?_⟩
    · cases hbd : fn.body with
      | none => rfl
      | some b => exfalso; revert hb; cases fn; cases hbd; simp
    · simp only at h
      split at h
      · rename_i ho; simpa using ho
      · exact absurd h.symm hs
    · simp only at h
      split at h
      · exact h
      · exact absurd h.symm hs
set_option maxRecDepth 100000 in
theorem ok_extern (H : HOk P T B w0 φ hs w) {l : OL} {c : Call} {f : Nat} (hl : OLOk φ e L ρ l c.args.toList) (hc : c.callee = .value (.func f)) (hρ : ρ (.func f) = .func (.func f) #[] #[]) (hb : hasBody P f = false) :
    EffOk P T B w0 (hSlow (sExtern (nameOf P f) l)) (.call c) t φ e L hs w ρ := by
  rcases hSlow_eq (sExtern (nameOf P f) l) e L hs with h | ⟨hn, v, hs2, h1, h2⟩
  · exact .inl h
  unfold sExtern at h1
  have ha : c.args.map ρ = ((lst (evL l e L)).map (conc φ)).toArray := by rw [← lst_conc, evL_arr hl]
  have hd := lst_df (evL_ok hl).1
  generalize lst (evL l e L) = as at *
  split at h1
  · rename_i x hname
    cases h1
    obtain ⟨fn, g1, g2, g3, g4⟩ := nameOf_fn hname (by decide) hb
    refine .inr ⟨_, _, h2, φ, w, Le.refl φ, H, unt_refl φ _, fun _ _ h => h, hd _ List.mem_cons_self, fun _ _ _ _ => ⟨_, ext_call g1 g2 g3 g4 (e := Extern.AbiNoEscape.same) (by decide) (by kernel_rfl) (by kernel_rfl) (by kernel_rfl) (by kernel_rfl) hc hρ ?_ _ _ _ _, .inl rfl⟩⟩
    rw [ha]
    rfl
  · rename_i s cc hname
    cases h1
    obtain ⟨fn, g1, g2, g3, g4⟩ := nameOf_fn hname (by decide) hb
    refine .inr ⟨_, _, h2, φ, w, Le.refl φ, H, unt_refl φ _, fun _ _ h => h, trivial, fun _ _ _ _ => ⟨_, ext_call g1 g2 g3 g4 (e := Extern.BytealgCount.count) (by decide) (by kernel_rfl) (by kernel_rfl) (by kernel_rfl) (by kernel_rfl) hc hρ ?_ _ _ _ _, .inl rfl⟩⟩
    rw [ha]
    simp only [List.map_cons, List.map_nil, conc]
    rw [Lib.run_countString, toUInt8_eq, count_ok, Nat.zero_add]
    rfl
  · rename_i s cc hname
    cases h1
    obtain ⟨fn, g1, g2, g3, g4⟩ := nameOf_fn hname (by decide) hb
    refine .inr ⟨_, _, h2, φ, w, Le.refl φ, H, unt_refl φ _, fun _ _ h => h, trivial, fun _ _ _ _ => ⟨_, ext_call g1 g2 g3 g4 (e := Extern.BytealgIndexByte.indexByte) (by decide) (by kernel_rfl) (by kernel_rfl) (by kernel_rfl) (by kernel_rfl) hc hρ ?_ _ _ _ _, .inl rfl⟩⟩
    rw [ha]
    simp only [List.map_cons, List.map_nil, conc]
    rw [Lib.run_indexByteString, toUInt8_eq, index_ok]
    congr 2
    simp only [bs]
    split
    · rename_i h; simpa using h
    · simp
  · rename_i tt _ _ _ _ _ r _ _ _ _ _ _ _ _ hname
    split at h1
    · rename_i es clock hg
      simp only [new_eq, Option.some.injEq, Prod.mk.injEq] at h1
      obtain ⟨rfl, rfl⟩ := h1
      obtain ⟨fn, g1, g2, g3, g4⟩ := nameOf_fn hname (by decide) hb
      have hdm : (φ r).isSome = true := by simpa [Df] using hd _ List.mem_cons_self
      obtain ⟨m1, m2⟩ := map_at H hdm hg
      have hle := Le.set1 H.nextNone (⟨w.heap.size, 0, 0, 0⟩ : Pl)
      obtain ⟨φ', w', rfl, rfl, k1, k2, k3, k4⟩ := make_ok H hn (o := .map es clock) rfl (.map (concM φ es).toArray clock) (p := ⟨w.heap.size, 0, 0, 0⟩) rfl
          ⟨by rw [push_get, concM_up hle m2], m2.up hle⟩
      refine .inr ⟨_, _, h2, _, _, k1, k2, k3, k4, ?_, fun _ _ _ _ => ⟨_, ext_call g1 g2 g3 g4 (e := Extern.MapsClone.clone) (by decide) (by kernel_rfl) (by kernel_rfl) (by kernel_rfl) (by kernel_rfl) hc hρ ?_ _ _ _ _, .inl rfl⟩⟩
      · show ((set1 φ hs.next _) hs.next).isSome = true
        rw [set1_same]; rfl
      · rw [ha]
        simp only [List.map_cons, List.map_nil, conc]
        rw [show Extern.MapsClone.clone #[.iface tt (.map (some (pl φ r).blk))] = (getObj (pl φ r).blk >>= _) from rfl]
        simp only [Sem.run_bind, getObj_run m1 (fun _ _ _ h => by cases h), Result.andThen_ok, Sem.run_pure]
        have hpl : (pl (set1 φ hs.next ⟨w.heap.size, 0, 0, 0⟩) hs.next) = ⟨w.heap.size, 0, 0, 0⟩ := by simp [pl, set1_same]
        rw [hpl]
        rfl
    · cases h1
  · cases h1
end
end Go.AbsK

namespace Go.AbsK
open Go
open Go.RowKit (Below)
set_option linter.unusedVariables false
set_option linter.unusedSimpArgs false
set_option linter.deprecated false

variable {P : Program} {T : Hints} {B : Nat} {w0 : World}

/-- constants, functions, package variables are as the machine has them -/
structure StdR (ρ : Operand → Value) : Prop where
  const : ∀ v, ρ (.const v) = v
  func : ∀ f, ρ (.func f) = .func (.func f) #[] #[]
  glob : ∀ g, ρ (.global g) = .pointer (some ⟨g, 0, none⟩)
/-- an operation's operands, as far as they were turned -/
structure OpA (T : Hints) (fn : Nat) (ns : List Nat) (os : List Operand) (φ : Plc) (e : E16) (L : Loc) (ρ : Operand → Value) : Prop where
  std : StdR ρ
  ev : ∀ o ∈ os, ∀ x, cO T fn ns o = some x → EvOk φ e L ρ x o

/-- what an operation that was turned does -/
inductive OpOk (P : Program) (T : Hints) (B : Nat) (w0 : World) (fn : Nat) (ns : List Nat) (op : Op) (t : TypeId) : GO → Prop where
  | bad : OpOk P T B w0 fn ns op t .bad
  | pure {g} : (∀ φ e L hs w ρ, OpA T fn ns op.operands.toList φ e L ρ → VOk P g op t φ e L hs w ρ) → OpOk P T B w0 fn ns op t (.v g)
  | read {g} : readsOp op = true → (∀ φ e L hs w ρ, HOk P T B w0 φ hs w → OpA T fn ns op.operands.toList φ e L ρ → VOk P g op t φ e L hs w ρ) → OpOk P T B w0 fn ns op t (.v g)
  | new {g} : newOp op = true → (∀ e L hs, NOk P T B w0 g op t e L hs fun φ ρ => OpA T fn ns op.operands.toList φ e L ρ) → OpOk P T B w0 fn ns op t (.h g)
  | eff {g} : quietOp op = false → (∀ φ e L hs w ρ, HOk P T B w0 φ hs w → OpA T fn ns op.operands.toList φ e L ρ → EffOk P T B w0 g op t φ e L hs w ρ) → OpOk P T B w0 fn ns op t (.h g)
theorem NOk.imp {g : HO} {op : Op} {t : TypeId} {e : E16} {L : Loc} {hs : HS} {A A' : Plc → (Operand → Value) → Prop} (h : NOk P T B w0 g op t e L hs A) (k : ∀ φ ρ, A' φ ρ → A φ ρ) : NOk P T B w0 g op t e L hs A' := by
  rcases h with h | ⟨o, v, h1, h2, h3, h4⟩
  · exact .inl h
  · exact .inr ⟨o, v, h1, h2, h3, fun φ hs' w ρ ha => h4 φ hs' w ρ (k _ _ ha)⟩

theorem cV_cases {x : Option OB} {g : OB → VO} {R : GO → Prop} (hb : R .bad) (h : ∀ a, x = some a → R (.v (g a))) : R (cV x g) := by
  cases x with
  | none => exact hb
  | some a => exact h a rfl
theorem cH_cases {x : Option OB} {g : OB → HO} {R : GO → Prop} (hb : R .bad) (h : ∀ a, x = some a → R (.h (g a))) : R (cH x g) := by
  cases x with
  | none => exact hb
  | some a => exact h a rfl
theorem cV2_cases {x y : Option OB} {g : OB → OB → VO} {R : GO → Prop} (hb : R .bad) (h : ∀ a b, x = some a → y = some b → R (.v (g a b))) : R (cV2 x y g) := by
  cases x with
  | none => exact hb
  | some a => cases y with
    | none => exact hb
    | some b => exact h a b rfl rfl
theorem cH2_cases {x y : Option OB} {g : OB → OB → HO} {R : GO → Prop} (hb : R .bad) (h : ∀ a b, x = some a → y = some b → R (.h (g a b))) : R (cH2 x y g) := by
  cases x with
  | none => exact hb
  | some a => cases y with
    | none => exact hb
    | some b => exact h a b rfl rfl
theorem nbeq {n : Nat} (h : ¬ Nat.beq n 0 = true) : n ≠ 0 := fun e => h (by subst e; rfl)

section
variable {fn : Nat} {ns : List Nat} {φ : Plc} {e : E16} {L : Loc} {ρ : Operand → Value}
theorem cOL_ok : ∀ {os : List Operand} {l : OL}, (∀ o ∈ os, ∀ x, cO T fn ns o = some x → EvOk φ e L ρ x o) → cOL T fn ns os = some l → OLOk φ e L ρ l os
  | [], l, _, h => by cases h; exact .nil
  | o :: os, l, ha, h => by
    simp only [cOL] at h
    split at h
    · rename_i a t h1 h2
      cases h
      exact .cons (ha o List.mem_cons_self a h1) (cOL_ok (fun o' ho' => ha o' (List.mem_cons_of_mem _ ho')) h2)
    · cases h
theorem cPL_ok {place : Nat → Option (Nat × Nat)} : ∀ {ps : List (Nat × Operand)} {l : PL}, (∀ o ∈ ps.map (·.2), ∀ x, cO T fn ns o = some x → EvOk φ e L ρ x o) → cPL T fn ns place ps = some l → PLOk φ e L ρ place l ps
  | [], l, _, h => by cases h; exact .nil
  | (i, o) :: os, l, ha, h => by
    simp only [cPL] at h
    split at h
    · rename_i off sz a t h1 h2 h3
      cases h
      exact .cons h1 (ha o (by simp) a h2) (cPL_ok (fun o' ho' => ha o' (by simp at ho' ⊢; exact .inr ho')) h3)
    · cases h
theorem cParts_ok : ∀ {ps : List (Nat × Operand)} {l : List (Nat × OB)}, (∀ o ∈ ps.map (·.2), ∀ x, cO T fn ns o = some x → EvOk φ e L ρ x o) → cParts T fn ns ps = some l → PartsOk φ e L ρ l ps
  | [], l, _, h => by cases h; exact .nil
  | (i, o) :: os, l, ha, h => by
    simp only [cParts] at h
    split at h
    · rename_i a t h2 h3
      cases h
      exact .cons (ha o (by simp) a h2) (cParts_ok (fun o' ho' => ha o' (by simp at ho' ⊢; exact .inr ho')) h3)
    · cases h
theorem cOpt_ok {o : Option Operand} {x : Option OB} (ha : ∀ y, o = some y → ∀ x, cO T fn ns y = some x → EvOk φ e L ρ x y) (h : cOpt T fn ns o = some x) : OptOk φ e L ρ x o := by
  cases o with
  | none => cases h; exact .none
  | some y =>
    simp only [cOpt, Option.map_eq_some_iff] at h
    obtain ⟨a, h1, rfl⟩ := h
    exact .some (ha y rfl a h1)
end
end Go.AbsK

namespace Go.AbsK
open Go
open Go.RowKit (Below)
set_option linter.unusedVariables false
set_option linter.unusedSimpArgs false
set_option linter.deprecated false

variable {P : Program} {T : Hints} {B : Nat} {w0 : World}
section
variable {fn : Nat} {ns : List Nat} {t : TypeId}
abbrev OK (P : Program) (T : Hints) (B : Nat) (w0 : World) (fn : Nat) (ns : List Nat) (op : Op) (t : TypeId) : GO → Prop := OpOk P T B w0 fn ns op t

theorem nb {b : Bool} (h : ¬ b = true) : b = false := by cases b <;> simp_all
theorem quietC {c : Call} {b : Builtin} (hc : c.callee = .builtin b) {r : Bool} (h : quietOp (.call { callee := .builtin b, args := c.args, argTypes := c.argTypes }) = r) : quietOp (.call c) = r := by
  cases c; cases hc; exact h
theorem readsC {c : Call} (hc : c.callee = .builtin .len) : readsOp (.call c) = true := by
  cases c; cases hc; rfl
theorem okMove (x : Operand) : OK P T B w0 fn ns (.move x) t (gMove T x fn ns) :=
  cV_cases .bad fun a h => .pure fun φ e L hs w ρ A => ok_move (A.ev x (by simp [Op.operands]) a h)
theorem okAssign (x : Operand) : OK P T B w0 fn ns (.assign x) t (gMove T x fn ns) :=
  cV_cases .bad fun a h => .pure fun φ e L hs w ρ A => ok_assign (A.ev x (by simp [Op.operands]) a h)
theorem okPick (c a b : Operand) : OK P T B w0 fn ns (.pick c a b) t (gPick T c a b fn ns) := by
  unfold gPick
  split
  · rename_i xc xa xb h1 h2 h3
    exact .pure fun φ e L hs w ρ A => ok_pick (A.ev c (by simp [Op.operands]) _ h1) (A.ev a (by simp [Op.operands]) _ h2) (A.ev b (by simp [Op.operands]) _ h3)
  · exact .bad
theorem okAlloc (tt : Nat) : OK P T B w0 fn ns (.alloc tt) t (gAlloc P tt fn ns) := by
  unfold gAlloc
  split
  · exact .bad
  · rename_i h
    simp only [Bool.or_eq_true, not_or, Bool.not_eq_true', Bool.not_eq_false] at h
    obtain ⟨⟨h1, h2⟩, h3⟩ := h
    have hz : zeroP P tt = some (zeroV P tt) := by unfold zeroP; rw [if_pos (by simpa using h3)]
    exact .new rfl fun e L hs => (ok_alloc hz (nbeq h1) (by simpa [zeroC] using h2)).imp fun _ _ _ => trivial
theorem okBox (tt : Nat) (x : Operand) : OK P T B w0 fn ns (.box tt x) t (gBox P T tt x fn ns) := by
  unfold gBox
  split
  · exact .bad
  · rename_i h
    exact cH_cases .bad fun a ha => .new rfl fun e L hs => (ok_box (nbeq h)).imp fun φ ρ A => A.ev x (by simp [Op.operands]) a ha
theorem okBuild (tt : Nat) (ps : Array (Nat × Operand)) : OK P T B w0 fn ns (.build tt ps) t (gBuild P T tt ps fn ns) := by
  unfold gBuild
  split
  · rename_i z fields hz hu
    split
    · rename_i hf
      split
      · rename_i l hl
        exact .pure fun φ e L hs w ρ A => ok_buildS hz hu hf (cPL_ok (fun o ho => A.ev o (by simpa [Op.operands] using ho)) hl)
      · exact .bad
    · exact .bad
  · rename_i z n el hz hu
    split
    · exact .bad
    · rename_i hc
      split
      · rename_i l hl
        exact .pure fun φ e L hs w ρ A => ok_buildA hz hu (nbeq hc) (cPL_ok (fun o ho => A.ev o (by simpa [Op.operands] using ho)) hl)
      · exact .bad
  · exact .bad
theorem elemOf_und {tt el : TypeId} (h : elemOf P tt = some el) : und P tt = some (.slice el) := by
  unfold elemOf at h
  split at h
  · rename_i hu; cases h; exact hu
  · cases h
theorem okBuildSlice (tt n : Nat) (ps : Array (Nat × Operand)) : OK P T B w0 fn ns (.buildSlice tt n ps) t (gBuildSlice P T tt n ps fn ns) := by
  unfold gBuildSlice
  split
  · rename_i el l he hl
    split
    · rename_i z hz
      split
      · exact .bad
      · rename_i hc
        exact .new rfl fun e L hs => (ok_buildSlice (elemOf_und he) hz (nbeq hc)).imp fun φ ρ A => cParts_ok (fun o ho => A.ev o (by simpa [Op.operands] using ho)) hl
    · exact .bad
  · exact .bad
theorem okLoad (tt : Nat) (a : Operand) : OK P T B w0 fn ns (.load tt a) t (gLoad P T tt a fn ns) := by
  unfold gLoad
  split
  · rename_i h
    exact cV_cases .bad fun x hx => .read rfl fun φ e L hs w ρ H A => ok_loadA H (A.ev a (by simp [Op.operands]) x hx) h
  · rename_i h
    exact cV_cases .bad fun x hx => .read rfl fun φ e L hs w ρ H A => ok_load1 H (A.ev a (by simp [Op.operands]) x hx) h
  · exact .bad
theorem okStore (tt : Nat) (a x : Operand) : OK P T B w0 fn ns (.store tt a x) t (gStore P T tt a x fn ns) := by
  unfold gStore
  split
  · exact .bad
  · rename_i hc
    exact cH2_cases .bad fun b c hb hc' => .eff rfl fun φ e L hs w ρ H A => ok_store H (A.ev a (by simp [Op.operands]) b hb) (A.ev x (by simp [Op.operands]) c hc') (nbeq hc)
theorem okNilCheck (x : Operand) : OK P T B w0 fn ns (.nilCheck x) t (gNilCheck T x fn ns) :=
  cV_cases .bad fun a h => .pure fun φ e L hs w ρ A => ok_nilCheck (A.ev x (by simp [Op.operands]) a h)
theorem okFieldAddr (s : Nat) (x : Operand) (f : Nat) : OK P T B w0 fn ns (.fieldAddr s x f) t (gFieldAddr P T s x f fn ns) := by
  unfold gFieldAddr
  split
  · rename_i fd hf
    split
    · exact .bad
    · rename_i hc
      exact cV_cases .bad fun a h => .pure fun φ e L hs w ρ A => ok_fieldAddr (A.ev x (by simp [Op.operands]) a h) hf (nb hc)
  · exact .bad
theorem okField (s : Nat) (x : Operand) (f : Nat) : OK P T B w0 fn ns (.field s x f) t (gField P T s x f fn ns) := by
  unfold gField
  split
  · rename_i fd hf
    split
    · rename_i ha
      exact cV_cases .bad fun a h => .pure fun φ e L hs w ρ A => ok_fieldA (A.ev x (by simp [Op.operands]) a h) hf ha
    · rename_i ha
      exact cV_cases .bad fun a h => .pure fun φ e L hs w ρ A => ok_field1 (A.ev x (by simp [Op.operands]) a h) hf ha
    · exact .bad
  · exact .bad
theorem okBinS (op : BinOp) (tt : Nat) (x y : Operand) (yt : TypeId) : OK P T B w0 fn ns (.binOp op tt x y yt) t (gBinS P T op tt x y fn ns) :=
  cV2_cases .bad fun a b ha hb => .pure fun φ e L hs w ρ A => ok_bin (A.ev x (by simp [Op.operands]) a ha) (A.ev y (by simp [Op.operands]) b hb)
theorem okBinI {op : BinOp} {g : OB → OB → VO} (tt : Nat) (x y : Operand) (yt : TypeId)
    (h : ∀ φ e L hs w ρ a b, EvOk φ e L ρ a x → EvOk φ e L ρ b y → VOk P (g a b) (.binOp op tt x y yt) t φ e L hs w ρ) : OK P T B w0 fn ns (.binOp op tt x y yt) t (gBinI P T op g tt x y fn ns) := by
  unfold gBinI
  split
  · exact cV2_cases .bad fun a b ha hb => .pure fun φ e L hs w ρ A => h _ _ _ _ _ _ _ _ (A.ev x (by simp [Op.operands]) a ha) (A.ev y (by simp [Op.operands]) b hb)
  · exact okBinS op tt x y yt
theorem okEq {op : BinOp} {flip : Bool} (hf : flipOk op flip) (tt : Nat) (x y : Operand) (yt : TypeId) : OK P T B w0 fn ns (.binOp op tt x y yt) t (gEq P T flip op tt x y fn ns) :=
  cV2_cases .bad fun a b ha hb => .pure fun φ e L hs w ρ A => ok_eq hf (A.ev x (by simp [Op.operands]) a ha) (A.ev y (by simp [Op.operands]) b hb)
theorem okBin (op : BinOp) (tt : Nat) (x y : Operand) (yt : TypeId) : OK P T B w0 fn ns (.binOp op tt x y yt) t (gBin P T op tt x y fn ns) := by
  cases op with
  | add => exact okBinI tt x y yt fun _ _ _ _ _ _ _ _ h1 h2 => ok_add h1 h2
  | sub => exact okBinI tt x y yt fun _ _ _ _ _ _ _ _ h1 h2 => ok_sub h1 h2
  | lss => exact okBinI tt x y yt fun _ _ _ _ _ _ _ _ h1 h2 => ok_lss h1 h2
  | leq => exact okBinI tt x y yt fun _ _ _ _ _ _ _ _ h1 h2 => ok_leq h1 h2
  | gtr => exact okBinI tt x y yt fun _ _ _ _ _ _ _ _ h1 h2 => ok_gtr h1 h2
  | geq => exact okBinI tt x y yt fun _ _ _ _ _ _ _ _ h1 h2 => ok_geq h1 h2
  | eql => exact okEq (.inl ⟨rfl, rfl⟩) tt x y yt
  | neq => exact okEq (.inr ⟨rfl, rfl⟩) tt x y yt
  | _ => exact okBinS _ tt x y yt
theorem okUn (op : UnOp) (tt : Nat) (x : Operand) : OK P T B w0 fn ns (.unOp op tt x) t (gUn P T op x fn ns) := by
  unfold gUn
  split
  · exact cV_cases .bad fun a h => .pure fun φ e L hs w ρ A => ok_not (A.ev x (by simp [Op.operands]) a h)
  · exact cV_cases .bad fun a h => .pure fun φ e L hs w ρ A => ok_un (A.ev x (by simp [Op.operands]) a h)
theorem okConvert (s d : Nat) (x : Operand) : OK P T B w0 fn ns (.convert s d x) t (gConvert P T s d x fn ns) := by
  unfold gConvert
  split
  · rename_i h1 h2
    exact cV_cases .bad fun a h => .pure fun φ e L hs w ρ A => ok_convStr (A.ev x (by simp [Op.operands]) a h) h1 h2
  · rename_i el h1 h2
    split
    · rename_i h3
      exact cH_cases .bad fun a ha => .new rfl fun e L hs => (ok_toBytes h1 h2 h3).imp fun φ ρ A => A.ev x (by simp [Op.operands]) a ha
    · exact .bad
  · rename_i el h1 h2
    split
    · rename_i h3
      exact cV_cases .bad fun a h => .read rfl fun φ e L hs w ρ H A => ok_toStr H (A.ev x (by simp [Op.operands]) a h) h1 h2 h3
    · exact .bad
  · rename_i el h1 h2
    split
    · exact .bad
    · rename_i hc
      exact cV_cases .bad fun a h => .read rfl fun φ e L hs w ρ H A => ok_ptrOnly H (A.ev x (by simp [Op.operands]) a h) h1 h2 (nbeq hc)
  · rename_i u h1 h2
    split
    · exact .bad
    · rename_i hc
      exact cV_cases .bad fun a h => .read rfl fun φ e L hs w ρ H A => ok_unsafePtr H (A.ev x (by simp [Op.operands]) a h) h1 h2 (nbeq hc)
  · exact cV_cases .bad fun a h => .pure fun φ e L hs w ρ A => ok_convGen (A.ev x (by simp [Op.operands]) a h)
  · exact cV_cases .bad fun a h => .pure fun φ e L hs w ρ A => ok_convGen (A.ev x (by simp [Op.operands]) a h)
  · exact .bad
theorem okIface (tt : Nat) (x : Operand) : OK P T B w0 fn ns (.makeInterface tt x) t (gIface P T tt x fn ns) := by
  unfold gIface
  split
  · exact .bad
  · rename_i d hni hu
    exact cV_cases .bad fun a h => .pure fun φ e L hs w ρ A => ok_iface (A.ev x (by simp [Op.operands]) a h) hu fun ms hm => hni ms hm
  · exact .bad
theorem okFunc (f : Fn) (a b : Array Operand) : OK P T B w0 fn ns (.makeFunc f a b) t (gFunc T f a b fn ns) := by
  unfold gFunc
  split
  · split
    · rename_i la lb h1 h2
      exact .pure fun φ e L hs w ρ A => ok_func (cOL_ok (fun o ho => A.ev o (by simp [Op.operands] at ho ⊢; exact .inl ho)) h1) (cOL_ok (fun o ho => A.ev o (by simp [Op.operands] at ho ⊢; exact .inr ho)) h2)
    · exact .bad
  · exact .bad
theorem okMakeMap (tt : Nat) (r : Option Operand) : OK P T B w0 fn ns (.makeMap tt r) t (gMakeMap P tt r fn ns) := by
  unfold gMakeMap
  split
  · exact .new rfl fun e L hs => ok_makeMap.imp fun _ _ _ => trivial
  · split
    · rename_i hu
      exact .new rfl fun e L hs => (ok_makeMapR hu (fun _ => trivial)).imp fun _ _ A => A.std.const _
    · exact .bad
  · exact .bad
theorem okMakeSlice (tt : Nat) (l c : Operand) : OK P T B w0 fn ns (.makeSlice tt l c) t (gMakeSlice P T tt l c fn ns) := by
  unfold gMakeSlice
  split
  · rename_i el he
    split
    · rename_i z hz
      split
      · exact .bad
      · rename_i h
        simp only [Bool.or_eq_true, not_or, Bool.not_eq_true', Bool.not_eq_false] at h
        exact cH2_cases .bad fun a b ha hb => .new rfl fun e L hs => (ok_makeSlice (elemOf_und he) hz (nbeq h.1) h.2).imp fun φ ρ A => ⟨A.ev l (by simp [Op.operands]) a ha, A.ev c (by simp [Op.operands]) b hb⟩
    · exact .bad
  · exact .bad
theorem okSlice (tt : Nat) (x : Operand) (lo hi mx : Option Operand) : OK P T B w0 fn ns (.slice tt x lo hi mx) t (gSlice P T tt x lo hi mx fn ns) := by
  unfold gSlice
  split
  · rename_i xx xl xh xm h1 h2 h3 h4
    have A0 : ∀ {φ e L ρ}, OpA T fn ns (Op.slice tt x lo hi mx).operands.toList φ e L ρ → EvOk φ e L ρ xx x ∧ OptOk φ e L ρ xl lo ∧ OptOk φ e L ρ xh hi ∧ OptOk φ e L ρ xm mx := fun {φ e L ρ} A =>
      ⟨A.ev x (by simp [Op.operands]) _ h1, cOpt_ok (fun y hy => A.ev y (by subst hy; simp [Op.operands])) h2, cOpt_ok (fun y hy => A.ev y (by subst hy; simp [Op.operands])) h3, cOpt_ok (fun y hy => A.ev y (by subst hy; simp [Op.operands])) h4⟩
    split
    · exact .bad
    · rename_i hmh
      have hmh : (xm.isSome && xh.isNone) = false := nb hmh
      split
      · rename_i hu
        split
        · exact .bad
        · rename_i hms
          have : xm = none := by cases xm with | none => rfl | some _ => simp at hms
          subst this
          have : mx = none := by cases mx with | none => rfl | some y => simp [cOpt] at h4
          subst this
          exact .pure fun φ e L hs w ρ A => ok_sliceS (A0 A).1 (A0 A).2.1 (A0 A).2.2.1 hu
      · rename_i el hu
        split
        · exact .bad
        · rename_i hc
          exact .read rfl fun φ e L hs w ρ H A => ok_sliceSl H (A0 A).1 (A0 A).2.1 (A0 A).2.2.1 (A0 A).2.2.2 hmh hu (nbeq hc)
      · rename_i n el hu
        split
        · exact .bad
        · rename_i hc
          exact .pure fun φ e L hs w ρ A => ok_sliceArr (A0 A).1 (A0 A).2.1 (A0 A).2.2.1 (A0 A).2.2.2 hmh hu (nbeq hc)
      · exact .bad
  · exact .bad
theorem okIdxAddr (tt : Nat) (x i : Operand) : OK P T B w0 fn ns (.indexAddr tt x i) t (gIdxAddr P T tt x i fn ns) := by
  unfold gIdxAddr
  split
  · rename_i el hu
    split
    · exact .bad
    · rename_i hc
      exact cV2_cases .bad fun a b ha hb => .read rfl fun φ e L hs w ρ H A => ok_idxAddr H (A.ev x (by simp [Op.operands]) a ha) (A.ev i (by simp [Op.operands]) b hb) hu (nbeq hc)
  · rename_i n el hu
    split
    · exact .bad
    · rename_i hc
      simp only [Bool.or_eq_true, not_or] at hc
      exact cV2_cases .bad fun a b ha hb => .pure fun φ e L hs w ρ A => ok_idxAddrA (A.ev x (by simp [Op.operands]) a ha) (A.ev i (by simp [Op.operands]) b hb) hu (nb hc.1) (nbeq hc.2)
  · exact .bad
theorem okIndex (tt : Nat) (x i : Operand) : OK P T B w0 fn ns (.index tt x i) t (gIndex P T tt x i fn ns) := by
  unfold gIndex
  split
  · rename_i hu
    exact cV2_cases .bad fun a b ha hb => .pure fun φ e L hs w ρ A => ok_idxStr (A.ev x (by simp [Op.operands]) a ha) (A.ev i (by simp [Op.operands]) b hb) hu
  · rename_i n el hu
    split
    · rename_i ag hag
      exact cV2_cases .bad fun a b ha hb => .pure fun φ e L hs w ρ A => ok_idxAgg (A.ev x (by simp [Op.operands]) a ha) (A.ev i (by simp [Op.operands]) b hb) hu hag
    · exact .bad
  · exact .bad
theorem okLookup (tt : Nat) (x i : Operand) (ok : Bool) : OK P T B w0 fn ns (.lookup tt x i ok) t (gLookup P T tt x i ok fn ns) := by
  unfold gLookup
  split
  · rename_i k el hu
    split
    · rename_i z hz
      exact cV2_cases .bad fun a b ha hb => .read rfl fun φ e L hs w ρ H A => ok_lookup H (A.ev x (by simp [Op.operands]) a ha) (A.ev i (by simp [Op.operands]) b hb) hu hz
    · exact .bad
  · exact .bad
theorem okMapUpdate (tt : Nat) (m k x : Operand) : OK P T B w0 fn ns (.mapUpdate tt m k x) t (gMapUpdate P T tt m k x fn ns) := by
  unfold gMapUpdate
  split
  · rename_i a b c h1 h2 h3
    exact .eff rfl fun φ e L hs w ρ H A => ok_mapUpdate (ins := false) H (A.ev m (by simp [Op.operands]) a h1) (A.ev k (by simp [Op.operands]) b h2) (A.ev x (by simp [Op.operands]) c h3)
  · exact .bad
theorem okInsert (tt : Nat) (m k x : Operand) : OK P T B w0 fn ns (.insert tt m k x) t (gMapUpdate P T tt m k x fn ns) := by
  unfold gMapUpdate
  split
  · rename_i a b c h1 h2 h3
    exact .eff rfl fun φ e L hs w ρ H A => ok_mapUpdate (ins := true) H (A.ev m (by simp [Op.operands]) a h1) (A.ev k (by simp [Op.operands]) b h2) (A.ev x (by simp [Op.operands]) c h3)
  · exact .bad
theorem okMapEntry (tt : Nat) (m k : Operand) : OK P T B w0 fn ns (.mapEntry tt m k) t (gMapEntry P T tt m k fn ns) := by
  unfold gMapEntry
  split
  · rename_i kt el hu
    split
    · rename_i z hz
      exact cH2_cases .bad fun a b ha hb => .eff rfl fun φ e L hs w ρ H A => ok_mapEntry H (A.ev m (by simp [Op.operands]) a ha) (A.ev k (by simp [Op.operands]) b hb) hu hz
    · exact .bad
  · exact .bad
theorem okEntryStore (tt : Nat) (m s x : Operand) : OK P T B w0 fn ns (.entryStore tt m s x) t (gEntryStore T m s x fn ns) := by
  unfold gEntryStore
  split
  · rename_i a b c h1 h2 h3
    exact .eff rfl fun φ e L hs w ρ H A => ok_entryStore H (A.ev m (by simp [Op.operands]) a h1) (A.ev s (by simp [Op.operands]) b h2) (A.ev x (by simp [Op.operands]) c h3)
  · exact .bad
theorem okRange (tt : Nat) (x : Operand) : OK P T B w0 fn ns (.range tt x) t (gRange P T tt x fn ns) := by
  unfold gRange
  split
  · rename_i hu
    exact cH_cases .bad fun a h => .eff rfl fun φ e L hs w ρ H A => ok_range H (A.ev x (by simp [Op.operands]) a h) (.inl ⟨rfl, hu⟩)
  · rename_i k el hu
    exact cH_cases .bad fun a h => .eff rfl fun φ e L hs w ρ H A => ok_range H (A.ev x (by simp [Op.operands]) a h) (.inr ⟨rfl, k, el, hu⟩)
  · exact .bad
theorem okNext (x : Operand) (s : Bool) : OK P T B w0 fn ns (.next x s) t (gNext T x s fn ns) :=
  cH_cases .bad fun a h => .eff rfl fun φ e L hs w ρ H A => ok_next H (A.ev x (by simp [Op.operands]) a h)
theorem okEntry (x : Operand) : OK P T B w0 fn ns (.entry x) t (gEntry T x fn ns) :=
  cV_cases .bad fun a h => .read rfl fun φ e L hs w ρ H A => ok_entry H (A.ev x (by simp [Op.operands]) a h)
theorem okAssert (x : Operand) (xt a : Nat) (ok : Bool) : OK P T B w0 fn ns (.typeAssert x xt a ok) t (gAssert P T x a ok fn ns) :=
  cV_cases .bad fun b h => .pure fun φ e L hs w ρ A => ok_assert (A.ev x (by simp [Op.operands]) b h)
theorem okExtract (x : Operand) (i : Nat) : OK P T B w0 fn ns (.extract x i) t (gExtract T x i fn ns) :=
  cV_cases .bad fun a h => .pure fun φ e L hs w ρ A => ok_extract (A.ev x (by simp [Op.operands]) a h)
theorem argsIn {c : Call} {o : Operand} (h : o ∈ c.args.toList) : o ∈ (Op.call c).operands.toList := by simp [Op.operands, Call.operands] at h ⊢; exact .inr h
theorem okAppend {c : Call} (hc : c.callee = .builtin .append) : OK P T B w0 fn ns (.call c) t (gAppend P T c fn ns) := by
  unfold gAppend
  split
  · rename_i s x ha
    split
    · exact .bad
    · rename_i el d hni he hd
      split
      · exact .bad
      · rename_i h
        simp only [Bool.or_eq_true, not_or, Bool.not_eq_true', Bool.not_eq_false] at h
        split
        · rename_i z hz
          split
          · rename_i hl
            have A1 : AppT P c el z := by
              simp only [Option.bind_eq_some_iff] at he hd
              obtain ⟨st, s1, s2⟩ := he
              obtain ⟨xt, x1, x2⟩ := hd
              exact ⟨⟨st, s1, elemOf_und s2⟩, ⟨xt, _, x1, x2, fun k hk => hni k hk⟩, hz, hl, h.2, nbeq h.1⟩
            exact cH2_cases .bad fun a b h1 h2 => .eff (quietC hc rfl) fun φ e L hs w ρ H A => ok_append H (A.ev s (argsIn (by rw [ha]; simp)) a h1) (A.ev x (argsIn (by rw [ha]; simp)) b h2) A1 hc ha
          · exact .bad
        · exact .bad
    · exact .bad
  · exact .bad
theorem okLen {c : Call} (hc : c.callee = .builtin .len) : OK P T B w0 fn ns (.call c) t (gLen P T c fn ns) := by
  have hr : readsOp (.call c) = true := readsC hc
  unfold gLen
  split
  · rename_i x ha
    split
    · rename_i n el hu
      simp only [Option.bind_eq_some_iff] at hu
      obtain ⟨st, s1, s2⟩ := hu
      exact .pure fun φ e L hs w ρ A => ok_lenA hc ha s1 s2
    · rename_i k el hu
      simp only [Option.bind_eq_some_iff] at hu
      obtain ⟨st, s1, s2⟩ := hu
      exact cV_cases .bad fun a h => .read hr fun φ e L hs w ρ H A => ok_lenMap H (A.ev x (argsIn (by rw [ha]; simp)) a h) hc ha s1 s2
    · rename_i hu
      simp only [Option.bind_eq_some_iff] at hu
      obtain ⟨st, s1, s2⟩ := hu
      exact cV_cases .bad fun a h => .pure fun φ e L hs w ρ A => ok_lenS (A.ev x (argsIn (by rw [ha]; simp)) a h) hc ha s1 s2
    · rename_i el hu
      simp only [Option.bind_eq_some_iff] at hu
      obtain ⟨st, s1, s2⟩ := hu
      exact cV_cases .bad fun a h => .pure fun φ e L hs w ρ A => ok_len (A.ev x (argsIn (by rw [ha]; simp)) a h) hc ha s1 s2
    · exact .bad
  · exact .bad
theorem okMinMax {c : Call} {m : Bool} (hc : c.callee = .builtin (if m then .max else .min)) : OK P T B w0 fn ns (.call c) t (gMinMax P T m c fn ns) := by
  unfold gMinMax
  split
  · rename_i l hl
    exact .pure fun φ e L hs w ρ A => ok_minMax (cOL_ok (fun o ho => A.ev o (argsIn ho)) hl) hc
  · exact .bad
theorem okCopy {c : Call} (hc : c.callee = .builtin .copy) : OK P T B w0 fn ns (.call c) t (gCopy P T c fn ns) := by
  unfold gCopy
  cases he : (c.argTypes[0]?).bind (elemOf P) with
  | none => exact .bad
  | some el =>
    simp only []
    by_cases hz : Nat.beq (csz P el) 0 = true
    · rw [if_pos hz]; exact .bad
    · rw [if_neg hz]
      unfold g2
      split
      · rename_i d s ha
        simp only [Option.bind_eq_some_iff] at he
        obtain ⟨st, s1, s2⟩ := he
        exact cH2_cases .bad fun a b h1 h2 => .eff (quietC hc rfl) fun φ e L hs w ρ H A => ok_copy H (A.ev d (argsIn (by rw [ha]; simp)) a h1) (A.ev s (argsIn (by rw [ha]; simp)) b h2) hc ha s1 (elemOf_und s2) (nbeq hz)
      · exact .bad
theorem okDelete {c : Call} (hc : c.callee = .builtin .delete) : OK P T B w0 fn ns (.call c) t (gDelete P T c fn ns) := by
  unfold gDelete
  cases ht : c.argTypes[0]? with
  | none => exact .bad
  | some tt =>
    simp only []
    unfold g2
    split
    · rename_i m k ha
      exact cH2_cases .bad fun a b h1 h2 => .eff (quietC hc rfl) fun φ e L hs w ρ H A => ok_delete H (A.ev m (argsIn (by rw [ha]; simp)) a h1) (A.ev k (argsIn (by rw [ha]; simp)) b h2) hc ha ht
    · exact .bad
theorem okSliceData {c : Call} (hc : c.callee = .builtin .unsafeSliceData) : OK P T B w0 fn ns (.call c) t (gSliceData T c fn ns) := by
  unfold gSliceData
  split
  · rename_i x ha
    exact cV_cases .bad fun a h => .pure fun φ e L hs w ρ A => ok_sliceData (A.ev x (argsIn (by rw [ha]; simp)) a h) hc ha
  · exact .bad
theorem okUnsafeString {c : Call} (hc : c.callee = .builtin .unsafeString) : OK P T B w0 fn ns (.call c) t (gUnsafeString P T c fn ns) := by
  unfold gUnsafeString
  split
  · rename_i x n u ha hu
    simp only [Option.bind_eq_some_iff] at hu
    obtain ⟨st, s1, s2⟩ := hu
    exact cH2_cases .bad fun a b h1 h2 => .eff (quietC hc rfl) fun φ e L hs w ρ H A => ok_unsafeString H (A.ev x (argsIn (by rw [ha]; simp)) a h1) (A.ev n (argsIn (by rw [ha]; simp)) b h2) hc ha s1 s2
  · exact .bad
theorem okBuiltin (b : Builtin) {c : Call} (hc : c.callee = .builtin b) : OK P T B w0 fn ns (.call c) t (gBuiltin P T b c fn ns) := by
  cases b with
  | append => exact okAppend hc
  | copy => exact okCopy hc
  | delete => exact okDelete hc
  | len => exact okLen hc
  | max => exact okMinMax (m := true) hc
  | min => exact okMinMax (m := false) hc
  | unsafeSliceData => exact okSliceData hc
  | unsafeString => exact okUnsafeString hc
  | _ => exact .bad
/-- every operation that was turned -/
theorem opOk (op : Op) : OpOk P T B w0 fn ns op t (cOp P T op fn ns) := by
  cases op with
  | move x => exact okMove x
  | assign x => exact okAssign x
  | pick c a b => exact okPick c a b
  | alloc tt => exact okAlloc tt
  | box tt x => exact okBox tt x
  | build tt ps => exact okBuild tt ps
  | buildSlice tt n ps => exact okBuildSlice tt n ps
  | insert tt m k x => exact okInsert tt m k x
  | load tt a => exact okLoad tt a
  | store tt a x => exact okStore tt a x
  | nilCheck x => exact okNilCheck x
  | binOp op tt x y yt => exact okBin op tt x y yt
  | unOp op tt x => exact okUn op tt x
  | convert s d x => exact okConvert s d x
  | makeInterface tt x => exact okIface tt x
  | makeFunc f a b => exact okFunc f a b
  | makeMap tt r => exact okMakeMap tt r
  | makeSlice tt l c => exact okMakeSlice tt l c
  | slice tt x lo hi mx => exact okSlice tt x lo hi mx
  | fieldAddr s x f => exact okFieldAddr s x f
  | field s x f => exact okField s x f
  | indexAddr tt x i => exact okIdxAddr tt x i
  | index tt x i => exact okIndex tt x i
  | lookup tt x i ok => exact okLookup tt x i ok
  | mapUpdate tt m k x => exact okMapUpdate tt m k x
  | mapEntry tt m k => exact okMapEntry tt m k
  | entryStore tt m s x => exact okEntryStore tt m s x
  | range tt x => exact okRange tt x
  | next x s => exact okNext x s
  | entry x => exact okEntry x
  | typeAssert x xt a ok => exact okAssert x xt a ok
  | extract x i => exact okExtract x i
  | call c =>
    show OpOk P T B w0 fn ns _ t (gCall P T c fn ns)
    unfold gCall
    cases hc : c.callee with
    | builtin b => exact okBuiltin b hc
    | _ => exact .bad
  | _ => exact .bad
end
end Go.AbsK
