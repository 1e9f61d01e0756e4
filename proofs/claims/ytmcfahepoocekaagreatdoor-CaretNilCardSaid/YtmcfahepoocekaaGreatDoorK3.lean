/-
  An abstract machine for closed calls, and that it is sound (part 3 of 6): what it answers, the function answers. No condition.
-/
import Derived.Test.YtmcfahepoocekaaGreatDoorK2
import Derived.Laws.BytesString
import Derived.Laws.AppendOwn
namespace Go.AbsK
open Go
open Go.RowKit (Below)
set_option linter.unusedVariables false
set_option linter.unusedSimpArgs false
set_option linter.deprecated false

variable {P : Program} {T : Hints} {B : Nat} {w0 : World}
section
variable {φ : Plc} {e : E16} {L : Loc} {hs : HS} {w : World} {ρ : Operand → Value} {t : TypeId}

theorem ok_idxAgg {x i : OB} {o io : Operand} (h : EvOk φ e L ρ x o) (hi : EvOk φ e L ρ i io) {tt el : TypeId} {n : Nat} {ag : Bool} (hu : und P tt = some (.array n el)) (ha : aggQ P el = some ag) :
    VOk P (vSlow (sIdxAgg n (csz P el) ag x i)) (.index tt o io) t φ e L hs w ρ := by
  refine ok_slow fun v hv => ?_
  unfold sIdxAgg at hv
  split at hv
  · rename_i cs a hx hn
    obtain ⟨k, hk⟩ := asNat_ok hn
    have h1 := h.eq
    have h2 := h.df
    have h3 := hi.eq
    rw [hx] at h1 h2
    rw [hk] at h3
    obtain ⟨ti, hti⟩ := aggQ_info ha
    have hpart : ∀ r, (part el (concL φ cs).toArray (a * csz P el)).run P w = .ok r w → a < n → ∀ dst pos after guard, (execOp ρ { dst, op := .index tt o io, type := t, pos, after, guard }).run P w = .ok (.value r) w := fun r hr han _ _ _ _ => by
      simp only [execOp]
      refine run_valueOf _ _ _ _ ?_
      rw [h1, h3]
      have h' : (0:Int) ≤ (a:Int) ∧ (a:Int) < (n : Int) := ⟨Int.natCast_nonneg a, by omega⟩
      simp only [conc, Instr.index, asIntOf, Sem.run_bind, Sem.run_pure, Result.andThen_ok, und_run hu, Int.ofNat_eq_natCast, if_pos h', Int.toNat_natCast, size_run hti, hr]
    split at hv
    · rename_i hc
      simp only [Bool.and_eq_true] at hc
      obtain ⟨c1, c2⟩ := hc
      have c1 := ltN_iff.1 c1
      split at hv
      · rename_i hag
        cases hv
        subst hag
        refine ⟨DfC_unl fun v hv => DfC_lst h2 v (List.mem_of_mem_drop (List.mem_of_mem_take hv)), hpart _ ?_ c1⟩
        exact part_agg ha (by rw [concL_unl, List.map_take, List.map_drop, ← concL_lst])
      · rename_i hag
        have : ag = false := by simpa using hag
        subst this
        have := DfC_lst h2 v (List.mem_of_getElem? hv)
        refine ⟨this.2, hpart _ ?_ c1⟩
        exact part_one ha (by rw [concL_lst, List.getElem?_map, hv]; rfl)
    · cases hv
  · cases hv

-- maps
def mapKey (P : Program) (t : TypeId) (k : TypeId) (d : TypeDesc) : Prop := ∃ el, und P t = some (.map k el) ∧ und P k = some d
inductive KeyK : Nat → TypeDesc → Prop where
  | int (k) : KeyK 1 (.int k)
  | str : KeyK 2 .string
  | bool : KeyK 3 .bool
theorem keyIs_ok {tt : TypeId} {k : AV} (h : keyIs (keyCls P tt) k = true) : ∃ kt el d, und P tt = some (.map kt el) ∧ und P kt = some d ∧ KeyK (keyCls P tt) d ∧ keyOk k := by
  have hc : keyCls P tt ≠ 0 := fun h0 => by
    rw [h0] at h
    unfold keyIs at h
    split at h <;> first | cases h | (exact absurd (beqN_iff.1 h) (by omega))
  unfold keyCls at hc ⊢
  cases hu : und P tt with
  | none => rw [hu] at hc; exact absurd rfl hc
  | some d =>
    rw [hu] at hc
    cases d with
    | map kt el =>
      simp only [] at hc ⊢
      cases hk : und P kt with
      | none => rw [hk] at hc; exact absurd rfl hc
      | some dd =>
        refine ⟨kt, el, dd, rfl, hk, ?_, ?_⟩
        · rw [hk] at hc
          cases dd <;> first | (exact absurd rfl hc) | constructor
        · unfold keyIs at h
          split at h <;> first | trivial | cases h
    | _ => exact absurd rfl hc
theorem keyEq_ok {c : Nat} {d : TypeDesc} (hd : KeyK c d) {k k' : AV} (hk : keyIs c k = true) {r : Bool} (h : keyEq k k' = some r) : Instr.sameNow d (conc φ k) (conc φ k') = some r ∧ (r = true → conc φ k = conc φ k') := by
  unfold keyEq at h
  split at h
  · rename_i ka a kb b
    split at h
    · rename_i hs'
      have := sameK_iff.1 hs'
      subst this
      cases h
      have hk : c = 1 := beqN_iff.1 hk
      subst hk
      cases hd with
      | int kk => 
        simp only [conc, Instr.sameNow, if_true, zEq_iff]
        exact ⟨trivial, fun h => by rw [beq_iff_eq] at h; rw [h]⟩
    · cases h
  · rename_i a b
    cases h
    have hk : c = 2 := beqN_iff.1 hk
    subst hk
    cases hd
    simp only [conc, Instr.sameNow]
    refine ⟨?_, fun h => ?_⟩
    · congr 1
      rw [strEq_ok, ByteArray.toList_eq, ByteArray.toList_eq]
      show ((bs a).data == (bs b).data) = _
      rw [Bool.eq_iff_iff, beq_iff_eq, beq_iff_eq]
      exact ⟨fun h => by rw [h], fun h => Array.ext' h⟩
    · rw [strEq_ok, beq_iff_eq] at h
      congr 1
      rw [ByteArray.toList_eq, ByteArray.toList_eq] at h
      apply ByteArray.ext; apply Array.ext'; exact h
  · rename_i a b
    cases h
    have hk : c = 3 := beqN_iff.1 hk
    subst hk
    cases hd
    simp only [conc, Instr.sameNow]
    exact ⟨trivial, fun h => by rw [beq_iff_eq] at h; rw [h]⟩
  · cases h
/-- what is found under a key -/
theorem findM_ok {c : Nat} {d : TypeDesc} (hd : KeyK c d) {k : AV} (hk : keyIs c k = true) : ∀ (es : ML) (i0 : Nat), DfM φ es →
    (findM k es = some none → Instr.findNow d (conc φ k) (concM φ es) i0 = some none) ∧
    (∀ v born, findM k es = some (some (v, born)) → Df φ v ∧ ∃ i k', Instr.findNow d (conc φ k) (concM φ es) i0 = some (some (i0 + i, conc φ v)) ∧ (concM φ es)[i]? = some ⟨conc φ k, conc φ v, born⟩ ∧
      (keyOk k' ∧ conc φ k' = conc φ k) ∧
      (∀ x, concM φ (setM k x es) = (concM φ es).modify i fun e => { e with key := conc φ k, val := conc φ x }) ∧ concM φ (delM k es) = (concM φ es).eraseIdx i ∧
      (∀ x, keyOk k → Df φ x → DfM φ (setM k x es)) ∧ DfM φ (delM k es))
  | .nil, i0, _ => ⟨fun _ => rfl, fun v born h => by simp [findM] at h⟩
  | .cons k1 v1 b1 t, i0, hm => by
    have ih := findM_ok hd hk t (i0 + 1) hm.2
    refine ⟨fun h => ?_, fun v born h => ?_⟩
    · unfold findM at h
      split at h
      · cases h
      · rename_i he
        simp only [concM, Instr.findNow, (keyEq_ok (φ := φ) hd hk he).1]
        exact ih.1 h
      · cases h
    · unfold findM at h
      split at h
      · rename_i he
        cases h
        obtain ⟨q1, q2⟩ := keyEq_ok (φ := φ) hd hk he
        have q2 := q2 rfl
        refine ⟨hm.1.2, 0, k1, ?_, ?_, ⟨hm.1.1, q2.symm⟩, fun x => ?_, ?_, fun x hx hy => ?_, ?_⟩
        · simp only [concM, Instr.findNow, q1, Nat.add_zero]
        · simp [concM, q2]
        · simp [setM, he, concM]
        · simp [delM, he, concM]
        · simp only [setM, he, beq_self_eq_true, if_true]; exact ⟨⟨hx, hy⟩, hm.2⟩
        · simp only [delM, he, beq_self_eq_true, if_true]; exact hm.2
      · rename_i he
        obtain ⟨dv, i, k', f1, f2, f3, f4, f5, f6, f7⟩ := ih.2 v born h
        obtain ⟨q1, _⟩ := keyEq_ok (φ := φ) hd hk he
        have hne : (keyEq k k1 == some true) = false := by rw [he]; rfl
        refine ⟨dv, i + 1, k', ?_, ?_, f3, fun x => ?_, ?_, fun x hx hy => ?_, ?_⟩
        · simp only [concM, Instr.findNow, q1, f1]; congr 3; omega
        · simp only [concM, List.getElem?_cons_succ, f2]
        · simp only [setM, hne, concM, Bool.false_eq_true, if_false, f4]; rfl
        · simp only [delM, hne, concM, Bool.false_eq_true, if_false, f5]; rfl
        · simp only [setM, hne, Bool.false_eq_true, if_false]; exact ⟨hm.1, f6 x hx hy⟩
        · simp only [delM, hne, Bool.false_eq_true, if_false]; exact ⟨hm.1, f7⟩
      · cases h
theorem checkKey_run {c : Nat} {kt : TypeId} {d : TypeDesc} (hu : und P kt = some d) (hd : KeyK c d) (b : Bool) (v : Value) : (Instr.checkKey b 10000 kt v).run P w = .ok () w := by
  unfold Instr.checkKey
  simp only [Sem.run_bind, und_run hu, Result.andThen_ok]
  cases hd <;> rfl
theorem findKey_run {kt : TypeId} {d : TypeDesc} (hu : und P kt = some d) {k : Value} {es : List MapEntry} {r : Option (Nat × Value)} (h : Instr.findNow d k es 0 = some r) :
    (Instr.findKey kt k es).run P w = .ok r w := by
  simp only [Instr.findKey, Sem.run_bind, und_run hu, Result.andThen_ok, h, Sem.run_pure]
theorem getObj_run {r : Nat} {o : Obj} (h : w.heap[r]? = some o) (hc : ∀ a b c, o ≠ .cells a b c) : (getObj r).run P w = .ok o w := by
  show (Sem.getObj r .pure).run P w = _
  simp only [Sem.run, h]
theorem map_at (H : HOk P T B w0 φ hs w) {b : Nat} (hd : (φ b).isSome = true) {es : ML} {clock : Nat} (hg : getH b hs.heap = .map es clock) :
    w.heap[(pl φ b).blk]? = some (.map (concM φ es).toArray clock) ∧ DfM φ es := by
  obtain ⟨p, hp⟩ := some_pl hd
  obtain ⟨_, _, h3⟩ := H.dom b p hp
  have h3 := h3 (by unfold live; rw [hg]; trivial)
  rw [hg] at h3
  have : pl φ b = p := by simp [pl, hp]
  rw [this]
  exact h3
theorem mapEs_ok (H : HOk P T B w0 φ hs w) {x : AV} {es : ML} (d : Df φ x) (h : mapEs hs x = some es) : DfM φ es ∧
    ((conc φ x = .map none ∧ concM φ es = []) ∨ ∃ r cl, conc φ x = .map (some r) ∧ w.heap[r]? = some (.map (concM φ es).toArray cl)) := by
  unfold mapEs at h
  split at h
  · cases h; exact ⟨trivial, .inl ⟨rfl, rfl⟩⟩
  · split at h
    · rename_i hg
      cases h
      obtain ⟨m1, m2⟩ := map_at H (by simpa [Df] using d) hg
      exact ⟨m2, .inr ⟨_, _, rfl, m1⟩⟩
    · cases h
  · cases h
theorem lookup_run (H : HOk P T B w0 φ hs w) {x : AV} {es : ML} (d : Df φ x) (h : mapEs hs x = some es) {tt kt el : TypeId} {dd : TypeDesc} {c : Nat} (hu : und P tt = some (.map kt el)) (hkt : und P kt = some dd) (hd : KeyK c dd)
    {z : Value} (hz : (zeroValue el).run P w = .ok z w) {k : Value} {ok : Bool} {r : Option (Nat × Value)} (hr : Instr.findNow dd k (concM φ es) 0 = some r) :
    (Instr.lookup tt (conc φ x) k ok).run P w = .ok (match r with
      | some (_, v) => if ok then .tuple #[v, .bool true] else v
      | none => if ok then .tuple #[z, .bool false] else z) w := by
  rcases (mapEs_ok H d h).2 with ⟨h1, h2⟩ | ⟨rr, cl, h1, h2⟩
  · rw [h2] at hr
    simp only [h1, Instr.lookup, Sem.run_bind, und_run hu, Result.andThen_ok, Sem.run_pure, checkKey_run hkt hd, findKey_run hkt hr]
    cases r with
    | none => simp only [Sem.run_bind, hz, Result.andThen_ok, Sem.run_pure]
    | some p => simp only [Sem.run_bind, hz, Result.andThen_ok, Sem.run_pure]
  · simp only [h1, Instr.lookup, Sem.run_bind, und_run hu, Result.andThen_ok, getObj_run h2 (fun _ _ _ h => by cases h), Sem.run_pure, checkKey_run hkt hd, findKey_run hkt hr]
    cases r with
    | none => simp only [Sem.run_bind, hz, Result.andThen_ok, Sem.run_pure]
    | some p => simp only [Sem.run_bind, hz, Result.andThen_ok, Sem.run_pure]
theorem ok_lookup (H : HOk P T B w0 φ hs w) {x i : OB} {o io : Operand} (h : EvOk φ e L ρ x o) (hi : EvOk φ e L ρ i io) {tt kt el : TypeId} {z : AV} {ok : Bool} (hu : und P tt = some (.map kt el)) (hz : zeroP P el = some z) :
    VOk P (vSlow (sLookup (keyCls P tt) z ok x i)) (.lookup tt o io ok) t φ e L hs w ρ := by
  refine ok_slow fun v hv => ?_
  unfold sLookup at hv
  split at hv
  · rename_i hk
    obtain ⟨kt', el', d, hu', hkt, hd, hko⟩ := keyIs_ok hk
    rw [hu] at hu'
    cases hu'
    obtain ⟨zr, zd⟩ := zero_run (P := P) (w := w) φ hz
    cases he : mapEs hs (ev x e L) with
    | none => rw [he] at hv; cases hv
    | some es =>
      rw [he] at hv
      simp only [Option.bind_some] at hv
      obtain ⟨hm, _⟩ := mapEs_ok H h.df he
      have key := fun r hr => lookup_run (P := P) H h.df he hu hkt hd zr (k := conc φ (ev i e L)) (ok := ok) (r := r) hr
      have step : ∀ r, (Instr.lookup tt (conc φ (ev x e L)) (conc φ (ev i e L)) ok).run P w = .ok r w → ∀ dst pos after guard, (execOp ρ { dst, op := .lookup tt o io ok, type := t, pos, after, guard }).run P w = .ok (.value r) w := fun r hr _ _ _ _ => by
        simp only [execOp]
        refine run_valueOf _ _ _ _ ?_
        rw [h.eq, hi.eq]; exact hr
      obtain ⟨f1, f2⟩ := findM_ok (φ := φ) hd hk es 0 hm
      split at hv
      · rename_i v' born hf
        obtain ⟨dv, j, k', g1, _⟩ := f2 _ _ hf
        have := step _ (key _ g1)
        cases hv
        cases ok with
        | true => exact ⟨⟨dv, trivial, trivial⟩, by simpa [conc, concL, unl] using this⟩
        | false => exact ⟨dv, by simpa using this⟩
      · rename_i hf
        have := step _ (key _ (f1 hf))
        cases hv
        cases ok with
        | true => exact ⟨⟨zd, trivial, trivial⟩, by simpa [conc, concL, unl] using this⟩
        | false => exact ⟨zd, by simpa using this⟩
      · cases hv
  · cases hv
theorem concM_len (es : ML) : (concM φ es).length = lenM es := by
  induction es with
  | nil => rfl
  | cons k v b t ih => simp only [concM, List.length_cons, lenM, ih]
theorem ok_lenMap (H : HOk P T B w0 φ hs w) {x : OB} {c : Call} {o : Operand} (h : EvOk φ e L ρ x o) (hc : c.callee = .builtin .len) (ha : c.args.toList = [o]) {at0 : TypeId} (ht : c.argTypes[0]? = some at0)
    {k el : TypeId} (hu : und P at0 = some (.map k el)) : VOk P (vSlow (sLenMap x)) (.call c) t φ e L hs w ρ := by
  refine ok_slow fun v hv => ?_
  have h1 := h.eq
  have h2 := h.df
  unfold sLenMap at hv
  split at hv
  · rename_i hx
    rw [hx] at h1
    cases hv
    exact ⟨trivial, len_fin hc ha _ (by simp [Builtin.len_, ht, Sem.run_bind, und_run hu, h1, conc, goInt])⟩
  · rename_i r _ _ _ _ _ _ _ hx
    rw [hx] at h1 h2
    split at hv
    · rename_i es cl hg
      cases hv
      obtain ⟨m1, m2⟩ := map_at H (by simpa [Df] using h2) hg
      exact ⟨trivial, len_fin hc ha _ (by simp [Builtin.len_, ht, Sem.run_bind, und_run hu, h1, conc, goInt, getObj_run m1 (fun _ _ _ h => by cases h), concM_len])⟩
    · cases hv
  · cases hv
-- strings from bytes
theorem bytes_ok {ls : List AV} {bs' : List Nat} (h : ls.mapM byteOfCells = some bs') : (∀ c ∈ ls, (concL φ c).length = 1) ∧ flat φ ls = bs'.map (fun n => Value.int .u8 (.ofNat n)) ∧ ls.length = bs'.length ∧ ∀ n ∈ bs', n < 256 := by
  induction ls generalizing bs' with
  | nil => simp at h; subst h; exact ⟨by simp, rfl, rfl, by simp⟩
  | cons c ls ih =>
    simp only [List.mapM_cons, Option.bind_eq_bind, Option.bind_eq_some_iff, Option.pure_def, Option.some.injEq] at h
    obtain ⟨n, h1, ns, h2, rfl⟩ := h
    obtain ⟨i1, i2, i3, i4⟩ := ih h2
    unfold byteOfCells at h1
    split at h1
    · split at h1
      · rename_i hlt
        cases h1
        refine ⟨fun c hc => ?_, ?_, by simp [i3], fun m hm => ?_⟩
        · rcases List.mem_cons.1 hc with rfl | hc
          · rfl
          · exact i1 c hc
        · simp only [flat, List.flatMap_cons] at i2 ⊢
          rw [i2]; rfl
        · rcases List.mem_cons.1 hm with rfl | hm
          · exact hlt
          · exact i4 m hm
      · cases h1
    · cases h1
theorem push_bytes (ns : List Nat) (s : ByteArray) : (ns.map Int.ofNat).foldl (fun r n => r.push (UInt8.ofNat n.toNat)) s = ⟨s.data ++ (ns.map UInt8.ofNat).toArray⟩ := by
  induction ns generalizing s with
  | nil => cases s; simp
  | cons n ns ih =>
    simp only [List.map_cons, List.foldl_cons, ih]
    congr 1
    apply Array.ext'
    simp [ByteArray.push]
theorem ok_toStr (H : HOk P T B w0 φ hs w) {x : OB} {o : Operand} (h : EvOk φ e L ρ x o) {s d el : TypeId} (hs' : und P s = some (.slice el)) (hd : und P d = some .string) (he : und P el = some (.int .u8)) :
    VOk P (vSlow (sToStr x)) (.convert s d o) t φ e L hs w ρ := by
  refine ok_slow fun v hv => ?_
  unfold sToStr at hv
  simp only [Option.bind_eq_bind, Option.bind_eq_some_iff] at hv
  obtain ⟨ls, h1, bs', h2, hv⟩ := hv
  split at hv
  · cases hv
  · rename_i hns
    cases hv
    obtain ⟨b1, b2, b3, b4⟩ := bytes_ok (φ := φ) h2
    have E := elemsOf_ok H h.df h1 b1
    rcases E.is with ⟨a, cap, e1, e2⟩ | ⟨s', e1, _⟩
    · refine ⟨trivial, fun _ _ _ _ => ?_⟩
      simp only [execOp]
      refine run_valueOf _ _ _ _ ?_
      rw [h.eq, e1]
      have hb : (Conv.bytesToString (.slice a ls.length cap)).run P w = .ok (.string (bs bs')) w := by
        cases a with
        | none =>
          have : ls = [] := Classical.byContradiction fun hne => by obtain ⟨k, o, h, _⟩ := e2 hne; cases h
          subst this
          have : bs' = [] := List.length_eq_zero_iff.1 b3.symm
          subst this
          rfl
        | some a =>
          rw [run_bytesToString w a ls.length cap (bs'.map Int.ofNat), push_bytes]
          · congr 2
            apply ByteArray.ext
            simp [bs]
          · have := E.first (P := P) (fun _ => trivial) ls.length (Nat.le_refl _)
            rw [e1] at this
            simp only [Builtin.firstCells, Nat.mul_one, List.take_length] at this
            rw [this, b2]
            simp [Function.comp_def]
      simp only [convert, Sem.run_bind, und_run hs', und_run hd, und_run he, Result.andThen_ok, hb, conc]
    · exfalso
      apply hns
      unfold isStrV
      generalize ev x e L = y at e1
      cases y with
      | str s => rfl
      | oth g a b c d e' f x y =>
        simp only [conc] at e1
        split at e1 <;> cases e1
      | _ => simp [conc] at e1
theorem ok_convGen {x : OB} {o : Operand} (h : EvOk φ e L ρ x o) {s d : TypeId} : VOk P (vSlow (sConvGen P s d x)) (.convert s d o) t φ e L hs w ρ := by
  refine ok_slow fun v hv => ?_
  unfold sConvGen at hv
  simp only [Option.bind_eq_bind, Option.bind_eq_some_iff] at hv
  obtain ⟨va, h1, r, h2, h3⟩ := hv
  obtain ⟨b1, b2⟩ := back_ok φ h3
  refine ⟨b2, fun _ _ _ _ => ?_⟩
  simp only [execOp]
  refine run_valueOf _ _ _ _ ?_
  rw [h.eq, (plain_conc φ _).1 va h1, b1]
  exact pureEval_run w h2
theorem ok_convStr {x : OB} {o : Operand} (h : EvOk φ e L ρ x o) {s d : TypeId} (hs' : und P s = some .string) (hd : und P d = some .string) : VOk P (vStr x) (.convert s d o) t φ e L hs w ρ := by
  unfold VOk vStr
  have h1 := h.eq
  generalize ev x e L = v at *
  cases v with
  | str b =>
    refine Ans.ret ⟨trivial, fun _ _ _ _ => ?_⟩
    simp only [execOp]
    refine run_valueOf _ _ _ _ ?_
    rw [h1]
    simp only [conc, convert, Sem.run_bind, und_run hs', und_run hd, Result.andThen_ok, Sem.run_pure]
  | _ => exact Ans.none
theorem ok_un {x : OB} {o : Operand} (h : EvOk φ e L ρ x o) {op : UnOp} {tt : TypeId} : VOk P (vSlow (sUn P op x)) (.unOp op tt o) t φ e L hs w ρ := by
  refine ok_slow fun v hv => ?_
  unfold sUn at hv
  simp only [Option.bind_eq_bind, Option.bind_eq_some_iff] at hv
  obtain ⟨va, h1, r, h2, h3⟩ := hv
  obtain ⟨b1, b2⟩ := back_ok φ h3
  refine ⟨b2, fun _ _ _ _ => ?_⟩
  simp only [execOp]
  refine run_valueOf _ _ _ _ ?_
  rw [h.eq, (plain_conc φ _).1 va h1, b1]
  exact pureEval_run w h2
theorem ok_bin {x y : OB} {xo yo : Operand} (hx : EvOk φ e L ρ x xo) (hy : EvOk φ e L ρ y yo) {op : BinOp} {tt yt : TypeId} : VOk P (vSlow (sBin P op tt xo yo x y)) (.binOp op tt xo yo yt) t φ e L hs w ρ := by
  refine ok_slow fun v hv => ?_
  unfold sBin binGen at hv
  simp only [Option.bind_eq_bind, Option.bind_eq_some_iff] at hv
  obtain ⟨va, h1, vb, h2, r, h3, h4⟩ := hv
  obtain ⟨b1, b2⟩ := back_ok φ h4
  refine ⟨b2, fun _ _ _ _ => ?_⟩
  simp only [execOp]
  refine run_valueOf _ _ _ _ ?_
  rw [hx.eq, hy.eq, (plain_conc φ _).1 va h1, (plain_conc φ _).1 vb h2, b1]
  exact pureEval_run w h3
theorem ok_minMax {xs : OL} {c : Call} {m : Bool} (h : OLOk φ e L ρ xs c.args.toList) (hc : c.callee = .builtin (if m then .max else .min)) : VOk P (vSlow (sMinMax P m xs)) (.call c) t φ e L hs w ρ := by
  refine ok_slow fun v hv => ?_
  unfold sMinMax at hv
  simp only [Option.bind_eq_bind, Option.bind_eq_some_iff] at hv
  obtain ⟨vs, h1, r, h2, h3⟩ := hv
  obtain ⟨b1, b2⟩ := back_ok φ h3
  refine ⟨b2, fun _ _ _ _ => ?_⟩
  have ha : c.args.map ρ = vs.toArray := by rw [← evL_arr h, (plain_conc φ _).2 vs h1]
  rw [run_builtin hc, ha, b1]
  have := pureEval_run w h2
  cases m with
  | true =>
    simp only [if_true, builtin] at this ⊢
    exact run_valueOf _ _ _ _ this
  | false =>
    simp only [Bool.false_eq_true, if_false, builtin] at this ⊢
    exact run_valueOf _ _ _ _ this
theorem ok_assert {x : OB} {o : Operand} (h : EvOk φ e L ρ x o) {xt asd : TypeId} {ok : Bool} : VOk P (vSlow (sAssert P asd ok x)) (.typeAssert o xt asd ok) t φ e L hs w ρ := by
  refine ok_slow fun v hv => ?_
  have h1 := h.eq
  have h2 := h.df
  unfold sAssert at hv
  have step : ∀ r, (Instr.typeAssert (conc φ (ev x e L)) xt asd ok).run P w = .ok r w → ∀ dst pos after guard, (execOp ρ { dst, op := .typeAssert o xt asd ok, type := t, pos, after, guard }).run P w = .ok (.value r) w := fun r hr _ _ _ _ => by
    simp only [execOp]
    refine run_valueOf _ _ _ _ ?_
    rw [h1]; exact hr
  have fails : ∀ (st dy : Option TypeId) (ms : String) r, assertNo P asd ok = some r → Df φ r ∧
      (if ok then (do pure (.tuple #[← zeroValue asd, .bool false])) else runtimePanic (.typeAssertion st dy asd ms) : Sem Value).run P w = .ok (conc φ r) w := fun st dy ms r hr => by
    unfold assertNo at hr
    cases ok with
    | false => cases hr
    | true =>
      simp only [if_true, Option.map_eq_some_iff] at hr ⊢
      obtain ⟨z, hz, rfl⟩ := hr
      obtain ⟨zr, zd⟩ := zero_run (P := P) (w := w) φ hz
      exact ⟨⟨zd, trivial, trivial⟩, by simp only [Sem.run_bind, zr, Result.andThen_ok, Sem.run_pure]; rfl⟩
  have holds : ∀ a, Df φ a → Df φ (if ok then vTup (unl [a, .bool true]) else a) ∧ (if ok then .tuple #[conc φ a, .bool true] else conc φ a : Value) = conc φ (if ok then vTup (unl [a, .bool true]) else a) := fun a da => by
    cases ok with
    | true => exact ⟨⟨da, trivial, trivial⟩, rfl⟩
    | false => exact ⟨da, rfl⟩
  generalize ev x e L = y at *
  unfold Instr.typeAssert at step
  cases hu : und P asd with
  | none => rw [hu] at hv; cases hv
  | some d =>
    simp only [Sem.run_bind, und_run hu, Result.andThen_ok] at step
    rw [hu] at hv
    split at hv
    · rename_i want heq
      cases heq
      unfold assertI at hv
      split at hv
      · obtain ⟨f1, f2⟩ := fails none none "" v hv
        exact ⟨f1, step _ f2⟩
      · rename_i u _ _ _ _ _ z _
        have hz : Df φ z := h2
        simp only [conc] at step
        cases hi : infoT P u with
        | none => rw [hi] at hv; cases hv
        | some i =>
          rw [hi] at hv
          have hti : (typeInfo u).run P w = .ok i w := by simp [typeInfo, infoT_run hi]
          simp only [Sem.run_bind, hti, Result.andThen_ok] at step
          simp only [] at hv
          cases hm : Instr.missingMethod want i.methods with
          | none =>
            rw [hm] at hv step
            cases hv
            obtain ⟨a1, a2⟩ := holds (vIface u z) hz
            refine ⟨a1, step _ ?_⟩
            simp only [Sem.run_pure, ← a2]
            rfl
          | some m =>
            rw [hm] at hv step
            obtain ⟨f1, f2⟩ := fails none (some u) m v hv
            exact ⟨f1, step _ f2⟩
      · cases hv
    · rename_i d' hni heq
      cases heq
      unfold assertC at hv
      split at hv
      · obtain ⟨f1, f2⟩ := fails (some xt) none "" v hv
        refine ⟨f1, step _ ?_⟩
        simp only [conc]
        cases d <;> first | exact f2 | exact absurd rfl (hni _)
      · rename_i u _ _ _ _ _ z _
        have hz : Df φ z := h2
        simp only [conc] at step
        split at hv
        · rename_i hue
          cases hv
          subst hue
          obtain ⟨a1, a2⟩ := holds z hz
          refine ⟨a1, step _ ?_⟩
          rw [← a2]
          cases d <;> first | (simp only [if_true, Sem.run_pure]; done) | exact absurd rfl (hni _)
        · rename_i hue
          obtain ⟨f1, f2⟩ := fails (some xt) (some u) "" v hv
          refine ⟨f1, step _ ?_⟩
          cases d <;> first | (simp only [if_neg hue]; exact f2) | exact absurd rfl (hni _)
      · cases hv
    · cases hv
theorem ok_sliceData {x : OB} {c : Call} {o : Operand} (h : EvOk φ e L ρ x o) (hc : c.callee = .builtin .unsafeSliceData) (ha : c.args.toList = [o]) : VOk P (vSlow (sSliceData x)) (.call c) t φ e L hs w ρ := by
  refine ok_slow fun v hv => ?_
  have h1 := h.eq
  have h2 := h.df
  unfold sSliceData at hv
  have step : ∀ r, (Builtin.unsafeSliceData_ c.argTypes t #[ρ o]).run P w = .ok r w → ∀ dst pos after guard, (execOp ρ { dst, op := .call c, type := t, pos, after, guard }).run P w = .ok (.value r) w := fun r hr dst pos after guard => by
    rw [run_builtin hc, args1 ha]
    simp only [builtin, Sem.run_bind, hr, Result.andThen_ok, Sem.run_pure]
  split at hv
  · rename_i hx
    rw [hx] at h1
    cases hv
    exact ⟨trivial, step _ (by rw [h1]; rfl)⟩
  · rename_i b i l c' o' hx
    rw [hx] at h1 h2
    split at hv
    · cases hv
    · rename_i hl
      cases hv
      refine ⟨h2.1, step _ ?_⟩
      rw [h1]
      have : (if o' = true then (pl φ b).cap - c' else c') ≠ 0 := by
        have := h2.2
        split <;> simp_all <;> omega
      have r : ∀ (a : Addr) (l cc : Nat), cc ≠ 0 → (Builtin.unsafeSliceData_ c.argTypes t #[.slice (some a) l cc]).run P w = .ok (.pointer (some a)) w := fun a l cc hc => by
        show (if cc ≠ 0 then _ else _ : Sem Value).run P w = _
        rw [if_pos hc]; rfl
      exact r _ _ _ this
  · cases hv
end
end Go.AbsK

namespace Go.AbsK
open Go
open Go.RowKit (Below)
set_option linter.unusedVariables false
set_option linter.unusedSimpArgs false
set_option linter.deprecated false

variable {P : Program} {T : Hints} {B : Nat} {w0 : World}
section
variable {φ : Plc} {e : E16} {L : Loc} {hs : HS} {w : World} {ρ : Operand → Value} {t : TypeId}

theorem shape_of {k : Nat} {arr : Array Value} {el : TypeId} {fz : Nat × Nat} (h : w.heap[k]? = some (.cells arr el fz)) : w.shape? k = some (el, arr.size) := by
  simp only [World.shape?, h]
theorem seenAt_run {a : Addr} {s : TypeId × Nat} (h : w.shape? a.block = some s) : (Conv.seenAt a).run P w = .ok a w := by
  have hv : (viewAt a.block).run P w = .ok none w := by
    simp only [viewAt, Sem.run_bind, run_shape, h, Result.andThen_ok, Option.isSome_some, if_true, Sem.run_pure]
  simp only [Conv.seenAt, Sem.run_bind, hv, Result.andThen_ok, Sem.run_pure]
theorem ok_ptrOnly (H : HOk P T B w0 φ hs w) {x : OB} {o : Operand} (h : EvOk φ e L ρ x o) {s d el : TypeId} (hs' : und P s = some (.pointer el)) (hd : und P d = some .unsafePointer) (hz : csz P el ≠ 0) :
    VOk P (vSlow (sPtrOnly x)) (.convert s d o) t φ e L hs w ρ := by
  refine ok_slow fun v hv => ?_
  unfold sPtrOnly at hv
  have h1 := h.eq
  have h2 := h.df
  split at hv
  · rename_i b i j hx
    rw [hx] at h1 h2
    obtain ⟨p, hp⟩ := some_pl h2
    obtain ⟨_, _, h3⟩ := H.dom b p hp
    have fin : ∀ (arr : Array Value) (e' : TypeId) fz, w.heap[p.blk]? = some (.cells arr e' fz) → p.base + i * p.sz + j < arr.size → ∀ dst pos after guard, (execOp ρ { dst, op := .convert s d o, type := t, pos, after, guard }).run P w = .ok (.value (conc φ (.ptr b i j))) w := fun arr e' fz ha hlt _ _ _ _ => by
      simp only [execOp]
      refine run_valueOf _ _ _ _ ?_
      rw [h1]
      have hsh : w.shape? (adr φ b i j).block = some (e', arr.size) := by rw [adr_eq hp]; exact shape_of ha
      have hci : (cellsIn (adr φ b i j).block).run P w = .ok (some arr.size) w := by
        simp only [cellsIn, Sem.run_bind, run_shape, hsh, Result.andThen_ok, Sem.run_pure]
      have hoff : ¬ (adr φ b i j).off ≥ arr.size := by rw [adr_eq hp]; show ¬ (p.base + i * p.sz + j ≥ arr.size); omega
      have hsp : (adr φ b i j).spot.isNone = true := by rw [adr_eq hp]; rfl
      simp only [conc, convert, Sem.run_bind, und_run hs', und_run hd, Result.andThen_ok, Conv.unsafePointer, seenAt_run hsh, hci, csz_run hz, hsp, Bool.and_true]
      simp only [hz, hoff, decide_false, Bool.or_false, Sem.run_pure]
      rfl
    split at hv
    · rename_i el' z cs hg
      split at hv
      · rename_i hc
        simp only [Bool.and_eq_true] at hc
        have c1 := beqN_iff.1 hc.1
        have c2 := ltN_iff.1 hc.2
        cases hv
        have h3 := h3 (by unfold live; rw [hg]; trivial)
        rw [hg] at h3
        obtain ⟨a1, a2, a3, a4, a5, a6⟩ := h3
        refine ⟨h2, fin _ _ _ a1 ?_⟩
        simp only [List.size_toArray, a2, c1]; omega
      · cases hv
    · rename_i el' z n els kd hg
      split at hv
      · rename_i hc
        simp only [Bool.and_eq_true] at hc
        have c1 := ltN_iff.1 hc.1.2
        have c2 := ltN_iff.1 hc.2
        cases hv
        have h3 := h3 (live_alive hg hc.1.1)
        rw [hg] at h3
        obtain ⟨arr, frz, a1, a2, a3, a4, a5, a6, a7, a8⟩ := h3
        refine ⟨h2, fin _ _ _ a1 ?_⟩
        have : i * z + z ≤ p.cap * z := by
          have := Nat.mul_le_mul_right z (show i + 1 ≤ p.cap by omega)
          rw [Nat.add_mul, Nat.one_mul] at this; exact this
        rw [a2]; omega
      · cases hv
    · cases hv
  · cases hv
theorem ok_unsafePtr (H : HOk P T B w0 φ hs w) {x : OB} {o : Operand} (h : EvOk φ e L ρ x o) {s d u : TypeId} (hs' : und P s = some .unsafePointer) (hd : und P d = some (.pointer u)) (hz : csz P u ≠ 0) :
    VOk P (vSlow (sUnsafePtr P u x)) (.convert s d o) t φ e L hs w ρ := by
  refine ok_slow fun v hv => ?_
  unfold sUnsafePtr at hv
  have h1 := h.eq
  have h2 := h.df
  split at hv
  · rename_i b i j hx
    rw [hx] at h1 h2
    obtain ⟨p, hp⟩ := some_pl h2
    obtain ⟨_, _, h3⟩ := H.dom b p hp
    split at hv
    · rename_i el' z cs hg
      split at hv
      · rename_i hc
        simp only [Bool.and_eq_true, decide_eq_true_eq] at hc
        obtain ⟨⟨c1, c2⟩, c3⟩ := hc
        have c2 := beqN_iff.1 c2
        cases hv
        subst c1
        have h3 := h3 (by unfold live; rw [hg]; trivial)
        rw [hg] at h3
        obtain ⟨a1, a2, a3, a4, a5, a6⟩ := h3
        refine ⟨h2, fun _ _ _ _ => ?_⟩
        simp only [execOp]
        refine run_valueOf _ _ _ _ ?_
        rw [h1]
        have hsh : w.shape? (adr φ b 0 j).block = some (el', z) := by rw [adr_eq hp, shape_of a1]; simp [a4]
        have hpos : 0 < z := a6
        have hva : (variablesAt (adr φ b 0 j) u 1).run P w = .ok true w := by
          have e1 : (adr φ b 0 j).off = j := by rw [adr_eq hp]; show p.base + 0 * p.sz + j = j; rw [a2]; omega
          have hz : P.cellsOf el' = z := by rw [← csz_eq]; exact c2
          simp only [variablesAt, Sem.run_bind, run_program, Result.andThen_ok, run_shape, hsh, Sem.run_pure, e1, hz, Nat.div_self hpos, c3]
        simp only [conc, convert, Sem.run_bind, und_run hs', und_run hd, Result.andThen_ok, Conv.unsafePointer, seenAt_run hsh, csz_run hz, hva, Bool.or_true, if_true, Sem.run_pure]
      · cases hv
    · cases hv
  · cases hv
theorem mapEntries (es : ML) : concM φ es = (entriesM es).map fun x => ⟨conc φ x.1, conc φ x.2.1, x.2.2⟩ := by
  induction es with
  | nil => rfl
  | cons k v b t ih => simp only [concM, entriesM, List.map_cons, ih]
theorem DfM_entries {es : ML} (h : DfM φ es) : ∀ x ∈ entriesM es, keyOk x.1 ∧ Df φ x.2.1 := by
  induction es with
  | nil => intro x hx; simp [entriesM] at hx
  | cons k v b t ih =>
    intro x hx
    simp only [entriesM, List.mem_cons] at hx
    rcases hx with rfl | hx
    · exact h.1
    · exact ih h.2 x hx
theorem keyOk.df {k : AV} (h : keyOk k) : Df φ k := by cases k <;> first | trivial | exact h.elim
theorem iter_at (H : HOk P T B w0 φ hs w) {r : Nat} (hd : (φ r).isSome = true) {m : Option Nat} {since stepped : Nat} {seen : List Nat} (hg : getH r hs.heap = .mapIter m since seen stepped) :
    adr φ r 0 0 = ⟨(pl φ r).blk, 0, none⟩ ∧ w.heap[(pl φ r).blk]? = some (.mapIter (m.map fun b => (pl φ b).blk) since seen.toArray stepped) ∧ ∀ b, m = some b → (φ b).isSome = true := by
  obtain ⟨p, hp⟩ := some_pl hd
  obtain ⟨_, _, h3⟩ := H.dom r p hp
  have h3 := h3 (by unfold live; rw [hg]; trivial)
  rw [hg] at h3
  have : pl φ r = p := by simp [pl, hp]
  rw [this]
  obtain ⟨a1, a2, a3⟩ := h3
  exact ⟨by rw [adr_eq hp, a2]; simp, a1, a3⟩
theorem ok_entry (H : HOk P T B w0 φ hs w) {x : OB} {o : Operand} (h : EvOk φ e L ρ x o) : VOk P (vSlow (sEntry x)) (.entry o) t φ e L hs w ρ := by
  refine ok_slow fun v hv => ?_
  unfold sEntry at hv
  have h1 := h.eq
  have h2 := h.df
  split at hv
  · rename_i r hx
    rw [hx] at h1 h2
    split at hv
    · rename_i m since seen stepped hg
      split at hv
      · rename_i es clock stamp hg2 hl
        split at hv
        · rename_i hcl
          have hcl := beqN_iff.1 hcl
          simp only [Option.map_eq_some_iff] at hv
          obtain ⟨x, hf, rfl⟩ := hv
          obtain ⟨i1, i2, i3⟩ := iter_at H h2 hg
          obtain ⟨m1, m2⟩ := map_at H (i3 m rfl) hg2
          have hmem := List.mem_of_find?_eq_some hf
          obtain ⟨d1, d2⟩ := DfM_entries m2 x hmem
          refine ⟨⟨d1.df, d2, trivial⟩, fun _ _ _ _ => ?_⟩
          simp only [execOp]
          refine run_valueOf _ _ _ _ ?_
          rw [h1]
          have hb : seen.toArray.back? = some stamp := by simpa using hl
          have hfind : (concM φ es).toArray.find? (fun e => e.born == stamp) = some ⟨conc φ x.1, conc φ x.2.1, x.2.2⟩ := by
            rw [mapEntries]
            simp only [List.find?_toArray, List.find?_map]
            have : ((fun e : MapEntry => e.born == stamp) ∘ fun x : AV × AV × Nat => (⟨conc φ x.1, conc φ x.2.1, x.2.2⟩ : MapEntry)) = fun e => Nat.beq e.2.2 stamp := by
              funext y; show (y.2.2 == stamp) = _; rw [Bool.eq_iff_iff, beqN_iff]; simp
            rw [this, hf]; rfl
          simp only [conc, i1, Instr.entry, Sem.run_bind, getObj_run i2 (fun _ _ _ h => by cases h), Result.andThen_ok, Option.map_some, hb, getObj_run m1 (fun _ _ _ h => by cases h), hcl, bne_self_eq_false, Bool.false_eq_true, if_false, hfind, Sem.run_pure]
          rfl
        · cases hv
      · cases hv
    · cases hv
  · cases hv
end
end Go.AbsK

namespace Go.AbsK
open Go
open Go.RowKit (Below)
set_option linter.unusedVariables false
set_option linter.unusedSimpArgs false
set_option linter.deprecated false

variable {P : Program} {T : Hints} {B : Nat} {w0 : World}

/-- a state with one object more -/
noncomputable def HS.push (o : AObj) : HS → HS | .mk h n f => .mk (setH n o h) (n + 1) f
theorem HS.push_next (o : AObj) (hs : HS) : (hs.push o).next = hs.next + 1 := by cases hs; rfl
theorem HS.push_fams (o : AObj) (hs : HS) : (hs.push o).fams = hs.fams := by cases hs; rfl
theorem HS.push_same (o : AObj) (hs : HS) : getH hs.next (hs.push o).heap = o := by cases hs; exact getH_same _ _ _
theorem HS.push_ne (o : AObj) (hs : HS) {b : Nat} (hn : hs.next ≤ 1000004) (hb : b < 1048576) (h : b ≠ hs.next) : getH b (hs.push o).heap = getH b hs.heap := by
  cases hs; exact getH_ne hb (by show _ < _; simp only [HS.next] at hn ⊢; omega) h _ _
/-- an operation that makes an object: it may come to lie later -/
def NOk (P : Program) (T : Hints) (B : Nat) (w0 : World) (g : HO) (op : Op) (t : TypeId) (e : E16) (L : Loc) (hs : HS) (A : Plc → (Operand → Value) → Prop) : Prop :=
  (∀ q, g e L hs q = .fail) ∨ ∃ o v, (∀ q, g e L hs q = q v (hs.push o)) ∧ hs.next ≤ 1000000 ∧ famOf o = none ∧
    ∀ φ hs' w ρ, A φ ρ → HOk P T B w0 φ hs' w → φ hs.next = none → hs.next < hs'.next → getH hs.next hs'.heap = o →
      ∃ p w', HOk P T B w0 (set1 φ hs.next p) hs' w' ∧ Df (set1 φ hs.next p) v ∧
        ∀ dst pos after guard, (execOp ρ { dst, op, type := t, pos, after, guard }).run P w = .ok (.value (conc (set1 φ hs.next p) v)) w'
/-- an operation that acts -/
def EffOk (P : Program) (T : Hints) (B : Nat) (w0 : World) (g : HO) (op : Op) (t : TypeId) (φ : Plc) (e : E16) (L : Loc) (hs : HS) (w : World) (ρ : Operand → Value) : Prop :=
  Ans2 (g e L hs) fun v hs' => ∃ φ' w', Le φ φ' ∧ HOk P T B w0 φ' hs' w' ∧ Unt φ hs hs' ∧ (∀ b, b < hs.next → φ b = none → φ' b = none) ∧ Df φ' v ∧
    ∀ dst pos after guard, ∃ nx, (execOp ρ { dst, op, type := t, pos, after, guard }).run P w = .ok nx w' ∧ (nx = .value (conc φ' v) ∨ (nx = .skip ∧ v = undef))

theorem HOk.push {φ : Plc} {hs : HS} {w : World} (H : HOk P T B w0 φ hs w) (o : AObj) (hn : hs.next ≤ 1000000) (hf : famOf o = none) : HOk P T B w0 φ (hs.push o) w := by
  cases hs
  exact H.new o (by simp only [HS.next] at hn; omega) fun fam ver own sh h => by rw [hf] at h; cases h
/-- where nothing lies yet behind the last -/
theorem HOk.nextNone {φ : Plc} {hs : HS} {w : World} (H : HOk P T B w0 φ hs w) : φ hs.next = none := by
  cases e : φ hs.next with
  | none => rfl
  | some p => exact absurd (H.dom _ _ e).1 (Nat.lt_irrefl _)
theorem NOk.eff {g : HO} {op : Op} {t : TypeId} {e : E16} {L : Loc} {hs : HS} {A : Plc → (Operand → Value) → Prop} (h : NOk P T B w0 g op t e L hs A)
    {φ : Plc} {w : World} {ρ : Operand → Value} (ha : A φ ρ) (H : HOk P T B w0 φ hs w) : EffOk P T B w0 g op t φ e L hs w ρ := by
  rcases h with h | ⟨o, v, h1, h2, h3, h4⟩
  · exact .inl h
  · obtain ⟨p, w', a1, a2, a3⟩ := h4 φ (hs.push o) w ρ ha (H.push o h2 h3) H.nextNone (by rw [HS.push_next]; omega) (HS.push_same _ _)
    refine .inr ⟨v, hs.push o, h1, set1 φ hs.next p, w', Le.set1 H.nextNone p, a1, ⟨by rw [HS.push_next]; omega, fun b hb hφ => HS.push_ne _ _ (by omega) (by omega) (by omega)⟩, fun b hb hφ => ?_, a2, fun _ _ _ _ => ⟨_, a3 _ _ _ _, .inl rfl⟩⟩
    unfold set1; rw [if_neg (by omega)]; exact hφ
section
variable {φ : Plc} {e : E16} {L : Loc} {hs : HS} {w : World} {ρ : Operand → Value} {t : TypeId}
theorem allocO_eq (o : AObj) (hs : HS) : (∀ q, allocO o hs q = .fail) ∨ (hs.next ≤ 1000000 ∧ ∀ q, allocO o hs q = q hs.next (hs.push o)) := by
  cases hs with
  | mk h n f =>
    have : ∀ q, allocO o (.mk h n f) q = ifO (Nat.ble n 1000000) (q n (.mk (setH n o h) (Nat.succ n) f)) .fail := fun q => by
      show natO n (fun m => ifO (Nat.ble m 1000000) (q m (.mk (setH m o h) (Nat.succ m) f)) .fail) = _
      rw [natO_eq]
    cases hb : Nat.ble n 1000000 with
    | false => exact .inl fun q => by rw [this, hb]; rfl
    | true => exact .inr ⟨Nat.le_of_ble_eq_true hb, fun q => by rw [this, hb]; rfl⟩
/-- a block of its own -/
theorem place_own {φ : Plc} {hs : HS} {w : World} (H : HOk P T B w0 φ hs w) {b : Nat} (hb : b < hs.next) (hφ : φ b = none) (x : Obj) {p : Pl} (hp : p.blk = w.heap.size)
    (ho : ObjOk P T (set1 φ b p) (getH b hs.heap) p { w with heap := w.heap.push x }) : HOk P T B w0 (set1 φ b p) hs { w with heap := w.heap.push x } :=
  H.place hb hφ (But.push w x) hp (by simp) ho
theorem push_get (w : World) (x : Obj) : ({ w with heap := w.heap.push x } : World).heap[w.heap.size]? = some x := by simp
theorem newRow_run (elem : TypeId) (cs : Array Value) : (newRow elem cs).run P w = .ok ⟨w.heap.size, 0, none⟩ { w with heap := w.heap.push (.cells cs elem) } := rfl
/-- a variable of its own -/
theorem var_at {b : Nat} {elem sz : Nat} {cs : AV} {p : Pl} (hp : p = ⟨w.heap.size, 0, 1, sz⟩) (hlen : (concL φ cs).length = sz) (hd : DfC φ cs) (hle : Le φ (set1 φ b p)) (hz : 0 < sz) :
    ObjOk P T (set1 φ b p) (.var elem sz cs) p { w with heap := w.heap.push (.cells (concL φ cs).toArray elem) } := by
  subst hp
  have e := hle.concC hd
  exact ⟨by rw [e]; exact push_get _ _, rfl, rfl, by rw [e]; exact hlen, hle.dfC hd, hz⟩
theorem set1_same (φ : Plc) (b : Nat) (p : Pl) : set1 φ b p b = some p := by simp [set1]
theorem ok_alloc {tt : TypeId} {z : AV} (hz : zeroP P tt = some z) (hc : csz P tt ≠ 0) (hl : lenIs (csz P tt) (cellsV z) = true) :
    NOk P T B w0 (hAlloc tt (csz P tt) (cellsV z)) (.alloc tt) t e L hs fun _ _ => True := by
  rcases allocO_eq (.var tt (csz P tt) (cellsV z)) hs with h | ⟨hn, h⟩
  · exact .inl fun q => h _
  · refine .inr ⟨_, .ptr hs.next 0 0, fun q => h _, hn, rfl, fun φ hs' w ρ _ H hφ hb hg => ?_⟩
    obtain ⟨zr, zd⟩ := zero_run (P := P) (w := w) φ hz
    obtain ⟨c1, c2⟩ := cellsV_ok zd hl
    have hlen := lenIs_len (φ := φ) hl
    refine ⟨⟨w.heap.size, 0, 1, csz P tt⟩, _, place_own H hb hφ (.cells (concL φ (cellsV z)).toArray tt) rfl (by rw [hg]; exact var_at rfl hlen c1 (Le.set1 hφ _) (by omega)), ?_, fun _ _ _ _ => ?_⟩
    · show ((set1 φ hs.next _) hs.next).isSome = true
      rw [set1_same]; rfl
    · simp only [execOp]
      refine run_valueOf _ _ _ _ ?_
      simp only [Instr.alloc, Sem.run_bind, zr, Result.andThen_ok, newVar, newRow_run, Sem.run_pure, c2, conc, adr_eq (set1_same φ hs.next _), Nat.zero_mul, Nat.add_zero]
theorem ok_box {x : OB} {o : Operand} {tt : TypeId} (hc : csz P tt ≠ 0) :
    NOk P T B w0 (hBox tt (csz P tt) x) (.box tt o) t e L hs fun φ ρ => EvOk φ e L ρ x o := by
  cases hl : lenIs (csz P tt) (cellsV (ev x e L)) with
  | false => exact .inl fun q => by simp only [hBox, hl, ifO]
  | true =>
    rcases allocO_eq (.var tt (csz P tt) (cellsV (ev x e L))) hs with h | ⟨hn, h⟩
    · exact .inl fun q => by simp only [hBox, hl, ifO]; exact h _
    · refine .inr ⟨_, .ptr hs.next 0 0, fun q => by simp only [hBox, hl, ifO]; exact h _, hn, rfl, fun φ hs' w ρ hx H hφ hb hg => ?_⟩
      obtain ⟨c1, c2⟩ := cellsV_ok hx.df hl
      have hlen := lenIs_len (φ := φ) hl
      refine ⟨⟨w.heap.size, 0, 1, csz P tt⟩, _, place_own H hb hφ (.cells (concL φ (cellsV (ev x e L))).toArray tt) rfl (by rw [hg]; exact var_at rfl hlen c1 (Le.set1 hφ _) (by omega)), ?_, fun _ _ _ _ => ?_⟩
      · show ((set1 φ hs.next _) hs.next).isSome = true
        rw [set1_same]; rfl
      · simp only [execOp]
        refine run_valueOf _ _ _ _ ?_
        simp only [Instr.box, Sem.run_bind, newVar, newRow_run, Result.andThen_ok, Sem.run_pure, hx.eq, c2, conc, adr_eq (set1_same φ hs.next _), Nat.zero_mul, Nat.add_zero]

/-- seldom ones -/
theorem hSlow_eq (g : E16 → Loc → HS → Option (AV × HS)) (e : E16) (L : Loc) (hs : HS) : (∀ q, hSlow g e L hs q = .fail) ∨ (hs.next ≤ 1000000 ∧ ∃ v hs2, g e L hs = some (v, hs2) ∧ ∀ q, hSlow g e L hs q = q v hs2) := by
  cases hs with
  | mk h n f =>
    have : ∀ q, hSlow g e L (.mk h n f) q = ifO (Nat.ble n 1000000) (match g e L (.mk h n f) with | some (v, hs2) => q v hs2 | none => .fail) .fail := fun q => by
      show natO n (fun m => ifO (Nat.ble m 1000000) (match g e L (.mk h m f) with | some (v, hs2) => q v hs2 | none => .fail) .fail) = _
      rw [natO_eq]
    cases hb : Nat.ble n 1000000 with
    | false => exact .inl fun q => by rw [this, hb]; rfl
    | true =>
      cases hg : g e L (.mk h n f) with
      | none => exact .inl fun q => by rw [this, hb, hg]; rfl
      | some p => exact .inr ⟨Nat.le_of_ble_eq_true hb, p.1, p.2, rfl, fun q => by rw [this, hb, hg]; rfl⟩
theorem new_eq (hs : HS) (o : AObj) : hs.new o = (hs.next, hs.push o) := by cases hs; rfl

-- elements laid side by side
theorem setMany_ge (els : Env) (ls : List AV) : ∀ i k, k < i → gE k (setMany els i ls) = gE k els := by
  induction ls generalizing els with
  | nil => intros; rfl
  | cons c ls ih =>
    intro i k hk
    simp only [setMany]
    rw [ih _ (i + 1) k (by omega), gE_ne (by omega)]
theorem setMany_get (els : Env) (ls : List AV) : ∀ i k, k < ls.length → gE (i + k) (setMany els i ls) = ls.getD k .nil := by
  induction ls generalizing els with
  | nil => intro i k hk; simp at hk
  | cons c ls ih =>
    intro i k hk
    simp only [setMany]
    cases k with
    | zero => rw [setMany_ge _ _ (i + 1) (i + 0) (by omega)]; simp [gE_same]
    | succ k =>
      have := ih (setE (pathOf i) c els) (i + 1) k (by simpa using hk)
      rw [show i + (k + 1) = i + 1 + k by omega, this]
      simp
theorem flat_at {z : Nat} {ls : List AV} (hz : ∀ c ∈ ls, (concL φ c).length = z) {k j : Nat} {v : Value} (hk : k < ls.length) (hj : (concL φ (ls.getD k .nil))[j]? = some v) : (flat φ ls)[k * z + j]? = some v := by
  induction ls generalizing k with
  | nil => simp at hk
  | cons c ls ih =>
    simp only [flat, List.flatMap_cons]
    have hc := hz c List.mem_cons_self
    cases k with
    | zero =>
      have hj' : (concL φ c)[j]? = some v := by simpa using hj
      have := (List.getElem?_eq_some_iff.1 hj').1
      rw [List.getElem?_append_left (by omega)]
      simpa using hj'
    | succ k =>
      rw [List.getElem?_append_right (by rw [Nat.add_mul]; omega), hc]
      have := ih (fun c hc => hz c (List.mem_cons_of_mem _ hc)) (k := k) (by simpa using hk) (by simpa using hj)
      simp only [flat] at this
      rw [← this]
      congr 1
      rw [Nat.add_mul]; omega
theorem lenB_ok {z : Nat} {ls : List AV} (h : ls.all (lenB z) = true) : ∀ c ∈ ls, (concL φ c).length = z := fun c hc => lenIs_len (List.all_eq_true.1 h c hc)
/-- an array of its own -/
theorem cells_at {b : Nat} {elem z : Nat} {ls : List AV} {kd : Kd} {rest : Array Value} {cap : Nat} (hz : ∀ c ∈ ls, (concL φ c).length = z) (hd : ∀ c ∈ ls, DfC φ c) (hpos : 0 < z) {fz : Nat × Nat}
    (hrest : rest.size = (cap - ls.length) * z) (hcap : ls.length ≤ cap) (hle : Le φ (set1 φ b ⟨w.heap.size, 0, cap, z⟩)) (hfz : wr (.cells elem z ls.length .nil kd) → fz = (0, 0)) (hex : kd = .ex → cap = ls.length) :
    ObjOk P T (set1 φ b ⟨w.heap.size, 0, cap, z⟩) (.cells elem z ls.length (setMany .nil 0 ls) kd) ⟨w.heap.size, 0, cap, z⟩ { w with heap := w.heap.push (.cells ((flat φ ls).toArray ++ rest) elem fz) } := by
  have hfl := flat_len hz
  refine ⟨_, fz, push_get _ _, rfl, hpos, hcap, ?_, ?_, fun h => ⟨rfl, hex h, ?_⟩, fun i hi => ?_⟩
  · simp only [Array.size_append, List.size_toArray, hfl, hrest, Nat.zero_add]
    rw [← Nat.add_mul, Nat.add_sub_cancel' hcap]
    exact Nat.le_refl _
  · intro h; exact hfz (by cases kd <;> first | exact h | (rename_i own _ _ _; cases own <;> exact h))
  · have := hex h; subst this
    simp only [Array.size_append, List.size_toArray, hfl, hrest, Nat.sub_self, Nat.zero_mul, Nat.add_zero]
  · have hg : gE i (setMany .nil 0 ls) = ls.getD i .nil := by have := setMany_get .nil ls 0 i hi; rwa [Nat.zero_add] at this
    rw [hg]
    have hmem : ls.getD i .nil ∈ ls := by
      have : ls.getD i .nil = ls[i] := by simp [List.getD, hi]
      rw [this]; exact List.getElem_mem hi
    refine ⟨hle.dfC (hd _ hmem), by rw [hle.concC (hd _ hmem)]; exact hz _ hmem, fun j v hv => ?_⟩
    rw [hle.concC (hd _ hmem)] at hv
    have := flat_at hz hi hv
    have hlt := (List.getElem?_eq_some_iff.1 this).1
    rw [Nat.zero_add, Array.getElem?_append_left (by simpa using hlt)]
    simpa using this
theorem ok_makeMap {tt : TypeId} : NOk P T B w0 (hSlow sMakeMap) (.makeMap tt none) t e L hs fun _ _ => True := by
  rcases hSlow_eq sMakeMap e L hs with h | ⟨hn, v, hs2, h1, h2⟩
  · exact .inl h
  · simp only [sMakeMap, new_eq, Option.some.injEq, Prod.mk.injEq] at h1
    obtain ⟨rfl, rfl⟩ := h1
    refine .inr ⟨_, _, h2, hn, rfl, fun φ hs' w ρ _ H hφ hb hg => ?_⟩
    refine ⟨⟨w.heap.size, 0, 0, 0⟩, _, place_own H hb hφ (.map #[] 0) rfl (by rw [hg]; exact ⟨push_get _ _, trivial⟩), ?_, fun _ _ _ _ => ?_⟩
    · show ((set1 φ hs.next _) hs.next).isSome = true
      rw [set1_same]; rfl
    · simp only [execOp]
      refine run_valueOf _ _ _ _ ?_
      have : (pl (set1 φ hs.next ⟨w.heap.size, 0, 0, 0⟩) hs.next).blk = w.heap.size := by simp [pl, set1_same]
      simp only [conc, this]
      rfl
theorem ok_makeMapR {tt k el : TypeId} {kk : IntKind} {n : Int} (hu : und P tt = some (.map k el)) (hρ : ∀ ρ : Operand → Value, True) :
    NOk P T B w0 (hSlow sMakeMap) (.makeMap tt (some (.const (.int kk n)))) t e L hs fun _ ρ => ρ (.const (.int kk n)) = .int kk n := by
  rcases hSlow_eq sMakeMap e L hs with h | ⟨hn, v, hs2, h1, h2⟩
  · exact .inl h
  · simp only [sMakeMap, new_eq, Option.some.injEq, Prod.mk.injEq] at h1
    obtain ⟨rfl, rfl⟩ := h1
    refine .inr ⟨_, _, h2, hn, rfl, fun φ hs' w ρ hr H hφ hb hg => ?_⟩
    refine ⟨⟨w.heap.size, 0, 0, 0⟩, _, place_own H hb hφ (.map #[] 0) rfl (by rw [hg]; exact ⟨push_get _ _, trivial⟩), ?_, fun _ _ _ _ => ?_⟩
    · show ((set1 φ hs.next _) hs.next).isSome = true
      rw [set1_same]; rfl
    · simp only [execOp]
      refine run_valueOf _ _ _ _ ?_
      have : (pl (set1 φ hs.next ⟨w.heap.size, 0, 0, 0⟩) hs.next).blk = w.heap.size := by simp [pl, set1_same]
      simp only [conc, this, Option.map_some, Instr.makeMap, hr, Sem.run_bind, und_run hu, Result.andThen_ok, asInt, Sem.run_pure]
      rfl
theorem flat_set {z : Nat} {els : List AV} (hz : ∀ c ∈ els, (concL φ c).length = z) {c : AV} (hc : (concL φ c).length = z) : ∀ {i : Nat}, i < els.length → ∀ (k : Nat),
    (flat φ (els.set i c))[k]? = if i * z ≤ k ∧ k < i * z + z then (concL φ c)[k - i * z]? else (flat φ els)[k]? := by
  induction els with
  | nil => intro i hi; simp at hi
  | cons d els ih =>
    intro i hi k
    have hd := hz d List.mem_cons_self
    cases i with
    | zero =>
      simp only [List.set_cons_zero, flat, List.flatMap_cons, Nat.zero_mul, Nat.zero_add, Nat.zero_le, true_and, Nat.sub_zero]
      by_cases hk : k < z
      · rw [if_pos hk, List.getElem?_append_left (by omega)]
      · rw [if_neg hk, List.getElem?_append_right (by omega), List.getElem?_append_right (by omega), hc, hd]
    | succ i =>
      simp only [List.set_cons_succ, flat, List.flatMap_cons]
      have := ih (fun c hc => hz c (List.mem_cons_of_mem _ hc)) (i := i) (by simpa using hi) (k - z)
      simp only [flat] at this
      have e1 : (i + 1) * z = i * z + z := by rw [Nat.add_mul, Nat.one_mul]
      rw [e1]
      by_cases hk : k < z
      · rw [List.getElem?_append_left (by omega), List.getElem?_append_left (by omega), if_neg (by omega)]
      · rw [List.getElem?_append_right (by omega), List.getElem?_append_right (by omega), hd, this]
        by_cases hi' : i * z ≤ k - z ∧ k - z < i * z + z
        · rw [if_pos hi', if_pos (by omega)]; congr 1; omega
        · rw [if_neg hi', if_neg (by omega)]
theorem flat_rep {z : Nat} {c : AV} (hc : (concL φ c).length = z) (n : Nat) : ∀ k, k < n * z → (flat φ (List.replicate n c))[k]? = (concL φ c)[k % z]? := by
  induction n with
  | zero => intro k hk; simp at hk
  | succ n ih =>
    intro k hk
    simp only [List.replicate_succ, flat, List.flatMap_cons]
    by_cases h : k < z
    · rw [List.getElem?_append_left (by omega), Nat.mod_eq_of_lt h]
    · rw [List.getElem?_append_right (by omega), hc]
      have := ih (k - z) (by rw [Nat.add_mul, Nat.one_mul] at hk; omega)
      simp only [flat] at this
      rw [this, ← Nat.mod_eq_sub_mod (by omega)]
theorem rep_len {z n : Nat} {c : AV} (hc : (concL φ c).length = z) : ∀ d ∈ List.replicate n c, (concL φ d).length = z := fun d hd => by rw [(List.mem_replicate.1 hd).2]; exact hc
theorem zeros_eq {z : Nat} {c : AV} (hc : (concL φ c).length = z) (hz : 0 < z) (n : Nat) :
    (Array.range (n * z)).map (fun k => (concL φ c).toArray[k % (concL φ c).toArray.size]!) = (flat φ (List.replicate n c)).toArray := by
  apply Array.ext_getElem?
  intro k
  have hlen := flat_len (rep_len (n := n) hc)
  rw [List.length_replicate] at hlen
  by_cases hk : k < n * z
  · have hlt : k % z < z := Nat.mod_lt _ hz
    have e2 : (flat φ (List.replicate n c)).toArray[k]? = (concL φ c)[k % z]? := by rw [← flat_rep hc n k hk]; simp
    rw [e2]
    simp only [Array.getElem?_map, List.size_toArray, hc]
    rw [Array.getElem?_eq_getElem (by simpa using hk)]
    simp only [Option.map_some, Array.getElem_range]
    rw [getElem!_pos (concL φ c).toArray (k % z) (by simpa [hc] using hlt), List.getElem_toArray]
    exact (List.getElem?_eq_getElem (by omega)).symm
  · rw [Array.getElem?_eq_none (by simpa using hk), Array.getElem?_eq_none (by simp; omega)]
/-- the parts of a slice literal -/
inductive PartsOk (φ : Plc) (e : E16) (L : Loc) (ρ : Operand → Value) : List (Nat × OB) → List (Nat × Operand) → Prop where
  | nil : PartsOk φ e L ρ [] []
  | cons {i x o l r} : EvOk φ e L ρ x o → PartsOk φ e L ρ l r → PartsOk φ e L ρ ((i, x) :: l) ((i, o) :: r)
noncomputable def setParts (ps : List (Nat × OB)) (e : E16) (L : Loc) (els : List AV) : List AV := ps.foldl (fun l p => l.set p.1 (cellsV (ev p.2 e L))) els
theorem fill_parts {z n : Nat} {ps : List (Nat × OB)} {r : List (Nat × Operand)} (h : PartsOk φ e L ρ ps r) : ∀ els : List AV, els.length = n → (∀ c ∈ els, (concL φ c).length = z) → (∀ c ∈ els, DfC φ c) →
    ps.all (fun p => ltN p.1 n && lenB z (cellsV (ev p.2 e L))) = true →
    Instr.fill (fun i => some (i * z, z)) (flat φ els).toArray (r.map fun x => (x.1, ρ x.2)) = some (flat φ (setParts ps e L els)).toArray ∧ (setParts ps e L els).length = n ∧
      (∀ c ∈ setParts ps e L els, (concL φ c).length = z) ∧ ∀ c ∈ setParts ps e L els, DfC φ c := by
  induction h with
  | nil => intro els hn hz hd _; exact ⟨rfl, hn, hz, hd⟩
  | @cons i x o l r hx _ ih =>
    intro els hn hz hd ha
    simp only [List.all_cons, Bool.and_eq_true] at ha
    obtain ⟨⟨h1, h2⟩, h3⟩ := ha
    have h1 : i < n := ltN_iff.1 h1
    obtain ⟨c1, c2⟩ := cellsV_ok hx.df h2
    have hlen := lenIs_len (φ := φ) h2
    have mem : ∀ c ∈ els.set i (cellsV (ev x e L)), c ∈ els ∨ c = cellsV (ev x e L) := fun c hc => List.mem_or_eq_of_mem_set hc
    obtain ⟨i1, i2, i3, i4⟩ := ih (els.set i (cellsV (ev x e L))) (by simpa using hn) (fun c hc => by rcases mem c hc with h | h; exact hz c h; subst h; exact hlen)
      (fun c hc => by rcases mem c hc with h | h; exact hd c h; subst h; exact c1) h3
    refine ⟨?_, i2, i3, i4⟩
    show _ = some (flat φ (setParts l e L (els.set i (cellsV (ev x e L))))).toArray
    rw [← i1]
    have hfl := flat_len hz
    have hmul : i * z + z ≤ n * z := by
      have := Nat.mul_le_mul_right z (show i + 1 ≤ n by omega)
      rwa [Nat.add_mul, Nat.one_mul] at this
    simp only [List.map_cons, Instr.fill, hx.eq, c2, List.size_toArray, hlen, hfl, hn]
    rw [if_neg (by simp; omega)]
    congr 1
    rw [← Array.foldl_toList, Array.toList_zipIdx]
    obtain ⟨f1, f2⟩ := Great.foldl_set (i * z) (concL φ (cellsV (ev x e L))) 0 (flat φ els).toArray
    apply Array.ext_getElem?
    intro k
    simp only [] at f2 ⊢
    rw [f2 k]
    simp only [List.size_toArray, List.getElem?_toArray, Nat.add_zero, hlen, hfl, hn]
    rw [flat_set hz hlen (by omega)]
    by_cases hk : i * z ≤ k ∧ k < i * z + z
    · rw [if_pos hk, if_pos (by omega)]
    · rw [if_neg hk, if_neg (by omega)]
theorem ok_buildSlice {tt el : TypeId} {n : Nat} {z : AV} {ps : List (Nat × OB)} {parts : Array (Nat × Operand)} (hu : und P tt = some (.slice el)) (hz : zeroP P el = some z) (hc : csz P el ≠ 0) :
    NOk P T B w0 (hSlow (sBuildSlice el (csz P el) n (cellsV z) ps)) (.buildSlice tt n parts) t e L hs fun φ ρ => PartsOk φ e L ρ ps parts.toList := by
  rcases hSlow_eq (sBuildSlice el (csz P el) n (cellsV z) ps) e L hs with h | ⟨hn, v, hs2, h1, h2⟩
  · exact .inl h
  · simp only [sBuildSlice, new_eq] at h1
    split at h1
    · rename_i hch
      simp only [Bool.and_eq_true] at hch
      obtain ⟨⟨q1, q2⟩, q3⟩ := hch
      have q3 := Nat.le_of_ble_eq_true q3
      simp only [Option.some.injEq, Prod.mk.injEq] at h1
      obtain ⟨rfl, rfl⟩ := h1
      refine .inr ⟨_, _, h2, hn, rfl, fun φ hs' w ρ hp H hφ hb hg => ?_⟩
      obtain ⟨zr, zd⟩ := zero_run (P := P) (w := w) φ hz
      obtain ⟨c1, c2⟩ := cellsV_ok zd q1
      have hlen := lenIs_len (φ := φ) q1
      have hpos : 0 < csz P el := by omega
      obtain ⟨f1, f2, f3, f4⟩ := fill_parts (z := csz P el) (n := n) hp (List.replicate n (cellsV z)) (by simp) (rep_len hlen) (fun c hc => by rw [(List.mem_replicate.1 hc).2]; exact c1) q2
      have key := cells_at (P := P) (T := T) (w := w) (φ := φ) (b := hs.next) (elem := el) (kd := .ex) (rest := #[]) (cap := n) (fz := (0, 0)) f3 f4 hpos (by rw [f2]; simp) (by rw [f2]; exact Nat.le_refl _) (Le.set1 hφ _) (fun _ => rfl) (fun _ => f2.symm)
      rw [f2] at key
      refine ⟨⟨w.heap.size, 0, n, csz P el⟩, _, place_own H hb hφ _ rfl (by rw [hg]; exact key), ?_, fun _ _ _ _ => ?_⟩
      · refine ⟨by rw [set1_same]; rfl, ?_⟩
        exact Nat.le_refl _
      · simp only [execOp]
        refine run_valueOf _ _ _ _ ?_
        have e0 : (do if n * csz P el = 0 then pure #[] else do pure (← zeroValue el).cells : Sem (Array Value)).run P w = .ok (if n * csz P el = 0 then #[] else (concL φ (cellsV z)).toArray) w := by
          split
          · rfl
          · simp only [Sem.run_bind, zr, Result.andThen_ok, Sem.run_pure, c2]
        have e1 : ((Array.range (n * csz P el)).map (fun k => (if n * csz P el = 0 then #[] else (concL φ (cellsV z)).toArray)[k % (if n * csz P el = 0 then #[] else (concL φ (cellsV z)).toArray).size]!)) = (flat φ (List.replicate n (cellsV z))).toArray := by
          split
          · rename_i h0
            rw [h0]
            have : n = 0 := by
              rcases Nat.mul_eq_zero.1 h0 with h | h
              · exact h
              · omega
            subst this; simp [flat]
          · exact zeros_eq hlen hpos n
        have q3' : ¬ n * csz P el > 2 ^ 24 := by omega
        have hpl : pl (set1 φ hs.next ⟨w.heap.size, 0, n, csz P el⟩) hs.next = ⟨w.heap.size, 0, n, csz P el⟩ := by simp [pl, set1_same]
        simp only [Instr.buildSlice, Sem.run_bind, und_run hu, Result.andThen_ok, csz_run hc, if_neg q3']
        split
        · rename_i h0
          rw [if_pos h0] at e1
          simp only [Sem.run_bind, Sem.run_pure, Result.andThen_ok, e1, Array.toList_map, f1, newRow_run]
          simp only [conc, adr_eq (set1_same φ hs.next _), Bool.false_eq_true, if_false, Nat.zero_mul, Nat.add_zero, setParts]
          simp only [Array.append_empty]
        · rename_i h0
          rw [if_neg h0] at e1
          simp only [Sem.run_bind, zr, Sem.run_pure, Result.andThen_ok, c2, e1, Array.toList_map, f1, newRow_run]
          simp only [conc, adr_eq (set1_same φ hs.next _), Bool.false_eq_true, if_false, Nat.zero_mul, Nat.add_zero, setParts]
          simp only [Array.append_empty]
    · cases h1
end
end Go.AbsK

namespace Go.AbsK
open Go
open Go.RowKit (Below)
set_option linter.unusedVariables false
set_option linter.unusedSimpArgs false
set_option linter.deprecated false

variable {P : Program} {T : Hints} {B : Nat} {w0 : World}
section
variable {φ : Plc} {e : E16} {L : Loc} {hs : HS} {w : World} {ρ : Operand → Value} {t : TypeId}

theorem bytesOk_run {el : TypeId} (h : bytesOk P el = true) : ∃ i, (typeInfo el).run P w = .ok i w ∧ i.bytes ≤ 1000000 := by
  unfold bytesOk at h
  cases hi : infoT P el with
  | none => rw [hi] at h; cases h
  | some i => rw [hi] at h; exact ⟨i, by simp [typeInfo, infoT_run hi], Nat.le_of_ble_eq_true h⟩
theorem askRoom_run (n : Nat) : (askRoom n).run P w = .ok () w := by
  unfold askRoom
  split <;> rfl
theorem ok_makeSlice {tt el : TypeId} {z : AV} {l c : OB} {lo co : Operand} (hu : und P tt = some (.slice el)) (hz : zeroP P el = some z) (hc : csz P el ≠ 0) (hb0 : bytesOk P el = true) :
    NOk P T B w0 (hSlow (sMakeSlice el (csz P el) (cellsV z) l c)) (.makeSlice tt lo co) t e L hs fun φ ρ => EvOk φ e L ρ l lo ∧ EvOk φ e L ρ c co := by
  rcases hSlow_eq (sMakeSlice el (csz P el) (cellsV z) l c) e L hs with h | ⟨hn, v, hs2, h1, h2⟩
  · exact .inl h
  · unfold sMakeSlice at h1
    split at h1
    · rename_i nl nc hl hcn
      split at h1
      · rename_i hch
        simp only [Bool.and_eq_true] at hch
        obtain ⟨⟨q1, q2⟩, q3⟩ := hch
        have q1 := Nat.le_of_ble_eq_true q1
        have q2 := Nat.le_of_ble_eq_true q2
        simp only [new_eq, Option.some.injEq, Prod.mk.injEq] at h1
        obtain ⟨rfl, rfl⟩ := h1
        obtain ⟨kl, hl⟩ := asNat_ok hl
        obtain ⟨kc, hcn⟩ := asNat_ok hcn
        refine .inr ⟨_, _, h2, hn, rfl, fun φ hs' w ρ hp H hφ hb hg => ?_⟩
        obtain ⟨zr, zd⟩ := zero_run (P := P) (w := w) φ hz
        obtain ⟨c1, c2⟩ := cellsV_ok zd q3
        have hlen := lenIs_len (φ := φ) q3
        have hpos : 0 < csz P el := by omega
        have key := cells_at (P := P) (T := T) (w := w) (φ := φ) (b := hs.next) (elem := el) (kd := .ex) (rest := #[]) (cap := nc) (fz := (0, 0)) (ls := List.replicate nc (cellsV z)) (rep_len hlen) (fun c hc => by rw [(List.mem_replicate.1 hc).2]; exact c1) hpos (by simp) (by simp) (Le.set1 hφ _) (fun _ => rfl) (fun _ => by simp)
        rw [List.length_replicate] at key
        refine ⟨⟨w.heap.size, 0, nc, csz P el⟩, _, place_own H hb hφ _ rfl (by rw [hg]; exact key), ⟨by rw [set1_same]; rfl, q1⟩, fun _ _ _ _ => ?_⟩
        simp only [execOp]
        refine run_valueOf _ _ _ _ ?_
        rw [hp.1.eq, hp.2.eq, hl, hcn]
        obtain ⟨i, hi, hib⟩ := bytesOk_run (w := w) hb0
        have wl : IntKind.i64.wrap (Int.ofNat nl) = nl := i64_wrap (by simp only [Int.ofNat_eq_natCast]; omega) (by simp only [Int.ofNat_eq_natCast]; omega)
        have wc : IntKind.i64.wrap (Int.ofNat nc) = nc := i64_wrap (by simp only [Int.ofNat_eq_natCast]; omega) (by simp only [Int.ofNat_eq_natCast]; omega)
        have hby : (i.bytes : Int) * (nc : Int) ≤ 100000000000 := by
          have h0 : i.bytes * nc ≤ 1000000 * 100000 := Nat.mul_le_mul hib q2
          rw [← Int.natCast_mul]
          generalize i.bytes * nc = m at h0
          omega
        have t1 : ((decide ((nc : Int) < 0) || decide ((i.bytes : Int) * (nc : Int) > 2 ^ 48)) || decide ((nl : Int) < 0) || decide ((nl : Int) > (nc : Int))) = false := by
          have a1 : ¬ ((nc : Int) < 0) := by omega
          have a2 : ¬ ((i.bytes : Int) * (nc : Int) > 2 ^ 48) := by omega
          have a3 : ¬ ((nl : Int) < 0) := by omega
          have a4 : ¬ ((nl : Int) > (nc : Int)) := by omega
          rw [decide_eq_false a1, decide_eq_false a2, decide_eq_false a3, decide_eq_false a4]; rfl
        have e0 : (do if nc * csz P el = 0 then pure #[] else do pure (← zeroValue el).cells : Sem (Array Value)).run P w = .ok (if nc * csz P el = 0 then #[] else (concL φ (cellsV z)).toArray) w := by
          split
          · rfl
          · simp only [Sem.run_bind, zr, Result.andThen_ok, Sem.run_pure, c2]
        have e1 : ((Array.range (nc * csz P el)).map (fun k => (if nc * csz P el = 0 then #[] else (concL φ (cellsV z)).toArray)[k % (if nc * csz P el = 0 then #[] else (concL φ (cellsV z)).toArray).size]!)) = (flat φ (List.replicate nc (cellsV z))).toArray := by
          split
          · rename_i h0
            rw [h0]
            have : nc = 0 := by
              rcases Nat.mul_eq_zero.1 h0 with h | h
              · exact h
              · omega
            subst this; simp [flat]
          · exact zeros_eq hlen hpos nc
        have al : (asInt (conc φ (.int kl (Int.ofNat nl)))).run P w = .ok (Int.ofNat nl) w := rfl
        have ac : (asInt (conc φ (.int kc (Int.ofNat nc)))).run P w = .ok (Int.ofNat nc) w := rfl
        simp only [Instr.makeSlice, Sem.run_bind, und_run hu, Result.andThen_ok, al, ac, Sem.run_pure, hi, wl, wc, t1, Bool.false_eq_true, if_false, askRoom_run, Int.toNat_natCast, csz_run hc]
        split
        · rename_i h0
          rw [if_pos h0] at e1
          simp only [Sem.run_bind, Sem.run_pure, Result.andThen_ok, e1, newRow_run]
          simp only [conc, Bool.false_eq_true, if_false, adr_eq (set1_same φ hs.next _), Nat.zero_mul, Nat.add_zero, Array.append_empty]
        · rename_i h0
          rw [if_neg h0] at e1
          simp only [Sem.run_bind, zr, Sem.run_pure, Result.andThen_ok, c2, e1, newRow_run]
          simp only [conc, Bool.false_eq_true, if_false, adr_eq (set1_same φ hs.next _), Nat.zero_mul, Nat.add_zero, Array.append_empty]
      · cases h1
    · cases h1
theorem appendCap_run (need old : Nat) (el : TypeId) : ∃ cap, need ≤ cap ∧ (choose (.appendCap need old el)).run P w = .ok cap { w with drawn := w.drawn + 1 } := by
  refine ⟨need + (w.tape w.drawn (.appendCap need old el)) % (2 ^ 63 - need), Nat.le_add_right _ _, ?_⟩
  rfl
theorem ok_toBytes {s d el : TypeId} {x : OB} {o : Operand} (hs0 : und P s = some .string) (hd : und P d = some (.slice el)) (he : und P el = some (.int .u8)) :
    NOk P T B w0 (hSlow (sToBytes el x)) (.convert s d o) t e L hs fun φ ρ => EvOk φ e L ρ x o := by
  rcases hSlow_eq (sToBytes el x) e L hs with h | ⟨hn, v, hs2, h1, h2⟩
  · exact .inl h
  · unfold sToBytes at h1
    split at h1
    · rename_i b hx
      simp only [new_eq, Option.some.injEq, Prod.mk.injEq] at h1
      obtain ⟨rfl, rfl⟩ := h1
      refine .inr ⟨_, _, h2, hn, rfl, fun φ hs' w ρ hp H hφ hb hg => ?_⟩
      obtain ⟨cap, hcap, hrun⟩ := appendCap_run (P := P) (w := w) b.length 0 el
      let ls : List AV := b.map fun c => .cons (.int .u8 (.ofNat (c % 256))) .nil
      have hz : ∀ c ∈ ls, (concL φ c).length = 1 := fun c hc => by
        obtain ⟨k, _, rfl⟩ := List.mem_map.1 hc; rfl
      have hdf : ∀ c ∈ ls, DfC φ c := fun c hc => by
        obtain ⟨k, _, rfl⟩ := List.mem_map.1 hc; exact ⟨⟨rfl, trivial⟩, trivial⟩
      have hll : ls.length = b.length := by simp [ls]
      let arr : Array Value := (flat φ ls).toArray ++ Array.replicate (cap - b.length) (.int .u8 0)
      let w1 : World := { w with drawn := w.drawn + 1 }
      have key := cells_at (P := P) (T := T) (w := w1) (φ := φ) (b := hs.next) (elem := el) (kd := .ro) (rest := Array.replicate (cap - b.length) (.int .u8 0)) (cap := cap) (fz := (arr.size, arr.size + 1)) hz hdf (by omega) (by rw [hll]; simp) (by omega) (Le.set1 hφ _) (fun h => h.elim) (fun h => by cases h)
      rw [hll] at key
      let w2 : World := { w1 with heap := w1.heap.push (.cells arr el (arr.size, arr.size + 1)) }
      have hfrz : ({ w1 with heap := w1.heap.push (.cells arr el) } : World).freeze ⟨w.heap.size, arr.size, none⟩ 1 = w2 := by
        simp only [World.freeze, if_neg (show ¬ (1 = 0) by omega), w2, w1]
        congr 1
        apply Array.ext_getElem?
        intro k
        simp only [Array.getElem?_modify, Array.getElem?_push]
        by_cases hk : k = w.heap.size
        · subst hk
          simp
        · rw [if_neg (fun h => hk h.symm), if_neg hk, if_neg hk]
      have Hp : HOk P T B w0 (set1 φ hs.next ⟨w.heap.size, 0, cap, 1⟩) hs' w2 :=
        H.place hb hφ ⟨rfl, rfl, rfl, by simp [w2, w1], fun i hi hk => by show (w.heap.push _)[i]? = _; rw [Array.getElem?_push, if_neg (by omega)]⟩ rfl (by simp [w2, w1]) (by rw [hg]; exact key)
      refine ⟨⟨w.heap.size, 0, cap, 1⟩, w2, Hp, ?_, fun _ _ _ _ => ?_⟩
      · have hp1 : pl (set1 φ hs.next ⟨w.heap.size, 0, cap, 1⟩) hs.next = ⟨w.heap.size, 0, cap, 1⟩ := by simp [pl, set1_same]
        split
        · exact ⟨by rw [set1_same]; rfl, rfl, Nat.zero_le _⟩
        · exact ⟨by rw [set1_same]; rfl, by simp only [if_true, hp1]; exact ⟨trivial, by omega⟩⟩
      · simp only [execOp]
        refine run_valueOf _ _ _ _ ?_
        have hp1 : pl (set1 φ hs.next ⟨w.heap.size, 0, cap, 1⟩) hs.next = ⟨w.heap.size, 0, cap, 1⟩ := by simp [pl, set1_same]
        have hcv : conc (set1 φ hs.next ⟨w.heap.size, 0, cap, 1⟩) (if b.isEmpty then vSlz hs.next 0 0 0 0 else .sl hs.next 0 b.length 0 true) = .slice (some ⟨w.heap.size, 0, none⟩) b.length cap := by
          split
          · rename_i hbe
            have : b = [] := by simpa using hbe
            subst this
            simp [conc, adr_eq (set1_same φ hs.next _), hp1]
          · simp [conc, adr_eq (set1_same φ hs.next _), hp1]
        rw [hcv, hp.eq, hx]
        have hcs : ((bs b).data.map fun c => Value.int .u8 c.toNat) = (flat φ ls).toArray := by
          show _ = (flat φ (b.map fun c => .cons (.int .u8 (.ofNat (c % 256))) .nil)).toArray
          rw [flat_bytes]
          apply Array.ext'
          simp [bs, Function.comp_def]
        have hsh : ({ w1 with heap := w1.heap.push (.cells arr el) } : World).shape? w.heap.size = some (el, arr.size) := shape_of (by simp [w1]; rfl)
        have hms : (markStringish ⟨w.heap.size, 0, none⟩).run P { w1 with heap := w1.heap.push (.cells arr el) } = .ok () w2 := by
          simp only [markStringish, Sem.run_bind, run_shape, hsh, Result.andThen_ok]
          rw [← hfrz]; rfl
        simp only [conc, convert, Sem.run_bind, und_run hs0, und_run hd, und_run he, Result.andThen_ok, Conv.stringToBytes, size_bs, hrun, hcs, newRow_run, Sem.run_pure]
        have hms' := hms
        simp only [w1, arr] at hms'
        simp only [hms', Result.andThen_ok]
    · cases h1
end
end Go.AbsK

namespace Go.AbsK
open Go
open Go.RowKit (Below)
set_option linter.unusedVariables false
set_option linter.unusedSimpArgs false
set_option linter.deprecated false

variable {P : Program} {T : Hints} {B : Nat} {w0 : World}
section
variable {φ : Plc} {e : E16} {L : Loc} {hs : HS} {w : World} {ρ : Operand → Value} {t : TypeId}

def spl (arr : Array Value) (off : Nat) (new : List Value) : Array Value := (arr.toList.take off ++ new ++ arr.toList.drop (off + new.length)).toArray
theorem spl_size {arr : Array Value} {off : Nat} {new : List Value} (h : off + new.length ≤ arr.size) : (spl arr off new).size = arr.size := by
  simp only [spl, List.size_toArray, List.length_append, List.length_take, List.length_drop, Array.length_toList]
  omega
theorem spl_get {arr : Array Value} {off : Nat} {new : List Value} (h : off + new.length ≤ arr.size) (k : Nat) : (spl arr off new)[k]? = if off ≤ k ∧ k < off + new.length then new[k - off]? else arr[k]? := by
  simp only [spl, List.getElem?_toArray]
  have hl : (arr.toList.take off).length = off := by rw [List.length_take, Array.length_toList]; omega
  by_cases h1 : k < off
  · rw [if_neg (by omega), List.append_assoc, List.getElem?_append_left (by omega), List.getElem?_take, if_pos h1]
    simp
  · by_cases h2 : k < off + new.length
    · rw [if_pos (by omega), List.append_assoc, List.getElem?_append_right (by omega), hl, List.getElem?_append_left (by omega)]
    · rw [if_neg (by omega), List.getElem?_append_right (by rw [List.length_append, hl]; omega), List.length_append, hl, List.getElem?_drop]
      rw [show off + new.length + (k - (off + new.length)) = k by omega]
      simp
theorem one_cell {v : AV} (h : one v = true) (d : Df φ v) : (conc φ v).oneCell' = true := by
  cases v with
  | oth g a b c d' e' f x y =>
    simp only [conc]
    simp only [Df] at d
    simp only [one] at h
    split at d <;> first | rfl | exact d.elim | simp at h
  | agg l => cases h
  | nil => cases h
  | cons a t => cases h
  | _ => rfl
theorem ones {l : AV} (h : DfC φ l) : ∀ v ∈ concL φ l, v.oneCell' = true := by
  intro v hv
  rw [concL_lst] at hv
  obtain ⟨a, ha, rfl⟩ := List.mem_map.1 hv
  obtain ⟨h1, h2⟩ := DfC_lst h a ha
  exact one_cell h1 h2
theorem But.setRow {k : Nat} {w : World} (cs : Array Value) : But k w (w.setRow k cs) :=
  ⟨rfl, rfl, rfl, by rw [setRow_size]; exact Nat.le_refl _, fun i _ hk => setRow_other w k i cs hk⟩
theorem storeCells_run {k off : Nat} {arr : Array Value} {el : TypeId} (hg : w.heap[k]? = some (.cells arr el (0, 0))) {new : List Value} (h : off + new.length ≤ arr.size) (h1 : ∀ v ∈ new, v.oneCell' = true) :
    (storeCells ⟨k, off, none⟩ new).run P w = .ok () (w.setRow k (spl arr off new)) := run_storeCells_at P k off el new 0 arr w hg h h1
/-- an array, a part of an element of which was written -/
theorem cells_set {φ : Plc} {elem sz n : Nat} {els : Env} {kd kd' : Kd} {p : Pl} {w w' : World} (ho : ObjOk P T φ (.cells elem sz n els kd) p w) (hw : wr (.cells elem sz n els kd)) {i j : Nat} (hi : i < n) {new : List Value} {c : AV}
    (hd : DfC φ c) (hl : (concL φ c).length = sz) (hj : j + new.length ≤ sz) (hc : ∀ k, (concL φ c)[k]? = if j ≤ k ∧ k < j + new.length then new[k - j]? else (concL φ (gE i els))[k]?)
    (hrow : ∀ arr, w.heap[p.blk]? = some (.cells arr elem (0, 0)) → w'.heap[p.blk]? = some (.cells (spl arr (p.base + i * p.sz + j) new) elem (0, 0))) (hk : kd' = .ex → kd = .ex) :
    ObjOk P T φ (.cells elem sz n (setE (pathOf i) c els) kd') p w' ∧ ∃ arr, w.heap[p.blk]? = some (.cells arr elem (0, 0)) ∧ p.base + i * p.sz + j + new.length ≤ arr.size := by
  obtain ⟨arr, frz, a1, a2, a3, a4, a5, a6, a7, a8⟩ := ho
  have hf := a6 hw
  subst hf
  have hmul : i * sz + sz ≤ p.cap * sz := by
    have := Nat.mul_le_mul_right sz (show i + 1 ≤ p.cap by omega)
    rwa [Nat.add_mul, Nat.one_mul] at this
  have hfit : p.base + i * p.sz + j + new.length ≤ arr.size := by rw [a2]; omega
  refine ⟨⟨_, (0, 0), hrow arr a1, a2, a3, a4, by rw [spl_size hfit]; exact a5, fun _ => rfl, fun h => ?_, fun k hkn => ?_⟩, arr, a1, hfit⟩
  · rw [spl_size hfit]; exact a7 (hk h)
  · by_cases hki : k = i
    · subst hki
      rw [gE_same]
      refine ⟨hd, hl, fun m v hv => ?_⟩
      rw [spl_get hfit]
      have hm : m < sz := by have := (List.getElem?_eq_some_iff.1 hv).1; omega
      rw [hc m] at hv
      rw [a2]
      by_cases hin : j ≤ m ∧ m < j + new.length
      · rw [if_pos hin] at hv
        rw [if_pos (by omega), ← hv]
        congr 1; omega
      · rw [if_neg hin] at hv
        rw [if_neg (by omega)]
        exact (a8 k hkn).2.2 m v hv
    · rw [gE_ne hki]
      obtain ⟨b1, b2, b3⟩ := a8 k hkn
      refine ⟨b1, b2, fun m v hv => ?_⟩
      have hm : m < sz := by have := (List.getElem?_eq_some_iff.1 hv).1; omega
      rw [spl_get hfit, if_neg ?_]
      · exact b3 m v hv
      · rw [a2]
        intro ⟨h1, h2⟩
        rcases Nat.lt_or_ge k i with h | h
        · have := Nat.mul_le_mul_right sz (show k + 1 ≤ i by omega)
          rw [Nat.add_mul, Nat.one_mul] at this; omega
        · have := Nat.mul_le_mul_right sz (show i + 1 ≤ k by omega)
          rw [Nat.add_mul, Nat.one_mul] at this; omega
theorem put_unt {φ : Plc} {hs : HS} {b : Nat} {p : Pl} (hφ : φ b = some p) (o : AObj) (hn : hs.next ≤ 1000004) (hb : b < hs.next) : Unt φ hs (hs.put b o) := by
  cases hs
  refine ⟨Nat.le_refl _, fun c hc hcφ => ?_⟩
  have hc : c < _ := hc
  have hn : _ ≤ 1000004 := hn
  have hb : b < _ := hb
  exact getH_ne (by simp only [HS.next] at *; omega) (by simp only [HS.next] at *; omega) (fun h => by subst h; rw [hφ] at hcφ; cases hcφ) _ _
theorem storeVar_run {tt : TypeId} (hc : csz P tt ≠ 0) {v : Value} (hl : v.cells.size = csz P tt) {k off : Nat} {arr : Array Value} {el : TypeId} (hg : w.heap[k]? = some (.cells arr el (0, 0))) (h : off + v.cells.size ≤ arr.size)
    (h1 : ∀ x ∈ v.cells.toList, x.oneCell' = true) : (storeVar tt ⟨k, off, none⟩ v).run P w = .ok () (w.setRow k (spl arr off v.cells.toList)) := by
  simp only [storeVar, Sem.run_bind, csz_run hc, Result.andThen_ok, if_neg (show ¬ v.cells.size ≠ csz P tt by simp [hl])]
  exact storeCells_run hg (by simpa using h) h1
theorem over_fail (l : AV) (m : Nat) : ∀ cs : AV, overO l m cs (fun _ => Out.fail) = .fail := by
  induction m with
  | zero =>
    induction l with
    | nil => intro cs; rfl
    | cons h t _ ih => intro cs; cases cs <;> first | rfl | exact ih _
    | _ => intro cs; rfl
  | succ m ih => intro cs; cases cs <;> first | rfl | exact ih _
theorem ok_store (H : HOk P T B w0 φ hs w) {a x : OB} {ao xo : Operand} (ha : EvOk φ e L ρ a ao) (hx : EvOk φ e L ρ x xo) {tt : TypeId} (hc : csz P tt ≠ 0) :
    EffOk P T B w0 (hStore (csz P tt) a x) (.store tt ao xo) t φ e L hs w ρ := by
  unfold EffOk hStore
  have h1 := ha.eq
  have h2 := ha.df
  have h3 := hx.eq
  have h4 := hx.df
  generalize ev a e L = av at *
  generalize ev x e L = xv at *
  simp only [ptrO_eq]
  cases av with
  | ptr b i j =>
    refine Ans2.guard (c := lenIs (csz P tt) (cellsV xv)) (k := fun q => storeO hs b i j (cellsV xv) q) fun hl => ?_
    obtain ⟨p, hp⟩ := some_pl h2
    obtain ⟨hbn, _, hob⟩ := H.dom b p hp
    obtain ⟨c1, c2⟩ := cellsV_ok h4 hl
    have hlen := lenIs_len (φ := φ) hl
    have lim := H.lim
    have fin : ∀ {arr : Array Value} {el : TypeId}, w.heap[p.blk]? = some (.cells arr el (0, 0)) → p.base + i * p.sz + j + (concL φ (cellsV xv)).length ≤ arr.size →
        ∀ dst pos after guard, (execOp ρ { dst, op := .store tt ao xo, type := t, pos, after, guard }).run P w = .ok .skip (w.setRow p.blk (spl arr (p.base + i * p.sz + j) (concL φ (cellsV xv)))) := fun {arr el} hg hfit _ _ _ _ => by
      simp only [execOp, Instr.storeAt, Instr.sureAddr, h1, h3, conc, Sem.run_bind, Sem.run_pure, Result.andThen_ok, adr_eq hp]
      rw [storeVar_run (P := P) hc (by simp [c2, hlen]) hg (by simpa [c2] using hfit) (by rw [c2]; simpa using ones c1)]
      simp [c2]
    unfold storeO
    cases hg : getH b hs.heap with
    | var elem z cs =>
      rw [hg] at hob
      have hob := hob (by unfold live; rw [hg]; trivial)
      obtain ⟨a1, a2, a3, a4, a5, a6⟩ := hob
      refine Ans2.guard (k := fun q => overO (cellsV xv) j cs fun cs' => q undef (hs.put b (.var elem z cs'))) fun hi => ?_
      have hi := beqN_iff.1 hi
      subst hi
      refine Ans.bind2 (f := fun cs' q => q undef (hs.put b (.var elem z cs'))) (over_ok (cellsV xv) j cs c1 a5) fun cs' ⟨o1, o2, o3, o4⟩ => ?_
      have hoff : p.base + 0 * p.sz + j = j := by rw [a2]; omega
      have hfit : p.base + 0 * p.sz + j + (concL φ (cellsV xv)).length ≤ (concL φ cs).toArray.size := by rw [hoff]; simpa using o2
      refine Ans2.ret ⟨φ, _, Le.refl φ, H.put hp _ (by rw [hg]; trivial) (by rw [hg]; rfl) (fun _ _ _ => by rw [hg]; simp [famOf]) (But.setRow _) ⟨?_, a2, a3, by rw [o3]; exact a4, o1, a6⟩, put_unt hp _ lim hbn, fun _ _ h => h, trivial, fun _ _ _ _ => ⟨_, fin a1 hfit _ _ _ _, .inr ⟨rfl, rfl⟩⟩⟩
      rw [setRow_heap w p.blk _ _ _ _ a1]
      congr 2
      apply Array.ext_getElem?
      intro k
      rw [spl_get hfit, hoff]
      simp only [List.getElem?_toArray]
      exact (o4 k).symm
    | cells elem z n els kd =>
      rw [hg] at hob
      refine Ans2.guard (k := fun q => overO (cellsV xv) j (getE (pathOf i) els) fun cs => stKd kd elem z n (setE (pathOf i) cs els) hs b q) fun hi => ?_
      have hi := ltN_iff.1 hi
      by_cases hwr : wr (.cells elem z n els kd)
      · have hob := hob (live_of_wr (by rw [hg]; exact hwr))
        have hel := hob
        obtain ⟨arr0, frz0, a1, a2, a3, a4, a5, a6, a7, a8⟩ := hel
        obtain ⟨b1, b2, b3⟩ := a8 i hi
        refine Ans.bind2 (f := fun cs q => stKd kd elem z n (setE (pathOf i) cs els) hs b q) (over_ok (cellsV xv) j (gE i els) c1 b1) fun cs' ⟨o1, o2, o3, o4⟩ => ?_
        have hrow : ∀ arr, w.heap[p.blk]? = some (.cells arr elem (0, 0)) → ∀ arr', w.heap[p.blk]? = some (.cells arr' elem (0, 0)) → arr = arr' := fun arr h arr' h' => by rw [h] at h'; cases h'; rfl
        have key := fun (kd' : Kd) (hk : kd' = .ex → kd = .ex) => cells_set (P := P) (T := T) (kd' := kd') (w' := w.setRow p.blk (spl arr0 (p.base + i * p.sz + j) (concL φ (cellsV xv)))) hob hwr hi (j := j) (new := concL φ (cellsV xv)) o1 (by rw [o3]; exact b2) (by rw [b2] at o2; exact o2) o4
          (fun arr ha => by
            have hf := a6 hwr; subst hf
            have := hrow arr ha arr0 a1; subst this
            exact setRow_heap w p.blk _ _ _ _ ha) hk
        have hf := a6 hwr
        subst hf
        obtain ⟨arr1, q1, q2⟩ := (key kd id).2
        have := hrow arr1 q1 arr0 a1; subst this
        have skp := fin a1 q2
        cases kd with
        | ex =>
          exact Ans2.ret ⟨φ, _, Le.refl φ, H.put hp _ (by rw [hg]; trivial) (by rw [hg]; rfl) (fun _ _ _ => by rw [hg]; simp [famOf]) (But.setRow _) (key .ex id).1, put_unt hp _ lim hbn, fun _ _ h => h, trivial, fun _ _ _ _ => ⟨_, skp _ _ _ _, .inr ⟨rfl, rfl⟩⟩⟩
        | ro => exact hwr.elim
        | opn own sh fam ver =>
          cases own with
          | false => exact hwr.elim
          | true =>
            cases sh with
            | false =>
              exact Ans2.ret ⟨φ, _, Le.refl φ, H.put hp _ (by rw [hg]; trivial) (by rw [hg]; rfl) (fun _ _ _ => by rw [hg]; simp [famOf]) (But.setRow _) (key (.opn true false fam ver) (fun h => by cases h)).1, put_unt hp _ lim hbn, fun _ _ h => h, trivial, fun _ _ _ _ => ⟨_, skp _ _ _ _, .inr ⟨rfl, rfl⟩⟩⟩
            | true =>
              refine .inr ⟨undef, _, fun q => natO_eq _ _, φ, _, Le.refl φ, H.putB hp hg (But.setRow _) (key (.opn true false fam (ver + 1)) (fun h => by cases h)).1, ?_, fun _ _ h => h, trivial, fun _ _ _ _ => ⟨_, skp _ _ _ _, .inr ⟨rfl, rfl⟩⟩⟩
              have := put_unt hp (.cells elem z n (setE (pathOf i) cs' els) (.opn true false fam (ver + 1))) lim hbn
              cases hs
              exact this
      · -- not to be written
        refine .inl fun q => ?_
        have hno : ∀ els' q', stKd kd elem z n els' hs b q' = .fail := fun els' q' => by
          cases kd with
          | ex => exact absurd trivial hwr
          | ro => rfl
          | opn own sh fam ver => cases own with | false => rfl | true => exact absurd trivial hwr
        simp only [hno]
        exact over_fail _ _ _
    | _ => exact Ans2.none
  | _ => exact Ans2.none
end
end Go.AbsK

namespace Go.AbsK
open Go
open Go.RowKit (Below)
set_option linter.unusedVariables false
set_option linter.unusedSimpArgs false
set_option linter.deprecated false

variable {P : Program} {T : Hints} {B : Nat} {w0 : World}

/-- an array that comes to lie in a block where nobody writes -/
theorem HOk.placeAt {φ : Plc} {hs : HS} {w w' : World} (H : HOk P T B w0 φ hs w) {nb k : Nat} {q : Pl} (hb : nb < hs.next) (hφ : φ nb = none) (hk : k < w.heap.size) (hB : B ≤ k) (hq : q.blk = k)
    {elem sz n fam ver : Nat} {els' : Env} {sh : Bool} (hn : getH nb hs.heap = .cells elem sz n els' (.opn true sh fam ver))
    (hno : ∀ c r, φ c = some r → r.blk = k → ¬ wr (getH c hs.heap))
    (hfm : ∀ c r, φ c = some r → r.blk = k → live hs c → ∃ ver' sh', famOf (getH c hs.heap) = some (fam, ver', false, sh') ∧ eo (getH c hs.heap) r ≤ q.base + n * sz ∧ sh = true)
    (hw : But k w w') (ho : ObjOk P T (set1 φ nb q) (getH nb hs.heap) q w')
    (hold : ∀ c r, φ c = some r → r.blk = k → live hs c → ObjOk P T φ (getH c hs.heap) r w') :
    HOk P T B w0 (set1 φ nb q) hs w' := by
  have hle := Le.set1 hφ q
  refine ⟨H.lim, fun c r e => ?_, fun c c' r r' ne e e' hr hwr hl => ?_, H.vers, H.uno, H.vers0, fun c r e hwr => ?_, Nat.le_trans H.size hw.size, hw.below H.below hB H.size⟩
  · unfold set1 at e
    split at e
    · subst c; cases e
      refine ⟨hb, ?_, fun _ => ho⟩
      have := hw.size; omega
    · obtain ⟨h1, h2, h3⟩ := H.dom c r e
      refine ⟨h1, by have := hw.size; omega, fun hl => ?_⟩
      by_cases hr : r.blk = k
      · exact (hold c r e hr hl).up hle rfl
      · exact (h3 hl).up hle (hw.block _ h2 hr)
  · unfold set1 at e e'
    split at e
    · cases e
      split at e'
      · omega
      · obtain ⟨v', s', h1, h2, h3⟩ := hfm c' r' e' (by omega) hl
        subst h3
        refine ⟨fam, ver, v', s', by simp only [hn, famOf, *], h1, ?_⟩
        have : c = nb := by assumption
        subst this
        rw [hn]; exact h2
    · split at e'
      · cases e'
        exact absurd hwr (hno c r e (by omega))
      · exact H.sep c c' r r' ne e e' hr hwr hl
  · unfold set1 at e
    split at e
    · cases e; omega
    · exact H.own c r e hwr

section
variable {φ : Plc} {e : E16} {L : Loc} {hs : HS} {w : World} {ρ : Operand → Value} {t : TypeId}

theorem cells_at' {b : Nat} {elem z : Nat} {ls : List AV} {els : Env} {kd : Kd} {rest : Array Value} {cap : Nat} (hz : ∀ c ∈ ls, (concL φ c).length = z) (hd : ∀ c ∈ ls, DfC φ c) (hpos : 0 < z) {fz : Nat × Nat}
    (hels : ∀ k, k < ls.length → gE k els = ls.getD k .nil)
    (hrest : rest.size = (cap - ls.length) * z) (hcap : ls.length ≤ cap) (hle : Le φ (set1 φ b ⟨w.heap.size, 0, cap, z⟩)) (hfz : wr (.cells elem z ls.length .nil kd) → fz = (0, 0)) (hex : kd ≠ .ex) :
    ObjOk P T (set1 φ b ⟨w.heap.size, 0, cap, z⟩) (.cells elem z ls.length els kd) ⟨w.heap.size, 0, cap, z⟩ { w with heap := w.heap.push (.cells ((flat φ ls).toArray ++ rest) elem fz) } := by
  have hfl := flat_len hz
  refine ⟨_, fz, push_get _ _, rfl, hpos, hcap, ?_, ?_, fun h => absurd h hex, fun i hi => ?_⟩
  · simp only [Array.size_append, List.size_toArray, hfl, hrest, Nat.zero_add]
    rw [← Nat.add_mul, Nat.add_sub_cancel' hcap]
    exact Nat.le_refl _
  · intro h; exact hfz (by cases kd <;> first | exact h | (rename_i own _ _ _; cases own <;> exact h))
  · rw [hels i hi]
    have hmem : ls.getD i .nil ∈ ls := by
      have : ls.getD i .nil = ls[i] := by simp [List.getD, hi]
      rw [this]; exact List.getElem_mem hi
    refine ⟨hle.dfC (hd _ hmem), by rw [hle.concC (hd _ hmem)]; exact hz _ hmem, fun j v hv => ?_⟩
    rw [hle.concC (hd _ hmem)] at hv
    have := flat_at hz hi hv
    have hlt := (List.getElem?_eq_some_iff.1 this).1
    rw [Nat.zero_add, Array.getElem?_append_left (by simpa using hlt)]
    simpa using this

-- how append runs
theorem growBy_le (n : Nat) : ∀ r c, c ≤ 2 * n + 192 → Builtin.growBy n r c ≤ 2 * n + 192
  | 0, c, h => h
  | r + 1, c, h => by
    unfold Builtin.growBy
    split
    · exact h
    · exact growBy_le n r _ (by omega)
theorem nextcap_le {need cap : Nat} (h : cap < need) : Builtin.nextslicecap need cap ≤ 2 * need + 192 := by
  unfold Builtin.nextslicecap
  split
  · omega
  · split
    · omega
    · exact growBy_le need 4 cap (by omega)
/-- what an append's types say -/
structure AppT (P : Program) (c : Call) (el : TypeId) (z : AV) : Prop where
  st : ∃ st, c.argTypes[0]? = some st ∧ und P st = some (.slice el)
  xt : ∃ xt d, c.argTypes[1]? = some xt ∧ und P xt = some d ∧ ∀ k, d ≠ .int k
  zero : zeroP P el = some z
  zl : lenIs (csz P el) (cellsV z) = true
  bytes : bytesOk P el = true
  sz : csz P el ≠ 0
theorem append_fit {c : Call} {el : TypeId} {z : AV} (A : AppT P c el z) {x : Value} {new : List AV} (hx : ElsOk φ w (csz P el) x new) {k off l cap : Nat} {base : Option Addr} (hbase : new ≠ [] → base = some ⟨k, off, none⟩) {arr : Array Value} {e' : TypeId}
    (hg : new ≠ [] → w.heap[k]? = some (.cells arr e' (0, 0))) (hfit : new ≠ [] → off + l * csz P el + new.length * csz P el ≤ arr.size) (hcap : l + new.length ≤ cap) :
    (Builtin.append_ c.argTypes t #[.slice base l cap, x]).run P w = .ok (.slice base (l + new.length) cap) (if new = [] then w else w.setRow k (spl arr (off + l * csz P el) (flat φ new))) := by
  obtain ⟨st, s1, s2⟩ := A.st
  obtain ⟨xt, d, x1, x2, x3⟩ := A.xt
  have hnz : (match d with | .int _ => true | _ => false) = false := by cases d <;> first | rfl | exact absurd rfl (x3 _)
  have hfirst := hx.first (P := P) (fun _ => trivial) new.length (Nat.le_refl _)
  rw [List.take_length] at hfirst
  have hlenx := hx.lenOf (P := P)
  have hle : ¬ ¬ l + new.length ≤ cap := by simp [hcap]
  have pre : ∀ (bs : Option Addr), (Builtin.append_ c.argTypes t #[.slice bs l cap, x]).run P w =
      ((do if let some a := bs then storeCells (a.add (l * csz P el)) (flat φ new)
           pure (.slice bs (l + new.length) cap) : Sem Value).run P w) := fun bs => by
    simp only [Builtin.append_, s1, x1, List.getElem?_toArray, List.getElem?_cons_zero, List.getElem?_cons_succ, Sem.run_bind, und_run s2, Result.andThen_ok, csz_run A.sz, und_run x2, Sem.run_pure]
    cases d <;> first
      | exact absurd rfl (x3 _)
      | (simp only [Bool.false_eq_true, if_false, hlenx, Result.andThen_ok, hcap, if_true, Bool.not_false, hfirst, Sem.run_bind]; cases bs <;> rfl)
  rw [pre]
  by_cases hn : new = []
  · subst hn
    cases base <;> simp [flat, storeCells]
  · have := storeCells_run (P := P) (off := off + l * csz P el) (hg hn) (new := flat φ new) (by rw [flat_len hx.len]; exact hfit hn) fun v hv => by
      obtain ⟨c, hc, hv⟩ := List.mem_flatMap.1 hv
      exact ones (hx.df c hc) v hv
    rw [hbase hn, if_neg hn]
    simp only [add_off, Sem.run_bind, this, Result.andThen_ok, Sem.run_pure]
theorem append_grow {c : Call} {el : TypeId} {z : AV} (A : AppT P c el z) {x : Value} {new old : List AV} (hx : ElsOk φ w (csz P el) x new) {base : Option Addr} {cap : Nat} (hs0 : ElsOk φ w (csz P el) (.slice base old.length cap) old)
    (hcap : cap < old.length + new.length) (hlim : old.length + new.length ≤ 1000000) :
    ∃ newCap, old.length + new.length ≤ newCap ∧ ∃ rest : Array Value, rest.size = (newCap - (old ++ new).length) * csz P el ∧
      (Builtin.append_ c.argTypes t #[.slice base old.length cap, x]).run P w = .ok (.slice (some ⟨w.heap.size, 0, none⟩) (old.length + new.length) newCap)
        { w with drawn := w.drawn + 1, heap := w.heap.push (.cells ((flat φ (old ++ new)).toArray ++ rest) el) } := by
  obtain ⟨st, s1, s2⟩ := A.st
  obtain ⟨xt, d, x1, x2, x3⟩ := A.xt
  obtain ⟨zr, zd⟩ := zero_run (P := P) (w := w) φ A.zero
  obtain ⟨c1, c2⟩ := cellsV_ok zd A.zl
  have hlz := lenIs_len (φ := φ) A.zl
  obtain ⟨i, hi, hib⟩ := bytesOk_run (w := w) A.bytes
  obtain ⟨newCap, hnc, hrun⟩ := appendCap_run (P := P) (w := w) (old.length + new.length) cap el
  have hfx := hx.first (P := P) (fun _ => trivial) new.length (Nat.le_refl _)
  have hfs := hs0.first (P := P) (fun _ => trivial) old.length (Nat.le_refl _)
  rw [List.take_length] at hfx hfs
  have hlenx := hx.lenOf (P := P)
  refine ⟨newCap, hnc, Builtin.zeroCells (conc φ z).cells (newCap - (old.length + new.length)), by rw [size_zeroCells, c2]; simp [hlz], ?_⟩
  have n1 : ¬ (old.length + new.length ≤ cap) := by omega
  have n2 : ¬ (((old.length + new.length : Nat) : Int) > IntKind.i64.max ∧ (False ∨ i.bytes = 0)) := by
    intro ⟨h, _⟩
    have : IntKind.i64.max = 9223372036854775807 := rfl
    omega
  have n3 : ¬ (Builtin.nextslicecap (old.length + new.length) cap * i.bytes > 2 ^ 48) := by
    have h1 := nextcap_le (need := old.length + new.length) (cap := cap) (by omega)
    have h2 : Builtin.nextslicecap (old.length + new.length) cap ≤ 3000000 := by omega
    have h3 : Builtin.nextslicecap (old.length + new.length) cap * i.bytes ≤ 3000000 * 1000000 := Nat.mul_le_mul h2 hib
    generalize Builtin.nextslicecap (old.length + new.length) cap * i.bytes = m at h3
    omega
  -- what is drawn changes nothing that is read
  obtain ⟨w1, hw1⟩ : ∃ w1 : World, w1 = { w with drawn := w.drawn + 1 } := ⟨_, rfl⟩
  rw [← hw1] at hrun
  have hfx1 : (Builtin.firstCells (csz P el) new.length x).run P w1 = .ok (flat φ new).toArray w1 := by
    have : ElsOk φ w1 (csz P el) x new := by subst hw1; exact ⟨hx.df, hx.len, hx.is⟩
    have := this.first (P := P) (fun _ => trivial) new.length (Nat.le_refl _)
    rwa [List.take_length] at this
  have hfs1 : (Builtin.firstCells (csz P el) old.length (.slice base old.length cap)).run P w1 = .ok (flat φ old).toArray w1 := by
    have : ElsOk φ w1 (csz P el) (.slice base old.length cap) old := by subst hw1; exact ⟨hs0.df, hs0.len, hs0.is⟩
    have := this.first (P := P) (fun _ => trivial) old.length (Nat.le_refl _)
    rwa [List.take_length] at this
  have zr1 := (zero_run (P := P) (w := w1) φ A.zero).1
  have hi1 : (typeInfo el).run P w1 = .ok i w1 := by
    obtain ⟨i', hi', _⟩ := bytesOk_run (w := w1) A.bytes
    have : i' = i := by
      have a1 : (typeInfo el).run P w = .ok i' w := by
        revert hi'
        simp only [typeInfo, Sem.run_bind, run_program, Result.andThen_ok]
        cases P.info? el with
        | none => intro h; cases h
        | some k => intro h; cases h; rfl
      rw [hi] at a1; cases a1; rfl
    rw [← this]; exact hi'
  have hflat : (flat φ (old ++ new)).toArray = (flat φ old).toArray ++ (flat φ new).toArray := by apply Array.ext'; simp [flat]
  simp only [Builtin.append_, s1, x1, List.getElem?_toArray, List.getElem?_cons_zero, List.getElem?_cons_succ, Sem.run_bind, und_run s2, Result.andThen_ok, csz_run A.sz, und_run x2, Sem.run_pure]
  cases d <;> first
    | exact absurd rfl (x3 _)
    | (simp only [Bool.false_eq_true, if_false, hlenx, Result.andThen_ok, n1, Bool.not_false, if_true, Sem.run_bind, hi, n2, n3, hrun, hi1, askRoom_run, hfs1, hfx1, zr1, newRow_run, Sem.run_pure, hflat]
       subst hw1
       rfl)
end
end Go.AbsK

namespace Go.AbsK
open Go
open Go.RowKit (Below)
set_option linter.unusedVariables false
set_option linter.unusedSimpArgs false
set_option linter.deprecated false

variable {P : Program} {T : Hints} {B : Nat} {w0 : World}
section
variable {φ : Plc} {e : E16} {L : Loc} {hs : HS} {w : World} {ρ : Operand → Value} {t : TypeId}

theorem getD_mem {ls : List AV} {i : Nat} (h : i < ls.length) : ls.getD i .nil ∈ ls := by
  rw [List.getD, List.getElem?_eq_getElem h]; exact List.getElem_mem h
/-- a new owner -/
theorem own_new (H : HOk P T B w0 φ hs w) {elem z n fam ver : Nat} {els : Env} {sh : Bool} (hn : hs.next ≤ 1000002) (h1 : fam ≤ hs.next) (h2 : ver = verOf fam hs.fams)
    (h3 : ∀ b ver' sh', b < hs.next → famOf (getH b hs.heap) ≠ some (fam, ver', true, sh')) : HOk P T B w0 φ (hs.push (.cells elem z n els (.opn true sh fam ver))) w := by
  cases hs
  refine H.new _ hn fun f v o s hf => ?_
  simp only [famOf, Option.some.injEq, Prod.mk.injEq] at hf
  obtain ⟨rfl, rfl, rfl, rfl⟩ := hf
  exact ⟨h1, Nat.le_of_eq h2, fun _ => ⟨h2, h3⟩⟩
theorem own_fresh (H : HOk P T B w0 φ hs w) {elem z n : Nat} {els : Env} {sh : Bool} (hn : hs.next ≤ 1000002) : HOk P T B w0 φ (hs.push (.cells elem z n els (.opn true sh hs.next 0))) w :=
  own_new H hn (Nat.le_refl _) (H.vers0 _ (Nat.le_refl _) (by omega)).symm fun b ver' sh' hb h => Nat.lt_irrefl _ (H.vers b hb _ _ _ _ h).1
/-- elements that lie ahead of what is written -/
theorem cells_keep {φ : Plc} {elem sz n : Nat} {els : Env} {own sh : Bool} {fam ver : Nat} {p : Pl} {w w' : World} (ho : ObjOk P T φ (.cells elem sz n els (.opn own sh fam ver)) p w) {off : Nat} {new : List Value} (hoff : p.base + n * sz ≤ off)
    {arr : Array Value} {el : TypeId} {fz : Nat × Nat} (hg : w.heap[p.blk]? = some (.cells arr el fz)) (hg' : w'.heap[p.blk]? = some (.cells (spl arr off new) el fz)) (hfit : off + new.length ≤ arr.size) :
    ObjOk P T φ (.cells elem sz n els (.opn own sh fam ver)) p w' := by
  obtain ⟨arr0, frz, a1, a2, a3, a4, a5, a6, a7, a8⟩ := ho
  rw [hg] at a1
  cases a1
  refine ⟨_, _, hg', a2, a3, a4, by rw [spl_size hfit]; exact a5, a6, (fun h => by cases h), fun i hi => ?_⟩
  obtain ⟨b1, b2, b3⟩ := a8 i hi
  refine ⟨b1, b2, fun j v hv => ?_⟩
  have hj : j < sz := by have := (List.getElem?_eq_some_iff.1 hv).1; omega
  have : i * sz + sz ≤ n * sz := by
    have := Nat.mul_le_mul_right sz (show i + 1 ≤ n by omega)
    rwa [Nat.add_mul, Nat.one_mul] at this
  rw [spl_get hfit, if_neg (by omega)]
  exact b3 j v hv
/-- an array, its elements here and there -/
theorem cells_mix {φ ψ : Plc} (hle : Le φ ψ) {elem sz : Nat} {els : Env} {kd : Kd} (hkd : kd ≠ .ex) {q : Pl} {w' : World} {arr : Array Value} {old new : List AV} {off : Nat} (hq : q.sz = sz) (hz : 0 < sz)
    (hoz : ∀ c ∈ old ++ new, (concL φ c).length = sz) (hod : ∀ c ∈ old ++ new, DfC φ c) (hels : ∀ k, k < (old ++ new).length → gE k els = (old ++ new).getD k .nil)
    (hoff : off = q.base + old.length * sz) (hcap : (old ++ new).length ≤ q.cap) (hfit : q.base + q.cap * sz ≤ arr.size) (hg : w'.heap[q.blk]? = some (.cells (spl arr off (flat φ new)) elem (0, 0)))
    (hold : ∀ (k : Nat) (j : Nat) v, k < old.length → (concL φ (old.getD k .nil))[j]? = some v → arr[q.base + k * sz + j]? = some v) :
    ObjOk P T ψ (.cells elem sz (old ++ new).length els kd) q w' := by
  have hl2 : (old ++ new).length = old.length + new.length := List.length_append
  have hfn : (flat φ new).length = new.length * sz := flat_len fun c hc => hoz c (List.mem_append_right _ hc)
  have hmul : old.length * sz + new.length * sz ≤ q.cap * sz := by
    rw [← Nat.add_mul]; exact Nat.mul_le_mul_right _ (by omega)
  have hf : off + (flat φ new).length ≤ arr.size := by rw [hfn, hoff]; omega
  refine ⟨_, (0, 0), hg, hq, hz, hcap, by rw [spl_size hf]; exact hfit, fun _ => rfl, fun h => absurd h hkd, fun i hi => ?_⟩
  rw [hels i hi]
  have hmem : (old ++ new).getD i .nil ∈ old ++ new := getD_mem hi
  refine ⟨hle.dfC (hod _ hmem), by rw [hle.concC (hod _ hmem)]; exact hoz _ hmem, fun j v hv => ?_⟩
  rw [hle.concC (hod _ hmem)] at hv
  have hj : j < sz := by have := (List.getElem?_eq_some_iff.1 hv).1; have := hoz _ hmem; omega
  rw [spl_get hf]
  by_cases hio : i < old.length
  · have e1 : (old ++ new).getD i .nil = old.getD i .nil := by simp [List.getD, List.getElem?_append_left hio]
    rw [e1] at hv
    have : i * sz + sz ≤ old.length * sz := by
      have := Nat.mul_le_mul_right sz (show i + 1 ≤ old.length by omega)
      rwa [Nat.add_mul, Nat.one_mul] at this
    rw [if_neg (by omega)]
    exact hold i j v hio hv
  · have e1 : (old ++ new).getD i .nil = new.getD (i - old.length) .nil := by simp [List.getD, List.getElem?_append_right (Nat.le_of_not_lt hio)]
    rw [e1] at hv
    have := flat_at (fun c hc => hoz c (List.mem_append_right _ hc)) (k := i - old.length) (by omega) hv
    have hlt := (List.getElem?_eq_some_iff.1 this).1
    have e2 : i * sz = old.length * sz + (i - old.length) * sz := by rw [← Nat.add_mul]; congr 1; omega
    rw [if_pos (by rw [hoff, e2]; omega), ← this]
    congr 1
    rw [hoff, e2]; omega
theorem put_next (hs : HS) (b : Nat) (o : AObj) : (hs.put b o).next = hs.next := by cases hs; rfl
theorem put_fams (hs : HS) (b : Nat) (o : AObj) : (hs.put b o).fams = hs.fams := by cases hs; rfl
theorem put_same (hs : HS) (b : Nat) (o : AObj) : getH b (hs.put b o).heap = o := by cases hs; exact getH_same _ _ _
theorem put_ne (hs : HS) {b c : Nat} (o : AObj) (hb : b < 1048576) (hc : c < 1048576) (h : c ≠ b) : getH c (hs.put b o).heap = getH c hs.heap := by cases hs; exact getH_ne hc hb h _ _
/-- append at the end of what is known of an array with room behind -/
theorem open_end (H : HOk P T B w0 φ hs w) {b : Nat} {p : Pl} (hp : φ b = some p) {n fam ver : Nat} {el : TypeId} {els els' : Env} {sh : Bool} {c : Call} {z : AV} (A : AppT P c el z) (hg : getH b hs.heap = .cells el (csz P el) n els (.opn true sh fam ver))
    {i : Nat} {old new : List AV} (hil : i + old.length = n) (hne : new ≠ []) (hlim : old.length + new.length ≤ 1000000) (hnx : hs.next ≤ 1000000)
    (hels : ∀ k, k < (old ++ new).length → gE k els' = (old ++ new).getD k .nil) (hoe : ∀ k, k < old.length → old.getD k .nil = gE (i + k) els)
    {base : Option Addr} (hbase : p.cap - i ≠ 0 → base = some ⟨p.blk, p.base + i * p.sz, none⟩) {xv : Value} (hs0 : ElsOk φ w (csz P el) (.slice base old.length (p.cap - i)) old) (hx : ElsOk φ w (csz P el) xv new) :
    ∃ φ' w', Le φ φ' ∧ HOk P T B w0 φ' ((hs.put b (.cells el (csz P el) n els (.opn false true fam ver))).push (.cells el (csz P el) (old.length + new.length) els' (.opn true true fam ver))) w' ∧
      (∀ d, d < hs.next → φ d = none → φ' d = none) ∧ Df φ' (.sl hs.next 0 (old.length + new.length) 0 true) ∧
      (Builtin.append_ c.argTypes t #[.slice base old.length (p.cap - i), xv]).run P w = .ok (conc φ' (.sl hs.next 0 (old.length + new.length) 0 true)) w' := by
  obtain ⟨hbn, hblk, hob⟩ := H.dom b p hp
  have lim := H.lim
  have hwr : wr (getH b hs.heap) := by rw [hg]; trivial
  have hlb := live_of_wr hwr
  have hob := hob hlb
  rw [hg] at hob
  have hob0 := hob
  obtain ⟨arr, frz, a1, a2, a3, a4, a5, a6, a7, a8⟩ := hob
  have hf := a6 trivial
  subst hf
  have hB := H.own b p hp hwr
  have hb20 : b < 1048576 := by omega
  have hoz : ∀ c ∈ old ++ new, (concL φ c).length = csz P el := fun c hc => by rcases List.mem_append.1 hc with h | h; exact hs0.len c h; exact hx.len c h
  have hod : ∀ c ∈ old ++ new, DfC φ c := fun c hc => by rcases List.mem_append.1 hc with h | h; exact hs0.df c h; exact hx.df c h
  have hll : (old ++ new).length = old.length + new.length := List.length_append
  -- the old one is read on
  have H1 := H.demote hp hg
  generalize hhs1 : hs.put b (.cells el (csz P el) n els (.opn false true fam ver)) = hs1 at H1 ⊢
  have hn1 : hs1.next = hs.next := by rw [← hhs1, put_next]
  have hf1 : hs1.fams = hs.fams := by rw [← hhs1, put_fams]
  have g1b : getH b hs1.heap = .cells el (csz P el) n els (.opn false true fam ver) := by rw [← hhs1, put_same]
  have g1 : ∀ d, d < 1048576 → d ≠ b → getH d hs1.heap = getH d hs.heap := fun d hd hne => by rw [← hhs1, put_ne _ _ hb20 hd hne]
  obtain ⟨v1, v2, v3⟩ := H.vers b hbn fam ver true sh (by rw [hg]; rfl)
  have H2 : HOk P T B w0 φ (hs1.push (.cells el (csz P el) (old.length + new.length) els' (.opn true true fam ver))) w := by
    refine own_new H1 (by omega) (by omega) (by rw [hf1]; exact v3 rfl) fun d ver' sh' hd hfd => ?_
    rw [hn1] at hd
    by_cases hdb : d = b
    · subst hdb; rw [g1b] at hfd; simp [famOf] at hfd
    · rw [g1 d (by omega) hdb] at hfd
      exact hdb (H.uno d b fam ver' ver sh' sh hd hbn hfd (by rw [hg]; rfl))
  rw [← hn1]
  generalize hhs2 : hs1.push (.cells el (csz P el) (old.length + new.length) els' (.opn true true fam ver)) = hs2 at H2 ⊢
  have hn2 : hs2.next = hs1.next + 1 := by rw [← hhs2, HS.push_next]
  have hf2 : hs2.fams = hs.fams := by rw [← hhs2, HS.push_fams, hf1]
  have g2n : getH hs1.next hs2.heap = .cells el (csz P el) (old.length + new.length) els' (.opn true true fam ver) := by rw [← hhs2, HS.push_same]
  have g2 : ∀ d, d < 1048576 → d ≠ hs1.next → getH d hs2.heap = getH d hs1.heap := fun d hd hne => by rw [← hhs2, HS.push_ne _ _ (by omega) hd hne]
  have hφn : φ hs1.next = none := by rw [hn1]; exact H.nextNone
  have hnone : ∀ q : Pl, ∀ d, d < hs.next → φ d = none → set1 φ hs1.next q d = none := fun q d hd hφ => by unfold set1; rw [if_neg (by omega)]; exact hφ
  by_cases hfit : old.length + new.length ≤ p.cap - i
  · -- it fits
    have hk0 : p.cap - i ≠ 0 := by
      have : new.length ≠ 0 := fun h => hne (List.length_eq_zero_iff.1 h)
      omega
    have hbs := hbase hk0
    have hnl : 0 < new.length := Nat.pos_of_ne_zero fun h => hne (List.length_eq_zero_iff.1 h)
    have hic : i + (old.length + new.length) ≤ p.cap := by omega
    have e1 : p.base + i * p.sz + old.length * csz P el = p.base + n * csz P el := by rw [a2, ← hil, Nat.add_mul]; omega
    have e2 : (i + (old.length + new.length)) * csz P el ≤ p.cap * csz P el := Nat.mul_le_mul_right _ hic
    rw [Nat.add_mul, Nat.add_mul] at e2
    have hfl : (flat φ new).length = new.length * csz P el := flat_len hx.len
    have hin : p.base + i * p.sz + old.length * csz P el + new.length * csz P el ≤ arr.size := by rw [a2]; omega
    have run := append_fit (t := t) A hx (k := p.blk) (off := p.base + i * p.sz) (l := old.length) (cap := p.cap - i) (base := base) (fun _ => hbs) (fun _ => a1) (fun _ => hin) hfit
    rw [if_neg hne] at run
    let w' := w.setRow p.blk (spl arr (p.base + i * p.sz + old.length * csz P el) (flat φ new))
    have hw'g : w'.heap[p.blk]? = some (.cells (spl arr (p.base + i * p.sz + old.length * csz P el) (flat φ new)) el (0, 0)) := setRow_heap w p.blk _ _ _ _ a1
    let q : Pl := ⟨p.blk, p.base + i * p.sz, p.cap - i, p.sz⟩
    have oth : ∀ d r, φ d = some r → r.blk = p.blk → d ≠ b → live hs d → ∃ ver' sh', famOf (getH d hs.heap) = some (fam, ver', false, sh') ∧ eo (getH d hs.heap) r ≤ p.base + n * csz P el ∧ ¬ wr (getH d hs.heap) := fun d r hd hr hdb hl => by
      obtain ⟨f, v, v', s', q1, q2, q3⟩ := H.sep b d p r (Ne.symm hdb) hp hd hr.symm hwr hl
      rw [hg] at q1 q3
      simp only [famOf, Option.some.injEq, Prod.mk.injEq] at q1
      obtain ⟨rfl, _⟩ := q1
      exact ⟨v', s', q2, q3, notWr q2⟩
    have lv : ∀ d r, φ d = some r → d ≠ b → live hs2 d → live hs d := fun d r hd hdb hl => by
      have hd' := (H.dom d r hd).1
      unfold live at hl ⊢
      rw [hf2, g2 d (by omega) (by omega), g1 d (by omega) hdb] at hl
      exact hl
    have gg : ∀ d r, φ d = some r → d ≠ b → getH d hs2.heap = getH d hs.heap := fun d r hd hdb => by
      have hd' := (H.dom d r hd).1
      rw [g2 d (by omega) (by omega), g1 d (by omega) hdb]
    have ggb : getH b hs2.heap = .cells el (csz P el) n els (.opn false true fam ver) := by rw [g2 b hb20 (by omega), g1b]
    have H3 : HOk P T B w0 (set1 φ hs1.next q) hs2 w' := by
      refine H2.placeAt (by omega) hφn hblk hB rfl g2n (fun d r hd hr => ?_) (fun d r hd hr hl => ?_) (But.setRow _) ?_ (fun d r hd hr hl => ?_)
      · by_cases hdb : d = b
        · subst hdb; rw [ggb]; exact fun h => h
        · rw [gg d r hd hdb]
          intro hw
          exact (oth d r hd hr hdb (live_of_wr hw)).choose_spec.choose_spec.2.2 hw
      · by_cases hdb : d = b
        · subst hdb
          rw [hp] at hd; cases hd
          refine ⟨ver, true, by rw [ggb]; rfl, ?_, rfl⟩
          rw [ggb]
          show p.base + n * csz P el ≤ p.base + i * p.sz + (old.length + new.length) * csz P el
          rw [Nat.add_mul]; omega
        · obtain ⟨ver', sh', r1, r2, _⟩ := oth d r hd hr hdb (lv d r hd hdb hl)
          rw [gg d r hd hdb]
          refine ⟨ver', sh', r1, ?_, rfl⟩
          show _ ≤ p.base + i * p.sz + (old.length + new.length) * csz P el
          rw [Nat.add_mul]; omega
      · rw [g2n, ← hll]
        refine cells_mix (φ := φ) (Le.set1 hφn q) (by simp) (arr := arr) (off := p.base + i * p.sz + old.length * csz P el) (q := q) a2 a3 hoz hod hels rfl (by rw [hll]; exact hfit) ?_ hw'g fun k j v hk hv => ?_
        · show p.base + i * p.sz + (p.cap - i) * csz P el ≤ arr.size
          have : i * csz P el + (p.cap - i) * csz P el = p.cap * csz P el := by rw [← Nat.add_mul]; congr 1; omega
          rw [a2]; omega
        · rw [hoe k hk] at hv
          have := (a8 (i + k) (by omega)).2.2 j v hv
          rw [← this]
          congr 1
          show p.base + i * p.sz + k * csz P el + j = _
          rw [a2, Nat.add_mul]; omega
      · by_cases hdb : d = b
        · subst hdb
          rw [hp] at hd; cases hd
          rw [ggb]
          refine cells_keep (w := w) (off := p.base + i * p.sz + old.length * csz P el) ?_ (Nat.le_of_eq e1.symm) a1 hw'g (by rw [hfl]; omega)
          obtain ⟨_, _, c3⟩ := H1.dom _ _ hp
          have := c3 (by unfold live; rw [g1b, hf1]; exact v3 rfl)
          rwa [g1b] at this
        · have hl' := lv d r hd hdb hl
          obtain ⟨ver', sh', r1, r2, _⟩ := oth d r hd hr hdb hl'
          have od := (H.dom d r hd).2.2 hl'
          rw [gg d r hd hdb]
          cases hgd : getH d hs.heap with
          | cells el2 z2 n2 els2 kd2 =>
            rw [hgd] at od r1 r2
            cases kd2 with
            | opn own2 sh2 fam2 ver2 =>
              refine cells_keep (w := w) (off := p.base + i * p.sz + old.length * csz P el) od (by have : r.base + n2 * z2 ≤ p.base + n * csz P el := r2; omega) (by rw [hr]; exact a1) (by rw [hr]; exact hw'g) (by rw [hfl]; omega)
            | _ => simp [famOf] at r1
          | _ => rw [hgd] at r1; simp [famOf] at r1
    refine ⟨_, w', Le.set1 hφn q, H3, (fun d hd => hnone q d (by omega)), ⟨by rw [set1_same]; rfl, ?_⟩, ?_⟩
    · have : pl (set1 φ hs1.next q) hs1.next = q := by simp [pl, set1_same]
      simp only [if_true, this]
      exact ⟨trivial, by show 0 + (old.length + new.length) ≤ p.cap - i; omega⟩
    · rw [run]
      have : pl (set1 φ hs1.next q) hs1.next = q := by simp [pl, set1_same]
      simp only [conc, if_true, this, adr_eq (set1_same φ hs1.next q), hbs]
      simp [q]
      rfl
  · -- it does not fit
    obtain ⟨newCap, n1, rest, n2, n3⟩ := append_grow (t := t) A hx hs0 (by omega) hlim
    let q : Pl := ⟨w.heap.size, 0, newCap, csz P el⟩
    have H3 : HOk P T B w0 (set1 φ hs1.next q) hs2 { w with drawn := w.drawn + 1, heap := w.heap.push (.cells ((flat φ (old ++ new)).toArray ++ rest) el) } := by
      refine H2.place (by omega) hφn ⟨rfl, rfl, rfl, by simp, fun i hi hk => by show (w.heap.push _)[i]? = _; rw [Array.getElem?_push, if_neg (by omega)]⟩ rfl (by simp) ?_
      rw [g2n, ← hll]
      exact cells_at' (w := { w with drawn := w.drawn + 1 }) hoz hod a3 hels n2 (by rw [hll]; exact n1) (Le.set1 hφn _) (fun _ => rfl) (by simp)
    refine ⟨_, _, Le.set1 hφn q, H3, (fun d hd => hnone q d (by omega)), ⟨by rw [set1_same]; rfl, ?_⟩, ?_⟩
    · have : pl (set1 φ hs1.next q) hs1.next = q := by simp [pl, set1_same]
      simp only [if_true, this]
      exact ⟨trivial, by show 0 + (old.length + new.length) ≤ newCap; omega⟩
    · rw [n3]
      have : pl (set1 φ hs1.next q) hs1.next = q := by simp [pl, set1_same]
      simp only [conc, if_true, this, adr_eq (set1_same φ hs1.next q)]
      simp [q]
end
end Go.AbsK

namespace Go.AbsK
open Go
open Go.RowKit (Below)
set_option linter.unusedVariables false
set_option linter.unusedSimpArgs false
set_option linter.deprecated false

variable {P : Program} {T : Hints} {B : Nat} {w0 : World}
section
variable {φ : Plc} {e : E16} {L : Loc} {hs : HS} {w : World} {ρ : Operand → Value} {t : TypeId}

theorem setMany_after (els : Env) (ls : List AV) : ∀ i k, i + ls.length ≤ k → gE k (setMany els i ls) = gE k els := by
  induction ls generalizing els with
  | nil => intros; rfl
  | cons c ls ih =>
    intro i k hk
    simp only [setMany]
    simp only [List.length_cons] at hk
    rw [ih _ (i + 1) k (by omega), gE_ne (by omega)]
/-- an array, some elements of which were written -/
theorem cells_many {φ : Plc} {elem sz n : Nat} {els : Env} {kd : Kd} {p : Pl} {w w' : World} (ho : ObjOk P T φ (.cells elem sz n els kd) p w) (hw : wr (.cells elem sz n els kd)) {m : Nat} {new : List AV}
    (hz : ∀ c ∈ new, (concL φ c).length = sz) (hd : ∀ c ∈ new, DfC φ c) (hm : m + new.length ≤ n)
    (hrow : ∀ arr, w.heap[p.blk]? = some (.cells arr elem (0, 0)) → w'.heap[p.blk]? = some (.cells (spl arr (p.base + m * p.sz) (flat φ new)) elem (0, 0))) :
    ObjOk P T φ (.cells elem sz n (setMany els m new) kd) p w' ∧ ∃ arr, w.heap[p.blk]? = some (.cells arr elem (0, 0)) ∧ p.base + m * p.sz + new.length * sz ≤ arr.size := by
  obtain ⟨arr, frz, a1, a2, a3, a4, a5, a6, a7, a8⟩ := ho
  have hf := a6 hw
  subst hf
  have hmul : m * sz + new.length * sz ≤ p.cap * sz := by
    rw [← Nat.add_mul]; exact Nat.mul_le_mul_right _ (by omega)
  have hfl : (flat φ new).length = new.length * sz := flat_len hz
  have hfit : p.base + m * p.sz + (flat φ new).length ≤ arr.size := by rw [a2, hfl]; omega
  refine ⟨⟨_, (0, 0), hrow arr a1, a2, a3, a4, by rw [spl_size hfit]; exact a5, fun _ => rfl, fun h => ?_, fun k hkn => ?_⟩, arr, a1, by rw [hfl] at hfit; exact hfit⟩
  · rw [spl_size hfit]; exact a7 h
  · by_cases hin : m ≤ k ∧ k < m + new.length
    · have hg : gE k (setMany els m new) = new.getD (k - m) .nil := by
        have := setMany_get els new m (k - m) (by omega)
        rwa [show m + (k - m) = k by omega] at this
      rw [hg]
      have hmem := getD_mem (ls := new) (i := k - m) (by omega)
      refine ⟨hd _ hmem, hz _ hmem, fun j v hv => ?_⟩
      have := flat_at hz (k := k - m) (by omega) hv
      have hlt := (List.getElem?_eq_some_iff.1 this).1
      have e2 : k * sz = m * sz + (k - m) * sz := by rw [← Nat.add_mul]; congr 1; omega
      rw [spl_get hfit, if_pos (by rw [a2, e2]; omega), ← this]
      congr 1
      rw [a2, e2]; omega
    · have hg : gE k (setMany els m new) = gE k els := by
        by_cases h : k < m
        · exact setMany_ge els new m k h
        · exact setMany_after els new m k (by omega)
      rw [hg]
      obtain ⟨b1, b2, b3⟩ := a8 k hkn
      refine ⟨b1, b2, fun j v hv => ?_⟩
      have hj : j < sz := by have := (List.getElem?_eq_some_iff.1 hv).1; omega
      rw [spl_get hfit, if_neg ?_]
      · exact b3 j v hv
      · rw [a2, hfl]
        intro ⟨h1, h2⟩
        rcases Nat.lt_or_ge k m with h | h
        · have := Nat.mul_le_mul_right sz (show k + 1 ≤ m by omega)
          rw [Nat.add_mul, Nat.one_mul] at this; omega
        · have := Nat.mul_le_mul_right sz (show m + new.length ≤ k by omega)
          rw [Nat.add_mul] at this; omega
/-- append behind the end of what is known, ahead of it: what stood there is lost -/
theorem open_kill (H : HOk P T B w0 φ hs w) {b : Nat} {p : Pl} (hp : φ b = some p) {n fam ver : Nat} {el : TypeId} {els els' : Env} {sh : Bool} {c : Call} {z : AV} (A : AppT P c el z) (hg : getH b hs.heap = .cells el (csz P el) n els (.opn true sh fam ver))
    {i : Nat} {old new : List AV} (hil : i + old.length ≤ n) (hne : new ≠ []) (hlim : old.length + new.length ≤ 1000000) (hnx : hs.next ≤ 1000000)
    (hels : ∀ k, k < (old ++ new).length → gE k els' = (old ++ new).getD k .nil) (hoe : ∀ k, k < old.length → old.getD k .nil = gE (i + k) els)
    {base : Option Addr} (hbase : p.cap - i ≠ 0 → base = some ⟨p.blk, p.base + i * p.sz, none⟩) {xv : Value} (hs0 : ElsOk φ w (csz P el) (.slice base old.length (p.cap - i)) old) (hx : ElsOk φ w (csz P el) xv new) :
    ∃ φ' w', Le φ φ' ∧ HOk P T B w0 φ' (((hs.put b .dead).bump fam (ver + 1)).push (.cells el (csz P el) (old.length + new.length) els' (.opn true false fam (ver + 1)))) w' ∧
      (∀ d, d < hs.next → φ d = none → φ' d = none) ∧ Df φ' (.sl hs.next 0 (old.length + new.length) 0 true) ∧
      (Builtin.append_ c.argTypes t #[.slice base old.length (p.cap - i), xv]).run P w = .ok (conc φ' (.sl hs.next 0 (old.length + new.length) 0 true)) w' := by
  obtain ⟨hbn, hblk, hob⟩ := H.dom b p hp
  have lim := H.lim
  have hwr : wr (getH b hs.heap) := by rw [hg]; trivial
  have hlb := live_of_wr hwr
  have hob := hob hlb
  rw [hg] at hob
  obtain ⟨arr, frz, a1, a2, a3, a4, a5, a6, a7, a8⟩ := hob
  have hf := a6 trivial
  subst hf
  have hB := H.own b p hp hwr
  have hb20 : b < 1048576 := by omega
  have hoz : ∀ c ∈ old ++ new, (concL φ c).length = csz P el := fun c hc => by rcases List.mem_append.1 hc with h | h; exact hs0.len c h; exact hx.len c h
  have hod : ∀ c ∈ old ++ new, DfC φ c := fun c hc => by rcases List.mem_append.1 hc with h | h; exact hs0.df c h; exact hx.df c h
  have hll : (old ++ new).length = old.length + new.length := List.length_append
  obtain ⟨v1, v2, v3⟩ := H.vers b hbn fam ver true sh (by rw [hg]; rfl)
  have v3 := v3 rfl
  have H0 := H.kill hp
  have g0b : getH b (hs.put b .dead).heap = .dead := put_same _ _ _
  have g0 : ∀ d, d < 1048576 → d ≠ b → getH d (hs.put b .dead).heap = getH d hs.heap := fun d hd hne => put_ne _ _ hb20 hd hne
  have noown : ∀ d ver' sh', d < hs.next → famOf (getH d (hs.put b .dead).heap) ≠ some (fam, ver', true, sh') := fun d ver' sh' hd hfd => by
    by_cases hdb : d = b
    · subst hdb; rw [g0b] at hfd; simp [famOf] at hfd
    · rw [g0 d (by omega) hdb] at hfd
      exact hdb (H.uno d b fam ver' ver sh' sh hd hbn hfd (by rw [hg]; rfl))
  have H1 := H0.bump (fam := fam) (v' := ver + 1) (by rw [put_next]; omega) (by rw [put_fams]; omega) (fun d ver' sh' hd => noown d ver' sh' (by rw [put_next] at hd; exact hd))
  generalize hhs1 : (hs.put b .dead).bump fam (ver + 1) = hs1 at H1 ⊢
  have hn1 : hs1.next = hs.next := by rw [← hhs1]; cases hs; rfl
  have hh1 : ∀ d, getH d hs1.heap = getH d (hs.put b .dead).heap := fun d => by rw [← hhs1]; cases hs; rfl
  have hf1 : verOf fam hs1.fams = ver + 1 := by rw [← hhs1]; cases hs; exact verOf_set_same _ _ _
  have hf1' : ∀ f, f < 1048576 → f ≠ fam → verOf f hs1.fams = verOf f hs.fams := fun f h1 h2 => by rw [← hhs1]; cases hs; exact verOf_set_ne h1 (by have : fam < _ := v1; simp only [HS.next] at *; omega) h2 _ _
  have H2 : HOk P T B w0 φ (hs1.push (.cells el (csz P el) (old.length + new.length) els' (.opn true false fam (ver + 1)))) w :=
    own_new H1 (by omega) (by omega) hf1.symm fun d ver' sh' hd hfd => noown d ver' sh' (by omega) (by rw [← hh1]; exact hfd)
  rw [← hn1]
  generalize hhs2 : hs1.push (.cells el (csz P el) (old.length + new.length) els' (.opn true false fam (ver + 1))) = hs2 at H2 ⊢
  have hn2 : hs2.next = hs1.next + 1 := by rw [← hhs2, HS.push_next]
  have hf2 : hs2.fams = hs1.fams := by rw [← hhs2, HS.push_fams]
  have g2n : getH hs1.next hs2.heap = .cells el (csz P el) (old.length + new.length) els' (.opn true false fam (ver + 1)) := by rw [← hhs2, HS.push_same]
  have hφn : φ hs1.next = none := by rw [hn1]; exact H.nextNone
  have hnone : ∀ q : Pl, ∀ d, d < hs1.next → φ d = none → set1 φ hs1.next q d = none := fun q d hd hφ => by unfold set1; rw [if_neg (by omega)]; exact hφ
  have gg : ∀ d r, φ d = some r → d ≠ b → getH d hs2.heap = getH d hs.heap := fun d r hd hdb => by
    have hd' := (H.dom d r hd).1
    rw [← hhs2, HS.push_ne _ _ (by omega) (by omega) (by omega), hh1, g0 d (by omega) hdb]
  have ggb : getH b hs2.heap = .dead := by rw [← hhs2, HS.push_ne _ _ (by omega) hb20 (by omega), hh1, g0b]
  by_cases hfit : old.length + new.length ≤ p.cap - i
  · have hk0 : p.cap - i ≠ 0 := by
      have : new.length ≠ 0 := fun h => hne (List.length_eq_zero_iff.1 h)
      omega
    have hbs := hbase hk0
    have hic : i + (old.length + new.length) ≤ p.cap := by omega
    have e2 : (i + (old.length + new.length)) * csz P el ≤ p.cap * csz P el := Nat.mul_le_mul_right _ hic
    rw [Nat.add_mul, Nat.add_mul] at e2
    have hfl : (flat φ new).length = new.length * csz P el := flat_len hx.len
    have hin : p.base + i * p.sz + old.length * csz P el + new.length * csz P el ≤ arr.size := by rw [a2]; omega
    have run := append_fit (t := t) A hx (k := p.blk) (off := p.base + i * p.sz) (l := old.length) (cap := p.cap - i) (base := base) (fun _ => hbs) (fun _ => a1) (fun _ => hin) hfit
    rw [if_neg hne] at run
    let w' := w.setRow p.blk (spl arr (p.base + i * p.sz + old.length * csz P el) (flat φ new))
    have hw'g : w'.heap[p.blk]? = some (.cells (spl arr (p.base + i * p.sz + old.length * csz P el) (flat φ new)) el (0, 0)) := setRow_heap w p.blk _ _ _ _ a1
    let q : Pl := ⟨p.blk, p.base + i * p.sz, p.cap - i, p.sz⟩
    -- nobody else reads there
    have nolive : ∀ d r, φ d = some r → r.blk = p.blk → ¬ live hs2 d := fun d r hd hr hl => by
      by_cases hdb : d = b
      · subst hdb; unfold live at hl; rw [ggb] at hl; exact hl
      · have hd' := (H.dom d r hd).1
        have hls : live hs d ∧ ∀ ver' sh', famOf (getH d hs.heap) ≠ some (fam, ver', false, sh') := by
          unfold live at hl ⊢
          rw [gg d r hd hdb, hf2] at hl
          cases hgd : getH d hs.heap with
          | dead => rw [hgd] at hl; exact hl.elim
          | cells el2 z2 n2 els2 kd2 =>
            rw [hgd] at hl
            cases kd2 with
            | opn own2 sh2 fam2 ver2 =>
              cases own2 with
              | true => exact ⟨trivial, fun v s => by simp [famOf]⟩
              | false =>
                obtain ⟨u1, u2, _⟩ := H.vers d hd' fam2 ver2 false sh2 (by rw [hgd]; rfl)
                by_cases hff : fam2 = fam
                · subst hff
                  have hl : ver2 = verOf fam2 hs1.fams := hl
                  omega
                · have hl : ver2 = verOf fam2 hs1.fams := hl
                  rw [hf1' fam2 (by omega) hff] at hl
                  exact ⟨hl, fun v s hh => by simp [famOf] at hh; exact hff hh.1⟩
            | _ => exact ⟨trivial, fun v s => by simp [famOf]⟩
          | _ => exact ⟨trivial, fun v s => by simp [famOf]⟩
        obtain ⟨f, v, v', s', q1, q2, q3⟩ := H.sep b d p r (Ne.symm hdb) hp hd hr.symm hwr hls.1
        rw [hg] at q1
        simp only [famOf, Option.some.injEq, Prod.mk.injEq] at q1
        obtain ⟨rfl, _⟩ := q1
        exact hls.2 _ _ q2
    have H3 : HOk P T B w0 (set1 φ hs1.next q) hs2 w' := by
      refine H2.placeAt (by omega) hφn hblk hB rfl g2n (fun d r hd hr hw => nolive d r hd hr (live_of_wr hw)) (fun d r hd hr hl => absurd hl (nolive d r hd hr)) (But.setRow _) ?_ (fun d r hd hr hl => absurd hl (nolive d r hd hr))
      rw [g2n, ← hll]
      refine cells_mix (φ := φ) (Le.set1 hφn q) (by simp) (arr := arr) (off := p.base + i * p.sz + old.length * csz P el) (q := q) a2 a3 hoz hod hels rfl (by rw [hll]; exact hfit) ?_ hw'g fun k j v hk hv => ?_
      · show p.base + i * p.sz + (p.cap - i) * csz P el ≤ arr.size
        have : i * csz P el + (p.cap - i) * csz P el = p.cap * csz P el := by rw [← Nat.add_mul]; congr 1; omega
        rw [a2]; omega
      · rw [hoe k hk] at hv
        have := (a8 (i + k) (by omega)).2.2 j v hv
        rw [← this]
        congr 1
        show p.base + i * p.sz + k * csz P el + j = _
        rw [a2, Nat.add_mul]; omega
    refine ⟨_, w', Le.set1 hφn q, H3, hnone q, ⟨by rw [set1_same]; rfl, ?_⟩, ?_⟩
    · have : pl (set1 φ hs1.next q) hs1.next = q := by simp [pl, set1_same]
      simp only [if_true, this]
      exact ⟨trivial, by show 0 + (old.length + new.length) ≤ p.cap - i; omega⟩
    · rw [run]
      have : pl (set1 φ hs1.next q) hs1.next = q := by simp [pl, set1_same]
      simp only [conc, if_true, this, adr_eq (set1_same φ hs1.next q), hbs]
      simp [q]
      rfl
  · obtain ⟨newCap, n1, rest, n2, n3⟩ := append_grow (t := t) A hx hs0 (by omega) hlim
    let q : Pl := ⟨w.heap.size, 0, newCap, csz P el⟩
    have H3 : HOk P T B w0 (set1 φ hs1.next q) hs2 { w with drawn := w.drawn + 1, heap := w.heap.push (.cells ((flat φ (old ++ new)).toArray ++ rest) el) } := by
      refine H2.place (by omega) hφn ⟨rfl, rfl, rfl, by simp, fun i hi hk => by show (w.heap.push _)[i]? = _; rw [Array.getElem?_push, if_neg (by omega)]⟩ rfl (by simp) ?_
      rw [g2n, ← hll]
      exact cells_at' (w := { w with drawn := w.drawn + 1 }) hoz hod a3 hels n2 (by rw [hll]; exact n1) (Le.set1 hφn _) (fun _ => rfl) (by simp)
    refine ⟨_, _, Le.set1 hφn q, H3, hnone q, ⟨by rw [set1_same]; rfl, ?_⟩, ?_⟩
    · have : pl (set1 φ hs1.next q) hs1.next = q := by simp [pl, set1_same]
      simp only [if_true, this]
      exact ⟨trivial, by show 0 + (old.length + new.length) ≤ newCap; omega⟩
    · rw [n3]
      have : pl (set1 φ hs1.next q) hs1.next = q := by simp [pl, set1_same]
      simp only [conc, if_true, this, adr_eq (set1_same φ hs1.next q)]
      simp [q]
end
end Go.AbsK

namespace Go.AbsK
open Go
open Go.RowKit (Below)
set_option linter.unusedVariables false
set_option linter.unusedSimpArgs false
set_option linter.deprecated false

variable {P : Program} {T : Hints} {B : Nat} {w0 : World}
section
variable {φ : Plc} {e : E16} {L : Loc} {hs : HS} {w : World} {ρ : Operand → Value} {t : TypeId}

theorem grownNew_eq (elem sz : Nat) (els : Env) (n : Nat) (hs : HS) : grownNew elem sz els n hs = (.sl hs.next 0 n 0 true, hs.push (.cells elem sz n els (.opn true false hs.next 0))) := by cases hs; rfl
theorem grown_eq (elem sz : Nat) (els : Env) (n fam ver : Nat) (sh : Bool) (hs : HS) : grown elem sz els n fam ver sh hs = (.sl hs.next 0 n 0 true, hs.push (.cells elem sz n els (.opn true sh fam ver))) := by cases hs; rfl
/-- append that surely grows -/
theorem grow_ok (H : HOk P T B w0 φ hs w) {el : TypeId} {c : Call} {z : AV} (A : AppT P c el z) {old new : List AV} (hlim : old.length + new.length ≤ 1000000) (hnx : hs.next ≤ 1000000)
    {base : Option Addr} {cap : Nat} {xv : Value} (hs0 : ElsOk φ w (csz P el) (.slice base old.length cap) old) (hx : ElsOk φ w (csz P el) xv new) (hcap : cap < old.length + new.length) :
    ∃ φ' w', Le φ φ' ∧ HOk P T B w0 φ' (hs.push (.cells el (csz P el) (old.length + new.length) (setMany .nil 0 (old ++ new)) (.opn true false hs.next 0))) w' ∧
      (∀ d, d < hs.next → φ d = none → φ' d = none) ∧ Df φ' (.sl hs.next 0 (old.length + new.length) 0 true) ∧
      (Builtin.append_ c.argTypes t #[.slice base old.length cap, xv]).run P w = .ok (conc φ' (.sl hs.next 0 (old.length + new.length) 0 true)) w' := by
  obtain ⟨newCap, n1, rest, n2, n3⟩ := append_grow (t := t) A hx hs0 hcap hlim
  have hoz : ∀ c ∈ old ++ new, (concL φ c).length = csz P el := fun c hc => by rcases List.mem_append.1 hc with h | h; exact hs0.len c h; exact hx.len c h
  have hod : ∀ c ∈ old ++ new, DfC φ c := fun c hc => by rcases List.mem_append.1 hc with h | h; exact hs0.df c h; exact hx.df c h
  have hll : (old ++ new).length = old.length + new.length := List.length_append
  let q : Pl := ⟨w.heap.size, 0, newCap, csz P el⟩
  have H2 : HOk P T B w0 φ (hs.push (.cells el (csz P el) (old.length + new.length) (setMany .nil 0 (old ++ new)) (.opn true false hs.next 0))) w := own_fresh H (by omega)
  have H3 : HOk P T B w0 (set1 φ hs.next q) (hs.push (.cells el (csz P el) (old.length + new.length) (setMany .nil 0 (old ++ new)) (.opn true false hs.next 0))) { w with drawn := w.drawn + 1, heap := w.heap.push (.cells ((flat φ (old ++ new)).toArray ++ rest) el) } := by
    refine H2.place (by rw [HS.push_next]; omega) H.nextNone ⟨rfl, rfl, rfl, by simp, fun i hi hk => by show (w.heap.push _)[i]? = _; rw [Array.getElem?_push, if_neg (by omega)]⟩ rfl (by simp) ?_
    rw [HS.push_same, ← hll]
    exact cells_at' (w := { w with drawn := w.drawn + 1 }) hoz hod (by have := A.sz; omega) (fun k hk => by have := setMany_get .nil (old ++ new) 0 k hk; rwa [Nat.zero_add] at this) n2 (by rw [hll]; exact n1) (Le.set1 H.nextNone _) (fun _ => rfl) (by simp)
  have hpl : pl (set1 φ hs.next q) hs.next = q := by simp [pl, set1_same]
  refine ⟨_, _, Le.set1 H.nextNone q, H3, fun d hd hφ => by unfold set1; rw [if_neg (by omega)]; exact hφ, ⟨by rw [set1_same]; rfl, ?_⟩, ?_⟩
  · simp only [if_true, hpl]
    exact ⟨trivial, by show 0 + (old.length + new.length) ≤ newCap; omega⟩
  · rw [n3]
    simp only [conc, if_true, hpl, adr_eq (set1_same φ hs.next q)]
    simp [q]
theorem unt_push {φ : Plc} {hs hs1 : HS} (o : AObj) (h : Unt φ hs hs1) (hn : hs1.next ≤ 1000004) (hle : hs.next ≤ hs1.next) : Unt φ hs (hs1.push o) :=
  ⟨by rw [HS.push_next]; omega, fun b hb hφ => by rw [HS.push_ne _ _ hn (by omega) (by omega)]; exact h.2 b hb hφ⟩
theorem unt_refl (φ : Plc) (hs : HS) : Unt φ hs hs := ⟨Nat.le_refl _, fun _ _ _ => rfl⟩
theorem unt_bump {φ : Plc} {hs hs1 : HS} (f v : Nat) (h : Unt φ hs hs1) : Unt φ hs (hs1.bump f v) := by
  cases hs1
  exact h
theorem app_run {c : Call} (hc : c.callee = .builtin .append) {so xo : Operand} (ha : c.args.toList = [so, xo]) {r : Value} {w' : World} (hr : (Builtin.append_ c.argTypes t #[ρ so, ρ xo]).run P w = .ok r w') (dst pos after guard) :
    (execOp ρ { dst, op := .call c, type := t, pos, after, guard }).run P w = .ok (.value r) w' := by
  rw [run_builtin hc, args2 ha]
  simp only [builtin, Sem.run_bind, hr, Result.andThen_ok, Sem.run_pure]
theorem stride_els (H : HOk P T B w0 φ hs w) {x : AV} {z : Nat} {old : List AV} (d : Df φ x) (h : strideB z x hs = true) (ho : elemsOf x hs = some old) : (∀ c ∈ old, (concL φ c).length = z) ∧ old.length = lenS x := by
  unfold elemsOf at ho
  split at ho
  · cases ho; exact ⟨by simp, rfl⟩
  · cases ho; exact ⟨by simp, rfl⟩
  · rename_i b i l c o
    unfold strideB at h
    simp only [] at h
    split at ho
    · rename_i el zz n els kd hg
      rw [hg] at h
      simp only [Bool.and_eq_true] at h
      have hzz := beqN_iff.1 h.1
      subst hzz
      split at ho
      · rename_i hc
        simp only [Bool.and_eq_true] at hc
        have hn := Nat.le_of_ble_eq_true hc.2
        cases ho
        obtain ⟨p, hp⟩ := some_pl d.1
        obtain ⟨_, _, h3⟩ := H.dom b p hp
        have h3 := h3 (live_alive hg h.2)
        rw [hg] at h3
        obtain ⟨arr, frz, a1, a2, a3, a4, a5, a6, a7, a8⟩ := h3
        refine ⟨fun c hc => ?_, by simp [lenS]⟩
        simp only [List.mem_map, List.mem_range] at hc
        obtain ⟨k, hk, rfl⟩ := hc
        exact (a8 (i + k) (by omega)).2.1
      · cases ho
    · cases ho
  · rename_i b i j zz l c x' y'
    have hzz : zz = z := beqN_iff.1 h
    subst hzz
    split at ho
    · split at ho
      · rename_i el sz cs hg hc
        simp only [Bool.and_eq_true, decide_eq_true_eq] at hc
        have hn := Nat.le_of_ble_eq_true hc.2
        cases ho
        refine ⟨fun c hc => ?_, by simp [lenS]⟩
        simp only [List.mem_map, List.mem_range] at hc
        obtain ⟨k, hk, rfl⟩ := hc
        rw [concL_unl, List.length_map, List.length_take, List.length_drop]
        have : k * zz + zz ≤ l * zz := by
          have := Nat.mul_le_mul_right zz (show k + 1 ≤ l by omega)
          rw [Nat.add_mul, Nat.one_mul] at this; exact this
        omega
      · cases ho
    · cases ho
  · cases h
  · cases ho
theorem old_get {b i l c : Nat} {o : Bool} {el z n : Nat} {els : Env} {kd : Kd} (hg : getH b hs.heap = .cells el z n els kd) {old : List AV} (ho : elemsOf (.sl b i l c o) hs = some old) :
    ∀ k, k < old.length → old.getD k .nil = gE (i + k) els := by
  unfold elemsOf at ho
  simp only [hg] at ho
  split at ho
  · cases ho
    intro k hk
    simp only [List.length_map, List.length_range] at hk
    simp [List.getD, List.getElem?_map, List.getElem?_range hk]
    rfl
  · cases ho
theorem getD_app_left {a b : List AV} {k : Nat} (h : k < a.length) : (a ++ b).getD k .nil = a.getD k .nil := by
  simp only [List.getD, List.getElem?_append_left h]
theorem getD_app_right {a b : List AV} {k : Nat} (h : a.length ≤ k) : (a ++ b).getD k .nil = b.getD (k - a.length) .nil := by
  simp only [List.getD, List.getElem?_append_right h]
theorem ok_append (H : HOk P T B w0 φ hs w) {s x : OB} {so xo : Operand} (hs0 : EvOk φ e L ρ s so) (hx0 : EvOk φ e L ρ x xo) {c : Call} {el : TypeId} {z : AV} (A : AppT P c el z)
    (hc : c.callee = .builtin .append) (ha : c.args.toList = [so, xo]) : EffOk P T B w0 (hSlow (sAppend el (csz P el) s x)) (.call c) t φ e L hs w ρ := by
  rcases hSlow_eq (sAppend el (csz P el) s x) e L hs with h | ⟨hn, v, hs2, h1, h2⟩
  · exact .inl h
  unfold sAppend at h1
  have hsd := hs0.df
  have hse := hs0.eq
  have hxd := hx0.df
  have hxe := hx0.eq
  generalize ev s e L = sv at *
  generalize ev x e L = xv at *
  split at h1
  · rename_i new hnew
    split at h1
    · rename_i hch
      simp only [Bool.and_eq_true] at hch
      obtain ⟨⟨⟨q1, q2⟩, q3⟩, q4⟩ := hch
      have q4 := Nat.le_of_ble_eq_true q4
      have hx := elemsOf_ok H hxd hnew (lenB_ok q1)
      have lim := H.lim
      -- how it ends
      have fin : Unt φ hs hs2 → (∃ φ' w', Le φ φ' ∧ HOk P T B w0 φ' hs2 w' ∧ (∀ d, d < hs.next → φ d = none → φ' d = none) ∧ Df φ' v ∧ (Builtin.append_ c.argTypes t #[conc φ sv, conc φ xv]).run P w = .ok (conc φ' v) w') →
          EffOk P T B w0 (hSlow (sAppend el (csz P el) s x)) (.call c) t φ e L hs w ρ := by
        rintro hu ⟨φ', w', k1, k2, k3, k4, k5⟩
        exact .inr ⟨_, _, h2, φ', w', k1, k2, hu, k3, k4, fun _ _ _ _ => ⟨_, app_run hc ha (by rw [hse, hxe]; exact k5) _ _ _ _, .inl rfl⟩⟩
      have hels0 : ∀ ls : List AV, ∀ k, k < ls.length → gE k (setMany .nil 0 ls) = ls.getD k .nil := fun ls k hk => by have := setMany_get .nil ls 0 k hk; rwa [Nat.zero_add] at this
      have e0 : ∀ (a : Option Addr) (cap : Nat), ElsOk φ w (csz P el) (.slice a ([] : List AV).length cap) [] := fun a cap => ⟨by simp, by simp, .inl ⟨a, cap, rfl, fun h => absurd rfl h⟩⟩
      unfold appendTo at h1
      simp only [] at h1
      split at h1
      · -- nothing is appended
        rename_i hk
        have hn0 : new = [] := List.length_eq_zero_iff.1 hk
        subst hn0
        have key : ∀ a l cap, conc φ sv = .slice a l cap → l ≤ cap → v = sv → hs2 = hs → EffOk P T B w0 (hSlow (sAppend el (csz P el) s x)) (.call c) t φ e L hs w ρ := fun a l cap hv hle e1 e2 => by
          subst e1; subst e2
          refine fin (unt_refl φ _) ⟨φ, w, Le.refl φ, H, fun _ _ h => h, hsd, ?_⟩
          have := append_fit (t := t) A hx (k := 0) (off := 0) (l := l) (cap := cap) (base := a) (arr := #[]) (e' := 0) (fun h => absurd rfl h) (fun h => absurd rfl h) (fun h => absurd rfl h) (by simpa using hle)
          rw [hv]
          simpa using this
        split at h1
        · cases h1; exact key _ _ _ rfl (Nat.le_refl _) rfl rfl
        · cases h1; exact key _ _ _ rfl (Nat.zero_le _) rfl rfl
        · cases h1
          refine key _ _ _ rfl ?_ rfl rfl
          have := hsd.2
          split <;> simp_all <;> omega
        · cases h1; exact key _ _ _ rfl hsd.2 rfl rfl
        · cases h1
      · rename_i hk
        have hne : new ≠ [] := fun h => hk (by rw [h]; rfl)
        have hnl : 0 < new.length := Nat.pos_of_ne_zero hk
        split at h1
        · -- nil
          rw [grownNew_eq] at h1
          cases h1
          have hlim : ([] : List AV).length + new.length ≤ 1000000 := by simp [lenS] at q4; simpa using q4
          have O := grow_ok (t := t) (old := []) H A hlim hn (e0 none 0) hx (by simpa using hnl)
          exact fin (unt_push _ (unt_refl φ hs) (by omega) (Nat.le_refl _)) (by simpa [conc] using O)
        · -- empty, of an unknown rest
          rename_i b i0 i1 d clip u x' y' _
          have hlim : ([] : List AV).length + new.length ≤ 1000000 := by simp [lenS] at q4; simpa using q4
          split at h1
          · rename_i hcl
            rw [grownNew_eq] at h1
            cases h1
            have O := fun a => grow_ok (t := t) (old := []) H A hlim hn (e0 a 0) hx (by simpa using hnl)
            exact fin (unt_push _ (unt_refl φ hs) (by omega) (Nat.le_refl _)) (by have := O (some (if (pl φ b).cap - d = 0 then adr φ b i0 0 else adr φ b i1 0)); simpa [conc, hcl] using this)
          · rename_i hcl
            split at h1
            · rename_i elx zz n els sh fam ver hg
              split at h1
              · rename_i hcc
                simp only [Bool.and_eq_true, decide_eq_true_eq] at hcc
                obtain ⟨hin, hzz⟩ := hcc
                have hzz := beqN_iff.1 hzz
                subst hzz
                have hel : elx = el := by simp only [elemB, hg] at q3; exact beqN_iff.1 q3
                subst hel
                rw [grown_eq] at h1
                cases h1
                obtain ⟨p, hp⟩ := some_pl hsd.1
                have hdi : d = i1 := hsd.2.1
                subst hdi
                have hpl : pl φ b = p := by simp [pl, hp]
                have hbn := (H.dom b p hp).1
                have O := open_end (t := t) (els' := setMany .nil 0 new) (old := []) (i := d) (base := some (if (pl φ b).cap - d = 0 then adr φ b i0 0 else adr φ b d 0)) H hp A hg (by simpa using hin) hne hlim hn (by simpa using hels0 new) (fun k hk => by simp at hk)
                  (fun h => by rw [hpl, if_neg h, adr_eq hp]; rfl) (e0 _ _) hx
                refine fin (unt_push _ (put_unt hp _ lim hbn) (by rw [put_next]; omega) (by rw [put_next]; exact Nat.le_refl _)) ?_
                rw [hpl] at O
                simpa [conc, hcl, hpl, put_next] using O
              · cases h1
            · cases h1
        · rename_i b i l cc o _
          have hlim : l + new.length ≤ 1000000 := q4
          obtain ⟨p, hp⟩ := some_pl hsd.1
          have hpl : pl φ b = p := by simp [pl, hp]
          have hbn := (H.dom b p hp).1
          cases o with
          | true =>
            simp only [if_true] at h1
            have hd2 := hsd.2
            simp only [if_true] at hd2
            obtain ⟨hci, hcl⟩ := hd2
            subst hci
            rw [hpl] at hcl
            split at h1
            · rename_i elx zz n els sh fam ver hg
              have hst := q2
              simp only [strideB, hg, Bool.and_eq_true] at hst
              have hzz := beqN_iff.1 hst.1
              subst hzz
              have hel : elx = el := by simp only [elemB, hg] at q3; exact beqN_iff.1 q3
              subst hel
              have hbase : ∀ _ : p.cap - cc ≠ 0, some (adr φ b cc 0) = some (⟨p.blk, p.base + cc * p.sz, none⟩ : Addr) := fun _ => by rw [adr_eq hp]; rfl
              have hcv : conc φ (.sl b cc l cc true) = .slice (some (adr φ b cc 0)) l (p.cap - cc) := by simp only [conc, if_true, hpl]
              have els_ok : ∀ old, elemsOf (.sl b cc l cc true) hs = some old → ElsOk φ w (csz P elx) (.slice (some (adr φ b cc 0)) old.length (p.cap - cc)) old ∧ old.length = l ∧ ∀ k, k < old.length → old.getD k .nil = gE (cc + k) els := fun old ho => by
                obtain ⟨s1, s2⟩ := stride_els H hsd q2 ho
                have E := elemsOf_ok H hsd ho s1
                rw [hcv] at E
                have s2 : old.length = l := s2
                subst s2
                exact ⟨E, rfl, old_get hg ho⟩
              split at h1
              · rename_i hil
                split at h1
                · rename_i h0
                  subst h0
                  rw [grown_eq] at h1
                  cases h1
                  obtain ⟨old, ho⟩ : ∃ old, elemsOf (.sl b 0 l 0 true) hs = some old := by
                    unfold elemsOf
                    simp only [hg]
                    exact ⟨_, if_pos (by simp only [alive, Bool.true_and]; exact Nat.ble_eq_true_of_le (by omega))⟩
                  obtain ⟨E, ol, og⟩ := els_ok old ho
                  have O := open_end (t := t) (els' := setMany els n new) (i := 0) H hp A hg (by omega) hne (by omega) hn (fun k hk => ?_) og hbase E hx
                  · refine fin (unt_push _ (put_unt hp _ lim hbn) (by rw [put_next]; omega) (by rw [put_next]; exact Nat.le_refl _)) ?_
                    rw [hcv]
                    rw [ol] at O
                    simpa [put_next] using O
                  · rw [List.length_append] at hk
                    by_cases hkl : k < old.length
                    · rw [setMany_ge els new n k (by omega), getD_app_left hkl, og k hkl, Nat.zero_add]
                    · have := setMany_get els new n (k - n) (by omega)
                      rw [show n + (k - n) = k by omega] at this
                      rw [this, getD_app_right (by omega)]
                      congr 1; omega
                · rename_i h0
                  simp only [Option.map_eq_some_iff] at h1
                  obtain ⟨old, ho, h1⟩ := h1
                  rw [grown_eq] at h1
                  cases h1
                  obtain ⟨E, ol, og⟩ := els_ok old ho
                  have O := open_end (t := t) (els' := setMany .nil 0 (old ++ new)) (i := cc) H hp A hg (by omega) hne (by omega) hn (hels0 _) og hbase E hx
                  refine fin (unt_push _ (put_unt hp _ lim hbn) (by rw [put_next]; omega) (by rw [put_next]; exact Nat.le_refl _)) ?_
                  rw [hcv]
                  rw [ol] at O
                  simpa [put_next] using O
              · rename_i hil
                split at h1
                · cases h1
                · simp only [Option.map_eq_some_iff] at h1
                  obtain ⟨old, ho, h1⟩ := h1
                  rw [grown_eq] at h1
                  cases h1
                  obtain ⟨E, ol, og⟩ := els_ok old ho
                  have hle : cc + l ≤ n := by
                    have := ho
                    unfold elemsOf at this
                    simp only [hg] at this
                    split at this
                    · rename_i hc'
                      simp only [Bool.and_eq_true] at hc'
                      exact Nat.le_of_ble_eq_true hc'.2
                    · cases this
                  have O := open_kill (t := t) (els' := setMany .nil 0 (old ++ new)) (i := cc) H hp A hg (by omega) hne (by omega) hn (hels0 _) og hbase E hx
                  have hnb : ((hs.put b AObj.dead).bump fam (ver + 1)).next = hs.next := by cases hs; rfl
                  refine fin (unt_push _ (unt_bump _ _ (put_unt hp _ lim hbn)) (by rw [hnb]; omega) (by rw [hnb]; exact Nat.le_refl _)) ?_
                  rw [hcv]
                  rw [ol] at O
                  simpa [hnb] using O
            · cases h1
          | false =>
            simp only [Bool.false_eq_true, if_false] at h1
            have hlc : l ≤ cc := by have := hsd.2; simpa using this
            have hcv : conc φ (.sl b i l cc false) = .slice (some (adr φ b i 0)) l cc := rfl
            split at h1
            · rename_i hfc
              have hfc := Nat.le_of_ble_eq_true hfc
              split at h1
              · rename_i elx zz n els hg
                split at h1
                · rename_i hin
                  have hin := Nat.le_of_ble_eq_true hin
                  have hst := q2
                  simp only [strideB, hg, Bool.and_eq_true] at hst
                  have hzz := beqN_iff.1 hst.1
                  subst hzz
                  cases h1
                  have hob := (H.dom b p hp).2.2 (live_of_wr (by rw [hg]; trivial))
                  rw [hg] at hob
                  have hwr : wr (.cells elx (csz P el) n els .ex) := trivial
                  have K := fun arr0 (h0 : w.heap[p.blk]? = some (.cells arr0 elx (0, 0))) => cells_many (w' := w.setRow p.blk (spl arr0 (p.base + (i + l) * p.sz) (flat φ new))) (m := i + l) hob hwr hx.len hx.df hin (fun arr ha => by rw [h0] at ha; cases ha; exact setRow_heap w p.blk _ _ _ _ h0)
                  have hrow : ∃ arr, w.heap[p.blk]? = some (.cells arr elx (0, 0)) := by
                    obtain ⟨arr, frz, a1, _, _, _, _, a6, _⟩ := hob
                    have := a6 hwr; subst this
                    exact ⟨arr, a1⟩
                  obtain ⟨arr, a1⟩ := hrow
                  obtain ⟨k1, arr', k2, k3⟩ := K arr a1
                  rw [a1] at k2; cases k2
                  have psz : p.sz = csz P el := hob.choose_spec.choose_spec.2.1
                  have run := append_fit (t := t) A hx (k := p.blk) (off := p.base + i * p.sz + 0) (l := l) (cap := cc) (base := some (adr φ b i 0)) (fun _ => by rw [adr_eq hp]) (fun _ => a1) (fun _ => by rw [psz] at k3 ⊢; rw [Nat.add_mul] at k3; omega) hfc
                  rw [if_neg hne] at run
                  refine fin (put_unt hp _ lim hbn) ⟨φ, _, Le.refl φ, H.put hp _ (by rw [hg]; trivial) (by rw [hg]; rfl) (fun _ _ _ => by rw [hg]; simp [famOf]) (But.setRow _) k1, fun _ _ h => h, ⟨hsd.1, by simpa using hfc⟩, ?_⟩
                  have e5 : p.base + i * p.sz + 0 + l * csz P el = p.base + (i + l) * p.sz := by rw [psz, Nat.add_mul]; omega
                  rw [e5] at run
                  rw [hcv, run]
                  simp only [conc, Bool.false_eq_true, if_false]
                · cases h1
              · cases h1
            · rename_i hfc
              have hfc : ¬ l + new.length ≤ cc := fun h => hfc (Nat.ble_eq_true_of_le h)
              simp only [Option.map_eq_some_iff] at h1
              obtain ⟨old, ho, h1⟩ := h1
              rw [grownNew_eq] at h1
              cases h1
              obtain ⟨s1, s2⟩ := stride_els H hsd q2 ho
              have E := elemsOf_ok H hsd ho s1
              have s2 : old.length = l := s2
              subst s2
              rw [hcv] at E
              have O := grow_ok (t := t) H A hlim hn E hx (by omega)
              exact fin (unt_push _ (unt_refl φ hs) (by omega) (Nat.le_refl _)) (by rw [hcv]; exact O)
        · rename_i b i j zz l cc x' y' _
          have hcv : conc φ (.oth 12 b i j zz l cc x' y') = .slice (some (adr φ b i j)) l cc := rfl
          split at h1
          · cases h1
          · rename_i hfc
            have hfc : ¬ l + new.length ≤ cc := fun h => hfc (Nat.ble_eq_true_of_le h)
            simp only [Option.map_eq_some_iff] at h1
            obtain ⟨old, ho, h1⟩ := h1
            rw [grownNew_eq] at h1
            cases h1
            obtain ⟨s1, s2⟩ := stride_els H hsd q2 ho
            have E := elemsOf_ok H hsd ho s1
            have s2 : old.length = l := s2
            subst s2
            rw [hcv] at E
            have O := grow_ok (t := t) H A q4 hn E hx (by omega)
            exact fin (unt_push _ (unt_refl φ hs) (by omega) (Nat.le_refl _)) (by rw [hcv]; exact O)
        · cases h1
    · cases h1
  · cases h1
end
end Go.AbsK
