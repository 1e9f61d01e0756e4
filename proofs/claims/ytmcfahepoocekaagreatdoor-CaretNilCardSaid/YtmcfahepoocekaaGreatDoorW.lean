/-
  The seat's own facts: what the abstract machine asks of the program; a world that holds the laid tables. No condition.
-/
import Derived.Test.YtmcfahepoocekaaGreatDoorT
import Derived.Test.YtmcfahepoocekaaGreatDoorH
import Derived.ClosedOfChecked
import Derived.ChangeSame
namespace Go.Proofs.YtmcfahepoocekaaGreatDoor
open Go
set_option maxRecDepth 1000000
-- the machine's needs
theorem numAll : (Tryz.prog.funcs.toList.all fun fn => fn.name != "runtime.NumGoroutine") = true := by kernel_rfl
theorem progOk : AbsK.ProgOk Tryz.prog where
  num f fn h := by
    have := List.all_eq_true.1 numAll fn (List.mem_of_getElem? (by rw [Array.getElem?_toList]; exact h))
    simpa using this
  mixed := by kernel_rfl
theorem own : ownKnob Tryz.prog.godebug = none := by kernel_rfl
theorem noGlobs : hints.globs = [] := rfl

-- a world that holds the tables
def cells1 : DataW Unit → List Value
  | .agg l => l.map fun | .lit (.int k n) => .int k n | _ => .bool false
  | _ => []
def cells2 : DataW Unit → List Value
  | .agg l => l.flatMap cells1
  | _ => []
def setC (cs : List Value) : Obj → Obj
  | .cells _ t frozen => .cells cs.toArray t frozen
  | o => o
noncomputable def base (os : Os) : Array Obj := (World.holding Tryz.prog os ⟨#[], #[], []⟩).heap
noncomputable def laidWorld (os : Os) : World :=
  { World.holding Tryz.prog os ⟨#[], #[], []⟩ with heap :=
      (((((((((base os).modify 1 (setC (cells1 Rows.laid_unicode_utf8_first))).modify 2 (setC (cells2 Rows.laid_unicode_utf8_acceptRanges))).modify 4 (setC (cells1 Rows.laid_strings_asciiSpace))).modify 5 (setC [.pointer (some ⟨(base os).size, 0, none⟩)])).modify 3 (setC (cells1 Rows.laid_internal_strconv_uint64pow10))).modify 6 (setC (cells1 Rows.laid_math_bits_deBruijn32tab))).modify 7 (setC (cells1 Rows.laid_math_bits_deBruijn64tab))).push (.cells #[.slice (some ⟨(base os).size + 1, 0, none⟩) 7 7, .slice none 0 0, .int .i64 2] 700)).push (.cells #[.int .u16 9, .int .u16 13, .int .u16 1, .int .u16 32, .int .u16 133, .int .u16 101, .int .u16 160, .int .u16 5760, .int .u16 5600, .int .u16 8192, .int .u16 8202, .int .u16 1, .int .u16 8232, .int .u16 8233, .int .u16 1, .int .u16 8239, .int .u16 8287, .int .u16 48, .int .u16 12288, .int .u16 12288, .int .u16 1] 703) }
/-- there is memory -/
theorem someMemory {W : World} (h : W.ShapedOpen Tryz.prog) : 0 < W.heap.size := by
  obtain ⟨o, _, ho, _⟩ := h.2 (Tryz.prog.globals.size) (Nat.le_refl _) (by
    have : Tryz.prog.globals.size = 9 := by kernel_rfl
    have hs : 9 + 1 ≤ (begin Tryz.prog (fun _ _ => 0) default).world.heap.size := of_decide_eq_true (by kernel_rfl)
    omega)
  have := (Array.getElem?_eq_some_iff.1 ho).1
  omega
/-- the program's table of types, row by row: what 'Checked' has paid for -/
theorem tableSpec : ClosedOfChecked.AllSpec Tryz.prog := ClosedOfChecked.allSpec_of Tryz.checked.wellFormed (by kernel_rfl)
theorem laidOut : laidOutB Tryz.prog = true := ClosedOfChecked.laidOutB_of tableSpec (by kernel_rfl)
theorem mapsRow : mapsRowed Tryz.prog = true := ClosedOfChecked.mapsRowed_of tableSpec
/-- arguments that are numbers alone: nothing was reachable ahead of the call, so nothing is asked of the old memory but that it be kept -/
theorem post_of_ints {H : Type} {enc : TypeId × Value → H} {P : Program} {f : Func} {s : ChangeSpec} {apart fresh handsOn again : Bool} {W W' : World} {args : Array Value} {v : Value} {ds gs : List (DataW H)}
    (hW : DataW.Whole enc P f.params.toList s.vars apart W args.toList ds gs [])
    (hres : ∀ (b : Nat) (sp : Nat → Bool) (hd : Bool), DataW.TrodAll enc P W' b sp hd f.resultTypes.toList (v.resultList f.resultTypes.size) (s.fn H (ds ++ gs)).results [])
    (hargs : ∀ sp : Nat → Bool, DataW.TrodAll enc P W' 0 sp true f.params.toList args.toList (s.fn H (ds ++ gs)).args [])
    (hvars : ∀ sp : Nat → Bool, DataW.TrodVars enc P W' sp s.vars (s.fn H (ds ++ gs)).vars [])
    (hk : W.keptBut W' (fun _ => False))
    (hok : ∀ (j : Nat) (t : TypeId) (r : Value), f.resultTypes[j]? = some t → (v.resultList f.resultTypes.size)[j]? = some r → Value.okWide P W' .any 0 t r) :
    s.post enc P f apart fresh handsOn again W args v W' := by
  refine ⟨ds, gs, [], [], [], [], hW, hres _ _ _, hargs _, hvars _, World.keptBut_mono (fun p hp => hp.elim) hk, fun _ => ?_⟩
  refine ⟨hok, _, _, ([] ++ []) ++ [], ⟨[] ++ [], [], ChangeShapes.trodAll_append (hargs _) (hres _ _ _), hvars _, rfl, ?_, ?_⟩, ?_⟩
  · intro b off hp
    cases hp
  · intro _
    exact List.nodup_nil
  · intro p hp _
    cases hp
/-- no body of the program holds a go statement: so none of its calls can come to one -/
theorem noGo : Tryz.prog.funcs.any Func.goes = false := by kernel_rfl
theorem goesNot (f : FuncId) : Tryz.prog.goes f = false := by
  have h1 : ((Tryz.prog.closure f).any fun g => (Tryz.prog.funcs[g]?).any Func.goes) = false := by
    rw [List.any_eq_false]
    intro g _
    cases hg : Tryz.prog.funcs[g]? with
    | none => simp
    | some fn =>
      have h := Array.any_eq_false.1 noGo
      obtain ⟨hlt, he⟩ := Array.getElem?_eq_some_iff.1 hg
      simpa [he] using h g hlt
  unfold Program.goes
  rw [h1, noGo, Bool.and_false]; rfl
end Go.Proofs.YtmcfahepoocekaaGreatDoor
