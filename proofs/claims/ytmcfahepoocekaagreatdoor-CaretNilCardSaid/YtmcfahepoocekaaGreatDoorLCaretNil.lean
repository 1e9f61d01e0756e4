/-
  The law CaretNil holds: for every input the call returns true. No condition of ours.
-/
import Derived.Test.YtmcfahepoocekaaGreatDoorW
namespace Go.Proofs.YtmcfahepoocekaaGreatDoor.caretNil
open Go.ChangeShapes Go.WideShapes Go.ChangeAt Go.RowKit

set_option maxRecDepth 1000000
/-- the run, by the kernel -/
theorem ran : AbsK.ansB (AbsK.run Tryz.prog hints 200000 (AbsK.argsE (AbsK.startArgs 2 0) 0 AbsK.e0) (AbsK.todoOf Tryz.prog 3) .nil 3 (.mk false none .nil) .nil (AbsK.startHS 2)) = true := by kernel_rfl
theorem calls (zs : List Int) (hz : zs.length = 2) (w : World) (hw : 0 < w.heap.size) : Calls Tryz.prog 3 (zs.map (Value.int .i64)).toArray w fun e w' => e = .returned (.bool true) ∧ Below w.heap.size w w' :=
  AbsK.calls_true progOk (by kernel_rfl) noGlobs zs (by omega) (by rw [hz]; exact ran) w hw
theorem contract (H : Type) (enc : TypeId × Value → H) (W : World) (base : Nat) (args : Array Value) (ds gs : List (DataW H)) (before : List MemPlace)
    (hval : ∀ (j : Nat) t v, Tryz.f3.params[j]? = some t → args[j]? = some v → Value.okWide Tryz.prog W .any base t v)
    (hW : DataW.Whole enc Tryz.prog Tryz.f3.params.toList Rows.caretNilSpec.vars false W args.toList ds gs before) (hs : 0 < W.heap.size) :
    Calls Tryz.prog 3 args W fun e W' => ∃ v, e = .returned v ∧ Rows.caretNilSpec.post enc Tryz.prog Tryz.f3 false true false false W args v W' := by
  have hW' := hW
  obtain ⟨p, q, hA0, hV, rfl, hfz, hnd⟩ := hW
  have hA : DataW.TrodAll enc Tryz.prog W 0 (fun _ => true) true Tryz.f3.params.toList args.toList ds p := hA0
  rw [Tryz.params3] at hA hval
  obtain ⟨v0, vs0, d0, ds0, p0, q0, hargs, rfl, rfl, h0, r0⟩ := trodAll_cons hA
  obtain ⟨v1, vs1, d1, ds1, p1, q1, rfl, rfl, rfl, h1, r1⟩ := trodAll_cons r0
  obtain ⟨rfl, rfl, rfl⟩ := trodAll_nil r1
  obtain rfl : args = #[v0, v1] := by cases args; simp_all
  obtain ⟨rfl, rfl⟩ := trodVars_none hV
  obtain ⟨a0, rfl, rfl, rfl, w0⟩ := open_int Tryz.underlying3 (hval 0 3 v0 rfl rfl) h0
  obtain ⟨a1, rfl, rfl, rfl, w1⟩ := open_int Tryz.underlying3 (hval 1 3 v1 rfl rfl) h1
  clear hA0
  simp only [List.append_nil] at hW'
  refine (calls [a0, a1] rfl W hs).mono fun e W' ⟨he, hg⟩ => ?_
  subst he
  exact ⟨_, rfl, post_of_ints hW' (fun _ _ _ => trodAll_cons_mk (shut_bool Tryz.underlying4 _) trodAll_mk0) (fun _ => (trodAll_cons_mk (shut_int Tryz.underlying3 w0) (trodAll_cons_mk (shut_int Tryz.underlying3 w1) trodAll_mk0))) (fun _ => rfl)
    (hg.frame _) (ok_one (by kernel_rfl) rfl (okWide_bool_mk Tryz.underlying4 _))⟩
def args0 : Array Value := #[.int .i64 0, .int .i64 0]
theorem laid_met (os : Os) : laidMet Tryz.prog Rows.caretNilRow.laid ((laidWorld os).forCall (fun _ _ => 0) ⟨#[], args0, []⟩).memory :=
  have h : (DataW.laidRun Tryz.prog ((laidWorld os).forCall (fun _ _ => 0) ⟨#[], args0, []⟩).memory 8 (Rows.caretNilRow.laid.map (·.1))).map (·.1) = some Rows.caretNilRow.laid := by kernel_rfl
  laidMet_of_run' 8 h (mask_ok h (by kernel_rfl))
theorem reads (os : Os) {H : Type} (enc : TypeId × Value → H) : ∃ places, DataW.whole enc Tryz.prog ((laidWorld os).forCall (fun _ _ => 0) ⟨#[], args0, []⟩).memory Tryz.f3.params.toList Rows.caretNilSpec.vars false args0.toList 8 = some ([.lit (.int .i64 0), .lit (.int .i64 0)], [], places) :=
  ⟨[], by kernel_rfl⟩
theorem wit1 (os : Os) : ((laidWorld os).forCall (fun _ _ => 0) ⟨#[], args0, []⟩).variablesRefB Tryz.prog = true := by kernel_rfl
theorem wit2 (os : Os) : ((((laidWorld os).forCall (fun _ _ => 0) ⟨#[], args0, []⟩).heap.toList.drop Tryz.prog.globals.size).take ((begin Tryz.prog (fun _ _ => 0) default).world.heap.size - Tryz.prog.globals.size)) =
      (begin Tryz.prog (fun _ _ => 0) default).world.heap.toList.drop Tryz.prog.globals.size := by kernel_rfl
theorem wit3 (os : Os) : Input.okWideB Tryz.prog ((laidWorld os).forCall (fun _ _ => 0) ⟨#[], args0, []⟩) 3 ⟨#[], args0, []⟩ = true := by kernel_rfl
theorem lifted (os : Os) (started : os.Started) (H : Type) (enc : TypeId × Value → H) (F : Stop.Interp) :
    ReturnsInHanded {} Tryz.checked os 3 .any ((OpenSpec.ofChange Rows.caretNilSpec).preRow enc Tryz.prog Tryz.f3 Rows.caretNilRow.domain false Rows.caretNilRow.laid) (((OpenSpec.ofChange Rows.caretNilSpec).at F).post enc Tryz.prog Tryz.f3 false true false false) := by
  obtain ⟨places, hx⟩ := reads os enc
  refine returnsInHanded_of_row (C := Tryz.checked) (s := OpenSpec.ofChange Rows.caretNilSpec) own started (by kernel_rfl) Tryz.func3
    (witness_row_atRef (enc := enc) (C := Tryz.checked) false (laidWorld os) args0 rfl (wit1 os) (wit2 os) (wit3 os)
      (OpenSpec.preRow_of_cond 8 hx (by kernel_rfl) (fun k hk => by cases hk) (by kernel_rfl) (laid_met os))) ?_
  intro W base args ds gs before hval hW _ _ _ hL hsh _
  exact contract H enc W base args ds gs before hval hW (someMemory hsh)
-- the row's closed facts, each by itself: the kernel's memory holds them so, and not together
theorem closed0 : (Rows.caretNilRow.wf (OpenSpec.ofChange (OpenSpec.ofChange Rows.caretNilSpec).bare)) = true := by kernel_rfl
theorem closed1 : (laidOutB Tryz.prog) = true := laidOut
theorem closed2 : (mapsRowed Tryz.prog) = true := mapsRow
theorem closed3 : (Tryz.f3.params.all (Tryz.prog.readableRec ·)) = true := by kernel_rfl
theorem closed4 : (namedTie Tryz.prog Rows.caretNilRow.named (OpenSpec.ofChange Rows.caretNilSpec).bare.vars) = true := by kernel_rfl
theorem closed5 : ((Rows.caretNilRow.stops == [])) = true := by kernel_rfl
theorem closed6 : ((Tryz.prog.stops == [])) = true := by kernel_rfl
theorem closed7 : ((Rows.caretNilRow.knobs == [])) = true := by kernel_rfl
theorem closed8 : ((Tryz.prog.stopKnobs == [])) = true := by kernel_rfl
theorem closed9 : ((Rows.caretNilRow.inPlace == Tryz.prog.inPlace 3)) = true := by kernel_rfl
theorem closed10 : ((Rows.caretNilRow.unfollowed == Tryz.prog.unfollowed 3)) = true := by kernel_rfl
theorem closed11 : ((Rows.caretNilRow.recurses == Tryz.prog.recurses 3)) = true := by kernel_rfl
theorem closed12 : ((Rows.caretNilRow.named == Tryz.prog.varsNamed 3)) = true := by kernel_rfl
theorem closed13 : ((Rows.caretNilRow.maps == (Tryz.f3.params.toList ++ (OpenSpec.ofChange Rows.caretNilSpec).bare.plain.varTypes Tryz.prog).any (Tryz.prog.mapsRec ·))) = true := by kernel_rfl
theorem closed14 : ((Rows.caretNilRow.ifaces == (Tryz.f3.params.toList ++ (OpenSpec.ofChange Rows.caretNilSpec).bare.plain.varTypes Tryz.prog).any (Tryz.prog.ifacesRec ·))) = true := by kernel_rfl
theorem closed15 : ((Rows.caretNilRow.mapsOut == Tryz.prog.mapsAmong Tryz.f3.resultTypes.toList)) = true := by kernel_rfl
theorem closed16 : ((Rows.caretNilRow.loops == (Tryz.f3.params.toList ++ (OpenSpec.ofChange Rows.caretNilSpec).bare.plain.varTypes Tryz.prog).any (Tryz.prog.loopsFrom ·))) = true := by kernel_rfl
theorem closed17 : ((Rows.caretNilRow.wideKeys == (Tryz.f3.params.toList ++ (OpenSpec.ofChange Rows.caretNilSpec).bare.plain.varTypes Tryz.prog ++ Tryz.f3.resultTypes.toList).any (Tryz.prog.wideKeysFrom ·))) = true := by kernel_rfl
theorem closed18 : ((OpenSpec.ofChange Rows.caretNilSpec).bare.vars.all (Tryz.prog.varReadable ·)) = true := by kernel_rfl
theorem closed19 : (Tryz.f3.resultTypes.all (fun t => Tryz.prog.readableRec t && decide (t < Tryz.prog.types.size))) = true := by kernel_rfl
theorem closed20 : ((Rows.caretNilRow.ifacesOut == Tryz.f3.resultTypes.toList.any (Tryz.prog.ifacesRec ·))) = true := by kernel_rfl
theorem closed21 : ((Rows.caretNilRow.loopsOut == Tryz.f3.resultTypes.toList.any (Tryz.prog.loopsFrom ·))) = true := by kernel_rfl
theorem closed22 : ((Rows.caretNilRow.plainKeys == Tryz.prog.plainKeys)) = true := by kernel_rfl
theorem closed23 : (Rows.caretNilRow.shortTexts.isNone) = true := by kernel_rfl
theorem closed24 : (Tryz.prog.stopsHeard) = true := by kernel_rfl
theorem closed25 : (Tryz.prog.mayEnter) = true := by kernel_rfl
theorem closed26 : ((Rows.caretNilRow.lifted == Tryz.prog.liftsFinal)) = true := by kernel_rfl
theorem closed27 : ((Tryz.prog.make == some Rows.caretNilRow.make)) = true := by kernel_rfl
theorem closed28 : ((Rows.caretNilRow.kinds == (if Rows.caretNilRow.domain.isEmpty then [] else Tryz.f3.params.toList.map fun t => match Tryz.prog.underlying t with | some (.int k) => some k | _ => none))) = true := by kernel_rfl
theorem closed29 : ((Rows.caretNilRow.pinned == Rows.caretNilRow.pinnedBy)) = true := by kernel_rfl
theorem closed30 : ((Rows.caretNilRow.veiled == (Tryz.f3.params.toList ++ (OpenSpec.ofChange Rows.caretNilSpec).bare.plain.varTypes Tryz.prog ++ Tryz.f3.resultTypes.toList).any (Tryz.prog.veiledRec ·))) = true := by kernel_rfl
theorem closed31 : (Rows.caretNilRow.veiledFits Tryz.prog Tryz.f3.params.toList (Tryz.f3.params.toList ++ (OpenSpec.ofChange Rows.caretNilSpec).bare.plain.varTypes Tryz.prog ++ Tryz.f3.resultTypes.toList)) = true := by kernel_rfl
theorem closed : joinedFacts Tryz.prog 3 Tryz.f3 ((OpenSpec.ofChange Rows.caretNilSpec).bare) Rows.caretNilRow = true := by
  unfold joinedFacts
  simp only [Bool.and_eq_true]
  exact ⟨⟨⟨⟨⟨⟨⟨⟨⟨⟨⟨⟨⟨⟨⟨⟨⟨⟨⟨⟨⟨⟨⟨⟨⟨⟨⟨⟨⟨⟨⟨closed0, closed1⟩, closed2⟩, closed3⟩, closed4⟩, closed5⟩, closed6⟩, closed7⟩, closed8⟩, closed9⟩, closed10⟩, closed11⟩, closed12⟩, closed13⟩, closed14⟩, closed15⟩, closed16⟩, closed17⟩, closed18⟩, closed19⟩, closed20⟩, closed21⟩, closed22⟩, closed23⟩, closed24⟩, closed25⟩, closed26⟩, closed27⟩, closed28⟩, closed29⟩, closed30⟩, closed31⟩
theorem named : Tryz.prog.funcNamed "quire/quirelaw30.CaretNil" = some 3 := by kernel_rfl
theorem noInstance : Tryz.f3.isInstance Tryz.prog Rows.caretNilRow.origin Rows.caretNilRow.targs := of_decide_eq_true (by kernel_rfl)
theorem noWrapper : Tryz.f3.isWrapper Tryz.prog Rows.caretNilRow.wrapper Rows.caretNilRow.mainSum := by unfold Func.isWrapper; first | (rw [if_pos (by decide +kernel)]; kernel_rfl) | (rw [if_neg (by decide +kernel)]; exact ⟨rfl, rfl⟩)
theorem said : Rows.CaretNilSaid :=
  OpenClaim.holds_of_cond 3 Tryz.f3 rfl rfl rfl rfl rfl rfl rfl ⟨rfl, rfl, rfl, rfl, rfl⟩ rfl rfl rfl rfl rfl named Tryz.func3 closed
    noInstance noWrapper
    (fun os started H enc _ F => by rw [OpenClaim.pre_eq_preRow]; exact lifted os started H enc F)
theorem rowTie : Rows.caretNilRow.laidByTextAt .later Tryz.pinned [.pinned, .data, .data, .listed, .data, .data, .data] true :=
  OpenClaim.laidByTextAt_pinned rfl rfl tieAll rfl rfl rfl rfl (fun y hy _e => by
    simp only [Rows.caretNilRow, List.zip_cons_cons, List.zip_nil_right, List.mem_cons, List.mem_nil_iff, or_false] at hy
    rcases hy with rfl | rfl | rfl | rfl | rfl | rfl | rfl
    · exact ⟨pinFirst, by kernel_rfl⟩
    · cases _e
    · cases _e
    · cases _e
    · cases _e
    · cases _e
    · cases _e) fitsAll
theorem plain (f : FuncId) (fn : Func) (hf : Tryz.pinned.checked.prog.funcNamed "quire/quirelaw30.CaretNil" = some f) (hfn : Tryz.pinned.checked.prog.funcs[f]? = some fn) :
    true = Tryz.pinned.checked.prog.looks [] ∧ ∀ (j : Nat) t, fn.params[j]? = some t → Tryz.pinned.checked.prog.wantsStandIn t = false := by
  obtain rfl : f = 3 := Option.some.inj (named.symm.trans hf) |>.symm
  obtain rfl : fn = Tryz.f3 := (Option.some.inj (Tryz.func3.symm.trans hfn)).symm
  refine ⟨by kernel_rfl, fun j t ht => ?_⟩
  rw [Tryz.params3] at ht
  have h3 : t = 3 := by
    rcases j with _ | _ | j
    · simpa using ht.symm
    · simpa using ht.symm
    · simp at ht
  subst h3
  exact (show Tryz.prog.wantsStandIn 3 = false by kernel_rfl)
theorem wfText : Rows.caretNilRow.wfByText (OpenSpec.ofChange Rows.caretNilSpec) = true := by kernel_rfl
theorem mainIs : Tryz.prog.mainIs = some (Rows.caretNilCard.stood.harness.1, Rows.caretNilCard.stood.harness.2.toList) := by kernel_rfl
theorem goes : false = Rows.caretNilRow.goesBy Tryz.prog := by
  unfold OpenClaim.goesBy Program.goesAt Program.goesFrom
  cases Tryz.prog.funcNamed Rows.caretNilRow.func with
  | none => rfl
  | some f => rw [Option.any_some, goesNot f]; rfl
theorem card : Rows.CaretNilCardSaid :=
  Claim7.holds_tied_plain_at .later [] _ _ _ _ said (fun _ h => by cases h) wfText (fun _ h => by cases h) rowTie rfl ⟨rfl, rfl⟩ mainIs rfl plain goes
end Go.Proofs.YtmcfahepoocekaaGreatDoor.caretNil
