/-
  The seat's own facts: the program, the laid tables, their tie to the program's text. No condition.
-/
import Derived.Test.YtmcfahepoocekaaGreatDoorCards
import Derived.Test.YtmcfahepoocekaaGreatDoorK6
import Derived.LaidByTextLater
import Derived.SevenTiedAt
import Derived.ProofKit
import Derived.OpenShut
import Derived.Deep.DeepHandedRow
import Derived.Deep.DeepWitnessRowRef
namespace Go.Proofs.YtmcfahepoocekaaGreatDoor
open Go

-- places that are all different, by a mask
def nodupP : List MemPlace → Nat → Bool
  | [], _ => true
  | .cell b o :: l, m => Nat.blt o 4096 && (!AbsK.hasT m (b * 4096 + o) && nodupP l (AbsK.addT m (b * 4096 + o)))
  | .map _ :: _, _ => false
theorem nodupP_ok : ∀ (l : List MemPlace) (m : Nat), nodupP l m = true → l.Nodup ∧ ∀ b o, .cell b o ∈ l → o < 4096 ∧ AbsK.hasT m (b * 4096 + o) = false
  | [], _, _ => ⟨List.nodup_nil, fun b o h => by simp at h⟩
  | .map _ :: _, _, h => by simp [nodupP] at h
  | .cell b o :: l, m, h => by
    simp only [nodupP, Bool.and_eq_true, Bool.not_eq_true'] at h
    obtain ⟨h1, h2, h3⟩ := h
    obtain ⟨h4, h5⟩ := nodupP_ok l _ h3
    have ho : o < 4096 := Nat.le_of_ble_eq_true h1
    refine ⟨List.nodup_cons.2 ⟨fun hm => ?_, h4⟩, fun b' o' hm => ?_⟩
    · have := (h5 b o hm).2
      rw [(AbsK.hasT_add _ _ _).2 (.inl rfl)] at this
      cases this
    · rcases List.mem_cons.1 hm with hm | hm
      · cases hm
        exact ⟨ho, h2⟩
      · obtain ⟨a, c⟩ := h5 b' o' hm
        refine ⟨a, ?_⟩
        cases hc : AbsK.hasT m (b' * 4096 + o') with
        | false => rfl
        | true => rw [(AbsK.hasT_add _ _ _).2 (.inr hc)] at c; cases c
theorem mask_ok {P : Program} {w : World} {fuel : Nat} {names : List String} {l : List (String × DataW Unit)} (h : (DataW.laidRun P w fuel names).map (·.1) = some l)
    (hm : (DataW.laidRun P w fuel names).map (fun x => nodupP x.2 0 && laidRowsB P w x.2) = some true) : (DataW.laidRun P w fuel names).map (fun x => decide x.2.Nodup && laidRowsB P w x.2) = some true := by
  cases hx : DataW.laidRun P w fuel names with
  | none => rw [hx] at h; cases h
  | some x =>
    rw [hx] at hm
    simp only [Option.map_some, Option.some.injEq, Bool.and_eq_true] at hm ⊢
    exact ⟨decide_eq_true (nodupP_ok _ _ hm.1).1, hm.2⟩

-- the tie, fact by fact
abbrev tl : List (String × DataW Unit) := [("unicode/utf8.acceptRanges", Rows.laid_unicode_utf8_acceptRanges), ("strings.asciiSpace", Rows.laid_strings_asciiSpace), ("unicode.White_Space", Rows.laid_unicode_White_Space), ("internal/strconv.uint64pow10", Rows.laid_internal_strconv_uint64pow10), ("math/bits.deBruijn32tab", Rows.laid_math_bits_deBruijn32tab), ("math/bits.deBruijn64tab", Rows.laid_math_bits_deBruijn64tab)]
abbrev tk : List LaidKind := [.data, .data, .listed, .data, .data, .data]
set_option maxRecDepth 1000000
theorem tie1 : Tryz.prog.worded (varsWordLater true) = true := by kernel_rfl
theorem tie2 : Tryz.prog.worded (varsWordLater !true) = false := by kernel_rfl
theorem tie3 : Tryz.prog.worded rootWordLater = true := by kernel_rfl
theorem tie4 : tl.map (fun x => Tryz.prog.kindOfLater x.1) = tk.map some := by kernel_rfl
theorem tie5 : (Tryz.prog.funcNamed "gosem.cut.vars").isSome = true := by kernel_rfl
theorem tie6 : varsNamedLaterB Tryz.prog (varsId Tryz.prog) tl = true := by kernel_rfl
theorem tie7 (os : Os) (tape : Tape) : varsDone Tryz.prog 400 (varsId Tryz.prog) os tape = true := by kernel_rfl
theorem tie8 (os : Os) (tape : Tape) : (DataW.laidRun Tryz.prog (varsWorld Tryz.prog 400 (varsId Tryz.prog) os tape).memory 8 (tl.map (·.1))).map (·.1) = some tl := by kernel_rfl
theorem tie9 (os : Os) (tape : Tape) : (DataW.laidRun Tryz.prog (varsWorld Tryz.prog 400 (varsId Tryz.prog) os tape).memory 8 (tl.map (·.1))).map (fun x => nodupP x.2 0 && laidRowsB Tryz.prog (varsWorld Tryz.prog 400 (varsId Tryz.prog) os tape).memory x.2) = some true := by kernel_rfl
theorem tieAll : Tryz.prog.laidByTextLater tl tk true :=
  Program.laidByTextLater_by_run 400 8 tie1 tie2 tie3 tie4 tie5 tie6 tie7 tie8 fun os tape => mask_ok (tie8 os tape) (tie9 os tape)
theorem pinFirst : Tryz.pinned.checked.prog.pinnedFits "unicode/utf8.first" = true := by kernel_rfl
theorem noOwn : Tryz.pinned.checked.prog.headLifts.contains "ownunsafe" = false := by kernel_rfl
theorem fitsAll : Tryz.pinned.checked.prog.listedFits [("unicode/utf8.first", Rows.laid_unicode_utf8_first), ("unicode/utf8.acceptRanges", Rows.laid_unicode_utf8_acceptRanges), ("strings.asciiSpace", Rows.laid_strings_asciiSpace), ("unicode.White_Space", Rows.laid_unicode_White_Space), ("internal/strconv.uint64pow10", Rows.laid_internal_strconv_uint64pow10), ("math/bits.deBruijn32tab", Rows.laid_math_bits_deBruijn32tab), ("math/bits.deBruijn64tab", Rows.laid_math_bits_deBruijn64tab)] = true := by
  unfold Program.listedFits
  rw [noOwn]
  kernel_rfl

end Go.Proofs.YtmcfahepoocekaaGreatDoor
