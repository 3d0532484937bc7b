/- ceilinglaw09.ResolveKnown returns true and leaves memory as it was, wherever strings.asciiSpace and unicode.White_Space hold what the program's text lays in them: the tied card. -/
import Derived.Test.YtlickidejlaebaaGreatDoorRows
import Derived.Test.YtlickidejlaebaaGreatDoorCards
import Derived.Test.YtlickidejlaebaaGreatDoorTie
import Derived.ProofKit
import Derived.LaidMore
import Derived.OpenShut
import Derived.Stop.Joined
import Derived.Stop.LaidErr
import Derived.Lib.LaidTab
import Derived.SevenTiedAt
import Derived.Test.YtlickidejlaebaaGreatDoorEvD
import Derived.Test.YtlickidejlaebaaGreatDoorData
import Derived.Test.YtlickidejlaebaaGreatDoorRunA
import Derived.Test.YtlickidejlaebaaGreatDoorRunB
import Derived.Test.YtlickidejlaebaaGreatDoorRunC
import Derived.Test.YtlickidejlaebaaGreatDoorRunD
import Derived.Test.YtlickidejlaebaaGreatDoorRunE
import Derived.Test.YtlickidejlaebaaGreatDoorFacts
namespace Go.Proofs.YtlickidejlaebaaGreatDoor
set_option maxHeartbeats 8000000
open Go Go.Ev Go.ChangeShapes Go.WideShapes Go.ChangeAt Go.RowKit
set_option maxRecDepth 100000
theorem own : ownKnob Tryz.prog.godebug = none := by kernel_rfl
theorem gSpace : Tryz.prog.globalNamed "strings.asciiSpace" = some 0 := by kernel_rfl
theorem tySpace : (Tryz.prog.globals[0]?).map (·.type) = some 361 := by kernel_rfl
theorem u361 : Tryz.prog.underlying 361 = some (.array 256 5) := by kernel_rfl
theorem u5 : Tryz.prog.underlying 5 = some (.int .u8) := by kernel_rfl
theorem c5 : Tryz.prog.cellsOf 5 = 1 := by kernel_rfl
theorem c361 : Tryz.prog.cellsOf 361 = 256 := by kernel_rfl
theorem b4 : Tryz.prog.underlying 4 = some .bool := Tryz.underlying4
/-- the table of the ASCII spaces -/
def spaces : List Int := (List.range 256).map fun i => if (9 ≤ i ∧ i ≤ 13) ∨ i = 32 then 1 else 0
theorem spaces_laid : (Rows.laid_strings_asciiSpace : DataW Unit) = Lib.tabData .u8 spaces := by kernel_rfl
/-- what the program must be like -/
theorem progOK : ProgOK Tryz.prog gs.length where
  ng := by
    have h : (Tryz.prog.funcs.toList.all fun fn => fn.body.isNone || !(fn.name == "runtime.NumGoroutine")) = true := by kernel_rfl
    intro f fn hf hb
    rw [← Array.getElem?_toList] at hf
    have := List.all_eq_true.1 h fn (List.mem_of_getElem? hf)
    rw [hb, Bool.false_or] at this
    simpa using this
  mixed := by kernel_rfl
/-- what the condition gives: the table's block -/
theorem of_laid {W : World} (h : laidMetH Tryz.prog [("unicode.White_Space", Rows.laid_unicode_White_Space), ("strings.asciiSpace", Rows.laid_strings_asciiSpace)] W) :
    ∃ t, W.heap[0]? = some (.cells (spaces.map fun z => Value.int .u8 z).toArray t (0, 0)) := by
  have h1 : laidMet Tryz.prog [("unicode.White_Space", Rows.laid_unicode_White_Space), ("strings.asciiSpace", Rows.laid_strings_asciiSpace)] W := h
  have h2 := h1.tail
  rw [spaces_laid] at h2
  have h3 : Lib.TabIs Tryz.prog W "strings.asciiSpace" .u8 spaces := Lib.tabIs_of_head gSpace tySpace u361 u5 c5 c361 h2
  obtain ⟨ps, ⟨g, t, cs, fuel, p, q, e1, e2, e3, e4, e5, rfl⟩, _, h4⟩ := h2
  have hcs : cs = (spaces.map fun z => Value.int .u8 z).toArray := Option.some.inj (e3.symm.trans h3)
  obtain rfl := Option.some.inj (gSpace.symm.trans e1)
  have hm : MemPlace.cell 0 0 ∈ MemPlace.row ⟨0, 0, none⟩ cs.size ++ p ++ q := by
    refine List.mem_append_left _ (List.mem_append_left _ ?_)
    unfold MemPlace.row
    rw [List.mem_map]
    refine ⟨0, ?_, rfl⟩
    rw [List.mem_range, hcs]
    simp [spaces]
  obtain ⟨⟨c, ty, hc⟩, _⟩ := h4 0 0 hm
  have h5 : W.var? Tryz.prog "strings.asciiSpace" = some c := by
    unfold World.var?
    rw [gSpace, Option.bind_some, hc]
  have : c = (spaces.map fun z => Value.int .u8 z).toArray := Option.some.inj (h5.symm.trans h3)
  exact ⟨ty, by rw [hc, this]⟩
theorem rows_eq : ((List.range 256).all fun i => avEqs (htGet [vNat 12 0] HD sp i) [vInt 12 (biasI (spaces.getD i 0))]) = true := by decide +kernel
theorem spaces_len : spaces.length = 256 := by simp [spaces]
theorem spaces_nn : ∀ z ∈ spaces, -9223372036854775808 ≤ z := by
  intro z hz
  unfold spaces at hz
  rw [List.mem_map] at hz
  obtain ⟨i, _, rfl⟩ := hz
  split <;> decide
/-- the evaluator's table is the program's -/
theorem globals_are {W : World} {t : TypeId} (h : W.heap[0]? = some (.cells (spaces.map fun z => Value.int .u8 z).toArray t (0, 0))) : GlobalsAre gs (fun _ => ⟨0, 0, 256, 1⟩) W := by
  intro g A hA
  have hg : g = 0 := by
    cases g with
    | zero => rfl
    | succ g => simp [gs] at hA
  subst hg
  have : bArr 1 256 [vNat 12 0] sp = A := by simpa [gs] using hA
  subst this
  refine ⟨rfl, rfl, _, h, .arr rfl ⟨⟨_, _, _, rfl, rfl, Nat.one_pos, ?_, ?_, ⟨fun p _ hp => by omega, ?_⟩, ?_⟩, by decide⟩⟩
  · simp [spaces_len]
  · show 0 + 256 * 1 ≤ _
    simp [spaces_len]
  · intro x hx
    simp at hx
    obtain ⟨z, _, rfl⟩ := hx
    rfl
  · intro i hi
    have hi : i < 256 := hi
    have h1 := avEqs_eq _ _ (List.all_eq_true.1 rows_eq i (List.mem_range.2 hi))
    have hl' : i < spaces.length := by rw [spaces_len]; exact hi
    have hgd : spaces.getD i 0 = spaces[i] := by simp [List.getD, hl']
    have h2 : (((spaces.map fun z => Value.int .u8 z).toArray.toList.drop (0 + i * 1)).take 1) = [Value.int .u8 (spaces.getD i 0)] := by
      rw [Nat.zero_add, Nat.mul_one, List.toList_toArray, ← List.map_drop, ← List.map_take, hgd, List.drop_eq_getElem_cons hl']
      rfl
    show VRs _ (htGet [vNat 12 0] HD sp i) (((spaces.map fun z => Value.int .u8 z).toArray.toList.drop (0 + i * 1)).take 1)
    rw [h1]
    rw [h2]
    refine .single (.int .u8 _ (spaces_nn _ ?_))
    rw [hgd]
    exact List.getElem_mem _
theorem gs_flat : gs.all flatB = true := by decide +kernel
theorem gs_len : gs.length ≤ 65535 := by decide
/-- the door's own heap meets the condition -/
theorem door_met (os : Os) (args : Array Value) : laidMetH Tryz.prog [("unicode.White_Space", Rows.laid_unicode_White_Space), ("strings.asciiSpace", Rows.laid_strings_asciiSpace)] ((World.doorLaid Tryz.prog 400 os).forCall (fun _ _ => 0) ⟨#[], args, []⟩).memory :=
  show laidMet Tryz.prog _ _ from laidMet_of_run' 33 (by kernel_rfl) (by kernel_rfl)
theorem kept {w w' : World} (hl : Like w w') (hs : ∀ c, c < w.heap.size → w'.heap[c]? = w.heap[c]?) : w.keptBut w' (fun _ => False) := by
  refine ⟨hl.os, hl.output, fun i hi => ?_⟩
  rw [hs i hi]
  cases h : w.heap[i]? with
  | none => rfl
  | some o =>
    cases o with
    | cells c t fr => exact ⟨rfl, rfl, rfl, fun _ _ => rfl⟩
    | map es clk => exact .inr ⟨rfl, rfl⟩
    | _ => rfl
/-- the law of a function without arguments that returns true whatever the world -/
theorem lifted_of {run : ∀ W : World, (∃ t, W.heap[0]? = some (.cells (spaces.map fun z => Value.int .u8 z).toArray t (0, 0))) → Calls Tryz.prog 6 #[] W fun e w' => e = .returned (.bool true) ∧ Like W w' ∧ ∀ c, c < W.heap.size → w'.heap[c]? = W.heap[c]?} (os : Os) (started : os.Started) (H : Type) (enc : TypeId × Value → H) :
    ReturnsInHanded {} Tryz.checked os 6 .any (fun w args => (Rows.resolveKnownSpec.pre enc Tryz.prog Tryz.f6 [] false w args ∧ laidMetH Tryz.prog [("unicode.White_Space", Rows.laid_unicode_White_Space), ("strings.asciiSpace", Rows.laid_strings_asciiSpace)] w) ∧ sizedMet enc Tryz.prog Tryz.f6 (OpenSpec.ofChange Rows.resolveKnownSpec) false w args)
      (Rows.resolveKnownSpec.post enc Tryz.prog Tryz.f6 false true false false) := by
  refine returnsInHanded_of_change_and (C := Tryz.checked) (X := fun w _ => laidMetH Tryz.prog [("unicode.White_Space", Rows.laid_unicode_White_Space), ("strings.asciiSpace", Rows.laid_strings_asciiSpace)] w) (fun _ _ _ hh h => h.of_heap hh) own started (by kernel_rfl) Tryz.func6
    (ChangeSpec.witness_shaped (enc := enc) (C := Tryz.checked) (os := os) (X := fun w _ => laidMetH Tryz.prog [("unicode.White_Space", Rows.laid_unicode_White_Space), ("strings.asciiSpace", Rows.laid_strings_asciiSpace)] w) false (World.doorLaid Tryz.prog 400 os) #[] 8 rfl (World.shaped_of_RefB (by kernel_rfl) (by kernel_rfl)) (by kernel_rfl) (by kernel_rfl) (by kernel_rfl) (door_met os _)) ?_
  intro W base args ds gs' before hval0 hW _ _ hL _
  have hW' := hW
  obtain ⟨p, q, hA0, hV, rfl, hfz, hnd⟩ := hW
  have hA : DataW.TrodAll enc Tryz.prog W 0 (fun _ => true) true Tryz.f6.params.toList args.toList ds p := hA0
  rw [Tryz.params6] at hA
  obtain ⟨rfl, rfl, rfl⟩ := trodAll_none hA
  obtain ⟨rfl, rfl⟩ := trodVars_none hV
  refine (run W (of_laid hL)).mono fun e W' ⟨he, hw, hs⟩ => ?_
  subst he
  refine ⟨_, rfl, [], [], [], [], [], [], hW', ?_, ?_, ?_, World.keptBut_mono (fun _ h => h.elim) (kept hw hs), fun h => by cases h⟩
  · exact trodAll_mk1 (shut_bool Tryz.underlying4 true)
  · rfl
  · rfl
theorem orc1 : OrcOK Tryz.prog gs [keysO] := OrcOK.nil.add progOK gs_flat gs_len rfl (by decide +kernel) (doneB_done keys_run)
theorem orc2 : OrcOK Tryz.prog gs os2 := orc1.add progOK gs_flat gs_len rfl rfl (doneB_done works_run)
/-- ResolveKnown returns true in whatever world in which the table of spaces lies as it is laid -/
theorem known_run (W : World) (h : ∃ t, W.heap[0]? = some (.cells (spaces.map fun z => Value.int .u8 z).toArray t (0, 0))) :
    Calls Tryz.prog 6 #[] W fun e w' => e = .returned (.bool true) ∧ Like W w' ∧ ∀ c, c < W.heap.size → w'.heap[c]? = W.heap[c]? := by
  obtain ⟨t, h⟩ := h
  have h3 : PartOK Tryz.prog mk2 gs os2 100000000 6 kTrue 10 S10 := part_last orc2 progOK gs_len (doneB_done last_run)
  have h2 : PartOK Tryz.prog mk2 gs os2 100000000 6 kTrue 5 S5 := part_mid orc2 progOK gs_len (fun fn c _ => dropC_dropC 5 5 c) h3 (doneB_done mid_run)
  exact part_first orc2 progOK gs_len gs_flat h2 (doneB_done first_run) (globals_are h)
theorem resolveKnown_said : Rows.ResolveKnownSaid :=
  OpenClaim.holds_of_wide 6 Tryz.f6 rfl rfl rfl rfl rfl rfl rfl ⟨rfl, rfl, rfl, rfl, rfl⟩ rfl rfl rfl rfl rfl fact_named Tryz.func6 fact_joined fact_inst fact_wrap
    (fun os started H enc _ => lifted_of (run := known_run) os started H enc)
/-- the tied card of ResolveKnown -/
theorem resolveKnown_card : Rows.ResolveKnownCardSaid :=
  Claim7.holds_tied_plain_at .later [] [.listed, .data] true (true, "c2a427d251b6668cafa463053c31af86161a9ae69e745cbb7749820840dc7317") false
    resolveKnown_said (fun _ h => by cases h) (by as_aux_lemma => kernel_rfl) (fun _ h => by cases h) resolveKnown_row_tie rfl ⟨rfl, rfl⟩ (by as_aux_lemma => kernel_rfl) rfl
    (fun f fn hf hfn => by
      obtain rfl : f = 6 := Option.some.inj (fact_named.symm.trans hf) |>.symm
      obtain rfl : fn = Tryz.f6 := (Option.some.inj (Tryz.func6.symm.trans hfn)).symm
      exact ⟨by as_aux_lemma => kernel_rfl, fun j t ht => by
        rw [Tryz.params6] at ht
        simp at ht⟩)
    (by as_aux_lemma => kernel_rfl)
end Go.Proofs.YtlickidejlaebaaGreatDoor
