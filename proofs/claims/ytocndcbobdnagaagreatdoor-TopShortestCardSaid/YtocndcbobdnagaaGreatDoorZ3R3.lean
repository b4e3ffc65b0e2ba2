/-
  TopShortest: the statement's row, and the tied card.
-/
import Derived.Test.YtocndcbobdnagaaGreatDoorRows
import Derived.Test.YtocndcbobdnagaaGreatDoorTie
import Derived.Test.YtocndcbobdnagaaGreatDoorCards
import Derived.Test.YtocndcbobdnagaaGreatDoorZ3R2
import Derived.Test.YtocndcbobdnagaaGreatDoorZ3Mp3
import Derived.Test.YtocndcbobdnagaaGreatDoorZ3J1
import Derived.Lay
import Derived.MakeChecks
import Derived.Lib.LaidTab
import Derived.SevenTiedAt
set_option linter.all false
namespace Go.Proofs.YtocndcbobdnagaaGreatDoor
open Go.K Go.M Go.RowKit Go.ChangeShapes Go.WideShapes Go.ChangeAt
theorem Tryz.own : ownKnob Tryz.prog.godebug = none := by kernel_rfl
theorem Tryz.laidOut : laidOutB Tryz.prog = true := by kernel_rfl
theorem pow_laid : (Rows.laid_internal_strconv_uint64pow10 : DataW Unit) = Lib.tabData .u64 Lib.pow10Tab := rfl
theorem pow_cells : joo = (Lib.pow10Tab.map fun z => Value.int .u64 z).toArray := rfl
theorem tbo_of_laid {W : World} (h : laidMetH Tryz.prog Rows.topShortestRow.laid W) : Tbo W (fun _ => none) := by
 rw [MakeChecks.laidMetH_plain _ _ _ (by kernel_rfl)] at h
 obtain ⟨ps, ⟨_, _, _, _, _, _, _, _, _, _, ⟨_, _, _, _, _, _, _, _, _, _, ⟨g, t, cs, fuel, p, q, hg, hty, hvar, hd, _, _⟩, _⟩, _⟩, _⟩ := h
 have eg : Tryz.prog.globalNamed "internal/strconv.uint64pow10" = some 0 := by kernel_rfl
 have et : (Tryz.prog.globals[0]?).map (·.type) = some 347 := by kernel_rfl
 obtain rfl := Option.some.inj (eg.symm.trans hg)
 obtain rfl := Option.some.inj (et.symm.trans hty)
 rw [pow_laid] at hd
 have hc := Lib.cells_of_tab (e := 293) (n := 20) (by kernel_rfl) (by kernel_rfl) (by kernel_rfl) (by kernel_rfl) hd
 have hcs : cs = joo := by rw [pow_cells, ← hc]
 subst hcs
 unfold World.var? at hvar
 rw [eg, Option.bind_some] at hvar
 intro g c hgc
 cases g with
 | zero =>
   obtain rfl : joo = c := Option.some.inj hgc
   refine ⟨?_, fun _ _ h => by cases h⟩
   split at hvar
   · rename_i cs e f hh
     obtain rfl := Option.some.inj hvar
     exact ⟨_, _, hh⟩
   · cases hvar
 | succ g => exact absurd (show (none : Option (Array Value)) = some c from hgc) (by intro h; cases h)
set_option maxRecDepth 100000 in
theorem shortest_lifted (os : Os) (started : os.Started) (H : Type) (enc : TypeId × Value → H) :
   ReturnsInHanded {} Tryz.checked os 3 .any (fun w args => (Rows.topShortestSpec.pre enc Tryz.prog Tryz.f3 Rows.topShortestRow.domain false w args ∧ laidMetH Tryz.prog Rows.topShortestRow.laid w) ∧ sizedMet enc Tryz.prog Tryz.f3 (OpenSpec.ofChange Rows.topShortestSpec) false w args) (Rows.topShortestSpec.post enc Tryz.prog Tryz.f3 false true false false) := by
 refine returnsInHanded_of_change_and (C := Tryz.checked) (X := fun w _ => laidMetH Tryz.prog Rows.topShortestRow.laid w) (fun _ _ _ hh h => h.of_heap hh) Tryz.own started (by kernel_rfl) Tryz.func3
   (ChangeSpec.witness_shaped (enc := enc) (C := Tryz.checked) (os := os) (X := fun w _ => laidMetH Tryz.prog Rows.topShortestRow.laid w) false (World.laidAll Tryz.prog os Rows.topShortestRow.laid) #[.agg #[.int .i64 0, .slice none 0 0, .int .i64 0, .int .i64 0]] 8 (World.laidAll_os _ _ _)
     (World.shaped_of_ZipB (by kernel_rfl) (by kernel_rfl)) (by kernel_rfl) (by kernel_rfl) (by kernel_rfl)
     (by rw [MakeChecks.laidMetH_plain _ _ _ (by kernel_rfl)]; exact laidMet_laidAll _ (by kernel_rfl) (by kernel_rfl))) ?_
 intro W base args ds gs before hval0 hW _ _ hL _
 have hval : ∀ (j : Nat) t v, Tryz.f3.params[j]? = some t → args[j]? = some v → Value.okWide Tryz.prog W .any base t v := hval0
 have hW' := hW
 obtain ⟨p, q, hA0, hV, rfl, hfz, hnd⟩ := hW
 have hA : DataW.TrodAll enc Tryz.prog W 0 (fun _ => true) true Tryz.f3.params.toList args.toList ds p := hA0
 obtain ⟨rfl, rfl⟩ := trodVars_none hV
 simp only [List.append_nil] at hW'
 have hlen : ds.length = 1 := jam hA
 rcases ds with _ | ⟨d0, _ | ⟨d, ds⟩⟩ <;> first | (simp at hlen; done) | skip
 exact jkx fits (tbo_of_laid hL) q2u (by kernel_rfl) (fun a _ => jy1 a.1) Tryz.laidOut (by kernel_rfl) rfl hW' hA hval rfl rfl rfl rfl Tryz.underlying4
theorem shortest_holds : Rows.TopShortestSaid :=
 OpenClaim.holds_of_wide 3 Tryz.f3 rfl rfl rfl rfl rfl rfl rfl ⟨rfl, rfl, rfl, rfl, rfl⟩ rfl rfl rfl rfl rfl cardName Tryz.func3 cardJoin
   (of_decide_eq_true (by kernel_rfl)) (by unfold Func.isWrapper; first | (rw [if_pos (by decide +kernel)]; kernel_rfl) | (rw [if_neg (by decide +kernel)]; exact ⟨rfl, rfl⟩))
   (fun os started H enc _ => shortest_lifted os started H enc)
theorem shortest_card : Rows.TopShortestCardSaid :=
 Claim7.holds_tied_plain_at .later [] [.data, .data, .data] true (true, "567d73b15fcdfc99963fede18d9ac99567ef68922a4f06f6025a33017c863157") true
   shortest_holds (fun _ h => by cases h) cardWf (fun _ h => by cases h) topShortest_row_tie rfl ⟨rfl, rfl⟩ cardMain rfl
   (fun f fn hf hfn => by
     obtain rfl : f = 3 := Option.some.inj (cardName.symm.trans hf) |>.symm
     obtain rfl : fn = Tryz.f3 := (Option.some.inj (Tryz.func3.symm.trans hfn)).symm
     exact ⟨cardLooks, fun j t ht => by
       have hm : t ∈ Tryz.f3.params.toList := by
         rw [Array.mem_toList_iff]
         exact Array.mem_of_getElem? ht
       show Tryz.prog.wantsStandIn t = false
       simpa using List.all_eq_true.1 cardIn t hm⟩)
   cardGoes
end Go.Proofs.YtocndcbobdnagaaGreatDoor
