/-
  JournalNames returns true, from whatever world: the kernel runs a small machine that was shown to go as the model goes (Ea to Es).
-/
import Derived.Test.YtnkjhicokcmmpaaEs
import Derived.Test.YtnkjhicokcmmpaaOpen
import Derived.Test.YtnkjhicokcmmpaaHa
namespace Go.Proofs.Ytnkjhicokcmmpaa.RJournalNames
open Go.ChangeShapes Go.WideShapes Go.ChangeAt Go.RowKit

theorem tab : (Try.prog.funcs.toList.all fun fn => !(fn.name == "runtime.NumGoroutine")) = true := by kernel_rfl
theorem mix : Try.prog.follows .mixedOrders = true := Try.checked.mixed
theorem run : Ev.truth Ev.hkR Try.prog (Ev.tabOf Try.prog) 9 17900 = true := by kernel_rfl
theorem walk (w : World) : Calls Try.prog 9 #[] w (fun e w' => e = .returned (.bool true) ∧ Fr No w w') := Ev.calls_of_truth (Ev.tab_ok tab) Ev.hkR_ok mix run w

theorem own : ownKnob Try.prog.godebug = none := by kernel_rfl

set_option maxHeartbeats 800000 in
theorem lifted (os : Os) (started : os.Started) (H : Type) (enc : TypeId × Value → H) :
    ReturnsInHanded {} Try.checked os 9 .any (Rows.journalNamesSpec.pre6 enc Try.prog Try.f9 Rows.journalNamesRow.domain false) (Rows.journalNamesSpec.post enc Try.prog Try.f9 false true false false) := by
  refine returnsInHanded_of_change (C := Try.checked) own started (by kernel_rfl) Try.func9
    (ChangeSpec.witness6 (enc := enc) (C := Try.checked) false ⟨#[], #[], []⟩ 8 (by kernel_rfl) (by kernel_rfl) (by kernel_rfl) (by kernel_rfl)) ?_
  intro W base args ds gs before hval0 hW _ _
  have hW' := hW
  obtain ⟨p, q, hA0, hV, rfl, _, _⟩ := hW
  have hA : DataW.TrodAll enc Try.prog W 0 (fun _ => true) true Try.f9.params.toList args.toList ds p := hA0
  obtain ⟨rfl, rfl⟩ := trodVars_none hV
  rw [Try.params9] at hA
  obtain ⟨en, rfl, rfl⟩ := trodAll_nil hA
  obtain rfl : args = #[] := Array.toList_inj.1 en
  simp only [List.append_nil] at hW'
  refine (walk W).mono fun e W' ⟨he, hf⟩ => ?_
  subst he
  have hbel : Below W.heap.size W W' := hf.below
  have hA2 : DataW.TrodAll enc Try.prog W' 0 (fun _ => true) true Try.f9.params.toList (#[] : Array Value).toList [] [] := by
    rw [Try.params9]; exact hA
  refine ⟨_, rfl, _, _, _, [], _, [], hW', ?_, hA2, rfl, hbel.frame _, fun h => by cases h⟩
  exact trodAll_mk1 (shut_bool Try.underlying4 _)

theorem said : Rows.JournalNamesSaid :=
  OpenClaim.holds_of_wide 9 Try.f9 rfl rfl rfl rfl rfl rfl rfl ⟨rfl, rfl, rfl, rfl, rfl⟩ rfl rfl rfl rfl rfl (by kernel_rfl) Try.func9 (by kernel_rfl)
    (of_decide_eq_true (by kernel_rfl)) (by unfold Func.isWrapper; first | (rw [if_pos (by decide +kernel)]; kernel_rfl) | (rw [if_neg (by decide +kernel)]; exact ⟨rfl, rfl⟩))
    (fun os started H enc _ => lifted os started H enc)

end Go.Proofs.Ytnkjhicokcmmpaa.RJournalNames
