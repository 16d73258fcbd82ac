/- What a row's condition on the two listed tables gives the walks; and that the program's own start meets it. -/
import Derived.Test.YtlldbgekbndohaaDoorCountA
import Derived.Test.YtlldbgekbndohaaDoorOpen
import Derived.Test.YtlldbgekbndohaaDoorRows
import Derived.Lib.LaidU8
import Derived.LaidMore
import Derived.LaidHandle
import Derived.MakeChecks
namespace Go.Proofs.YtlldbgekbndohaaDoor
open Go.ChangeShapes Go.WideShapes Go.ChangeAt Go.RowKit
/-- The two tables as the rows list them. -/
def laidTabs : List (String × DataW Unit) := Rows.fnExactManyWordsRow.laid
theorem spTab_of_laid {W : World} (h : laidMetH Tryd.prog laidTabs W) : SpTab W := by
  rw [MakeChecks.laidMetH_plain _ _ _ (by kernel_rfl)] at h
  obtain ⟨g, t, cs, fuel, p, hg, ht, hv, hd⟩ := Lib.laidMet.reads h (n := "strings.asciiSpace") (d := Lib.tabData .u8 Lib.asciiSpaceTab) (by
    have e : laidTabs = [("unicode.White_Space", Rows.laid_unicode_White_Space), ("strings.asciiSpace", Lib.tabData .u8 Lib.asciiSpaceTab)] := by kernel_rfl
    rw [e]; simp)
  have hg' : Tryd.prog.globalNamed "strings.asciiSpace" = some (Tryd.lays157_ren.g 0) := by kernel_rfl
  obtain rfl := Option.some.inj (hg'.symm.trans hg)
  have ht' : (Tryd.prog.globals[Tryd.lays157_ren.g 0]?).map (·.type) = some (Tryd.lays157_ren.t 119) := by kernel_rfl
  obtain rfl := Option.some.inj (ht'.symm.trans ht)
  have hcs := Lib.cells_of_tab (n := 256) (k := .u8) (e := Tryd.lays157_ren.t 5) (Tryd.lays157.t119) (Tryd.lays157.t5) (by kernel_rfl) (by kernel_rfl) hd
  intro c hc
  have h1 := World.var?_cell hg hv c
  rw [h1, ← Array.getElem?_toList, hcs]
  rw [List.getElem?_map]
  have h2 : Lib.asciiSpaceTab[c]? = some (if Lib.isSp (UInt8.ofNat c) then 1 else 0) := by simp [Lib.asciiSpaceTab, hc]
  rw [h2]; rfl
/-- The program's own start meets the condition. -/
theorem door_met (os : Os) (args : Array Value) : laidMetH Tryd.prog laidTabs ((World.doorLaid Tryd.prog 400 os).forCall (fun _ _ => 0) ⟨#[], args, []⟩).memory :=
  laidMetH_of_parts3 (fuel := 8) (laidMet_of_run' 8 (by kernel_rfl) (by kernel_rfl)) (by kernel_rfl) (by kernel_rfl)
end Go.Proofs.YtlldbgekbndohaaDoor
