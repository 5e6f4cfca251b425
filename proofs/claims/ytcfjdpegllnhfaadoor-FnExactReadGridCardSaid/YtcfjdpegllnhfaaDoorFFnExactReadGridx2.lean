import Derived.Test.YtcfjdpegllnhfaaDoorRGL
import Derived.Test.YtcfjdpegllnhfaaDoorWrap
namespace Go.Proofs.YtcfjdpegllnhfaaDoor.FFnExactReadGrid
open Go Go.RowKit Go.Proofs.YtcfjdpegllnhfaaDoor Go.Proofs.YtcfjdpegllnhfaaDoor.UX
set_option linter.unusedVariables false
/-- What the law wants of the world. -/
structure WG (w : World) : Prop where
  wf : WF w
  tz : TZ w
theorem gDB : Tryd.prog.globalNamed "math/bits.deBruijn64tab" = some 8 := by kernel_rfl
def dbTab : List Int := [0, 1, 56, 2, 57, 49, 28, 3, 61, 58, 42, 50, 38, 29, 17, 4, 62, 47, 59, 36, 45, 43, 51, 22, 53, 39, 33, 30, 24, 18, 12, 5, 63, 55, 48, 27, 60, 41, 37, 16, 46, 35, 44, 21, 52, 32, 23, 11, 54, 26, 40, 15, 34, 20, 31, 10, 25, 14, 19, 9, 13, 8, 7, 6]
theorem wg_of {W : World} (h : laidMetH Tryd.prog L7 W) (hs : W.ShapedOpen Tryd.prog) : WG W := by
  have hw := wf_of h hs
  rw [MakeChecks.laidMetH_plain _ _ _ (by kernel_rfl)] at h
  have h3 : laidMet Tryd.prog [("math/bits.deBruijn64tab", Lib.tabData .u8 dbTab)] W := h.filter (fun x => x.1 == "math/bits.deBruijn64tab")
  have t3 : Lib.TabIs Tryd.prog W "math/bits.deBruijn64tab" .u8 dbTab := Lib.tabIs_of_head (t := 155) (e := 5) (n := 64) gDB (by kernel_rfl) (by kernel_rfl) (by kernel_rfl) (by kernel_rfl) (by kernel_rfl) h3
  exact ⟨hw, t3.cell gDB 15 (by decide)⟩
def laws_FnExactReadGrid.f (a0 : ByteArray) : Option (Bool) := some true
theorem laws_FnExactReadGrid.calls (a0 : ByteArray) (r : Bool) (w : World) (htab : WG w) (h : laws_FnExactReadGrid.f a0 = some r) :
    Calls Tryd.prog 9 #[.string a0] w fun e w' => e = .returned (.bool r) ∧ Below w.heap.size w w' := by
  obtain rfl := Option.some.inj h
  exact RGL.law a0 w htab.wf htab.tz
end Go.Proofs.YtcfjdpegllnhfaaDoor.FFnExactReadGrid
