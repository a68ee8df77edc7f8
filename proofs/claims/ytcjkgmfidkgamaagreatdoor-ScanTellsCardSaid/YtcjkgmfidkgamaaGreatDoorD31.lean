/-
  Texts of the proof, put together (what this law reaches): ScAL.
-/
import Derived.Test.YtcjkgmfidkgamaaGreatDoorD28
import Derived.Test.YtcjkgmfidkgamaaGreatDoorD29
import Derived.Test.YtcjkgmfidkgamaaGreatDoorD30
import Derived.Deep.DeepCutAuto
import Derived.WalkMore
set_option linter.unusedVariables false
set_option linter.unusedSimpArgs false
namespace Go.Proofs.YtcjkgmfidkgamaaGreatDoor
open Go.RowKit Go.Pub
/-- The piece at a byte. -/
theorem s_piece (s : ByteArray) (i b1 b2 : Nat) (m : Int) (S : Nat → Prop) (w : World) (hs : s.size ≤ 1000000) (hi : i < s.size) (hW : RdrW w S s b1 b2) (hS : ∀ g, S g → g < w.heap.size) (hm : w.cell? ⟨0, 0, none⟩ = some (.int .i64 m)) :
    Calls Tryz.prog 45 #[rdrV s b1 b2, .int .i64 i] w (PcPost (noBg (pieceA s i).1) (pieceA s i).2 w) := by
  by_cases h1 : bt s i = 92
  · exact pc_esc s i b1 b2 m S w hs hi h1 hW hS hm
  by_cases h2 : bt s i = 38
  · exact pc_amp s i b1 b2 m S w hs hi h2 hW hS hm
  by_cases h3 : bt s i = 60
  · exact pc_lt s i b1 b2 m S w hs hi h3 hW hS hm
  by_cases h4 : bt s i = 123
  · exact pc_brace s i b1 b2 m S w hs hi h4 hW hS hm
  by_cases h5 : bt s i = 36
  · exact pc_dol s i b1 b2 m S w hs hi h5 hW hS hm
  by_cases h6 : bt s i = 96
  · exact pc_tick s i b1 b2 m S w hs hi h6 hW hS hm
  by_cases h7 : bt s i = 91
  · exact pc_brk s i b1 b2 m S w hs hi h7 hW hS hm
  by_cases h8 : bt s i = 32 ∨ bt s i = 10
  · exact pc_sp s i b1 b2 m S w hs hi h8 hW hS hm
  by_cases h9 : bt s i = 33
  · exact pc_excl s i b1 b2 m S w hs hi h9 hW hS hm
  by_cases h10 : bt s i = 93
  · exact pc_close s i b1 b2 m S w hs hi h10 hW hS hm
  by_cases h11 : bt s i = 42 ∨ bt s i = 95 ∨ bt s i = 126
  · exact pc_runs s i b1 b2 m S w hs hi h11 hW hS hm
  refine pc_els s i b1 b2 m S w hs hi ?_ hW hS hm
  unfold kindB
  simp
  omega
end Go.Proofs.YtcjkgmfidkgamaaGreatDoor
