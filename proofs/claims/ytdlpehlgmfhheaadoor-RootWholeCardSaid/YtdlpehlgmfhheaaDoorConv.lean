/- string(bytes) as the walk meets it; draws. -/
import Derived.Test.YtdlpehlgmfhheaaDoorProg
import Derived.Test.YtdlpehlgmfhheaaDoorAid
import Derived.Deep.Draws
namespace Go.Proofs.YtdlpehlgmfhheaaDoor
open Go.RowKit Go.Tap

theorem convB (w : World) (a : Option Addr) (n c : Nat) (l : List UInt8) (h : Rds w a n l) : (convert 43 9 (.slice a n c)).run Tryd.prog w = .ok (.string (str l)) w :=
  run_str (P := Tryd.prog) w a n c l 43 9 5 Tryd.underlying43 Tryd.underlying5 Tryd.underlying9 h
theorem rds_drew {w : World} {a : Option Addr} {n : Nat} {l : List UInt8} (h : Rds w a n l) : Rds w.drew a n l := h
theorem bel_drewN {B : Nat} {a w : World} (h : Below B a w) (n : Nat) : Below B a (w.drewN n) := ⟨h.os, h.tape, h.output, h.size, h.block⟩
end Go.Proofs.YtdlpehlgmfhheaaDoor
