/- string(bytes) as the walk meets it; draws. -/
import Derived.Test.YtggdbdjaobgeeaaGreatDoorProg
import Derived.Test.YtggdbdjaobgeeaaGreatDoorAid
import Derived.Deep.Draws
namespace Go.Proofs.YtggdbdjaobgeeaaGreatDoor
open Go.RowKit Go.Tap

theorem convB (w : World) (a : Option Addr) (n c : Nat) (l : List UInt8) (h : Rds w a n l) : (convert 38 9 (.slice a n c)).run Tryz.prog w = .ok (.string (str l)) w :=
  run_str (P := Tryz.prog) w a n c l 38 9 5 Tryz.underlying38 Tryz.underlying5 Tryz.underlying9 h
theorem rds_drew {w : World} {a : Option Addr} {n : Nat} {l : List UInt8} (h : Rds w a n l) : Rds w.drew a n l := h
theorem bel_drewN {B : Nat} {a w : World} (h : Below B a w) (n : Nat) : Below B a (w.drewN n) := ⟨h.os, h.tape, h.output, h.size, h.block⟩
end Go.Proofs.YtggdbdjaobgeeaaGreatDoor
