/- string(bytes) as the walk meets it; draws. -/
import Derived.Test.YtjdadbpekaoijaaProg
import Derived.Test.YtjdadbpekaoijaaAid
import Derived.Deep.Draws
namespace Go.Proofs.Ytjdadbpekaoijaa
open Go.RowKit Go.Tap

theorem convB (w : World) (a : Option Addr) (n c : Nat) (l : List UInt8) (h : Rds w a n l) : (convert 25 9 (.slice a n c)).run Try.prog w = .ok (.string (str l)) w :=
  run_str (P := Try.prog) w a n c l 25 9 5 Try.underlying25 Try.underlying5 Try.underlying9 h
theorem rds_drew {w : World} {a : Option Addr} {n : Nat} {l : List UInt8} (h : Rds w a n l) : Rds w.drew a n l := h
theorem bel_drewN {B : Nat} {a w : World} (h : Below B a w) (n : Nat) : Below B a (w.drewN n) := ⟨h.os, h.tape, h.output, h.size, h.block⟩
end Go.Proofs.Ytjdadbpekaoijaa
