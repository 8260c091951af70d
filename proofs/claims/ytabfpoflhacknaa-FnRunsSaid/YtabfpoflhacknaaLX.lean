/- Loops' heads with many blocks. No program in sight; no conditions. -/
import Derived.Test.YtabfpoflhacknaaKG
set_option linter.unusedSimpArgs false
set_option linter.unusedVariables false
namespace Go.Proofs.Ytabfpoflhacknaa
open Go.RowKit
open Shp
section
variable {lv : Nat → List Nat} {P : Program} {tab : Tab} {n : Nat} {sl : List (Nat × PV)} {hl : List (Nat × Block)}
theorem gLX12 {r0 r1 r2 r3 r4 r5 r6 r7 r8 r9 r10 r11 : Nat} {b0 b1 b2 b3 b4 b5 b6 b7 b8 b9 b10 b11 : Block} {sl' : List (Nat × PV)} (hs : gHS [r0, r1, r2, r3, r4, r5, r6, r7, r8, r9, r10, r11] sl sl') (hb : gHB [r0, r1, r2, r3, r4, r5, r6, r7, r8, r9, r10, r11] hl [r0, r1, r2, r3, r4, r5, r6, r7, r8, r9, r10, r11] 0 [(0, b0), (1, b1), (2, b2), (3, b3), (4, b4), (5, b5), (6, b6), (7, b7), (8, b8), (9, b9), (10, b10), (11, b11)]) (hn : RF ([r0, r1, r2, r3, r4, r5, r6, r7, r8, r9, r10, r11].Nodup)) : LX n sl hl ⟨sl', [(0, b0), (1, b1), (2, b2), (3, b3), (4, b4), (5, b5), (6, b6), (7, b7), (8, b8), (9, b9), (10, b10), (11, b11)]⟩ := LX_mk hs.s hb.s hn
end
end Go.Proofs.Ytabfpoflhacknaa

