/- Formulas of 4 Go functions of this seat (written by a program of the author's, vcgen.py), and that each is enough for the call. No condition. -/
import Derived.Test.YtmhlmdnhpfhoeaaDoorTy
import Derived.Test.YtmhlmdnhpfhoeaaDoorProg
set_option linter.unusedVariables false
namespace Go.Proofs.YtmhlmdnhpfhoeaaDoor
open Go Vc Go.Proofs
set_option maxRecDepth 100000
/-- (*modfile.lexer).quoted -/
def vc_modfile_lexer_quoted (x0 : Nat) (x1_0 : Int) (x1_1 : ByteArray) (x1_2 : Int) (w : World) (R : Value → World → Prop) : Prop :=
  ∀ w1 : World,
  (w1 = World.alloc w (Obj.cells (Array.mk [Value.int IntKind.i64 x1_0, Value.string x1_1, Value.int IntKind.i64 x1_2]) 57) →
    ∀ w2 : World,
    (w2 = World.alloc w1 (Obj.cells (Array.mk [Value.int IntKind.i64 0, Value.string (ByteArray.mk (Array.mk [])), Value.int IntKind.i64 0]) 57) →
      ∃ I3 : Sl → World → Prop, ∃ I4 : Sl → World → Nat, ((∃ n5 : Int, (World.cell? w2 (Addr.mk x0 1 none) = some (Value.int IntKind.i64 n5) ∧
        ∃ s6 : ByteArray, (World.cell? w2 (Addr.mk x0 0 none) = some (Value.string s6) ∧
         ((((n5 == (↑(ByteArray.size s6) : Int)) = true →
            ∀ w7 : World,
            (Drew w2 w7 →
              ∃ n8 : Int, ∃ s9 : ByteArray, ∃ n10 : Int, (Sem.run Tryd.prog (loadVar 57 (Addr.mk (Array.size (World.heap w)) 0 none)) w7 = Result.ok (Value.agg (Array.mk [Value.int IntKind.i64 n8, Value.string s9, Value.int IntKind.i64 n10])) w7 ∧
               ∃ w11 : World, (Sem.run Tryd.prog (storeVar 57 (Addr.mk (Array.size (World.heap w1)) 0 none) (Value.agg (Array.mk [Value.int IntKind.i64 n8, Value.string s9, Value.int IntKind.i64 n10]))) w7 = Result.ok PUnit.unit w11 ∧
                ∃ n12 : Int, ∃ s13 : ByteArray, ∃ n14 : Int, (Sem.run Tryd.prog (loadVar 57 (Addr.mk (Array.size (World.heap w1)) 0 none)) w11 = Result.ok (Value.agg (Array.mk [Value.int IntKind.i64 n12, Value.string s13, Value.int IntKind.i64 n14])) w11 ∧
                 R (Value.tuple (Array.mk [Value.agg (Array.mk [Value.int IntKind.i64 n12, Value.string s13, Value.int IntKind.i64 n14]), Value.bool false])) w11)))))) ∧
          ((n5 == (↑(ByteArray.size s6) : Int)) = false →
            ∃ s15 : ByteArray, (World.cell? w2 (Addr.mk x0 0 none) = some (Value.string s15) ∧
             ∃ n16 : Int, (World.cell? w2 (Addr.mk x0 1 none) = some (Value.int IntKind.i64 n16) ∧
              ((0 ≤ n16 ∧
                n16 < (↑(ByteArray.size s15) : Int)) ∧
               ∀ w17 : World,
               (Drew w2 w17 →
                 ((((byteAt s15 n16 == 10) = true →
                    ∃ n18 : Int, ∃ s19 : ByteArray, ∃ n20 : Int, (Sem.run Tryd.prog (loadVar 57 (Addr.mk (Array.size (World.heap w)) 0 none)) w17 = Result.ok (Value.agg (Array.mk [Value.int IntKind.i64 n18, Value.string s19, Value.int IntKind.i64 n20])) w17 ∧
                     ∃ w21 : World, (Sem.run Tryd.prog (storeVar 57 (Addr.mk (Array.size (World.heap w1)) 0 none) (Value.agg (Array.mk [Value.int IntKind.i64 n18, Value.string s19, Value.int IntKind.i64 n20]))) w17 = Result.ok PUnit.unit w21 ∧
                      ∃ n22 : Int, ∃ s23 : ByteArray, ∃ n24 : Int, (Sem.run Tryd.prog (loadVar 57 (Addr.mk (Array.size (World.heap w1)) 0 none)) w21 = Result.ok (Value.agg (Array.mk [Value.int IntKind.i64 n22, Value.string s23, Value.int IntKind.i64 n24])) w21 ∧
                       R (Value.tuple (Array.mk [Value.agg (Array.mk [Value.int IntKind.i64 n22, Value.string s23, Value.int IntKind.i64 n24]), Value.bool false])) w21))))) ∧
                  ((byteAt s15 n16 == 10) = false →
                    ∃ s25 : ByteArray, (World.cell? w17 (Addr.mk x0 0 none) = some (Value.string s25) ∧
                     ∃ n26 : Int, (World.cell? w17 (Addr.mk x0 1 none) = some (Value.int IntKind.i64 n26) ∧
                      ((0 ≤ n26 ∧
                        n26 < (↑(ByteArray.size s25) : Int)) ∧
                       ∀ w27 : World,
                       (Drew w17 w27 →
                         ∃ n28 : Int, (World.cell? w27 (Addr.mk x0 1 none) = some (Value.int IntKind.i64 n28) ∧
                          (Wr w27 (Addr.mk x0 1 none) ∧
                           ∀ w29 : World,
                           (w29 = World.setCell w27 (Addr.mk x0 1 none) (Value.int IntKind.i64 (IntKind.wrap IntKind.i64 (n28 + 1))) →
                             ((((byteAt s25 n26 == 34) = true →
                                ∃ w30 : World, ∃ s31 : ByteArray, (Sem.run Tryd.prog (convert 37 9 (Value.slice none 0 0)) w29 = Result.ok (Value.string s31) w30 ∧
                                 (Wr w30 (Addr.mk (Array.size (World.heap w)) 1 none) ∧
                                  ∀ w32 : World,
                                  (w32 = World.setCell w30 (Addr.mk (Array.size (World.heap w)) 1 none) (Value.string s31) →
                                    ∃ n33 : Int, ∃ s34 : ByteArray, ∃ n35 : Int, (Sem.run Tryd.prog (loadVar 57 (Addr.mk (Array.size (World.heap w)) 0 none)) w32 = Result.ok (Value.agg (Array.mk [Value.int IntKind.i64 n33, Value.string s34, Value.int IntKind.i64 n35])) w32 ∧
                                     ∃ w36 : World, (Sem.run Tryd.prog (storeVar 57 (Addr.mk (Array.size (World.heap w1)) 0 none) (Value.agg (Array.mk [Value.int IntKind.i64 n33, Value.string s34, Value.int IntKind.i64 n35]))) w32 = Result.ok PUnit.unit w36 ∧
                                      ∃ n37 : Int, ∃ s38 : ByteArray, ∃ n39 : Int, (Sem.run Tryd.prog (loadVar 57 (Addr.mk (Array.size (World.heap w1)) 0 none)) w36 = Result.ok (Value.agg (Array.mk [Value.int IntKind.i64 n37, Value.string s38, Value.int IntKind.i64 n39])) w36 ∧
                                       R (Value.tuple (Array.mk [Value.agg (Array.mk [Value.int IntKind.i64 n37, Value.string s38, Value.int IntKind.i64 n39]), Value.bool true])) w36)))))))) ∧
                              ((byteAt s25 n26 == 34) = false →
                                ((((byteAt s25 n26 == 92) = true →
                                   ∃ n40 : Int, (World.cell? w29 (Addr.mk x0 1 none) = some (Value.int IntKind.i64 n40) ∧
                                    ∃ s41 : ByteArray, (World.cell? w29 (Addr.mk x0 0 none) = some (Value.string s41) ∧
                                     ∀ w42 : World,
                                     (Drew w29 w42 →
                                       ((((n40 == (↑(ByteArray.size s41) : Int)) = true →
                                          ∃ n43 : Int, ∃ s44 : ByteArray, ∃ n45 : Int, (Sem.run Tryd.prog (loadVar 57 (Addr.mk (Array.size (World.heap w)) 0 none)) w42 = Result.ok (Value.agg (Array.mk [Value.int IntKind.i64 n43, Value.string s44, Value.int IntKind.i64 n45])) w42 ∧
                                           ∃ w46 : World, (Sem.run Tryd.prog (storeVar 57 (Addr.mk (Array.size (World.heap w1)) 0 none) (Value.agg (Array.mk [Value.int IntKind.i64 n43, Value.string s44, Value.int IntKind.i64 n45]))) w42 = Result.ok PUnit.unit w46 ∧
                                            ∃ n47 : Int, ∃ s48 : ByteArray, ∃ n49 : Int, (Sem.run Tryd.prog (loadVar 57 (Addr.mk (Array.size (World.heap w1)) 0 none)) w46 = Result.ok (Value.agg (Array.mk [Value.int IntKind.i64 n47, Value.string s48, Value.int IntKind.i64 n49])) w46 ∧
                                             R (Value.tuple (Array.mk [Value.agg (Array.mk [Value.int IntKind.i64 n47, Value.string s48, Value.int IntKind.i64 n49]), Value.bool false])) w46))))) ∧
                                        ((n40 == (↑(ByteArray.size s41) : Int)) = false →
                                          ∀ w50 : World,
                                          (Drew w42 w50 →
                                            ∃ I51 : World → Prop, (I51 w50 ∧
                                             ∃ s52 : ByteArray, ((∀ w53 : World,
                                              (I51 w53 →
                                                World.cell? w53 (Addr.mk x0 0 none) = some (Value.string s52))) ∧
                                              ∃ n54 : Int, ((∀ w55 : World,
                                               (I51 w55 →
                                                 World.cell? w55 (Addr.mk x0 1 none) = some (Value.int IntKind.i64 n54))) ∧
                                               ((0 ≤ n54 ∧
                                                 n54 < (↑(ByteArray.size s52) : Int)) ∧
                                                Calls Tryd.prog (55 : Nat) (Array.mk [Value.string (ByteArray.mk (Array.mk [34, 92, 110, 116])), Value.int IntKind.u8 (byteAt s52 n54)]) (w50) (fun e56 w57 =>
                                                  ∃ n58 : Int, (e56 = Ending.returned (Value.int IntKind.i64 n58) ∧
                                                   (I51 w57 ∧
                                                    (((decide (n58 < 0) = true →
                                                       ∃ n59 : Int, ∃ s60 : ByteArray, ∃ n61 : Int, (Sem.run Tryd.prog (loadVar 57 (Addr.mk (Array.size (World.heap w)) 0 none)) w57 = Result.ok (Value.agg (Array.mk [Value.int IntKind.i64 n59, Value.string s60, Value.int IntKind.i64 n61])) w57 ∧
                                                        ∃ w62 : World, (Sem.run Tryd.prog (storeVar 57 (Addr.mk (Array.size (World.heap w1)) 0 none) (Value.agg (Array.mk [Value.int IntKind.i64 n59, Value.string s60, Value.int IntKind.i64 n61]))) w57 = Result.ok PUnit.unit w62 ∧
                                                         ∃ n63 : Int, ∃ s64 : ByteArray, ∃ n65 : Int, (Sem.run Tryd.prog (loadVar 57 (Addr.mk (Array.size (World.heap w1)) 0 none)) w62 = Result.ok (Value.agg (Array.mk [Value.int IntKind.i64 n63, Value.string s64, Value.int IntKind.i64 n65])) w62 ∧
                                                          R (Value.tuple (Array.mk [Value.agg (Array.mk [Value.int IntKind.i64 n63, Value.string s64, Value.int IntKind.i64 n65]), Value.bool false])) w62))))) ∧
                                                     (decide (n58 < 0) = false →
                                                       ((0 ≤ n58 ∧
                                                         n58 < (↑(ByteArray.size (ByteArray.mk (Array.mk [34, 92, 10, 9]))) : Int)) ∧
                                                        ∃ n66 : Int, (World.cell? w57 (Addr.mk x0 1 none) = some (Value.int IntKind.i64 n66) ∧
                                                         (Wr w57 (Addr.mk x0 1 none) ∧
                                                          ∀ w67 : World,
                                                          (w67 = World.setCell w57 (Addr.mk x0 1 none) (Value.int IntKind.i64 (IntKind.wrap IntKind.i64 (n66 + 1))) →
                                                            ∀ w68 : World,
                                                            (w68 = World.alloc w67 (Obj.cells (Array.mk [Value.int IntKind.u8 (byteAt (ByteArray.mk (Array.mk [34, 92, 10, 9])) n58)]) 5) →
                                                              ∃ w69 : World, ∃ l70 : Sl, (Sem.run Tryd.prog (Builtin.append_ (Array.mk [37, 37]) 37 (Array.mk [Value.slice none 0 0, Value.slice (some (Addr.mk (Array.size (World.heap w67)) 0 none)) 1 1])) w68 = Result.ok (Value.slice l70.1 l70.2 l70.3) w69 ∧
                                                               I3 (Sl.mk l70.1 l70.2 l70.3) w69))))))))))))))))))))))) ∧
                                 ((byteAt s25 n26 == 92) = false →
                                   ∀ w71 : World,
                                   (w71 = World.alloc w29 (Obj.cells (Array.mk [Value.int IntKind.u8 (byteAt s25 n26)]) 5) →
                                     ∃ w72 : World, ∃ l73 : Sl, (Sem.run Tryd.prog (Builtin.append_ (Array.mk [37, 37]) 37 (Array.mk [Value.slice none 0 0, Value.slice (some (Addr.mk (Array.size (World.heap w29)) 0 none)) 1 1])) w71 = Result.ok (Value.slice l73.1 l73.2 l73.3) w72 ∧
                                      I3 (Sl.mk l73.1 l73.2 l73.3) w72)))))))))))))))))))))))) ∧
       ((∀ l74 : Sl,
        ∀ w75 : World,
        (I3 l74 w75 →
          ∃ n76 : Int, (World.cell? w75 (Addr.mk x0 1 none) = some (Value.int IntKind.i64 n76) ∧
           ∃ s77 : ByteArray, (World.cell? w75 (Addr.mk x0 0 none) = some (Value.string s77) ∧
            ((((n76 == (↑(ByteArray.size s77) : Int)) = true →
               ∀ w78 : World,
               (Drew w75 w78 →
                 ∃ n79 : Int, ∃ s80 : ByteArray, ∃ n81 : Int, (Sem.run Tryd.prog (loadVar 57 (Addr.mk (Array.size (World.heap w)) 0 none)) w78 = Result.ok (Value.agg (Array.mk [Value.int IntKind.i64 n79, Value.string s80, Value.int IntKind.i64 n81])) w78 ∧
                  ∃ w82 : World, (Sem.run Tryd.prog (storeVar 57 (Addr.mk (Array.size (World.heap w1)) 0 none) (Value.agg (Array.mk [Value.int IntKind.i64 n79, Value.string s80, Value.int IntKind.i64 n81]))) w78 = Result.ok PUnit.unit w82 ∧
                   ∃ n83 : Int, ∃ s84 : ByteArray, ∃ n85 : Int, (Sem.run Tryd.prog (loadVar 57 (Addr.mk (Array.size (World.heap w1)) 0 none)) w82 = Result.ok (Value.agg (Array.mk [Value.int IntKind.i64 n83, Value.string s84, Value.int IntKind.i64 n85])) w82 ∧
                    R (Value.tuple (Array.mk [Value.agg (Array.mk [Value.int IntKind.i64 n83, Value.string s84, Value.int IntKind.i64 n85]), Value.bool false])) w82)))))) ∧
             ((n76 == (↑(ByteArray.size s77) : Int)) = false →
               ∃ s86 : ByteArray, (World.cell? w75 (Addr.mk x0 0 none) = some (Value.string s86) ∧
                ∃ n87 : Int, (World.cell? w75 (Addr.mk x0 1 none) = some (Value.int IntKind.i64 n87) ∧
                 ((0 ≤ n87 ∧
                   n87 < (↑(ByteArray.size s86) : Int)) ∧
                  ∀ w88 : World,
                  (Drew w75 w88 →
                    ((((byteAt s86 n87 == 10) = true →
                       ∃ n89 : Int, ∃ s90 : ByteArray, ∃ n91 : Int, (Sem.run Tryd.prog (loadVar 57 (Addr.mk (Array.size (World.heap w)) 0 none)) w88 = Result.ok (Value.agg (Array.mk [Value.int IntKind.i64 n89, Value.string s90, Value.int IntKind.i64 n91])) w88 ∧
                        ∃ w92 : World, (Sem.run Tryd.prog (storeVar 57 (Addr.mk (Array.size (World.heap w1)) 0 none) (Value.agg (Array.mk [Value.int IntKind.i64 n89, Value.string s90, Value.int IntKind.i64 n91]))) w88 = Result.ok PUnit.unit w92 ∧
                         ∃ n93 : Int, ∃ s94 : ByteArray, ∃ n95 : Int, (Sem.run Tryd.prog (loadVar 57 (Addr.mk (Array.size (World.heap w1)) 0 none)) w92 = Result.ok (Value.agg (Array.mk [Value.int IntKind.i64 n93, Value.string s94, Value.int IntKind.i64 n95])) w92 ∧
                          R (Value.tuple (Array.mk [Value.agg (Array.mk [Value.int IntKind.i64 n93, Value.string s94, Value.int IntKind.i64 n95]), Value.bool false])) w92))))) ∧
                     ((byteAt s86 n87 == 10) = false →
                       ∃ s96 : ByteArray, (World.cell? w88 (Addr.mk x0 0 none) = some (Value.string s96) ∧
                        ∃ n97 : Int, (World.cell? w88 (Addr.mk x0 1 none) = some (Value.int IntKind.i64 n97) ∧
                         ((0 ≤ n97 ∧
                           n97 < (↑(ByteArray.size s96) : Int)) ∧
                          ∀ w98 : World,
                          (Drew w88 w98 →
                            ∃ n99 : Int, (World.cell? w98 (Addr.mk x0 1 none) = some (Value.int IntKind.i64 n99) ∧
                             (Wr w98 (Addr.mk x0 1 none) ∧
                              ∀ w100 : World,
                              (w100 = World.setCell w98 (Addr.mk x0 1 none) (Value.int IntKind.i64 (IntKind.wrap IntKind.i64 (n99 + 1))) →
                                ((((byteAt s96 n97 == 34) = true →
                                   ∃ w101 : World, ∃ s102 : ByteArray, (Sem.run Tryd.prog (convert 37 9 (Value.slice l74.1 l74.2 l74.3)) w100 = Result.ok (Value.string s102) w101 ∧
                                    (Wr w101 (Addr.mk (Array.size (World.heap w)) 1 none) ∧
                                     ∀ w103 : World,
                                     (w103 = World.setCell w101 (Addr.mk (Array.size (World.heap w)) 1 none) (Value.string s102) →
                                       ∃ n104 : Int, ∃ s105 : ByteArray, ∃ n106 : Int, (Sem.run Tryd.prog (loadVar 57 (Addr.mk (Array.size (World.heap w)) 0 none)) w103 = Result.ok (Value.agg (Array.mk [Value.int IntKind.i64 n104, Value.string s105, Value.int IntKind.i64 n106])) w103 ∧
                                        ∃ w107 : World, (Sem.run Tryd.prog (storeVar 57 (Addr.mk (Array.size (World.heap w1)) 0 none) (Value.agg (Array.mk [Value.int IntKind.i64 n104, Value.string s105, Value.int IntKind.i64 n106]))) w103 = Result.ok PUnit.unit w107 ∧
                                         ∃ n108 : Int, ∃ s109 : ByteArray, ∃ n110 : Int, (Sem.run Tryd.prog (loadVar 57 (Addr.mk (Array.size (World.heap w1)) 0 none)) w107 = Result.ok (Value.agg (Array.mk [Value.int IntKind.i64 n108, Value.string s109, Value.int IntKind.i64 n110])) w107 ∧
                                          R (Value.tuple (Array.mk [Value.agg (Array.mk [Value.int IntKind.i64 n108, Value.string s109, Value.int IntKind.i64 n110]), Value.bool true])) w107)))))))) ∧
                                 ((byteAt s96 n97 == 34) = false →
                                   ((((byteAt s96 n97 == 92) = true →
                                      ∃ n111 : Int, (World.cell? w100 (Addr.mk x0 1 none) = some (Value.int IntKind.i64 n111) ∧
                                       ∃ s112 : ByteArray, (World.cell? w100 (Addr.mk x0 0 none) = some (Value.string s112) ∧
                                        ∀ w113 : World,
                                        (Drew w100 w113 →
                                          ((((n111 == (↑(ByteArray.size s112) : Int)) = true →
                                             ∃ n114 : Int, ∃ s115 : ByteArray, ∃ n116 : Int, (Sem.run Tryd.prog (loadVar 57 (Addr.mk (Array.size (World.heap w)) 0 none)) w113 = Result.ok (Value.agg (Array.mk [Value.int IntKind.i64 n114, Value.string s115, Value.int IntKind.i64 n116])) w113 ∧
                                              ∃ w117 : World, (Sem.run Tryd.prog (storeVar 57 (Addr.mk (Array.size (World.heap w1)) 0 none) (Value.agg (Array.mk [Value.int IntKind.i64 n114, Value.string s115, Value.int IntKind.i64 n116]))) w113 = Result.ok PUnit.unit w117 ∧
                                               ∃ n118 : Int, ∃ s119 : ByteArray, ∃ n120 : Int, (Sem.run Tryd.prog (loadVar 57 (Addr.mk (Array.size (World.heap w1)) 0 none)) w117 = Result.ok (Value.agg (Array.mk [Value.int IntKind.i64 n118, Value.string s119, Value.int IntKind.i64 n120])) w117 ∧
                                                R (Value.tuple (Array.mk [Value.agg (Array.mk [Value.int IntKind.i64 n118, Value.string s119, Value.int IntKind.i64 n120]), Value.bool false])) w117))))) ∧
                                           ((n111 == (↑(ByteArray.size s112) : Int)) = false →
                                             ∀ w121 : World,
                                             (Drew w113 w121 →
                                               ∃ I122 : World → Prop, (I122 w121 ∧
                                                ∃ s123 : ByteArray, ((∀ w124 : World,
                                                 (I122 w124 →
                                                   World.cell? w124 (Addr.mk x0 0 none) = some (Value.string s123))) ∧
                                                 ∃ n125 : Int, ((∀ w126 : World,
                                                  (I122 w126 →
                                                    World.cell? w126 (Addr.mk x0 1 none) = some (Value.int IntKind.i64 n125))) ∧
                                                  ((0 ≤ n125 ∧
                                                    n125 < (↑(ByteArray.size s123) : Int)) ∧
                                                   Calls Tryd.prog (55 : Nat) (Array.mk [Value.string (ByteArray.mk (Array.mk [34, 92, 110, 116])), Value.int IntKind.u8 (byteAt s123 n125)]) (w121) (fun e127 w128 =>
                                                     ∃ n129 : Int, (e127 = Ending.returned (Value.int IntKind.i64 n129) ∧
                                                      (I122 w128 ∧
                                                       (((decide (n129 < 0) = true →
                                                          ∃ n130 : Int, ∃ s131 : ByteArray, ∃ n132 : Int, (Sem.run Tryd.prog (loadVar 57 (Addr.mk (Array.size (World.heap w)) 0 none)) w128 = Result.ok (Value.agg (Array.mk [Value.int IntKind.i64 n130, Value.string s131, Value.int IntKind.i64 n132])) w128 ∧
                                                           ∃ w133 : World, (Sem.run Tryd.prog (storeVar 57 (Addr.mk (Array.size (World.heap w1)) 0 none) (Value.agg (Array.mk [Value.int IntKind.i64 n130, Value.string s131, Value.int IntKind.i64 n132]))) w128 = Result.ok PUnit.unit w133 ∧
                                                            ∃ n134 : Int, ∃ s135 : ByteArray, ∃ n136 : Int, (Sem.run Tryd.prog (loadVar 57 (Addr.mk (Array.size (World.heap w1)) 0 none)) w133 = Result.ok (Value.agg (Array.mk [Value.int IntKind.i64 n134, Value.string s135, Value.int IntKind.i64 n136])) w133 ∧
                                                             R (Value.tuple (Array.mk [Value.agg (Array.mk [Value.int IntKind.i64 n134, Value.string s135, Value.int IntKind.i64 n136]), Value.bool false])) w133))))) ∧
                                                        (decide (n129 < 0) = false →
                                                          ((0 ≤ n129 ∧
                                                            n129 < (↑(ByteArray.size (ByteArray.mk (Array.mk [34, 92, 10, 9]))) : Int)) ∧
                                                           ∃ n137 : Int, (World.cell? w128 (Addr.mk x0 1 none) = some (Value.int IntKind.i64 n137) ∧
                                                            (Wr w128 (Addr.mk x0 1 none) ∧
                                                             ∀ w138 : World,
                                                             (w138 = World.setCell w128 (Addr.mk x0 1 none) (Value.int IntKind.i64 (IntKind.wrap IntKind.i64 (n137 + 1))) →
                                                               ∀ w139 : World,
                                                               (w139 = World.alloc w138 (Obj.cells (Array.mk [Value.int IntKind.u8 (byteAt (ByteArray.mk (Array.mk [34, 92, 10, 9])) n129)]) 5) →
                                                                 ∃ w140 : World, ∃ l141 : Sl, (Sem.run Tryd.prog (Builtin.append_ (Array.mk [37, 37]) 37 (Array.mk [Value.slice l74.1 l74.2 l74.3, Value.slice (some (Addr.mk (Array.size (World.heap w138)) 0 none)) 1 1])) w139 = Result.ok (Value.slice l141.1 l141.2 l141.3) w140 ∧
                                                                  (I3 (Sl.mk l141.1 l141.2 l141.3) w140 ∧
                                                                   I4 (Sl.mk l141.1 l141.2 l141.3) w140 < I4 l74 w75)))))))))))))))))))))))) ∧
                                    ((byteAt s96 n97 == 92) = false →
                                      ∀ w142 : World,
                                      (w142 = World.alloc w100 (Obj.cells (Array.mk [Value.int IntKind.u8 (byteAt s96 n97)]) 5) →
                                        ∃ w143 : World, ∃ l144 : Sl, (Sem.run Tryd.prog (Builtin.append_ (Array.mk [37, 37]) 37 (Array.mk [Value.slice l74.1 l74.2 l74.3, Value.slice (some (Addr.mk (Array.size (World.heap w100)) 0 none)) 1 1])) w142 = Result.ok (Value.slice l144.1 l144.2 l144.3) w143 ∧
                                         (I3 (Sl.mk l144.1 l144.2 l144.3) w143 ∧
                                          I4 (Sl.mk l144.1 l144.2 l144.3) w143 < I4 l74 w75)))))))))))))))))))))))))) ∧
        True))))
theorem vc_modfile_lexer_quoted_ok {x0 : Nat} {x1_0 : Int} {x1_1 : ByteArray} {x1_2 : Int} {w : World} {R : Value → World → Prop} {R' : Ending → World → Prop} (h : vc_modfile_lexer_quoted x0 x1_0 x1_1 x1_2 w R) (hR : ∀ v w', R v w' → R' (.returned v) w') :
    Calls Tryd.prog 54 #[.pointer (some ⟨x0, 0, none⟩), .agg #[.int .i64 x1_0, .string x1_1, .int .i64 x1_2]] w R' :=
  calls_of_body (vs := [(.pointer (some ⟨x0, 0, none⟩), true), (.agg #[.int .i64 x1_0, .string x1_1, .int .i64 x1_2], false)]) (ty := ty) (ann := ⟨[], [], [(2, .quiet), (4, .quiet), (11, .quiet), (13, .held [(0, true), (1, true), (2, true), (3, true), (4, true), (5, true), (6, true), (7, true), (8, true), (9, false), (10, true)])], [(0, [(6, .slice)])]⟩) (c := Tryd.f54.body.getD .skip) (by kernel_rfl) Tryd.func54 (by kernel_rfl) (by kernel_rfl) (Eq.mp (by kernel_rfl) h) hR
/-- (*modfile.lexer).next -/
def vc_modfile_lexer_next (x0 : Nat) (w : World) (R : Value → World → Prop) : Prop :=
  ∀ w1 : World,
  (w1 = World.alloc w (Obj.cells (Array.mk [Value.int IntKind.i64 0, Value.string (ByteArray.mk (Array.mk [])), Value.int IntKind.i64 0]) 57) →
    ∃ I2 : Addr → World → Prop, ∃ I3 : Addr → World → Nat, ∃ I4 : Addr → World → Prop, ∃ I5 : Addr → World → Nat, ∃ I6 : Int → Addr → World → Prop, ∃ I7 : Int → Addr → World → Nat, ∃ I8 : Int → Addr → World → Prop, ∃ I9 : Int → Addr → World → Nat, ((∃ n10 : Int, (World.cell? w1 (Addr.mk x0 2 none) = some (Value.int IntKind.i64 n10) ∧
      ∀ w11 : World,
      (w11 = World.alloc w1 (Obj.cells (Array.mk [Value.int IntKind.i64 0, Value.string (ByteArray.mk (Array.mk [])), Value.int IntKind.i64 0]) 57) →
        ∃ w12 : World, (Sem.run Tryd.prog (storeVar 57 (Addr.mk (Array.size (World.heap w1)) 0 none) (Value.agg (Array.mk [Value.int IntKind.i64 0, Value.string (ByteArray.mk (Array.mk [])), Value.int IntKind.i64 n10]))) w11 = Result.ok PUnit.unit w12 ∧
         ∃ n13 : Int, (World.cell? w12 (Addr.mk x0 1 none) = some (Value.int IntKind.i64 n13) ∧
          ∃ s14 : ByteArray, (World.cell? w12 (Addr.mk x0 0 none) = some (Value.string s14) ∧
           ∀ w15 : World,
           (Drew w12 w15 →
             ((((n13 == (↑(ByteArray.size s14) : Int)) = true →
                (Wr w15 (Addr.mk (Array.size (World.heap w1)) 0 none) ∧
                 ∀ w16 : World,
                 (w16 = World.setCell w15 (Addr.mk (Array.size (World.heap w1)) 0 none) (Value.int IntKind.i64 4) →
                   ∃ n17 : Int, ∃ s18 : ByteArray, ∃ n19 : Int, (Sem.run Tryd.prog (loadVar 57 (Addr.mk (Array.size (World.heap w1)) 0 none)) w16 = Result.ok (Value.agg (Array.mk [Value.int IntKind.i64 n17, Value.string s18, Value.int IntKind.i64 n19])) w16 ∧
                    ∃ w20 : World, (Sem.run Tryd.prog (storeVar 57 (Addr.mk (Array.size (World.heap w)) 0 none) (Value.agg (Array.mk [Value.int IntKind.i64 n17, Value.string s18, Value.int IntKind.i64 n19]))) w16 = Result.ok PUnit.unit w20 ∧
                     ∃ n21 : Int, ∃ s22 : ByteArray, ∃ n23 : Int, (Sem.run Tryd.prog (loadVar 57 (Addr.mk (Array.size (World.heap w)) 0 none)) w20 = Result.ok (Value.agg (Array.mk [Value.int IntKind.i64 n21, Value.string s22, Value.int IntKind.i64 n23])) w20 ∧
                      R (Value.tuple (Array.mk [Value.agg (Array.mk [Value.int IntKind.i64 n21, Value.string s22, Value.int IntKind.i64 n23]), Value.bool true])) w20))))))) ∧
              ((n13 == (↑(ByteArray.size s14) : Int)) = false →
                ∃ s24 : ByteArray, (World.cell? w15 (Addr.mk x0 0 none) = some (Value.string s24) ∧
                 ∃ n25 : Int, (World.cell? w15 (Addr.mk x0 1 none) = some (Value.int IntKind.i64 n25) ∧
                  ((0 ≤ n25 ∧
                    n25 < (↑(ByteArray.size s24) : Int)) ∧
                   ∀ w26 : World,
                   (Drew w15 w26 →
                     ∃ I27 : Bool → World → Prop, (((((byteAt s24 n25 == 32) = true →
                         I27 true w26)) ∧
                       ((byteAt s24 n25 == 32) = false →
                         ((((byteAt s24 n25 == 9) = true →
                            I27 true w26)) ∧
                          ((byteAt s24 n25 == 9) = false →
                            I27 (byteAt s24 n25 == 13) w26)))) ∧
                      ∀ b28 : Bool,
                      ∀ w29 : World,
                      (I27 b28 w29 →
                        (((b28 = true →
                           ∃ n30 : Int, (World.cell? w29 (Addr.mk x0 1 none) = some (Value.int IntKind.i64 n30) ∧
                            (Wr w29 (Addr.mk x0 1 none) ∧
                             ∀ w31 : World,
                             (w31 = World.setCell w29 (Addr.mk x0 1 none) (Value.int IntKind.i64 (IntKind.wrap IntKind.i64 (n30 + 1))) →
                               I2 (Addr.mk (Array.size (World.heap w1)) 0 none) w31))))) ∧
                         (b28 = false →
                           ((((byteAt s24 n25 == 10) = true →
                              ∃ n32 : Int, (World.cell? w29 (Addr.mk x0 1 none) = some (Value.int IntKind.i64 n32) ∧
                               (Wr w29 (Addr.mk x0 1 none) ∧
                                ∀ w33 : World,
                                (w33 = World.setCell w29 (Addr.mk x0 1 none) (Value.int IntKind.i64 (IntKind.wrap IntKind.i64 (n32 + 1))) →
                                  ∃ n34 : Int, (World.cell? w33 (Addr.mk x0 2 none) = some (Value.int IntKind.i64 n34) ∧
                                   (Wr w33 (Addr.mk x0 2 none) ∧
                                    ∀ w35 : World,
                                    (w35 = World.setCell w33 (Addr.mk x0 2 none) (Value.int IntKind.i64 (IntKind.wrap IntKind.i64 (n34 + 1))) →
                                      (Wr w35 (Addr.mk (Array.size (World.heap w1)) 0 none) ∧
                                       ∀ w36 : World,
                                       (w36 = World.setCell w35 (Addr.mk (Array.size (World.heap w1)) 0 none) (Value.int IntKind.i64 3) →
                                         ∃ n37 : Int, ∃ s38 : ByteArray, ∃ n39 : Int, (Sem.run Tryd.prog (loadVar 57 (Addr.mk (Array.size (World.heap w1)) 0 none)) w36 = Result.ok (Value.agg (Array.mk [Value.int IntKind.i64 n37, Value.string s38, Value.int IntKind.i64 n39])) w36 ∧
                                          ∃ w40 : World, (Sem.run Tryd.prog (storeVar 57 (Addr.mk (Array.size (World.heap w)) 0 none) (Value.agg (Array.mk [Value.int IntKind.i64 n37, Value.string s38, Value.int IntKind.i64 n39]))) w36 = Result.ok PUnit.unit w40 ∧
                                           ∃ n41 : Int, ∃ s42 : ByteArray, ∃ n43 : Int, (Sem.run Tryd.prog (loadVar 57 (Addr.mk (Array.size (World.heap w)) 0 none)) w40 = Result.ok (Value.agg (Array.mk [Value.int IntKind.i64 n41, Value.string s42, Value.int IntKind.i64 n43])) w40 ∧
                                            R (Value.tuple (Array.mk [Value.agg (Array.mk [Value.int IntKind.i64 n41, Value.string s42, Value.int IntKind.i64 n43]), Value.bool true])) w40))))))))))))) ∧
                            ((byteAt s24 n25 == 10) = false →
                              ((((byteAt s24 n25 == 40) = true →
                                 ∃ n44 : Int, (World.cell? w29 (Addr.mk x0 1 none) = some (Value.int IntKind.i64 n44) ∧
                                  (Wr w29 (Addr.mk x0 1 none) ∧
                                   ∀ w45 : World,
                                   (w45 = World.setCell w29 (Addr.mk x0 1 none) (Value.int IntKind.i64 (IntKind.wrap IntKind.i64 (n44 + 1))) →
                                     (Wr w45 (Addr.mk (Array.size (World.heap w1)) 0 none) ∧
                                      ∀ w46 : World,
                                      (w46 = World.setCell w45 (Addr.mk (Array.size (World.heap w1)) 0 none) (Value.int IntKind.i64 1) →
                                        ∃ n47 : Int, ∃ s48 : ByteArray, ∃ n49 : Int, (Sem.run Tryd.prog (loadVar 57 (Addr.mk (Array.size (World.heap w1)) 0 none)) w46 = Result.ok (Value.agg (Array.mk [Value.int IntKind.i64 n47, Value.string s48, Value.int IntKind.i64 n49])) w46 ∧
                                         ∃ w50 : World, (Sem.run Tryd.prog (storeVar 57 (Addr.mk (Array.size (World.heap w)) 0 none) (Value.agg (Array.mk [Value.int IntKind.i64 n47, Value.string s48, Value.int IntKind.i64 n49]))) w46 = Result.ok PUnit.unit w50 ∧
                                          ∃ n51 : Int, ∃ s52 : ByteArray, ∃ n53 : Int, (Sem.run Tryd.prog (loadVar 57 (Addr.mk (Array.size (World.heap w)) 0 none)) w50 = Result.ok (Value.agg (Array.mk [Value.int IntKind.i64 n51, Value.string s52, Value.int IntKind.i64 n53])) w50 ∧
                                           R (Value.tuple (Array.mk [Value.agg (Array.mk [Value.int IntKind.i64 n51, Value.string s52, Value.int IntKind.i64 n53]), Value.bool true])) w50)))))))))) ∧
                               ((byteAt s24 n25 == 40) = false →
                                 ((((byteAt s24 n25 == 41) = true →
                                    ∃ n54 : Int, (World.cell? w29 (Addr.mk x0 1 none) = some (Value.int IntKind.i64 n54) ∧
                                     (Wr w29 (Addr.mk x0 1 none) ∧
                                      ∀ w55 : World,
                                      (w55 = World.setCell w29 (Addr.mk x0 1 none) (Value.int IntKind.i64 (IntKind.wrap IntKind.i64 (n54 + 1))) →
                                        (Wr w55 (Addr.mk (Array.size (World.heap w1)) 0 none) ∧
                                         ∀ w56 : World,
                                         (w56 = World.setCell w55 (Addr.mk (Array.size (World.heap w1)) 0 none) (Value.int IntKind.i64 2) →
                                           ∃ n57 : Int, ∃ s58 : ByteArray, ∃ n59 : Int, (Sem.run Tryd.prog (loadVar 57 (Addr.mk (Array.size (World.heap w1)) 0 none)) w56 = Result.ok (Value.agg (Array.mk [Value.int IntKind.i64 n57, Value.string s58, Value.int IntKind.i64 n59])) w56 ∧
                                            ∃ w60 : World, (Sem.run Tryd.prog (storeVar 57 (Addr.mk (Array.size (World.heap w)) 0 none) (Value.agg (Array.mk [Value.int IntKind.i64 n57, Value.string s58, Value.int IntKind.i64 n59]))) w56 = Result.ok PUnit.unit w60 ∧
                                             ∃ n61 : Int, ∃ s62 : ByteArray, ∃ n63 : Int, (Sem.run Tryd.prog (loadVar 57 (Addr.mk (Array.size (World.heap w)) 0 none)) w60 = Result.ok (Value.agg (Array.mk [Value.int IntKind.i64 n61, Value.string s62, Value.int IntKind.i64 n63])) w60 ∧
                                              R (Value.tuple (Array.mk [Value.agg (Array.mk [Value.int IntKind.i64 n61, Value.string s62, Value.int IntKind.i64 n63]), Value.bool true])) w60)))))))))) ∧
                                  ((byteAt s24 n25 == 41) = false →
                                    ∀ w64 : World,
                                    (Drew w29 w64 →
                                      ∃ I65 : World → Prop, (I65 w64 ∧
                                       ∃ s66 : ByteArray, ((∀ w67 : World,
                                        (I65 w67 →
                                          World.cell? w67 (Addr.mk x0 0 none) = some (Value.string s66))) ∧
                                        ∃ n68 : Int, ((∀ w69 : World,
                                         (I65 w69 →
                                           World.cell? w69 (Addr.mk x0 1 none) = some (Value.int IntKind.i64 n68))) ∧
                                         ((0 ≤ n68 ∧
                                           n68 ≤ (↑(ByteArray.size s66) : Int)) ∧
                                          Calls Tryd.prog (44 : Nat) (Array.mk [Value.string (ByteArray.extract s66 (Int.toNat n68) (ByteArray.size s66)), Value.string (ByteArray.mk (Array.mk [47, 47]))]) (w64) (fun e70 w71 =>
                                            ∃ b72 : Bool, (e70 = Ending.returned (Value.bool b72) ∧
                                             (I65 w71 ∧
                                              (((b72 = true →
                                                 I4 (Addr.mk (Array.size (World.heap w1)) 0 none) w71)) ∧
                                               (b72 = false →
                                                 ((((byteAt s24 n25 == 34) = true →
                                                    ∃ n73 : Int, (World.cell? w71 (Addr.mk x0 1 none) = some (Value.int IntKind.i64 n73) ∧
                                                     (Wr w71 (Addr.mk x0 1 none) ∧
                                                      ∀ w74 : World,
                                                      (w74 = World.setCell w71 (Addr.mk x0 1 none) (Value.int IntKind.i64 (IntKind.wrap IntKind.i64 (n73 + 1))) →
                                                        ∃ n75 : Int, ∃ s76 : ByteArray, ∃ n77 : Int, (Sem.run Tryd.prog (loadVar 57 (Addr.mk (Array.size (World.heap w1)) 0 none)) w74 = Result.ok (Value.agg (Array.mk [Value.int IntKind.i64 n75, Value.string s76, Value.int IntKind.i64 n77])) w74 ∧
                                                         Calls Tryd.prog (54 : Nat) (Array.mk [Value.pointer (some (Addr.mk x0 0 none)), Value.agg (Array.mk [Value.int IntKind.i64 n75, Value.string s76, Value.int IntKind.i64 n77])]) (w74) (fun e78 w79 =>
                                                           ∃ n80 : Int, ∃ s81 : ByteArray, ∃ n82 : Int, ∃ b83 : Bool, (e78 = Ending.returned (Value.tuple (Array.mk [Value.agg (Array.mk [Value.int IntKind.i64 n80, Value.string s81, Value.int IntKind.i64 n82]), Value.bool b83])) ∧
                                                            ∃ w84 : World, (Sem.run Tryd.prog (storeVar 57 (Addr.mk (Array.size (World.heap w)) 0 none) (Value.agg (Array.mk [Value.int IntKind.i64 n80, Value.string s81, Value.int IntKind.i64 n82]))) w79 = Result.ok PUnit.unit w84 ∧
                                                             ∃ n85 : Int, ∃ s86 : ByteArray, ∃ n87 : Int, (Sem.run Tryd.prog (loadVar 57 (Addr.mk (Array.size (World.heap w)) 0 none)) w84 = Result.ok (Value.agg (Array.mk [Value.int IntKind.i64 n85, Value.string s86, Value.int IntKind.i64 n87])) w84 ∧
                                                              R (Value.tuple (Array.mk [Value.agg (Array.mk [Value.int IntKind.i64 n85, Value.string s86, Value.int IntKind.i64 n87]), Value.bool b83])) w84)))))))))) ∧
                                                  ((byteAt s24 n25 == 34) = false →
                                                    ((((byteAt s24 n25 == 96) = true →
                                                       ∃ n88 : Int, (World.cell? w71 (Addr.mk x0 1 none) = some (Value.int IntKind.i64 n88) ∧
                                                        (Wr w71 (Addr.mk x0 1 none) ∧
                                                         ∀ w89 : World,
                                                         (w89 = World.setCell w71 (Addr.mk x0 1 none) (Value.int IntKind.i64 (IntKind.wrap IntKind.i64 (n88 + 1))) →
                                                           ∃ n90 : Int, (World.cell? w89 (Addr.mk x0 1 none) = some (Value.int IntKind.i64 n90) ∧
                                                            I6 n90 (Addr.mk (Array.size (World.heap w1)) 0 none) w89)))))) ∧
                                                     ((byteAt s24 n25 == 96) = false →
                                                       ∃ n91 : Int, (World.cell? w71 (Addr.mk x0 1 none) = some (Value.int IntKind.i64 n91) ∧
                                                        I8 n91 (Addr.mk (Array.size (World.heap w1)) 0 none) w71)))))))))))))))))))))))))))))))))))))) ∧
     ((∀ a92 : Addr,
      ∀ w93 : World,
      (I2 a92 w93 →
        ∃ n94 : Int, (World.cell? w93 (Addr.mk x0 1 none) = some (Value.int IntKind.i64 n94) ∧
         ∃ s95 : ByteArray, (World.cell? w93 (Addr.mk x0 0 none) = some (Value.string s95) ∧
          ∀ w96 : World,
          (Drew w93 w96 →
            ((((n94 == (↑(ByteArray.size s95) : Int)) = true →
               (Wr w96 a92 ∧
                ∀ w97 : World,
                (w97 = World.setCell w96 a92 (Value.int IntKind.i64 4) →
                  ∃ n98 : Int, ∃ s99 : ByteArray, ∃ n100 : Int, (Sem.run Tryd.prog (loadVar 57 a92) w97 = Result.ok (Value.agg (Array.mk [Value.int IntKind.i64 n98, Value.string s99, Value.int IntKind.i64 n100])) w97 ∧
                   ∃ w101 : World, (Sem.run Tryd.prog (storeVar 57 (Addr.mk (Array.size (World.heap w)) 0 none) (Value.agg (Array.mk [Value.int IntKind.i64 n98, Value.string s99, Value.int IntKind.i64 n100]))) w97 = Result.ok PUnit.unit w101 ∧
                    ∃ n102 : Int, ∃ s103 : ByteArray, ∃ n104 : Int, (Sem.run Tryd.prog (loadVar 57 (Addr.mk (Array.size (World.heap w)) 0 none)) w101 = Result.ok (Value.agg (Array.mk [Value.int IntKind.i64 n102, Value.string s103, Value.int IntKind.i64 n104])) w101 ∧
                     R (Value.tuple (Array.mk [Value.agg (Array.mk [Value.int IntKind.i64 n102, Value.string s103, Value.int IntKind.i64 n104]), Value.bool true])) w101))))))) ∧
             ((n94 == (↑(ByteArray.size s95) : Int)) = false →
               ∃ s105 : ByteArray, (World.cell? w96 (Addr.mk x0 0 none) = some (Value.string s105) ∧
                ∃ n106 : Int, (World.cell? w96 (Addr.mk x0 1 none) = some (Value.int IntKind.i64 n106) ∧
                 ((0 ≤ n106 ∧
                   n106 < (↑(ByteArray.size s105) : Int)) ∧
                  ∀ w107 : World,
                  (Drew w96 w107 →
                    ∃ I108 : Bool → World → Prop, (((((byteAt s105 n106 == 32) = true →
                        I108 true w107)) ∧
                      ((byteAt s105 n106 == 32) = false →
                        ((((byteAt s105 n106 == 9) = true →
                           I108 true w107)) ∧
                         ((byteAt s105 n106 == 9) = false →
                           I108 (byteAt s105 n106 == 13) w107)))) ∧
                     ∀ b109 : Bool,
                     ∀ w110 : World,
                     (I108 b109 w110 →
                       (((b109 = true →
                          ∃ n111 : Int, (World.cell? w110 (Addr.mk x0 1 none) = some (Value.int IntKind.i64 n111) ∧
                           (Wr w110 (Addr.mk x0 1 none) ∧
                            ∀ w112 : World,
                            (w112 = World.setCell w110 (Addr.mk x0 1 none) (Value.int IntKind.i64 (IntKind.wrap IntKind.i64 (n111 + 1))) →
                              (I2 a92 w112 ∧
                               I3 a92 w112 < I3 a92 w93)))))) ∧
                        (b109 = false →
                          ((((byteAt s105 n106 == 10) = true →
                             ∃ n113 : Int, (World.cell? w110 (Addr.mk x0 1 none) = some (Value.int IntKind.i64 n113) ∧
                              (Wr w110 (Addr.mk x0 1 none) ∧
                               ∀ w114 : World,
                               (w114 = World.setCell w110 (Addr.mk x0 1 none) (Value.int IntKind.i64 (IntKind.wrap IntKind.i64 (n113 + 1))) →
                                 ∃ n115 : Int, (World.cell? w114 (Addr.mk x0 2 none) = some (Value.int IntKind.i64 n115) ∧
                                  (Wr w114 (Addr.mk x0 2 none) ∧
                                   ∀ w116 : World,
                                   (w116 = World.setCell w114 (Addr.mk x0 2 none) (Value.int IntKind.i64 (IntKind.wrap IntKind.i64 (n115 + 1))) →
                                     (Wr w116 a92 ∧
                                      ∀ w117 : World,
                                      (w117 = World.setCell w116 a92 (Value.int IntKind.i64 3) →
                                        ∃ n118 : Int, ∃ s119 : ByteArray, ∃ n120 : Int, (Sem.run Tryd.prog (loadVar 57 a92) w117 = Result.ok (Value.agg (Array.mk [Value.int IntKind.i64 n118, Value.string s119, Value.int IntKind.i64 n120])) w117 ∧
                                         ∃ w121 : World, (Sem.run Tryd.prog (storeVar 57 (Addr.mk (Array.size (World.heap w)) 0 none) (Value.agg (Array.mk [Value.int IntKind.i64 n118, Value.string s119, Value.int IntKind.i64 n120]))) w117 = Result.ok PUnit.unit w121 ∧
                                          ∃ n122 : Int, ∃ s123 : ByteArray, ∃ n124 : Int, (Sem.run Tryd.prog (loadVar 57 (Addr.mk (Array.size (World.heap w)) 0 none)) w121 = Result.ok (Value.agg (Array.mk [Value.int IntKind.i64 n122, Value.string s123, Value.int IntKind.i64 n124])) w121 ∧
                                           R (Value.tuple (Array.mk [Value.agg (Array.mk [Value.int IntKind.i64 n122, Value.string s123, Value.int IntKind.i64 n124]), Value.bool true])) w121))))))))))))) ∧
                           ((byteAt s105 n106 == 10) = false →
                             ((((byteAt s105 n106 == 40) = true →
                                ∃ n125 : Int, (World.cell? w110 (Addr.mk x0 1 none) = some (Value.int IntKind.i64 n125) ∧
                                 (Wr w110 (Addr.mk x0 1 none) ∧
                                  ∀ w126 : World,
                                  (w126 = World.setCell w110 (Addr.mk x0 1 none) (Value.int IntKind.i64 (IntKind.wrap IntKind.i64 (n125 + 1))) →
                                    (Wr w126 a92 ∧
                                     ∀ w127 : World,
                                     (w127 = World.setCell w126 a92 (Value.int IntKind.i64 1) →
                                       ∃ n128 : Int, ∃ s129 : ByteArray, ∃ n130 : Int, (Sem.run Tryd.prog (loadVar 57 a92) w127 = Result.ok (Value.agg (Array.mk [Value.int IntKind.i64 n128, Value.string s129, Value.int IntKind.i64 n130])) w127 ∧
                                        ∃ w131 : World, (Sem.run Tryd.prog (storeVar 57 (Addr.mk (Array.size (World.heap w)) 0 none) (Value.agg (Array.mk [Value.int IntKind.i64 n128, Value.string s129, Value.int IntKind.i64 n130]))) w127 = Result.ok PUnit.unit w131 ∧
                                         ∃ n132 : Int, ∃ s133 : ByteArray, ∃ n134 : Int, (Sem.run Tryd.prog (loadVar 57 (Addr.mk (Array.size (World.heap w)) 0 none)) w131 = Result.ok (Value.agg (Array.mk [Value.int IntKind.i64 n132, Value.string s133, Value.int IntKind.i64 n134])) w131 ∧
                                          R (Value.tuple (Array.mk [Value.agg (Array.mk [Value.int IntKind.i64 n132, Value.string s133, Value.int IntKind.i64 n134]), Value.bool true])) w131)))))))))) ∧
                              ((byteAt s105 n106 == 40) = false →
                                ((((byteAt s105 n106 == 41) = true →
                                   ∃ n135 : Int, (World.cell? w110 (Addr.mk x0 1 none) = some (Value.int IntKind.i64 n135) ∧
                                    (Wr w110 (Addr.mk x0 1 none) ∧
                                     ∀ w136 : World,
                                     (w136 = World.setCell w110 (Addr.mk x0 1 none) (Value.int IntKind.i64 (IntKind.wrap IntKind.i64 (n135 + 1))) →
                                       (Wr w136 a92 ∧
                                        ∀ w137 : World,
                                        (w137 = World.setCell w136 a92 (Value.int IntKind.i64 2) →
                                          ∃ n138 : Int, ∃ s139 : ByteArray, ∃ n140 : Int, (Sem.run Tryd.prog (loadVar 57 a92) w137 = Result.ok (Value.agg (Array.mk [Value.int IntKind.i64 n138, Value.string s139, Value.int IntKind.i64 n140])) w137 ∧
                                           ∃ w141 : World, (Sem.run Tryd.prog (storeVar 57 (Addr.mk (Array.size (World.heap w)) 0 none) (Value.agg (Array.mk [Value.int IntKind.i64 n138, Value.string s139, Value.int IntKind.i64 n140]))) w137 = Result.ok PUnit.unit w141 ∧
                                            ∃ n142 : Int, ∃ s143 : ByteArray, ∃ n144 : Int, (Sem.run Tryd.prog (loadVar 57 (Addr.mk (Array.size (World.heap w)) 0 none)) w141 = Result.ok (Value.agg (Array.mk [Value.int IntKind.i64 n142, Value.string s143, Value.int IntKind.i64 n144])) w141 ∧
                                             R (Value.tuple (Array.mk [Value.agg (Array.mk [Value.int IntKind.i64 n142, Value.string s143, Value.int IntKind.i64 n144]), Value.bool true])) w141)))))))))) ∧
                                 ((byteAt s105 n106 == 41) = false →
                                   ∀ w145 : World,
                                   (Drew w110 w145 →
                                     ∃ I146 : World → Prop, (I146 w145 ∧
                                      ∃ s147 : ByteArray, ((∀ w148 : World,
                                       (I146 w148 →
                                         World.cell? w148 (Addr.mk x0 0 none) = some (Value.string s147))) ∧
                                       ∃ n149 : Int, ((∀ w150 : World,
                                        (I146 w150 →
                                          World.cell? w150 (Addr.mk x0 1 none) = some (Value.int IntKind.i64 n149))) ∧
                                        ((0 ≤ n149 ∧
                                          n149 ≤ (↑(ByteArray.size s147) : Int)) ∧
                                         Calls Tryd.prog (44 : Nat) (Array.mk [Value.string (ByteArray.extract s147 (Int.toNat n149) (ByteArray.size s147)), Value.string (ByteArray.mk (Array.mk [47, 47]))]) (w145) (fun e151 w152 =>
                                           ∃ b153 : Bool, (e151 = Ending.returned (Value.bool b153) ∧
                                            (I146 w152 ∧
                                             (((b153 = true →
                                                (I4 a92 w152 ∧
                                                 I5 a92 w152 < I3 a92 w93))) ∧
                                              (b153 = false →
                                                ((((byteAt s105 n106 == 34) = true →
                                                   ∃ n154 : Int, (World.cell? w152 (Addr.mk x0 1 none) = some (Value.int IntKind.i64 n154) ∧
                                                    (Wr w152 (Addr.mk x0 1 none) ∧
                                                     ∀ w155 : World,
                                                     (w155 = World.setCell w152 (Addr.mk x0 1 none) (Value.int IntKind.i64 (IntKind.wrap IntKind.i64 (n154 + 1))) →
                                                       ∃ n156 : Int, ∃ s157 : ByteArray, ∃ n158 : Int, (Sem.run Tryd.prog (loadVar 57 a92) w155 = Result.ok (Value.agg (Array.mk [Value.int IntKind.i64 n156, Value.string s157, Value.int IntKind.i64 n158])) w155 ∧
                                                        Calls Tryd.prog (54 : Nat) (Array.mk [Value.pointer (some (Addr.mk x0 0 none)), Value.agg (Array.mk [Value.int IntKind.i64 n156, Value.string s157, Value.int IntKind.i64 n158])]) (w155) (fun e159 w160 =>
                                                          ∃ n161 : Int, ∃ s162 : ByteArray, ∃ n163 : Int, ∃ b164 : Bool, (e159 = Ending.returned (Value.tuple (Array.mk [Value.agg (Array.mk [Value.int IntKind.i64 n161, Value.string s162, Value.int IntKind.i64 n163]), Value.bool b164])) ∧
                                                           ∃ w165 : World, (Sem.run Tryd.prog (storeVar 57 (Addr.mk (Array.size (World.heap w)) 0 none) (Value.agg (Array.mk [Value.int IntKind.i64 n161, Value.string s162, Value.int IntKind.i64 n163]))) w160 = Result.ok PUnit.unit w165 ∧
                                                            ∃ n166 : Int, ∃ s167 : ByteArray, ∃ n168 : Int, (Sem.run Tryd.prog (loadVar 57 (Addr.mk (Array.size (World.heap w)) 0 none)) w165 = Result.ok (Value.agg (Array.mk [Value.int IntKind.i64 n166, Value.string s167, Value.int IntKind.i64 n168])) w165 ∧
                                                             R (Value.tuple (Array.mk [Value.agg (Array.mk [Value.int IntKind.i64 n166, Value.string s167, Value.int IntKind.i64 n168]), Value.bool b164])) w165)))))))))) ∧
                                                 ((byteAt s105 n106 == 34) = false →
                                                   ((((byteAt s105 n106 == 96) = true →
                                                      ∃ n169 : Int, (World.cell? w152 (Addr.mk x0 1 none) = some (Value.int IntKind.i64 n169) ∧
                                                       (Wr w152 (Addr.mk x0 1 none) ∧
                                                        ∀ w170 : World,
                                                        (w170 = World.setCell w152 (Addr.mk x0 1 none) (Value.int IntKind.i64 (IntKind.wrap IntKind.i64 (n169 + 1))) →
                                                          ∃ n171 : Int, (World.cell? w170 (Addr.mk x0 1 none) = some (Value.int IntKind.i64 n171) ∧
                                                           (I6 n171 a92 w170 ∧
                                                            I7 n171 a92 w170 < I3 a92 w93))))))) ∧
                                                    ((byteAt s105 n106 == 96) = false →
                                                      ∃ n172 : Int, (World.cell? w152 (Addr.mk x0 1 none) = some (Value.int IntKind.i64 n172) ∧
                                                       (I8 n172 a92 w152 ∧
                                                        I9 n172 a92 w152 < I3 a92 w93))))))))))))))))))))))))))))))))))))) ∧
      ((∀ a173 : Addr,
       ∀ w174 : World,
       (I4 a173 w174 →
         ∃ I175 : World → Prop, ((∃ n176 : Int, (World.cell? w174 (Addr.mk x0 1 none) = some (Value.int IntKind.i64 n176) ∧
           ∃ s177 : ByteArray, (World.cell? w174 (Addr.mk x0 0 none) = some (Value.string s177) ∧
            (((decide (n176 < (↑(ByteArray.size s177) : Int)) = true →
               ∃ s178 : ByteArray, (World.cell? w174 (Addr.mk x0 0 none) = some (Value.string s178) ∧
                ∃ n179 : Int, (World.cell? w174 (Addr.mk x0 1 none) = some (Value.int IntKind.i64 n179) ∧
                 ((0 ≤ n179 ∧
                   n179 < (↑(ByteArray.size s178) : Int)) ∧
                  ∀ w180 : World,
                  (Drew w174 w180 →
                    ((((byteAt s178 n179 != 10) = true →
                       ∃ n181 : Int, (World.cell? w180 (Addr.mk x0 1 none) = some (Value.int IntKind.i64 n181) ∧
                        (Wr w180 (Addr.mk x0 1 none) ∧
                         ∀ w182 : World,
                         (w182 = World.setCell w180 (Addr.mk x0 1 none) (Value.int IntKind.i64 (IntKind.wrap IntKind.i64 (n181 + 1))) →
                           (I4 a173 w182 ∧
                            I5 a173 w182 < I5 a173 w174)))))) ∧
                     ((byteAt s178 n179 != 10) = false →
                       I175 w180)))))))) ∧
             (decide (n176 < (↑(ByteArray.size s177) : Int)) = false →
               ∀ w183 : World,
               (Drew w174 w183 →
                 I175 w183)))))) ∧
          ∀ w184 : World,
          (I175 w184 →
            ∃ I185 : World → Prop, ((I2 a173 w184 ∧
              I3 a173 w184 < I5 a173 w174) ∧
             ∀ w186 : World,
             (I185 w186 →
               ∃ I187 : World → Prop, (I187 w186 ∧
                ∀ w188 : World,
                (I187 w188 →
                  ∃ n189 : Int, (World.cell? w188 (Addr.mk x0 1 none) = some (Value.int IntKind.i64 n189) ∧
                   ∃ s190 : ByteArray, (World.cell? w188 (Addr.mk x0 0 none) = some (Value.string s190) ∧
                    ((((n189 == (↑(ByteArray.size s190) : Int)) = true →
                       ∀ w191 : World,
                       (Drew w188 w191 →
                         ∃ n192 : Int, ∃ s193 : ByteArray, ∃ n194 : Int, (Sem.run Tryd.prog (loadVar 57 a173) w191 = Result.ok (Value.agg (Array.mk [Value.int IntKind.i64 n192, Value.string s193, Value.int IntKind.i64 n194])) w191 ∧
                          ∃ w195 : World, (Sem.run Tryd.prog (storeVar 57 (Addr.mk (Array.size (World.heap w)) 0 none) (Value.agg (Array.mk [Value.int IntKind.i64 n192, Value.string s193, Value.int IntKind.i64 n194]))) w191 = Result.ok PUnit.unit w195 ∧
                           ∃ n196 : Int, ∃ s197 : ByteArray, ∃ n198 : Int, (Sem.run Tryd.prog (loadVar 57 (Addr.mk (Array.size (World.heap w)) 0 none)) w195 = Result.ok (Value.agg (Array.mk [Value.int IntKind.i64 n196, Value.string s197, Value.int IntKind.i64 n198])) w195 ∧
                            R (Value.tuple (Array.mk [Value.agg (Array.mk [Value.int IntKind.i64 n196, Value.string s197, Value.int IntKind.i64 n198]), Value.bool false])) w195)))))) ∧
                     ((n189 == (↑(ByteArray.size s190) : Int)) = false →
                       ∃ s199 : ByteArray, (World.cell? w188 (Addr.mk x0 0 none) = some (Value.string s199) ∧
                        ∃ n200 : Int, (World.cell? w188 (Addr.mk x0 1 none) = some (Value.int IntKind.i64 n200) ∧
                         ((0 ≤ n200 ∧
                           n200 < (↑(ByteArray.size s199) : Int)) ∧
                          ∀ w201 : World,
                          (Drew w188 w201 →
                            ((((byteAt s199 n200 == 10) = true →
                               ∃ n202 : Int, ∃ s203 : ByteArray, ∃ n204 : Int, (Sem.run Tryd.prog (loadVar 57 a173) w201 = Result.ok (Value.agg (Array.mk [Value.int IntKind.i64 n202, Value.string s203, Value.int IntKind.i64 n204])) w201 ∧
                                ∃ w205 : World, (Sem.run Tryd.prog (storeVar 57 (Addr.mk (Array.size (World.heap w)) 0 none) (Value.agg (Array.mk [Value.int IntKind.i64 n202, Value.string s203, Value.int IntKind.i64 n204]))) w201 = Result.ok PUnit.unit w205 ∧
                                 ∃ n206 : Int, ∃ s207 : ByteArray, ∃ n208 : Int, (Sem.run Tryd.prog (loadVar 57 (Addr.mk (Array.size (World.heap w)) 0 none)) w205 = Result.ok (Value.agg (Array.mk [Value.int IntKind.i64 n206, Value.string s207, Value.int IntKind.i64 n208])) w205 ∧
                                  R (Value.tuple (Array.mk [Value.agg (Array.mk [Value.int IntKind.i64 n206, Value.string s207, Value.int IntKind.i64 n208]), Value.bool false])) w205))))) ∧
                             ((byteAt s199 n200 == 10) = false →
                               ∃ s209 : ByteArray, (World.cell? w201 (Addr.mk x0 0 none) = some (Value.string s209) ∧
                                ∃ n210 : Int, (World.cell? w201 (Addr.mk x0 1 none) = some (Value.int IntKind.i64 n210) ∧
                                 ((0 ≤ n210 ∧
                                   n210 < (↑(ByteArray.size s209) : Int)) ∧
                                  ∀ w211 : World,
                                  (Drew w201 w211 →
                                    ((((byteAt s209 n210 != 96) = true →
                                       ∃ n212 : Int, (World.cell? w211 (Addr.mk x0 1 none) = some (Value.int IntKind.i64 n212) ∧
                                        (Wr w211 (Addr.mk x0 1 none) ∧
                                         ∀ w213 : World,
                                         (w213 = World.setCell w211 (Addr.mk x0 1 none) (Value.int IntKind.i64 (IntKind.wrap IntKind.i64 (n212 + 1))) →
                                           False))))) ∧
                                     ((byteAt s209 n210 != 96) = false →
                                       ∀ w214 : World,
                                       (Drew w211 w214 →
                                         ∃ s215 : ByteArray, (World.cell? w214 (Addr.mk x0 0 none) = some (Value.string s215) ∧
                                          False)))))))))))))))))))))))))) ∧
       ((∀ n216 : Int,
        ∀ a217 : Addr,
        ∀ w218 : World,
        (I6 n216 a217 w218 →
          ∃ I219 : World → Prop, (I219 w218 ∧
           ∀ w220 : World,
           (I219 w220 →
             ∃ n221 : Int, (World.cell? w220 (Addr.mk x0 1 none) = some (Value.int IntKind.i64 n221) ∧
              ∃ s222 : ByteArray, (World.cell? w220 (Addr.mk x0 0 none) = some (Value.string s222) ∧
               ((((n221 == (↑(ByteArray.size s222) : Int)) = true →
                  ∀ w223 : World,
                  (Drew w220 w223 →
                    ∃ n224 : Int, ∃ s225 : ByteArray, ∃ n226 : Int, (Sem.run Tryd.prog (loadVar 57 a217) w223 = Result.ok (Value.agg (Array.mk [Value.int IntKind.i64 n224, Value.string s225, Value.int IntKind.i64 n226])) w223 ∧
                     ∃ w227 : World, (Sem.run Tryd.prog (storeVar 57 (Addr.mk (Array.size (World.heap w)) 0 none) (Value.agg (Array.mk [Value.int IntKind.i64 n224, Value.string s225, Value.int IntKind.i64 n226]))) w223 = Result.ok PUnit.unit w227 ∧
                      ∃ n228 : Int, ∃ s229 : ByteArray, ∃ n230 : Int, (Sem.run Tryd.prog (loadVar 57 (Addr.mk (Array.size (World.heap w)) 0 none)) w227 = Result.ok (Value.agg (Array.mk [Value.int IntKind.i64 n228, Value.string s229, Value.int IntKind.i64 n230])) w227 ∧
                       R (Value.tuple (Array.mk [Value.agg (Array.mk [Value.int IntKind.i64 n228, Value.string s229, Value.int IntKind.i64 n230]), Value.bool false])) w227)))))) ∧
                ((n221 == (↑(ByteArray.size s222) : Int)) = false →
                  ∃ s231 : ByteArray, (World.cell? w220 (Addr.mk x0 0 none) = some (Value.string s231) ∧
                   ∃ n232 : Int, (World.cell? w220 (Addr.mk x0 1 none) = some (Value.int IntKind.i64 n232) ∧
                    ((0 ≤ n232 ∧
                      n232 < (↑(ByteArray.size s231) : Int)) ∧
                     ∀ w233 : World,
                     (Drew w220 w233 →
                       ((((byteAt s231 n232 == 10) = true →
                          ∃ n234 : Int, ∃ s235 : ByteArray, ∃ n236 : Int, (Sem.run Tryd.prog (loadVar 57 a217) w233 = Result.ok (Value.agg (Array.mk [Value.int IntKind.i64 n234, Value.string s235, Value.int IntKind.i64 n236])) w233 ∧
                           ∃ w237 : World, (Sem.run Tryd.prog (storeVar 57 (Addr.mk (Array.size (World.heap w)) 0 none) (Value.agg (Array.mk [Value.int IntKind.i64 n234, Value.string s235, Value.int IntKind.i64 n236]))) w233 = Result.ok PUnit.unit w237 ∧
                            ∃ n238 : Int, ∃ s239 : ByteArray, ∃ n240 : Int, (Sem.run Tryd.prog (loadVar 57 (Addr.mk (Array.size (World.heap w)) 0 none)) w237 = Result.ok (Value.agg (Array.mk [Value.int IntKind.i64 n238, Value.string s239, Value.int IntKind.i64 n240])) w237 ∧
                             R (Value.tuple (Array.mk [Value.agg (Array.mk [Value.int IntKind.i64 n238, Value.string s239, Value.int IntKind.i64 n240]), Value.bool false])) w237))))) ∧
                        ((byteAt s231 n232 == 10) = false →
                          ∃ s241 : ByteArray, (World.cell? w233 (Addr.mk x0 0 none) = some (Value.string s241) ∧
                           ∃ n242 : Int, (World.cell? w233 (Addr.mk x0 1 none) = some (Value.int IntKind.i64 n242) ∧
                            ((0 ≤ n242 ∧
                              n242 < (↑(ByteArray.size s241) : Int)) ∧
                             ∀ w243 : World,
                             (Drew w233 w243 →
                               ((((byteAt s241 n242 != 96) = true →
                                  ∃ n244 : Int, (World.cell? w243 (Addr.mk x0 1 none) = some (Value.int IntKind.i64 n244) ∧
                                   (Wr w243 (Addr.mk x0 1 none) ∧
                                    ∀ w245 : World,
                                    (w245 = World.setCell w243 (Addr.mk x0 1 none) (Value.int IntKind.i64 (IntKind.wrap IntKind.i64 (n244 + 1))) →
                                      (I6 n216 a217 w245 ∧
                                       I7 n216 a217 w245 < I7 n216 a217 w218)))))) ∧
                                ((byteAt s241 n242 != 96) = false →
                                  ∀ w246 : World,
                                  (Drew w243 w246 →
                                    ∃ s247 : ByteArray, (World.cell? w246 (Addr.mk x0 0 none) = some (Value.string s247) ∧
                                     ∃ n248 : Int, (World.cell? w246 (Addr.mk x0 1 none) = some (Value.int IntKind.i64 n248) ∧
                                      ((0 ≤ n216 ∧
                                        (n216 ≤ n248 ∧
                                         n248 ≤ (↑(ByteArray.size s247) : Int))) ∧
                                       (Wr w246 (Addr.add a217 1) ∧
                                        ∀ w249 : World,
                                        (w249 = World.setCell w246 (Addr.add a217 1) (Value.string (ByteArray.extract s247 (Int.toNat n216) (Int.toNat n248))) →
                                          ∃ n250 : Int, (World.cell? w249 (Addr.mk x0 1 none) = some (Value.int IntKind.i64 n250) ∧
                                           (Wr w249 (Addr.mk x0 1 none) ∧
                                            ∀ w251 : World,
                                            (w251 = World.setCell w249 (Addr.mk x0 1 none) (Value.int IntKind.i64 (IntKind.wrap IntKind.i64 (n250 + 1))) →
                                              ∃ n252 : Int, ∃ s253 : ByteArray, ∃ n254 : Int, (Sem.run Tryd.prog (loadVar 57 a217) w251 = Result.ok (Value.agg (Array.mk [Value.int IntKind.i64 n252, Value.string s253, Value.int IntKind.i64 n254])) w251 ∧
                                               ∃ w255 : World, (Sem.run Tryd.prog (storeVar 57 (Addr.mk (Array.size (World.heap w)) 0 none) (Value.agg (Array.mk [Value.int IntKind.i64 n252, Value.string s253, Value.int IntKind.i64 n254]))) w251 = Result.ok PUnit.unit w255 ∧
                                                ∃ n256 : Int, ∃ s257 : ByteArray, ∃ n258 : Int, (Sem.run Tryd.prog (loadVar 57 (Addr.mk (Array.size (World.heap w)) 0 none)) w255 = Result.ok (Value.agg (Array.mk [Value.int IntKind.i64 n256, Value.string s257, Value.int IntKind.i64 n258])) w255 ∧
                                                 R (Value.tuple (Array.mk [Value.agg (Array.mk [Value.int IntKind.i64 n256, Value.string s257, Value.int IntKind.i64 n258]), Value.bool true])) w255)))))))))))))))))))))))))))))))) ∧
        ((∀ n259 : Int,
         ∀ a260 : Addr,
         ∀ w261 : World,
         (I8 n259 a260 w261 →
           ∃ I262 : World → Prop, ((∀ w263 : World,
            (Drew w261 w263 →
              ∃ I264 : World → Prop, (I264 w263 ∧
               ∃ n265 : Int, ((∀ w266 : World,
                (I264 w266 →
                  World.cell? w266 (Addr.mk x0 1 none) = some (Value.int IntKind.i64 n265))) ∧
                ∃ s267 : ByteArray, ((∀ w268 : World,
                 (I264 w268 →
                   World.cell? w268 (Addr.mk x0 0 none) = some (Value.string s267))) ∧
                 (((decide (n265 < (↑(ByteArray.size s267) : Int)) = true →
                    ∃ s269 : ByteArray, ((∀ w270 : World,
                     (I264 w270 →
                       World.cell? w270 (Addr.mk x0 0 none) = some (Value.string s269))) ∧
                     ∃ n271 : Int, ((∀ w272 : World,
                      (I264 w272 →
                        World.cell? w272 (Addr.mk x0 1 none) = some (Value.int IntKind.i64 n271))) ∧
                      ((0 ≤ n271 ∧
                        n271 < (↑(ByteArray.size s269) : Int)) ∧
                       Calls Tryd.prog (55 : Nat) (Array.mk [Value.string (ByteArray.mk (Array.mk [32, 9, 13, 10, 40, 41, 34, 96])), Value.int IntKind.u8 (byteAt s269 n271)]) (w263) (fun e273 w274 =>
                         ∃ n275 : Int, (e273 = Ending.returned (Value.int IntKind.i64 n275) ∧
                          (I264 w274 ∧
                           (((decide (n275 < 0) = true →
                              ∃ s276 : ByteArray, ((∀ w277 : World,
                               (I264 w277 →
                                 World.cell? w277 (Addr.mk x0 0 none) = some (Value.string s276))) ∧
                               ∃ n278 : Int, ((∀ w279 : World,
                                (I264 w279 →
                                  World.cell? w279 (Addr.mk x0 1 none) = some (Value.int IntKind.i64 n278))) ∧
                                ((0 ≤ n278 ∧
                                  n278 ≤ (↑(ByteArray.size s276) : Int)) ∧
                                 Calls Tryd.prog (44 : Nat) (Array.mk [Value.string (ByteArray.extract s276 (Int.toNat n278) (ByteArray.size s276)), Value.string (ByteArray.mk (Array.mk [47, 47]))]) (w274) (fun e280 w281 =>
                                   ∃ b282 : Bool, (e280 = Ending.returned (Value.bool b282) ∧
                                    (I264 w281 ∧
                                     ((((!b282) = true →
                                        ∃ n283 : Int, (World.cell? w281 (Addr.mk x0 1 none) = some (Value.int IntKind.i64 n283) ∧
                                         (Wr w281 (Addr.mk x0 1 none) ∧
                                          ∀ w284 : World,
                                          (w284 = World.setCell w281 (Addr.mk x0 1 none) (Value.int IntKind.i64 (IntKind.wrap IntKind.i64 (n283 + 1))) →
                                            (I8 n259 a260 w284 ∧
                                             I9 n259 a260 w284 < I9 n259 a260 w261)))))) ∧
                                      ((!b282) = false →
                                        I262 w281)))))))))) ∧
                            (decide (n275 < 0) = false →
                              (I264 w274 ∧
                               I262 w274))))))))))) ∧
                  (decide (n265 < (↑(ByteArray.size s267) : Int)) = false →
                    (I264 w263 ∧
                     (I264 w263 ∧
                      I262 w263))))))))) ∧
            ∀ w285 : World,
            (I262 w285 →
              ∀ w286 : World,
              (Drew w285 w286 →
                ∃ s287 : ByteArray, (World.cell? w286 (Addr.mk x0 0 none) = some (Value.string s287) ∧
                 ∃ n288 : Int, (World.cell? w286 (Addr.mk x0 1 none) = some (Value.int IntKind.i64 n288) ∧
                  ((0 ≤ n259 ∧
                    (n259 ≤ n288 ∧
                     n288 ≤ (↑(ByteArray.size s287) : Int))) ∧
                   (Wr w286 (Addr.add a260 1) ∧
                    ∀ w289 : World,
                    (w289 = World.setCell w286 (Addr.add a260 1) (Value.string (ByteArray.extract s287 (Int.toNat n259) (Int.toNat n288))) →
                      ∃ n290 : Int, ∃ s291 : ByteArray, ∃ n292 : Int, (Sem.run Tryd.prog (loadVar 57 a260) w289 = Result.ok (Value.agg (Array.mk [Value.int IntKind.i64 n290, Value.string s291, Value.int IntKind.i64 n292])) w289 ∧
                       ∃ w293 : World, (Sem.run Tryd.prog (storeVar 57 (Addr.mk (Array.size (World.heap w)) 0 none) (Value.agg (Array.mk [Value.int IntKind.i64 n290, Value.string s291, Value.int IntKind.i64 n292]))) w289 = Result.ok PUnit.unit w293 ∧
                        ∃ n294 : Int, ∃ s295 : ByteArray, ∃ n296 : Int, (Sem.run Tryd.prog (loadVar 57 (Addr.mk (Array.size (World.heap w)) 0 none)) w293 = Result.ok (Value.agg (Array.mk [Value.int IntKind.i64 n294, Value.string s295, Value.int IntKind.i64 n296])) w293 ∧
                         R (Value.tuple (Array.mk [Value.agg (Array.mk [Value.int IntKind.i64 n294, Value.string s295, Value.int IntKind.i64 n296]), Value.bool true])) w293))))))))))))) ∧
         True))))))
theorem vc_modfile_lexer_next_ok {x0 : Nat} {w : World} {R : Value → World → Prop} {R' : Ending → World → Prop} (h : vc_modfile_lexer_next x0 w R) (hR : ∀ v w', R v w' → R' (.returned v) w') :
    Calls Tryd.prog 27 #[.pointer (some ⟨x0, 0, none⟩)] w R' :=
  calls_of_body (vs := [(.pointer (some ⟨x0, 0, none⟩), true)]) (ty := ty) (ann := ⟨[(8, [(33, .bool)]), (32, []), (41, [])], [], [(3, .quiet), (6, .quiet), (22, .held [(0, true), (1, true), (2, true), (3, true), (4, true), (5, true), (6, true), (7, true), (8, true), (9, false), (10, true)]), (30, .quiet), (32, .quiet), (34, .quiet), (36, .tail 11), (39, .held [(0, true), (1, true), (2, true), (3, true), (4, true), (5, true), (6, true), (7, true), (8, true), (9, true), (10, true), (11, true), (12, true), (13, true), (14, true), (15, true), (16, true), (17, true), (18, true), (19, true), (20, false), (21, true), (22, true), (23, true), (24, true), (25, true), (26, true), (27, true), (28, true), (29, true), (30, true), (31, true), (32, true), (33, false), (34, true), (35, true)]), (41, .tail 11)], [(0, [(5, .addr)]), (1, [(5, .addr)]), (2, [(4, .int .i64), (5, .addr)]), (3, [(4, .int .i64), (5, .addr)])]⟩) (c := Tryd.f27.body.getD .skip) (by kernel_rfl) Tryd.func27 (by kernel_rfl) (by kernel_rfl) (Eq.mp (by kernel_rfl) h) hR
/-- modfile.line -/
def vc_modfile_line (x0a : Option Addr) (x0n : Nat) (x0c : Nat) (x1 : ByteArray) (x2 : Bool) (w : World) (R : Value → World → Prop) : Prop :=
  ∀ w1 : World,
  (w1 = World.alloc w (Obj.cells (Array.mk [Value.string (ByteArray.mk (Array.mk [])), Value.slice none 0 0, Value.int IntKind.i64 0]) 30) →
    ∃ I2 : World → Prop, ((((((↑x0n : Int) == 0) = true →
        ∃ w3 : World, (Sem.run Tryd.prog (storeVar 30 (Addr.mk (Array.size (World.heap w)) 0 none) (Value.agg (Array.mk [Value.string (ByteArray.mk (Array.mk [])), Value.slice none 0 0, Value.int IntKind.i64 0]))) w1 = Result.ok PUnit.unit w3 ∧
         ∃ s4 : ByteArray, ∃ l5 : Sl, ∃ n6 : Int, (Sem.run Tryd.prog (loadVar 30 (Addr.mk (Array.size (World.heap w)) 0 none)) w3 = Result.ok (Value.agg (Array.mk [Value.string s4, Value.slice l5.1 l5.2 l5.3, Value.int IntKind.i64 n6])) w3 ∧
          R (Value.tuple (Array.mk [Value.agg (Array.mk [Value.string s4, Value.slice l5.1 l5.2 l5.3, Value.int IntKind.i64 n6]), Value.string (ByteArray.mk (Array.mk [])), Value.bool true])) w3)))) ∧
      (((↑x0n : Int) == 0) = false →
        (((x2 = true →
           (((((↑x0n : Int) == 1) = true →
              (((0 : Int) ≤ (0 : Int) ∧
                0 < (↑x0n : Int)) ∧
               ∃ a7 : Addr, (x0a = some a7 ∧
                ∃ n8 : Int, (World.cell? w1 (Addr.add a7 (Int.toNat 0 * 3)) = some (Value.int IntKind.i64 n8) ∧
                 ((((n8 == 2) = true →
                    ∃ w9 : World, (Sem.run Tryd.prog (storeVar 30 (Addr.mk (Array.size (World.heap w)) 0 none) (Value.agg (Array.mk [Value.string (ByteArray.mk (Array.mk [])), Value.slice none 0 0, Value.int IntKind.i64 0]))) w1 = Result.ok PUnit.unit w9 ∧
                     ∃ s10 : ByteArray, ∃ l11 : Sl, ∃ n12 : Int, (Sem.run Tryd.prog (loadVar 30 (Addr.mk (Array.size (World.heap w)) 0 none)) w9 = Result.ok (Value.agg (Array.mk [Value.string s10, Value.slice l11.1 l11.2 l11.3, Value.int IntKind.i64 n12])) w9 ∧
                      R (Value.tuple (Array.mk [Value.agg (Array.mk [Value.string s10, Value.slice l11.1 l11.2 l11.3, Value.int IntKind.i64 n12]), Value.string (ByteArray.mk (Array.mk [])), Value.bool true])) w9)))) ∧
                  ((n8 == 2) = false →
                    I2 w1))))))) ∧
            (((↑x0n : Int) == 1) = false →
              I2 w1)))) ∧
         (x2 = false →
           I2 w1)))) ∧
     ∀ w13 : World,
     (I2 w13 →
       ∀ w14 : World,
       (w14 = World.alloc w13 (Obj.cells (Array.mk [Value.string (ByteArray.mk (Array.mk [])), Value.slice none 0 0, Value.int IntKind.i64 0]) 30) →
         ∃ w15 : World, (Sem.run Tryd.prog (storeVar 30 (Addr.mk (Array.size (World.heap w13)) 0 none) (Value.agg (Array.mk [Value.string x1, Value.slice none 0 0, Value.int IntKind.i64 0]))) w14 = Result.ok PUnit.unit w15 ∧
          ∃ I16 : Sl → World → Prop, (((((!x2) = true →
              (((0 : Int) ≤ (0 : Int) ∧
                0 < (↑x0n : Int)) ∧
               ∃ a17 : Addr, (x0a = some a17 ∧
                ∃ n18 : Int, (World.cell? w15 (Addr.add a17 (Int.toNat 0 * 3)) = some (Value.int IntKind.i64 n18) ∧
                 ((((n18 != 0) = true →
                    ∃ w19 : World, (Sem.run Tryd.prog (storeVar 30 (Addr.mk (Array.size (World.heap w)) 0 none) (Value.agg (Array.mk [Value.string (ByteArray.mk (Array.mk [])), Value.slice none 0 0, Value.int IntKind.i64 0]))) w15 = Result.ok PUnit.unit w19 ∧
                     ∃ s20 : ByteArray, ∃ l21 : Sl, ∃ n22 : Int, (Sem.run Tryd.prog (loadVar 30 (Addr.mk (Array.size (World.heap w)) 0 none)) w19 = Result.ok (Value.agg (Array.mk [Value.string s20, Value.slice l21.1 l21.2 l21.3, Value.int IntKind.i64 n22])) w19 ∧
                      R (Value.tuple (Array.mk [Value.agg (Array.mk [Value.string s20, Value.slice l21.1 l21.2 l21.3, Value.int IntKind.i64 n22]), Value.string (ByteArray.mk (Array.mk [])), Value.bool false])) w19)))) ∧
                  ((n18 != 0) = false →
                    (((0 : Int) ≤ (0 : Int) ∧
                      0 < (↑x0n : Int)) ∧
                     ∃ a23 : Addr, (x0a = some a23 ∧
                      ∃ s24 : ByteArray, (World.cell? w15 (Addr.add (Addr.add a23 (Int.toNat 0 * 3)) 1) = some (Value.string s24) ∧
                       ((((ByteArray.toList s24 == ByteArray.toList (ByteArray.mk (Array.mk []))) = true →
                          ∃ w25 : World, (Sem.run Tryd.prog (storeVar 30 (Addr.mk (Array.size (World.heap w)) 0 none) (Value.agg (Array.mk [Value.string (ByteArray.mk (Array.mk [])), Value.slice none 0 0, Value.int IntKind.i64 0]))) w15 = Result.ok PUnit.unit w25 ∧
                           ∃ s26 : ByteArray, ∃ l27 : Sl, ∃ n28 : Int, (Sem.run Tryd.prog (loadVar 30 (Addr.mk (Array.size (World.heap w)) 0 none)) w25 = Result.ok (Value.agg (Array.mk [Value.string s26, Value.slice l27.1 l27.2 l27.3, Value.int IntKind.i64 n28])) w25 ∧
                            R (Value.tuple (Array.mk [Value.agg (Array.mk [Value.string s26, Value.slice l27.1 l27.2 l27.3, Value.int IntKind.i64 n28]), Value.string (ByteArray.mk (Array.mk [])), Value.bool false])) w25)))) ∧
                        ((ByteArray.toList s24 == ByteArray.toList (ByteArray.mk (Array.mk []))) = false →
                          ∃ I29 : World → Prop, ((((((↑x0n : Int) == 2) = true →
                              (((0 : Int) ≤ (1 : Int) ∧
                                1 < (↑x0n : Int)) ∧
                               ∃ a30 : Addr, (x0a = some a30 ∧
                                ∃ n31 : Int, (World.cell? w15 (Addr.add a30 (Int.toNat 1 * 3)) = some (Value.int IntKind.i64 n31) ∧
                                 ((((n31 == 1) = true →
                                    ∀ w32 : World,
                                    (Drew w15 w32 →
                                      ∃ I33 : World → Prop, (I33 w32 ∧
                                       (((0 : Int) ≤ (0 : Int) ∧
                                         0 < (↑x0n : Int)) ∧
                                        ∃ a34 : Addr, (x0a = some a34 ∧
                                         ∃ s35 : ByteArray, ((∀ w36 : World,
                                          (I33 w36 →
                                            World.cell? w36 (Addr.add (Addr.add a34 (Int.toNat 0 * 3)) 1) = some (Value.string s35))) ∧
                                          ∃ w37 : World, (Sem.run Tryd.prog (storeVar 30 (Addr.mk (Array.size (World.heap w)) 0 none) (Value.agg (Array.mk [Value.string (ByteArray.mk (Array.mk [])), Value.slice none 0 0, Value.int IntKind.i64 0]))) w32 = Result.ok PUnit.unit w37 ∧
                                           (I33 w37 ∧
                                            ∃ s38 : ByteArray, ∃ l39 : Sl, ∃ n40 : Int, (Sem.run Tryd.prog (loadVar 30 (Addr.mk (Array.size (World.heap w)) 0 none)) w37 = Result.ok (Value.agg (Array.mk [Value.string s38, Value.slice l39.1 l39.2 l39.3, Value.int IntKind.i64 n40])) w37 ∧
                                             R (Value.tuple (Array.mk [Value.agg (Array.mk [Value.string s38, Value.slice l39.1 l39.2 l39.3, Value.int IntKind.i64 n40]), Value.string s35, Value.bool true])) w37)))))))))) ∧
                                  ((n31 == 1) = false →
                                    I29 w15))))))) ∧
                            (((↑x0n : Int) == 2) = false →
                              I29 w15)) ∧
                           ∀ w41 : World,
                           (I29 w41 →
                             ∀ w42 : World,
                             (Drew w41 w42 →
                               ∃ I43 : World → Prop, (I43 w42 ∧
                                (((0 : Int) ≤ (0 : Int) ∧
                                  0 < (↑x0n : Int)) ∧
                                 ∃ a44 : Addr, (x0a = some a44 ∧
                                  ∃ s45 : ByteArray, ((∀ w46 : World,
                                   (I43 w46 →
                                     World.cell? w46 (Addr.add (Addr.add a44 (Int.toNat 0 * 3)) 1) = some (Value.string s45))) ∧
                                   (((0 : Int) ≤ (1 : Int) ∧
                                     1 ≤ (↑x0n : Int)) ∧
                                    (Wr w42 (Addr.mk (Array.size (World.heap w13)) 0 none) ∧
                                     ∀ w47 : World,
                                     (w47 = World.setCell w42 (Addr.mk (Array.size (World.heap w13)) 0 none) (Value.string s45) →
                                       (I43 w47 ∧
                                        I16 (Sl.mk (subA x0a x0c (Int.toNat 1) 3) (x0n - Int.toNat 1) (x0c - Int.toNat 1)) w47))))))))))))))))))))))) ∧
            ((!x2) = false →
              I16 (Sl.mk x0a x0n x0c) w15)) ∧
           ∀ l48 : Sl,
           ∀ w49 : World,
           (I16 l48 w49 →
             ∃ I50 : Int → World → Prop, ∃ I51 : Int → World → Nat, (I50 0 w49 ∧
              ∀ n52 : Int,
              ∀ w53 : World,
              (I50 n52 w53 →
                (((decide (n52 < (↑l48.2 : Int)) = true →
                   ((0 ≤ n52 ∧
                     n52 < (↑l48.2 : Int)) ∧
                    ∃ a54 : Addr, (l48.1 = some a54 ∧
                     ∃ n55 : Int, ∃ s56 : ByteArray, ∃ n57 : Int, (Sem.run Tryd.prog (loadVar 57 (Addr.add a54 (Int.toNat n52 * 3))) w53 = Result.ok (Value.agg (Array.mk [Value.int IntKind.i64 n55, Value.string s56, Value.int IntKind.i64 n57])) w53 ∧
                      ∀ w58 : World,
                      (w58 = World.alloc w53 (Obj.cells (Array.mk [Value.int IntKind.i64 0, Value.string (ByteArray.mk (Array.mk [])), Value.int IntKind.i64 0]) 57) →
                        ∃ w59 : World, (Sem.run Tryd.prog (storeVar 57 (Addr.mk (Array.size (World.heap w53)) 0 none) (Value.agg (Array.mk [Value.int IntKind.i64 n55, Value.string s56, Value.int IntKind.i64 n57]))) w58 = Result.ok PUnit.unit w59 ∧
                         ∃ n60 : Int, (World.cell? w59 (Addr.mk (Array.size (World.heap w53)) 0 none) = some (Value.int IntKind.i64 n60) ∧
                          ((((n60 != 0) = true →
                             ∃ w61 : World, (Sem.run Tryd.prog (storeVar 30 (Addr.mk (Array.size (World.heap w)) 0 none) (Value.agg (Array.mk [Value.string (ByteArray.mk (Array.mk [])), Value.slice none 0 0, Value.int IntKind.i64 0]))) w59 = Result.ok PUnit.unit w61 ∧
                              ∃ s62 : ByteArray, ∃ l63 : Sl, ∃ n64 : Int, (Sem.run Tryd.prog (loadVar 30 (Addr.mk (Array.size (World.heap w)) 0 none)) w61 = Result.ok (Value.agg (Array.mk [Value.string s62, Value.slice l63.1 l63.2 l63.3, Value.int IntKind.i64 n64])) w61 ∧
                               R (Value.tuple (Array.mk [Value.agg (Array.mk [Value.string s62, Value.slice l63.1 l63.2 l63.3, Value.int IntKind.i64 n64]), Value.string (ByteArray.mk (Array.mk [])), Value.bool false])) w61)))) ∧
                           ((n60 != 0) = false →
                             ∃ l65 : Sl, (World.cell? w59 (Addr.mk (Array.size (World.heap w13)) 1 none) = some (Value.slice l65.1 l65.2 l65.3) ∧
                              ∃ s66 : ByteArray, (World.cell? w59 (Addr.mk (Array.size (World.heap w53)) 1 none) = some (Value.string s66) ∧
                               ∀ w67 : World,
                               (w67 = World.alloc w59 (Obj.cells (Array.mk [Value.string s66]) 9) →
                                 ∃ w68 : World, ∃ l69 : Sl, (Sem.run Tryd.prog (Builtin.append_ (Array.mk [28, 28]) 28 (Array.mk [Value.slice l65.1 l65.2 l65.3, Value.slice (some (Addr.mk (Array.size (World.heap w59)) 0 none)) 1 1])) w67 = Result.ok (Value.slice l69.1 l69.2 l69.3) w68 ∧
                                  (Wr w68 (Addr.mk (Array.size (World.heap w13)) 1 none) ∧
                                   ∀ w70 : World,
                                   (w70 = World.setCell w68 (Addr.mk (Array.size (World.heap w13)) 1 none) (Value.slice l69.1 l69.2 l69.3) →
                                     (I50 (IntKind.wrap IntKind.i64 (n52 + 1)) w70 ∧
                                      I51 (IntKind.wrap IntKind.i64 (n52 + 1)) w70 < I51 n52 w53))))))))))))))))) ∧
                 (decide (n52 < (↑l48.2 : Int)) = false →
                   ∃ s71 : ByteArray, ∃ l72 : Sl, ∃ n73 : Int, (Sem.run Tryd.prog (loadVar 30 (Addr.mk (Array.size (World.heap w13)) 0 none)) w53 = Result.ok (Value.agg (Array.mk [Value.string s71, Value.slice l72.1 l72.2 l72.3, Value.int IntKind.i64 n73])) w53 ∧
                    ∃ w74 : World, (Sem.run Tryd.prog (storeVar 30 (Addr.mk (Array.size (World.heap w)) 0 none) (Value.agg (Array.mk [Value.string s71, Value.slice l72.1 l72.2 l72.3, Value.int IntKind.i64 n73]))) w53 = Result.ok PUnit.unit w74 ∧
                     ∃ s75 : ByteArray, ∃ l76 : Sl, ∃ n77 : Int, (Sem.run Tryd.prog (loadVar 30 (Addr.mk (Array.size (World.heap w)) 0 none)) w74 = Result.ok (Value.agg (Array.mk [Value.string s75, Value.slice l76.1 l76.2 l76.3, Value.int IntKind.i64 n77])) w74 ∧
                      R (Value.tuple (Array.mk [Value.agg (Array.mk [Value.string s75, Value.slice l76.1 l76.2 l76.3, Value.int IntKind.i64 n77]), Value.string (ByteArray.mk (Array.mk [])), Value.bool true])) w74))))))))))))))
theorem vc_modfile_line_ok {x0a : Option Addr} {x0n : Nat} {x0c : Nat} {x1 : ByteArray} {x2 : Bool} {w : World} {R : Value → World → Prop} {R' : Ending → World → Prop} (h : vc_modfile_line x0a x0n x0c x1 x2 w R) (hR : ∀ v w', R v w' → R' (.returned v) w') :
    Calls Tryd.prog 28 #[.slice x0a x0n x0c, .string x1, .bool x2] w R' :=
  calls_of_body (vs := [(.slice x0a x0n x0c, false), (.string x1, false), (.bool x2, false)]) (ty := ty) (ann := ⟨[(4, []), (10, []), (11, [(0, .slice)])], [(12, [(72, .int .i64)])], [(9, .held [(0, true), (1, true), (2, true), (3, true), (4, true), (5, false), (6, true), (7, true)]), (10, .held [(0, true), (1, true), (2, true), (3, true), (4, true), (5, true), (6, true), (7, false), (8, true)])], []⟩) (c := Tryd.f28.body.getD .skip) (by kernel_rfl) Tryd.func28 (by kernel_rfl) (by kernel_rfl) (Eq.mp (by kernel_rfl) h) hR
/-- modfile.Parse -/
def vc_modfile_Parse (x0 : ByteArray) (w : World) (R : Value → World → Prop) : Prop :=
  (((decide ((↑(ByteArray.size x0) : Int) > 65536) = true →
     R (Value.tuple (Array.mk [Value.slice none 0 0, Value.int IntKind.i64 0, Value.int IntKind.i64 2])) w)) ∧
   (decide ((↑(ByteArray.size x0) : Int) > 65536) = false →
     ∀ w1 : World,
     (w1 = World.alloc w (Obj.cells (Array.mk [Value.string x0, Value.int IntKind.i64 0, Value.int IntKind.i64 1]) 54) →
       ∃ I2 : Sl → Sl → ByteArray → Bool → World → Prop, ∃ I3 : Sl → Sl → ByteArray → Bool → World → Nat, (I2 (Sl.mk none 0 0) (Sl.mk none 0 0) (ByteArray.mk (Array.mk [])) false w1 ∧
        ∀ l4 : Sl,
        ∀ l5 : Sl,
        ∀ s6 : ByteArray,
        ∀ b7 : Bool,
        ∀ w8 : World,
        (I2 l4 l5 s6 b7 w8 →
          Calls Tryd.prog (27 : Nat) (Array.mk [Value.pointer (some (Addr.mk (Array.size (World.heap w)) 0 none))]) (w8) (fun e9 w10 =>
            ∃ n11 : Int, ∃ s12 : ByteArray, ∃ n13 : Int, ∃ b14 : Bool, (e9 = Ending.returned (Value.tuple (Array.mk [Value.agg (Array.mk [Value.int IntKind.i64 n11, Value.string s12, Value.int IntKind.i64 n13]), Value.bool b14])) ∧
             ∀ w15 : World,
             (w15 = World.alloc w10 (Obj.cells (Array.mk [Value.int IntKind.i64 0, Value.string (ByteArray.mk (Array.mk [])), Value.int IntKind.i64 0]) 57) →
               ∃ w16 : World, (Sem.run Tryd.prog (storeVar 57 (Addr.mk (Array.size (World.heap w10)) 0 none) (Value.agg (Array.mk [Value.int IntKind.i64 n11, Value.string s12, Value.int IntKind.i64 n13]))) w15 = Result.ok PUnit.unit w16 ∧
                ((((!b14) = true →
                   ∃ n17 : Int, (World.cell? w16 (Addr.mk (Array.size (World.heap w10)) 2 none) = some (Value.int IntKind.i64 n17) ∧
                    ∀ w18 : World,
                    (Drew w16 w18 →
                      R (Value.tuple (Array.mk [Value.slice none 0 0, Value.int IntKind.i64 n17, Value.int IntKind.i64 3])) w18)))) ∧
                 ((!b14) = false →
                   ∃ I19 : Sl → World → Prop, ((∃ n20 : Int, (World.cell? w16 (Addr.mk (Array.size (World.heap w10)) 0 none) = some (Value.int IntKind.i64 n20) ∧
                     ((((n20 != 3) = true →
                        ∃ n21 : Int, (World.cell? w16 (Addr.mk (Array.size (World.heap w10)) 0 none) = some (Value.int IntKind.i64 n21) ∧
                         ((((n21 != 4) = true →
                            ∃ n22 : Int, ∃ s23 : ByteArray, ∃ n24 : Int, (Sem.run Tryd.prog (loadVar 57 (Addr.mk (Array.size (World.heap w10)) 0 none)) w16 = Result.ok (Value.agg (Array.mk [Value.int IntKind.i64 n22, Value.string s23, Value.int IntKind.i64 n24])) w16 ∧
                             ∀ w25 : World,
                             (w25 = World.alloc w16 (Obj.cells (Array.mk [Value.int IntKind.i64 n22, Value.string s23, Value.int IntKind.i64 n24]) 57) →
                               ∃ w26 : World, ∃ l27 : Sl, (Sem.run Tryd.prog (Builtin.append_ (Array.mk [55, 55]) 55 (Array.mk [Value.slice l5.1 l5.2 l5.3, Value.slice (some (Addr.mk (Array.size (World.heap w16)) 0 none)) 1 1])) w25 = Result.ok (Value.slice l27.1 l27.2 l27.3) w26 ∧
                                (I2 (Sl.mk l4.1 l4.2 l4.3) (Sl.mk l27.1 l27.2 l27.3) s6 b7 w26 ∧
                                 I3 (Sl.mk l4.1 l4.2 l4.3) (Sl.mk l27.1 l27.2 l27.3) s6 b7 w26 < I3 l4 l5 s6 b7 w8)))))) ∧
                          ((n21 != 4) = false →
                            I19 (Sl.mk l5.1 l5.2 l5.3) w16))))) ∧
                      ((n20 != 3) = false →
                        I19 (Sl.mk l5.1 l5.2 l5.3) w16)))) ∧
                    ∀ l28 : Sl,
                    ∀ w29 : World,
                    (I19 l28 w29 →
                      Calls Tryd.prog (28 : Nat) (Array.mk [Value.slice l28.1 l28.2 l28.3, Value.string s6, Value.bool b7]) (w29) (fun e30 w31 =>
                        ∃ s32 : ByteArray, ∃ l33 : Sl, ∃ n34 : Int, ∃ s35 : ByteArray, ∃ b36 : Bool, (e30 = Ending.returned (Value.tuple (Array.mk [Value.agg (Array.mk [Value.string s32, Value.slice l33.1 l33.2 l33.3, Value.int IntKind.i64 n34]), Value.string s35, Value.bool b36])) ∧
                         ∀ w37 : World,
                         (w37 = World.alloc w31 (Obj.cells (Array.mk [Value.string (ByteArray.mk (Array.mk [])), Value.slice none 0 0, Value.int IntKind.i64 0]) 30) →
                           ∃ w38 : World, (Sem.run Tryd.prog (storeVar 30 (Addr.mk (Array.size (World.heap w31)) 0 none) (Value.agg (Array.mk [Value.string s32, Value.slice l33.1 l33.2 l33.3, Value.int IntKind.i64 n34]))) w37 = Result.ok PUnit.unit w38 ∧
                            ((((!b36) = true →
                               ∃ n39 : Int, (World.cell? w38 (Addr.mk (Array.size (World.heap w10)) 2 none) = some (Value.int IntKind.i64 n39) ∧
                                ∀ w40 : World,
                                (Drew w38 w40 →
                                  R (Value.tuple (Array.mk [Value.slice none 0 0, Value.int IntKind.i64 n39, Value.int IntKind.i64 3])) w40)))) ∧
                             ((!b36) = false →
                               ∃ I41 : Bool → World → Prop, ((((b7 = true →
                                   (((((↑l28.2 : Int) == 1) = true →
                                      (((0 : Int) ≤ (0 : Int) ∧
                                        0 < (↑l28.2 : Int)) ∧
                                       ∃ a42 : Addr, (l28.1 = some a42 ∧
                                        ∃ n43 : Int, (World.cell? w38 (Addr.add a42 (Int.toNat 0 * 3)) = some (Value.int IntKind.i64 n43) ∧
                                         I41 (n43 == 2) w38))))) ∧
                                    (((↑l28.2 : Int) == 1) = false →
                                      I41 false w38)))) ∧
                                 (b7 = false →
                                   I41 false w38)) ∧
                                ∀ b44 : Bool,
                                ∀ w45 : World,
                                (I41 b44 w45 →
                                  (((b44 = true →
                                     ∃ n46 : Int, (World.cell? w45 (Addr.mk (Array.size (World.heap w10)) 0 none) = some (Value.int IntKind.i64 n46) ∧
                                      ((((n46 == 4) = true →
                                         R (Value.tuple (Array.mk [Value.slice l4.1 l4.2 l4.3, Value.int IntKind.i64 0, Value.int IntKind.i64 0])) w45)) ∧
                                       ((n46 == 4) = false →
                                         (I2 (Sl.mk l4.1 l4.2 l4.3) (Sl.mk none 0 0) s6 false w45 ∧
                                          I3 (Sl.mk l4.1 l4.2 l4.3) (Sl.mk none 0 0) s6 false w45 < I3 l4 l5 s6 b7 w8)))))) ∧
                                   (b44 = false →
                                     ((((!ByteArray.toList s35 == ByteArray.toList (ByteArray.mk (Array.mk []))) = true →
                                        ∃ n47 : Int, (World.cell? w45 (Addr.mk (Array.size (World.heap w10)) 0 none) = some (Value.int IntKind.i64 n47) ∧
                                         ((((n47 == 4) = true →
                                            ∃ n48 : Int, (World.cell? w45 (Addr.mk (Array.size (World.heap w10)) 2 none) = some (Value.int IntKind.i64 n48) ∧
                                             ∀ w49 : World,
                                             (Drew w45 w49 →
                                               R (Value.tuple (Array.mk [Value.slice none 0 0, Value.int IntKind.i64 n48, Value.int IntKind.i64 3])) w49)))) ∧
                                          ((n47 == 4) = false →
                                            (I2 (Sl.mk l4.1 l4.2 l4.3) (Sl.mk none 0 0) s35 true w45 ∧
                                             I3 (Sl.mk l4.1 l4.2 l4.3) (Sl.mk none 0 0) s35 true w45 < I3 l4 l5 s6 b7 w8)))))) ∧
                                      ((!ByteArray.toList s35 == ByteArray.toList (ByteArray.mk (Array.mk []))) = false →
                                        (((decide ((↑l28.2 : Int) > 0) = true →
                                           ∃ n50 : Int, (World.cell? w45 (Addr.mk (Array.size (World.heap w10)) 2 none) = some (Value.int IntKind.i64 n50) ∧
                                            (Wr w45 (Addr.mk (Array.size (World.heap w31)) 2 none) ∧
                                             ∀ w51 : World,
                                             (w51 = World.setCell w45 (Addr.mk (Array.size (World.heap w31)) 2 none) (Value.int IntKind.i64 n50) →
                                               ∃ s52 : ByteArray, ∃ l53 : Sl, ∃ n54 : Int, (Sem.run Tryd.prog (loadVar 30 (Addr.mk (Array.size (World.heap w31)) 0 none)) w51 = Result.ok (Value.agg (Array.mk [Value.string s52, Value.slice l53.1 l53.2 l53.3, Value.int IntKind.i64 n54])) w51 ∧
                                                ∀ w55 : World,
                                                (w55 = World.alloc w51 (Obj.cells (Array.mk [Value.string s52, Value.slice l53.1 l53.2 l53.3, Value.int IntKind.i64 n54]) 30) →
                                                  ∃ w56 : World, ∃ l57 : Sl, (Sem.run Tryd.prog (Builtin.append_ (Array.mk [23, 23]) 23 (Array.mk [Value.slice l4.1 l4.2 l4.3, Value.slice (some (Addr.mk (Array.size (World.heap w51)) 0 none)) 1 1])) w55 = Result.ok (Value.slice l57.1 l57.2 l57.3) w56 ∧
                                                   ∃ n58 : Int, (World.cell? w56 (Addr.mk (Array.size (World.heap w10)) 0 none) = some (Value.int IntKind.i64 n58) ∧
                                                    ((((n58 == 4) = true →
                                                       (((b7 = true →
                                                          ∃ n59 : Int, (World.cell? w56 (Addr.mk (Array.size (World.heap w10)) 2 none) = some (Value.int IntKind.i64 n59) ∧
                                                           ∀ w60 : World,
                                                           (Drew w56 w60 →
                                                             R (Value.tuple (Array.mk [Value.slice none 0 0, Value.int IntKind.i64 n59, Value.int IntKind.i64 3])) w60)))) ∧
                                                        (b7 = false →
                                                          R (Value.tuple (Array.mk [Value.slice l57.1 l57.2 l57.3, Value.int IntKind.i64 0, Value.int IntKind.i64 0])) w56)))) ∧
                                                     ((n58 == 4) = false →
                                                       (I2 (Sl.mk l57.1 l57.2 l57.3) (Sl.mk none 0 0) s6 b7 w56 ∧
                                                        I3 (Sl.mk l57.1 l57.2 l57.3) (Sl.mk none 0 0) s6 b7 w56 < I3 l4 l5 s6 b7 w8)))))))))))) ∧
                                         (decide ((↑l28.2 : Int) > 0) = false →
                                           ∃ n61 : Int, (World.cell? w45 (Addr.mk (Array.size (World.heap w10)) 0 none) = some (Value.int IntKind.i64 n61) ∧
                                            ((((n61 == 4) = true →
                                               (((b7 = true →
                                                  ∃ n62 : Int, (World.cell? w45 (Addr.mk (Array.size (World.heap w10)) 2 none) = some (Value.int IntKind.i64 n62) ∧
                                                   ∀ w63 : World,
                                                   (Drew w45 w63 →
                                                     R (Value.tuple (Array.mk [Value.slice none 0 0, Value.int IntKind.i64 n62, Value.int IntKind.i64 3])) w63)))) ∧
                                                (b7 = false →
                                                  R (Value.tuple (Array.mk [Value.slice l4.1 l4.2 l4.3, Value.int IntKind.i64 0, Value.int IntKind.i64 0])) w45)))) ∧
                                             ((n61 == 4) = false →
                                               (I2 (Sl.mk l4.1 l4.2 l4.3) (Sl.mk none 0 0) s6 b7 w45 ∧
                                                I3 (Sl.mk l4.1 l4.2 l4.3) (Sl.mk none 0 0) s6 b7 w45 < I3 l4 l5 s6 b7 w8)))))))))))))))))))))))))))))))
theorem vc_modfile_Parse_ok {x0 : ByteArray} {w : World} {R : Value → World → Prop} {R' : Ending → World → Prop} (h : vc_modfile_Parse x0 w R) (hR : ∀ v w', R v w' → R' (.returned v) w') :
    Calls Tryd.prog 10 #[.string x0] w R' :=
  calls_of_body (vs := [(.string x0, false)]) (ty := ty) (ann := ⟨[(12, [(6, .slice)]), (16, [(64, .bool)])], [(7, [(2, .slice), (6, .slice), (7, .str), (8, .bool)])], [(9, .quiet), (14, .quiet), (25, .quiet)], []⟩) (c := Tryd.f10.body.getD .skip) (by kernel_rfl) Tryd.func10 (by kernel_rfl) (by kernel_rfl) (Eq.mp (by kernel_rfl) h) hR
end Go.Proofs.YtmhlmdnhpfhoeaaDoor
