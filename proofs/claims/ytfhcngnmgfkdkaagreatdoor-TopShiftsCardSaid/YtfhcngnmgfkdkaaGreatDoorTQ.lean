/- double() reckoned by the symbolic machine: five pieces, each by the kernel. -/
import Derived.Test.YtfhcngnmgfkdkaaGreatDoorTG
import Derived.Test.YtfhcngnmgfkdkaaGreatDoorProg
import Derived.KernelRfl
namespace Go.Proofs.YtfhcngnmgfkdkaaGreatDoor
namespace Sy
set_option maxRecDepth 100000
noncomputable def shp : List SV := [.st [], .bo false, .bo false, .bo false, .it .i64 0, .it .i64 0, .st [110, 117, 108, 108], .bo false, .bo false, .bo false, .it .i64 0,
  .it .i64 1, .st [98, 111, 111, 108], .bo true, .bo false, .bo false, .it .i64 0, .it .i64 1, .st [105, 110, 116], .bo true, .bo false, .bo false, .it .i64 0, .it .i64 1, .st [115,
  116, 114], .bo false, .bo true, .bo false, .it .i64 0, .it .i64 1, .st [108, 111, 97, 100], .bo true, .bo false, .bo false, .it .i64 0, .it .i64 1, .st [115, 116, 111, 114, 101],
  .bo true, .bo false, .bo false, .it .i64 1, .it .i64 0, .st [112, 111, 112], .bo false, .bo false, .bo false, .it .i64 1, .it .i64 0, .st [117, 110, 97, 114, 121], .bo false,
  .bo true, .bo false, .it .i64 1, .it .i64 1, .st [98, 105, 110, 97, 114, 121], .bo false, .bo true, .bo false, .it .i64 2, .it .i64 1, .st [105, 110, 100, 101, 120], .bo false,
  .bo false, .bo false, .it .i64 2, .it .i64 1, .st [108, 105, 115, 116], .bo true, .bo false, .bo false, .it .i64 (-1), .it .i64 1, .st [109, 97, 112], .bo true, .bo false,
  .bo true, .it .i64 (-1), .it .i64 1, .st [106, 117, 109, 112], .bo true, .bo false, .bo false, .it .i64 0, .it .i64 0, .st [102, 97, 108, 115, 101], .bo true, .bo false,
  .bo false, .it .i64 1, .it .i64 0, .st [116, 101, 115, 116], .bo false, .bo false, .bo false, .it .i64 1, .it .i64 1, .st [100, 117, 112], .bo false, .bo false, .bo false,
  .it .i64 1, .it .i64 2, .st [99, 97, 108, 108], .bo true, .bo false, .bo false, .it .i64 (-1), .it .i64 1, .st [98, 117, 105, 108, 116], .bo true, .bo true, .bo false,
  .it .i64 (-1), .it .i64 1, .st [104, 111, 115, 116], .bo true, .bo true, .bo false, .it .i64 (-1), .it .i64 1, .st [114, 101, 116, 117, 114, 110], .bo false, .bo false, .bo false,
  .it .i64 1, .it .i64 0]
noncomputable def A0 : SA := ⟨(.nd .lf (some (.bo false)) .lf), 56, []⟩
noncomputable def A1 : SA := ⟨(.nd (.nd (.nd .lf (some (.it .i64 0)) (.nd .lf (some (.it .i64 0)) .lf)) (some (.pt 228 0)) (.nd (.nd .lf (some (.tu [.ag [.sl 200 0 5 (.of 200 0),
  .sl 202 0 1 (.of 202 0)], .it .i64 0, .it .i64 0])) .lf) none .lf)) (some (.bo false)) (.nd (.nd (.nd .lf (some (.tu [.ag [.sl 200 0 5 (.of 200 0), .sl 202 0 1 (.of 202 0)],
  .it .i64 0, .it .i64 0])) .lf) none (.nd .lf (some (.it .i64 0)) .lf)) (some (.it .i64 0)) (.nd (.nd .lf (some (.ag [.sl 200 0 5 (.of 200 0), .sl 202 0 1 (.of 202 0)])) .lf)
  none .lf))), 56, []⟩
noncomputable def S1 : SH := ⟨(.nd (.nd (.nd (.nd (.nd (.nd (.nd (.nd .lf (some (.c false [.it .i64 0, .st [], .it .i64 0, .it .i64 0] 0)) .lf) (some (.dead))
  (.nd .lf (some (.c false [.it .i64 17, .st [], .it .i64 0, .s0, .sl 189 0 1 (.lit 1)] 0)) .lf)) (some (.c false [.it .i64 5, .st [40], .it .i64 0, .it .i64 9] 0))
  (.nd (.nd .lf (some (.c false [.it .i64 1, .st [101], .it .i64 0, .it .i64 26] 0)) .lf) (some (.c false [.it .i64 0, .st [], .it .i64 0, .it .i64 0] 0))
  (.nd .lf (some (.c false [.it .i64 5, .st [101], .it .i64 0, .s0, .s0] 0)) .lf))) none (.nd (.nd (.nd .lf (some (.c false [.it .i64 0, .st [], .it .i64 0, .it .i64 0] 0)) .lf)
  (some (.c false [.sl 78 0 12 (.of 78 0), .it .i64 12, .it .i64 30, .sl 200 0 5 (.of 200 0), .sl 202 0 1 (.of 202 0)] 0)) (.nd .lf (some (.c false [.it .i64 19, .st [], .it .i64 0,
  .s0, .sl 194 0 1 (.of 194 0)] 0)) .lf)) (some (.c false [.it .i64 5, .st [123], .it .i64 0, .it .i64 13] 0)) (.nd (.nd .lf (some (.dead)) .lf) (some (.c false [.it .i64 0, .st [],
  .it .i64 0, .it .i64 0] 0)) .lf))) none (.nd (.nd (.nd (.nd .lf (some (.c false [.st [40]] 0)) .lf) (some (.c false [.it .i64 5, .st [59], .it .i64 0, .it .i64 27] 0))
  (.nd .lf (some (.c false [.it .i64 19, .st [], .it .i64 0, .s0, .sl 194 0 1 (.of 194 0)] 0)) .lf)) (some (.c false [.it .i64 5, .st [41], .it .i64 0, .it .i64 0] 0))
  (.nd (.nd .lf (some (.c false [.st [91]] 0)) .lf) (some (.c false [.it .i64 5, .st [41], .it .i64 0, .it .i64 11] 0)) .lf)) (some (.dead))
  (.nd (.nd (.nd .lf (some (.c false [.it .i64 0, .st [], .it .i64 0, .it .i64 0] 0)) .lf) (some (.c false [.it .i64 1, .st [109, 97, 105, 110], .it .i64 0, .it .i64 5] 0))
  (.nd .lf (some (.c false [.it .i64 9, .st [43], .it .i64 0, .s0, .sl 172 0 2 (.lit 2)] 0)) .lf)) (some (.c false [.it .i64 0, .st [], .it .i64 0, .it .i64 0] 0))
  (.nd (.nd .lf (some (.c false [.it .i64 0, .st [], .it .i64 0, .it .i64 0] 0)) .lf) (some (.c false [.it .i64 0, .st [], .it .i64 0, .it .i64 0] 0)) .lf))))
  none (.nd (.nd (.nd (.nd (.nd .lf (some (.c false [.it .i64 0, .st [], .it .i64 0, .it .i64 0] 0)) .lf) (some (.c false [.it .i64 1, .st [101], .it .i64 0, .it .i64 26] 0))
  (.nd .lf (some (.c false [.st [125]] 0)) .lf)) (some (.c false [.it .i64 0, .st [], .it .i64 0, .it .i64 0] 0)) (.nd (.nd .lf (some (.c false [.it .i64 0, .st [], .it .i64 0,
  .it .i64 0] 0)) .lf) (some (.c false [.st [101]] 0)) (.nd .lf (some (.c false [.st [109, 97, 105, 110], .sl 100 0 1 (.of 100 0), .it .i64 4] 0)) .lf)))
  (some (.c false [.it .i64 2, .st [102, 117, 110, 99], .it .i64 0, .it .i64 0] 0)) (.nd (.nd (.nd .lf (some (.c false [.it .i64 5, .st [43], .it .i64 0, .it .i64 24] 0)) .lf)
  (some (.c false [.it .i64 2, .st [102, 117, 110, 99], .it .i64 0, .it .i64 0] 0)) (.nd .lf (some (.c false [.it .i64 17, .st [], .it .i64 0, .s0, .sl 189 0 1 (.lit 1)] 0)) .lf))
  (some (.c false [.it .i64 2, .st [114, 101, 116, 117, 114, 110], .it .i64 0, .it .i64 15] 0)) (.nd (.nd .lf (some (.c false [.it .i64 0, .st [], .it .i64 0, .it .i64 0] 0)) .lf)
  (some (.c false [.it .i64 2, .st [114, 101, 116, 117, 114, 110], .it .i64 0, .it .i64 15] 0)) .lf))) none (.nd (.nd (.nd (.nd .lf (some (.c false [.it .i64 5, .st [101],
  .it .i64 0, .s0, .s0] 0)) .lf) (some (.c false [.it .i64 0, .st [], .it .i64 0, .it .i64 0] 0)) (.nd .lf (some (.c false [.sl 200 0 5 (.of 200 0), .sl 202 0 1 (.of 202 0)] 0))
  .lf)) (some (.dead)) (.nd (.nd .lf (some (.c false [.it .i64 0, .st [], .it .i64 0, .it .i64 0] 0)) .lf) (some (.c false [.it .i64 5, .st [123], .it .i64 0, .it .i64 13] 0)) .lf))
  (some (.c false [.it .i64 1, .st [109, 97, 105, 110], .it .i64 0, .it .i64 5] 0)) (.nd (.nd (.nd .lf (some (.c false [.it .i64 0, .st [], .it .i64 0, .it .i64 0] 0)) .lf)
  (some (.c false [.it .i64 5, .st [40], .it .i64 0, .it .i64 9] 0)) (.nd .lf (some (.c false [.it .i64 5, .st [101], .it .i64 0, .s0, .s0] 0)) .lf)) (some (.c false [.it .i64 5,
  .st [43], .it .i64 0, .it .i64 0] 0)) (.nd (.nd .lf (some (.c false [.it .i64 5, .st [59], .it .i64 0, .it .i64 27] 0)) .lf) (some (.c false [.st [45]] 0)) .lf)))))
  none (.nd (.nd (.nd (.nd (.nd (.nd .lf (some (.c false [.it .i64 0, .st [], .it .i64 0, .it .i64 0] 0)) .lf) (some (.c false [.it .i64 0, .st [], .it .i64 0, .it .i64 0] 0))
  (.nd .lf (some (.c false [.it .i64 3] 0)) .lf)) (some (.dead)) (.nd (.nd .lf (some (.c false [.st [40]] 0)) .lf) (some (.c false [.it .i64 1, .st [101], .it .i64 0,
  .it .i64 10] 0)) (.nd .lf (some (.c false [.st [109, 97, 105, 110], .sl 100 0 1 (.of 100 0), .it .i64 4] 0)) .lf))) (some (.c false [.it .i64 0] 0))
  (.nd (.nd (.nd .lf (some (.c false [.it .i64 0, .st [], .it .i64 0, .it .i64 0] 0)) .lf) (some (.c false [.st [102, 117, 110, 99]] 0)) (.nd .lf (some (.c false [.it .i64 19,
  .st [], .it .i64 0, .s0, .sl 194 0 1 (.of 194 0)] 0)) .lf)) (some (.c false [.it .i64 2, .st [114, 101, 116, 117, 114, 110], .it .i64 0, .it .i64 0] 0))
  (.nd (.nd .lf (some (.c false [.it .i64 0, .st [], .it .i64 0, .it .i64 0] 0)) .lf) (some (.c false [.st [108, 101, 116], .st [105, 102], .st [119, 104, 105, 108, 101], .st [114,
  101, 116, 117, 114, 110]] 0)) .lf))) none (.nd (.nd (.nd (.nd .lf (some (.c false [.it .i64 0, .st [], .it .i64 0, .it .i64 0] 0)) .lf) (some (.dead))
  (.nd .lf (some (.c false [.st [109, 97, 105, 110], .sl 100 0 1 (.of 100 0), .it .i64 4] 0)) .lf)) (some (.c false [.it .i64 5, .st [41], .it .i64 0, .it .i64 11] 0))
  (.nd (.nd .lf (some (.c false [.it .i64 0, .st [], .it .i64 0, .it .i64 0] 0)) .lf) (some (.c false [.it .i64 5, .st [41], .it .i64 0, .it .i64 11] 0)) .lf))
  (some (.c false [.it .i64 0, .st [], .it .i64 0, .it .i64 0] 0)) (.nd (.nd (.nd .lf (some (.c false [.it .i64 0, .st [], .it .i64 0, .it .i64 0] 0)) .lf)
  (some (.c false [.st [40]] 0)) (.nd .lf (some (.c false [.it .i64 9, .st [43], .it .i64 0, .s0, .sl 172 0 2 (.lit 2)] 0)) .lf)) (some (.c false [.it .i64 1, .st [101], .it .i64 0,
  .it .i64 22] 0)) (.nd (.nd .lf (some (.c false [.st [59]] 0)) .lf) (some (.c false [.st [43], .st [45]] 0)) .lf)))) none (.nd (.nd (.nd (.nd (.nd .lf (some (.c false [.it .i64 1,
  .st [101], .it .i64 0, .it .i64 22] 0)) .lf) (some (.c false [.it .i64 5, .st [59], .it .i64 0, .it .i64 0] 0)) (.nd .lf (some (.c false [.it .i64 5, .st [125], .it .i64 0,
  .it .i64 29] 0)) .lf)) (some (.c false [.it .i64 1, .st [101], .it .i64 0, .it .i64 10] 0)) (.nd (.nd .lf (some (.c false [.it .i64 5, .st [101], .it .i64 0, .s0, .s0] 0)) .lf)
  (some (.c false [.st [44], .st [41]] 0)) .lf)) (some (.c false [.it .i64 2, .st [102, 117, 110, 99], .it .i64 0, .it .i64 0] 0)) (.nd (.nd (.nd .lf (some (.c false [.st [45]] 0))
  .lf) (some (.c false [.it .i64 1, .st [109, 97, 105, 110], .it .i64 0, .it .i64 5] 0)) (.nd .lf (some (.c false [.it .i64 17, .st [], .it .i64 0, .s0, .sl 189 0 1 (.lit 1)] 0))
  .lf)) (some (.dead)) (.nd (.nd .lf (some (.c false [.it .i64 0, .st [], .it .i64 0, .it .i64 0] 0)) .lf) (some (.c false [.st [97, 110, 100]] 0)) .lf)))
  none (.nd (.nd (.nd (.nd .lf (some (.c false [.st [91]] 0)) .lf) (some (.c false [.it .i64 5, .st [125], .it .i64 0, .it .i64 29] 0)) (.nd .lf (some (.c false [.st [109, 97, 105,
  110], .sl 100 0 1 (.of 100 0), .it .i64 4] 0)) .lf)) (some (.c false [.it .i64 0, .st [], .it .i64 0, .it .i64 0] 0)) (.nd (.nd .lf (some (.c false [.it .i64 9, .st [43],
  .it .i64 0, .s0, .sl 172 0 2 (.lit 2)] 0)) .lf) (some (.c false [.it .i64 5, .st [123], .it .i64 0, .it .i64 13] 0)) .lf)) (some (.c false [.it .i64 5, .st [40], .it .i64 0,
  .it .i64 0] 0)) (.nd (.nd (.nd .lf (some (.c false [.it .i64 0, .st [], .it .i64 0, .it .i64 0] 0)) .lf) (some (.c false [.st [41]] 0)) (.nd .lf (some (.c false [.it .i64 9,
  .st [43], .it .i64 0, .s0, .sl 172 0 2 (.lit 2)] 0)) .lf)) (some (.c false [.it .i64 5, .st [43], .it .i64 0, .it .i64 24] 0)) (.nd (.nd .lf (some (.c false [.it .i64 2] 0)) .lf)
  (some (.c false [.it .i64 0, .st [], .it .i64 0, .it .i64 0] 0)) .lf)))))) (some (.c true shp 0)) (.nd (.nd (.nd (.nd (.nd (.nd (.nd .lf (some (.c false [.it .i64 0, .st [],
  .it .i64 0, .it .i64 0] 0)) .lf) (some (.c false [.it .i64 1, .st [101], .it .i64 0, .it .i64 0] 0)) (.nd .lf (some (.dead)) .lf)) (some (.c false [.it .i64 5, .st [40],
  .it .i64 0, .it .i64 9] 0)) (.nd (.nd .lf (some (.c false [.it .i64 1, .st [101], .it .i64 0, .it .i64 26] 0)) .lf) (some (.c false [.it .i64 1, .st [101], .it .i64 0,
  .it .i64 10] 0)) (.nd .lf (some (.c false [.it .i64 5, .st [101], .it .i64 0, .s0, .s0] 0)) .lf))) (some (.c false [.sl 200 0 5 (.of 200 0), .sl 202 0 1 (.of 202 0)] 0))
  (.nd (.nd (.nd .lf (some (.c false [.it .i64 0, .st [], .it .i64 0, .it .i64 0] 0)) .lf) (some (.c false [.pt 79 0] 0)) (.nd .lf (some (.c false [.it .i64 19, .st [], .it .i64 0,
  .s0, .sl 194 0 1 (.of 194 0)] 0)) .lf)) (some (.dead)) (.nd (.nd .lf (some (.c false [.it .i64 0, .st [], .it .i64 0, .it .i64 0] 0)) .lf) (some (.c false [.it .i64 0, .st [],
  .it .i64 0, .it .i64 0] 0)) .lf))) none (.nd (.nd (.nd (.nd .lf (some (.c false [.it .i64 0, .st [], .it .i64 0, .it .i64 0] 0)) .lf) (some (.c false [.it .i64 5, .st [59],
  .it .i64 0, .it .i64 27] 0)) (.nd .lf (some (.c false [.it .i64 5, .st [101], .it .i64 0, .s0, .s0, .it .i64 5, .st [101], .it .i64 0, .s0, .s0, .it .i64 9, .st [43], .it .i64 0,
  .s0, .sl 172 0 2 (.lit 2), .it .i64 17, .st [], .it .i64 0, .s0, .sl 189 0 1 (.lit 1), .it .i64 19, .st [], .it .i64 0, .s0, .sl 194 0 1 (.of 194 0)] 5)) .lf))
  (some (.c false [.it .i64 0, .st [], .it .i64 0, .it .i64 0] 0)) (.nd (.nd .lf (some (.c false [.it .i64 0, .st [], .it .i64 0, .it .i64 0] 0)) .lf) (some (.c false [.it .i64 5,
  .st [41], .it .i64 0, .it .i64 11] 0)) .lf)) (some (.c false [.it .i64 1, .st [109, 97, 105, 110], .it .i64 0, .it .i64 0] 0)) (.nd (.nd (.nd .lf (some (.c false [.it .i64 0,
  .st [], .it .i64 0, .it .i64 0] 0)) .lf) (some (.c false [.st [109, 97, 105, 110], .sl 100 0 1 (.of 100 0), .it .i64 4] 0)) (.nd .lf (some (.c false [.it .i64 9, .st [43],
  .it .i64 0, .s0, .sl 172 0 2 (.lit 2)] 0)) .lf)) (some (.c false [.it .i64 1, .st [101], .it .i64 0, .it .i64 22] 0)) (.nd (.nd .lf (some (.c false [.it .i64 0, .st [],
  .it .i64 0, .it .i64 0] 0)) .lf) (some (.c false [.it .i64 0, .st [], .it .i64 0, .it .i64 0] 0)) .lf)))) none (.nd (.nd (.nd (.nd (.nd .lf (some (.c false [.it .i64 0, .st [],
  .it .i64 0, .it .i64 0] 0)) .lf) (some (.dead)) (.nd .lf (some (.c false [.it .i64 5, .st [125], .it .i64 0, .it .i64 29] 0)) .lf)) (some (.c false [.it .i64 1, .st [101],
  .it .i64 0, .it .i64 10] 0)) (.nd (.nd .lf (some (.c false [.it .i64 5, .st [101], .it .i64 0, .s0, .s0] 0)) .lf) (some (.c false [.st [101]] 1))
  (.nd .lf (some (.c false [.sl 200 0 5 (.of 200 0), .sl 202 0 1 (.of 202 0)] 0)) .lf))) (some (.c false [.it .i64 0, .st [], .it .i64 0, .it .i64 0] 0))
  (.nd (.nd (.nd .lf (some (.c false [.st [42], .st [47], .st [37]] 0)) .lf) (some (.c false [.it .i64 2, .st [102, 117, 110, 99], .it .i64 0, .it .i64 0] 0))
  (.nd .lf (some (.c false [.it .i64 17, .st [], .it .i64 0, .s0, .sl 189 0 1 (.lit 1)] 0)) .lf)) (some (.c false [.it .i64 2, .st [114, 101, 116, 117, 114, 110], .it .i64 0,
  .it .i64 15] 0)) (.nd (.nd .lf (some (.c false [.it .i64 0, .st [], .it .i64 0, .it .i64 0] 0)) .lf) (some (.c false [.st [111, 114]] 0)) .lf)))
  none (.nd (.nd (.nd (.nd .lf (some (.dead)) .lf) (some (.c false [.it .i64 5, .st [125], .it .i64 0, .it .i64 29] 0)) (.nd .lf (some (.c false [.sl 200 0 5 (.of 200 0),
  .sl 202 0 1 (.of 202 0)] 0)) .lf)) (some (.c false [.it .i64 5, .st [123], .it .i64 0, .it .i64 0] 0)) (.nd (.nd .lf (some (.c false [.it .i64 0, .it .i64 1] 0)) .lf)
  (some (.c false [.it .i64 5, .st [123], .it .i64 0, .it .i64 13] 0)) .lf)) (some (.dead)) (.nd (.nd (.nd .lf (some (.c false [.st [110, 117, 108, 108], .st [116, 114, 117, 101],
  .st [102, 97, 108, 115, 101]] 0)) .lf) (some (.c false [.it .i64 5, .st [40], .it .i64 0, .it .i64 9] 0)) (.nd .lf (some (.c false [.it .i64 5, .st [101], .it .i64 0, .s0,
  .s0] 0)) .lf)) (some (.c false [.it .i64 0, .st [], .it .i64 0, .it .i64 0] 0)) (.nd (.nd .lf (some (.c false [.it .i64 5, .st [59], .it .i64 0, .it .i64 27] 0)) .lf)
  (some (.c false [.it .i64 0, .st [], .it .i64 0, .it .i64 0] 0)) .lf))))) none (.nd (.nd (.nd (.nd (.nd (.nd .lf (some (.c false [.st [110, 117, 108, 108], .st [116, 114, 117,
  101], .st [102, 97, 108, 115, 101]] 0)) .lf) (some (.c false [.it .i64 1, .st [101], .it .i64 0, .it .i64 26] 0)) (.nd .lf (some (.c false [.it .i64 3] 1)) .lf))
  (some (.c false [.it .i64 1, .st [101], .it .i64 0, .it .i64 0] 0)) (.nd (.nd .lf (some (.c false [.it .i64 0, .st [], .it .i64 0, .it .i64 0] 0)) .lf)
  (some (.c false [.it .i64 1, .st [101], .it .i64 0, .it .i64 10] 0)) (.nd .lf (some (.c false [.sl 200 0 5 (.of 200 0), .sl 202 0 1 (.of 202 0)] 0)) .lf)))
  (some (.c false [.it .i64 0] 0)) (.nd (.nd (.nd .lf (some (.c false [.it .i64 5, .st [43], .it .i64 0, .it .i64 24] 0)) .lf) (some (.c false [.it .i64 2, .st [102, 117, 110, 99],
  .it .i64 0, .it .i64 0] 0)) (.nd .lf (some (.c false [.it .i64 17, .st [], .it .i64 0, .s0, .sl 189 0 1 (.lit 1)] 0)) .lf)) (some (.c false [.it .i64 0, .st [], .it .i64 0,
  .it .i64 0] 0)) (.nd (.nd .lf (some (.c false [.st [61, 61], .st [33, 61], .st [60], .st [60, 61], .st [62], .st [62, 61]] 0)) .lf) (some (.c false [.it .i64 2, .st [114, 101,
  116, 117, 114, 110], .it .i64 0, .it .i64 15] 0)) .lf))) none (.nd (.nd (.nd (.nd .lf (some (.c false [.it .i64 5, .st [101], .it .i64 0, .s0, .s0] 0)) .lf)
  (some (.c false [.it .i64 5, .st [125], .it .i64 0, .it .i64 0] 0)) (.nd .lf (some (.c false [.st [109, 97, 105, 110], .sl 100 0 1 (.of 100 0), .it .i64 4] 3)) .lf))
  (some (.c false [.it .i64 5, .st [41], .it .i64 0, .it .i64 11] 0)) (.nd (.nd .lf (some (.c false [.it .i64 0, .st [], .it .i64 0, .it .i64 0] 0)) .lf)
  (some (.c false [.st [123]] 0)) .lf)) (some (.c false [.it .i64 1, .st [109, 97, 105, 110], .it .i64 0, .it .i64 5] 0)) (.nd (.nd (.nd .lf (some (.c false [.it .i64 0, .st [],
  .it .i64 0, .it .i64 0] 0)) .lf) (some (.c false [.it .i64 5, .st [40], .it .i64 0, .it .i64 9] 0)) (.nd .lf (some (.c false [.it .i64 5, .st [101], .it .i64 0, .s0, .s0] 0))
  .lf)) (some (.dead)) (.nd (.nd .lf (some (.c false [.it .i64 5, .st [59], .it .i64 0, .it .i64 27] 0)) .lf) (some (.c false [.st [42], .st [47], .st [37]] 0)) .lf))))
  none (.nd (.nd (.nd (.nd (.nd .lf (some (.c false [.it .i64 1, .st [101], .it .i64 0, .it .i64 22] 0)) .lf) (some (.c false [.it .i64 0, .st [], .it .i64 0, .it .i64 0] 0))
  (.nd .lf (some (.c false [.it .i64 19, .st [], .it .i64 0, .s0, .sl 194 0 1 (.of 194 0)] 0)) .lf)) (some (.dead)) (.nd (.nd .lf (some (.dead)) .lf) (some (.c false [.it .i64 5,
  .st [41], .it .i64 0, .it .i64 11] 0)) .lf)) (some (.c false [.it .i64 2, .st [102, 117, 110, 99], .it .i64 0, .it .i64 0] 0)) (.nd (.nd (.nd .lf (some (.c false [.it .i64 0,
  .st [], .it .i64 0, .it .i64 0] 0)) .lf) (some (.c false [.it .i64 1, .st [109, 97, 105, 110], .it .i64 0, .it .i64 5] 0)) (.nd .lf (some (.c false [.it .i64 9, .st [43],
  .it .i64 0, .s0, .sl 172 0 2 (.lit 2)] 0)) .lf)) (some (.c false [.it .i64 1, .st [101], .it .i64 0, .it .i64 0] 0)) (.nd (.nd .lf (some (.c false [.it .i64 0, .st [], .it .i64 0,
  .it .i64 0] 0)) .lf) (some (.c false [.st [110, 111, 116]] 0)) .lf))) none (.nd (.nd (.nd (.nd .lf (some (.c false [.it .i64 0, .st [], .it .i64 0, .it .i64 0] 0)) .lf)
  (some (.c false [.it .i64 2, .st [102, 117, 110, 99], .it .i64 0, .it .i64 0, .it .i64 1, .st [109, 97, 105, 110], .it .i64 0, .it .i64 5, .it .i64 5, .st [40], .it .i64 0,
  .it .i64 9, .it .i64 1, .st [101], .it .i64 0, .it .i64 10, .it .i64 5, .st [41], .it .i64 0, .it .i64 11, .it .i64 5, .st [123], .it .i64 0, .it .i64 13, .it .i64 2, .st [114,
  101, 116, 117, 114, 110], .it .i64 0, .it .i64 15, .it .i64 1, .st [101], .it .i64 0, .it .i64 22, .it .i64 5, .st [43], .it .i64 0, .it .i64 24, .it .i64 1, .st [101],
  .it .i64 0, .it .i64 26, .it .i64 5, .st [59], .it .i64 0, .it .i64 27, .it .i64 5, .st [125], .it .i64 0, .it .i64 29] 4)) (.nd .lf (some (.c false [.it .i64 19, .st [],
  .it .i64 0, .s0, .sl 194 0 1 (.of 194 0)] 0)) .lf)) (some (.c false [.it .i64 5, .st [123], .it .i64 0, .it .i64 13] 0)) (.nd (.nd .lf (some (.c false [.it .i64 9, .st [43],
  .it .i64 0, .s0, .sl 172 0 2 (.lit 2)] 0)) .lf) (some (.c false [.st [125]] 0)) .lf)) (some (.c false [.it .i64 0, .st [], .it .i64 0, .it .i64 0] 0))
  (.nd (.nd (.nd .lf (some (.c false [.it .i64 0, .st [], .it .i64 0, .it .i64 0] 0)) .lf) (some (.c false [.it .i64 0, .st [], .it .i64 0, .it .i64 0] 0))
  (.nd .lf (some (.c false [.it .i64 5, .st [101], .it .i64 0, .s0, .s0] 0)) .lf)) (some (.c false [.it .i64 5, .st [43], .it .i64 0, .it .i64 24] 0))
  (.nd (.nd .lf (some (.c false [.it .i64 17, .st [], .it .i64 0, .s0, .sl 189 0 1 (.lit 1)] 0)) .lf) (some (.c false [.it .i64 0, .st [], .it .i64 0, .it .i64 0] 0)) .lf))))))),
  229⟩
noncomputable def A2 : SA := ⟨(.nd (.nd (.nd .lf (some (.it .i64 0)) (.nd .lf (some (.it .i64 0)) .lf)) (some (.pt 228 0)) (.nd (.nd .lf (some (.tu [.ag [.sl 200 0 5 (.of 200 0),
  .sl 202 0 1 (.of 202 0)], .it .i64 0, .it .i64 0])) .lf) none (.nd .lf (some (.it .i64 0)) .lf))) (some (.bo false)) (.nd (.nd (.nd .lf (some (.tu [.ag [.sl 200 0 5 (.of 200 0),
  .sl 202 0 1 (.of 202 0)], .it .i64 0, .it .i64 0])) .lf) none (.nd .lf (some (.it .i64 0)) .lf)) (some (.it .i64 0)) (.nd (.nd .lf (some (.ag [.sl 200 0 5 (.of 200 0),
  .sl 202 0 1 (.of 202 0)])) .lf) none (.nd .lf (some (.bo false)) .lf)))), 56, []⟩
noncomputable def A3 : SA := ⟨(.nd (.nd (.nd (.nd (.nd .lf (some (.tu [.ag [.sl 363 0 1 (.of 363 0), .sl 311 0 6 (.of 311 0)], .it .i64 0])) .lf) none .lf) (some (.it .i64 0))
  (.nd (.nd .lf (some (.it .i64 0)) .lf) (some (.it .i64 0)) .lf)) (some (.pt 228 0)) (.nd (.nd (.nd .lf (some (.tu [.ag [.sl 363 0 1 (.of 363 0), .sl 311 0 6 (.of 311 0)],
  .it .i64 0])) .lf) (some (.tu [.ag [.sl 200 0 5 (.of 200 0), .sl 202 0 1 (.of 202 0)], .it .i64 0, .it .i64 0])) .lf) (some (.it .i64 0)) (.nd .lf (some (.it .i64 0)) .lf)))
  (some (.bo false)) (.nd (.nd (.nd (.nd .lf (some (.ag [.sl 200 0 5 (.of 200 0), .sl 202 0 1 (.of 202 0)])) .lf) (some (.tu [.ag [.sl 200 0 5 (.of 200 0), .sl 202 0 1 (.of 202 0)],
  .it .i64 0, .it .i64 0])) .lf) (some (.pt 450 0)) (.nd .lf (some (.it .i64 0)) .lf)) (some (.it .i64 0)) (.nd (.nd (.nd .lf (some (.ag [.sl 363 0 1 (.of 363 0),
  .sl 311 0 6 (.of 311 0)])) .lf) (some (.ag [.sl 200 0 5 (.of 200 0), .sl 202 0 1 (.of 202 0)])) .lf) none (.nd .lf (some (.bo false)) .lf)))), 56, []⟩
noncomputable def S3 : SH := ⟨(.nd (.nd (.nd (.nd (.nd (.nd (.nd (.nd (.nd .lf (some (.c false [.it .i64 5, .st [101], .it .i64 0, .s0, .s0] 0)) .lf) (some (.c false [.it .i64 0,
  .st [], .it .i64 0, .it .i64 0] 0)) (.nd .lf (some (.c false [.st [109, 97, 105, 110], .it .i64 1, .it .i64 1, .it .i64 0, .it .i64 6] 0)) .lf)) (some (.dead))
  (.nd (.nd .lf (some (.c false [.it .i64 19, .st [], .it .i64 0, .s0, .sl 194 0 1 (.of 194 0)] 0)) .lf) (some (.c false [.it .i64 17, .st [], .it .i64 0, .s0,
  .sl 189 0 1 (.lit 1)] 0)) (.nd .lf (some (.c false [.sl 363 0 1 (.of 363 0), .sl 311 0 6 (.of 311 0)] 0)) .lf))) (some (.c false [.it .i64 5, .st [40], .it .i64 0, .it .i64 9] 0))
  (.nd (.nd (.nd .lf (some (.c false [.it .i64 9, .st [43], .it .i64 0, .s0, .sl 172 0 2 (.lit 2)] 0)) .lf) (some (.c false [.it .i64 1, .st [101], .it .i64 0, .it .i64 26] 0))
  (.nd .lf (some (.c false [.sl 363 0 1 (.of 363 0), .sl 311 0 6 (.of 311 0)] 0)) .lf)) (some (.c false [.it .i64 0, .st [], .it .i64 0, .it .i64 0] 0))
  (.nd (.nd .lf (some (.mp [(.st [101], .it .i64 0, 0)] 1)) .lf) (some (.c false [.it .i64 5, .st [101], .it .i64 0, .s0, .s0] 0)) .lf)))
  none (.nd (.nd (.nd (.nd .lf (some (.mp [(.st [101], .it .i64 0, 0)] 1)) .lf) (some (.c false [.it .i64 0, .st [], .it .i64 0, .it .i64 0] 0)) (.nd .lf (some (.c false [.st [109,
  97, 105, 110], .it .i64 1, .it .i64 1, .it .i64 0, .it .i64 6] 0)) .lf)) (some (.c false [.sl 78 0 12 (.of 78 0), .it .i64 12, .it .i64 30, .sl 200 0 5 (.of 200 0),
  .sl 202 0 1 (.of 202 0)] 0)) (.nd (.nd .lf (some (.c false [.it .i64 5, .st [101], .it .i64 0, .s0, .s0] 0)) .lf) (some (.c false [.it .i64 19, .st [], .it .i64 0, .s0,
  .sl 194 0 1 (.of 194 0)] 0)) .lf)) (some (.c false [.it .i64 5, .st [123], .it .i64 0, .it .i64 13] 0)) (.nd (.nd (.nd .lf (some (.c false [.it .i64 20, .it .i64 0, .st [],
  .s0] 0)) .lf) (some (.dead)) (.nd .lf (some (.c false [.it .i64 5, .it .i64 0, .st [], .s0] 0)) .lf)) (some (.c false [.it .i64 0, .st [], .it .i64 0, .it .i64 0] 0))
  (.nd (.nd .lf (some (.c false [.st [109, 97, 105, 110], .it .i64 1, .it .i64 1, .it .i64 0, .it .i64 6] 0)) .lf) (some (.c false [.it .i64 19, .st [], .it .i64 0, .s0,
  .sl 194 0 1 (.of 194 0)] 0)) .lf)))) none (.nd (.nd (.nd (.nd (.nd .lf (some (.c false [.st [109, 97, 105, 110]] 0)) .lf) (some (.c false [.st [40]] 0))
  (.nd .lf (some (.c false [.st [109, 97, 105, 110], .it .i64 1, .it .i64 1, .it .i64 0, .it .i64 6] 0)) .lf)) (some (.c false [.it .i64 5, .st [59], .it .i64 0, .it .i64 27] 0))
  (.nd (.nd .lf (some (.c false [.it .i64 9, .st [43], .it .i64 0, .s0, .sl 172 0 2 (.lit 2)] 0)) .lf) (some (.c false [.it .i64 19, .st [], .it .i64 0, .s0,
  .sl 194 0 1 (.of 194 0)] 0)) .lf)) (some (.c false [.it .i64 5, .st [41], .it .i64 0, .it .i64 0] 0)) (.nd (.nd (.nd .lf (some (.c false [.it .i64 5, .st [101], .it .i64 0, .s0,
  .s0] 0)) .lf) (some (.c false [.st [91]] 0)) (.nd .lf (some (.c false [.sl 363 0 1 (.of 363 0), .sl 311 0 6 (.of 311 0)] 0)) .lf)) (some (.c false [.it .i64 5, .st [41],
  .it .i64 0, .it .i64 11] 0)) (.nd (.nd .lf (some (.c false [.it .i64 17, .st [], .it .i64 0, .s0, .sl 189 0 1 (.lit 1)] 0)) .lf) (some (.c false [.sl 200 0 5 (.of 200 0),
  .sl 202 0 1 (.of 202 0)] 0)) .lf))) (some (.dead)) (.nd (.nd (.nd (.nd .lf (some (.c false [.it .i64 17, .st [], .it .i64 0, .s0, .sl 189 0 1 (.lit 1)] 0)) .lf)
  (some (.c false [.it .i64 0, .st [], .it .i64 0, .it .i64 0] 0)) (.nd .lf (some (.c false [.sl 363 0 1 (.of 363 0), .sl 311 0 6 (.of 311 0)] 0)) .lf)) (some (.c false [.it .i64 1,
  .st [109, 97, 105, 110], .it .i64 0, .it .i64 5] 0)) (.nd (.nd .lf (some (.c false [.st [109, 97, 105, 110]] 0)) .lf) (some (.c false [.it .i64 9, .st [43], .it .i64 0, .s0,
  .sl 172 0 2 (.lit 2)] 0)) .lf)) (some (.c false [.it .i64 0, .st [], .it .i64 0, .it .i64 0] 0)) (.nd (.nd (.nd .lf (some (.c false [.it .i64 5, .it .i64 0, .st [], .s0,
  .it .i64 5, .it .i64 0, .st [], .s0, .it .i64 9, .it .i64 0, .st [43], .s0, .it .i64 20, .it .i64 0, .st [], .s0, .it .i64 1, .it .i64 0, .st [], .s0, .it .i64 20, .it .i64 0,
  .st [], .s0] 4)) .lf) (some (.c false [.it .i64 0, .st [], .it .i64 0, .it .i64 0] 0)) (.nd .lf (some (.c false [.it .i64 5, .it .i64 0, .st [], .s0] 0)) .lf))
  (some (.c false [.it .i64 0, .st [], .it .i64 0, .it .i64 0] 0)) (.nd (.nd .lf (some (.c false [.st [109, 97, 105, 110], .it .i64 1, .it .i64 1, .it .i64 0, .it .i64 6] 0)) .lf)
  (some (.c false [.it .i64 9, .st [43], .it .i64 0, .s0, .sl 172 0 2 (.lit 2)] 0)) .lf))))) none (.nd (.nd (.nd (.nd (.nd (.nd .lf (some (.c false [.sl 200 0 5 (.of 200 0),
  .sl 202 0 1 (.of 202 0)] 0)) .lf) (some (.c false [.it .i64 0, .st [], .it .i64 0, .it .i64 0] 0)) (.nd .lf (some (.c false [.st [109, 97, 105, 110], .it .i64 1, .it .i64 1,
  .it .i64 0, .it .i64 6] 0)) .lf)) (some (.c false [.it .i64 1, .st [101], .it .i64 0, .it .i64 26] 0)) (.nd (.nd .lf (some (.c false [.it .i64 17, .st [], .it .i64 0, .s0,
  .sl 189 0 1 (.lit 1)] 0)) .lf) (some (.c false [.st [125]] 0)) .lf)) (some (.c false [.it .i64 0, .st [], .it .i64 0, .it .i64 0] 0))
  (.nd (.nd (.nd .lf (some (.c false [.it .i64 5, .it .i64 0, .st [], .s0] 0)) .lf) (some (.c false [.it .i64 0, .st [], .it .i64 0, .it .i64 0] 0))
  (.nd .lf (some (.c false [.sl 363 0 1 (.of 363 0), .sl 311 0 6 (.of 311 0)] 0)) .lf)) (some (.c false [.st [101]] 0)) (.nd (.nd .lf (some (.c false [.it .i64 17, .st [],
  .it .i64 0, .s0, .sl 189 0 1 (.lit 1)] 0)) .lf) (some (.c false [.st [109, 97, 105, 110], .sl 100 0 1 (.of 100 0), .it .i64 4] 0)) .lf))) (some (.c false [.it .i64 2, .st [102,
  117, 110, 99], .it .i64 0, .it .i64 0] 0)) (.nd (.nd (.nd (.nd .lf (some (.c false [.it .i64 17, .st [], .it .i64 0, .s0, .sl 189 0 1 (.lit 1)] 0)) .lf)
  (some (.c false [.it .i64 5, .st [43], .it .i64 0, .it .i64 24] 0)) (.nd .lf (some (.c false [.sl 363 0 1 (.of 363 0), .sl 311 0 6 (.of 311 0)] 0)) .lf))
  (some (.c false [.it .i64 2, .st [102, 117, 110, 99], .it .i64 0, .it .i64 0] 0)) (.nd (.nd .lf (some (.c false [.sl 200 0 5 (.of 200 0), .sl 202 0 1 (.of 202 0)] 0)) .lf)
  (some (.c false [.it .i64 17, .st [], .it .i64 0, .s0, .sl 189 0 1 (.lit 1)] 0)) .lf)) (some (.c false [.it .i64 2, .st [114, 101, 116, 117, 114, 110], .it .i64 0,
  .it .i64 15] 0)) (.nd (.nd (.nd .lf (some (.c false [.it .i64 19, .st [], .it .i64 0, .s0, .sl 194 0 1 (.of 194 0)] 0)) .lf) (some (.c false [.it .i64 0, .st [], .it .i64 0,
  .it .i64 0] 0)) (.nd .lf (some (.c false [.it .i64 1] 0)) .lf)) (some (.c false [.it .i64 2, .st [114, 101, 116, 117, 114, 110], .it .i64 0, .it .i64 15] 0))
  (.nd (.nd .lf (some (.c false [.it .i64 1, .st [109, 97, 105, 110], .it .i64 0, .it .i64 0] 0)) .lf) (some (.c false [.it .i64 17, .st [], .it .i64 0, .s0,
  .sl 189 0 1 (.lit 1)] 0)) .lf)))) none (.nd (.nd (.nd (.nd (.nd .lf (some (.c false [.st [109, 97, 105, 110], .sl 100 0 1 (.of 100 0), .it .i64 4] 0)) .lf)
  (some (.c false [.it .i64 5, .st [101], .it .i64 0, .s0, .s0] 0)) (.nd .lf (some (.c false [.st [109, 97, 105, 110], .it .i64 1, .it .i64 1, .it .i64 0, .it .i64 6] 0)) .lf))
  (some (.c false [.it .i64 0, .st [], .it .i64 0, .it .i64 0] 0)) (.nd (.nd .lf (some (.c false [.it .i64 5, .st [101], .it .i64 0, .s0, .s0] 0)) .lf)
  (some (.c false [.sl 200 0 5 (.of 200 0), .sl 202 0 1 (.of 202 0)] 0)) .lf)) (some (.dead)) (.nd (.nd (.nd .lf (some (.dead)) .lf) (some (.c false [.it .i64 0, .st [], .it .i64 0,
  .it .i64 0] 0)) (.nd .lf (some (.c false [.st [109, 97, 105, 110], .it .i64 1, .it .i64 1, .it .i64 0, .it .i64 6] 0)) .lf)) (some (.c false [.it .i64 5, .st [123], .it .i64 0,
  .it .i64 13] 0)) (.nd (.nd .lf (some (.c false [.st [109, 97, 105, 110], .it .i64 1, .it .i64 1, .it .i64 0, .it .i64 6] 5)) .lf) (some (.c false [.sl 200 0 5 (.of 200 0),
  .sl 202 0 1 (.of 202 0)] 0)) .lf))) (some (.c false [.it .i64 1, .st [109, 97, 105, 110], .it .i64 0, .it .i64 5] 0))
  (.nd (.nd (.nd (.nd .lf (some (.c false [.sl 363 0 1 (.of 363 0), .sl 311 0 6 (.of 311 0)] 0)) .lf) (some (.c false [.it .i64 0, .st [], .it .i64 0, .it .i64 0] 0))
  (.nd .lf (some (.c false [.sl 363 0 1 (.of 363 0), .sl 311 0 6 (.of 311 0)] 0)) .lf)) (some (.c false [.it .i64 5, .st [40], .it .i64 0, .it .i64 9] 0))
  (.nd (.nd .lf (some (.c false [.st [109, 97, 105, 110], .sl 100 0 1 (.of 100 0), .it .i64 4] 0)) .lf) (some (.c false [.it .i64 5, .st [101], .it .i64 0, .s0, .s0] 0)) .lf))
  (some (.c false [.it .i64 5, .st [43], .it .i64 0, .it .i64 0] 0)) (.nd (.nd (.nd .lf (some (.c false [.sl 200 0 5 (.of 200 0), .sl 202 0 1 (.of 202 0)] 0)) .lf)
  (some (.c false [.it .i64 5, .st [59], .it .i64 0, .it .i64 27] 0)) (.nd .lf (some (.c false [.it .i64 9, .it .i64 0, .st [43], .s0] 0)) .lf)) (some (.c false [.st [45]] 0))
  (.nd (.nd .lf (some (.c false [.st [109, 97, 105, 110], .it .i64 1, .it .i64 1, .it .i64 0, .it .i64 6] 0)) .lf) (some (.c false [.it .i64 5, .st [101], .it .i64 0, .s0, .s0] 0))
  .lf)))))) none (.nd (.nd (.nd (.nd (.nd (.nd (.nd .lf (some (.c false [.sl 200 0 5 (.of 200 0), .sl 202 0 1 (.of 202 0)] 0)) .lf) (some (.c false [.it .i64 0, .st [], .it .i64 0,
  .it .i64 0] 0)) (.nd .lf (some (.c false [.it .i64 5, .it .i64 0, .st [], .s0] 0)) .lf)) (some (.c false [.it .i64 0, .st [], .it .i64 0, .it .i64 0] 0))
  (.nd (.nd .lf (some (.c false [.it .i64 17, .st [], .it .i64 0, .s0, .sl 189 0 1 (.lit 1)] 0)) .lf) (some (.c false [.it .i64 3] 0)) (.nd .lf (some (.c false [.it .i64 20,
  .it .i64 0, .st [], .s0] 0)) .lf))) (some (.dead)) (.nd (.nd (.nd .lf (some (.c false [.it .i64 5, .st [101], .it .i64 0, .s0, .s0] 0)) .lf) (some (.c false [.st [40]] 0))
  (.nd .lf (some (.c false [.it .i64 1, .it .i64 0, .st [], .s0] 0)) .lf)) (some (.c false [.it .i64 1, .st [101], .it .i64 0, .it .i64 10] 0))
  (.nd (.nd .lf (some (.c false [.it .i64 19, .st [], .it .i64 0, .s0, .sl 194 0 1 (.of 194 0)] 0)) .lf) (some (.c false [.st [109, 97, 105, 110], .sl 100 0 1 (.of 100 0),
  .it .i64 4] 0)) .lf))) (some (.c false [.it .i64 0] 0)) (.nd (.nd (.nd (.nd .lf (some (.c false [.it .i64 19, .st [], .it .i64 0, .s0, .sl 194 0 1 (.of 194 0)] 0)) .lf)
  (some (.c false [.it .i64 0, .st [], .it .i64 0, .it .i64 0] 0)) (.nd .lf (some (.c false [.st [43], .st [45], .st [42], .st [47], .st [37], .st [61, 61], .st [33, 61], .st [60],
  .st [60, 61], .st [62], .st [62, 61]] 0)) .lf)) (some (.c false [.st [102, 117, 110, 99]] 0)) (.nd (.nd .lf (some (.c false [.sl 200 0 5 (.of 200 0), .sl 202 0 1 (.of 202 0)] 0))
  .lf) (some (.c false [.it .i64 19, .st [], .it .i64 0, .s0, .sl 194 0 1 (.of 194 0)] 0)) .lf)) (some (.c false [.it .i64 2, .st [114, 101, 116, 117, 114, 110], .it .i64 0,
  .it .i64 0] 0)) (.nd (.nd (.nd .lf (some (.c false [.it .i64 20, .it .i64 0, .st [], .s0] 0)) .lf) (some (.c false [.it .i64 0, .st [], .it .i64 0, .it .i64 0] 0))
  (.nd .lf (some (.c false [.it .i64 5, .it .i64 0, .st [], .s0] 0)) .lf)) (some (.c false [.st [108, 101, 116], .st [105, 102], .st [119, 104, 105, 108, 101], .st [114, 101, 116,
  117, 114, 110]] 0)) (.nd (.nd .lf (some (.c false [.it .i64 0, .st [], .it .i64 0, .it .i64 0] 0)) .lf) (some (.c false [.it .i64 17, .st [], .it .i64 0, .s0,
  .sl 189 0 1 (.lit 1)] 0)) .lf)))) none (.nd (.nd (.nd (.nd (.nd .lf (some (.c false [.sl 200 0 5 (.of 200 0), .sl 202 0 1 (.of 202 0)] 0)) .lf) (some (.c false [.it .i64 0,
  .st [], .it .i64 0, .it .i64 0] 0)) (.nd .lf (some (.c false [.it .i64 9, .it .i64 0, .st [43], .s0] 0)) .lf)) (some (.dead)) (.nd (.nd .lf (some (.c false [.it .i64 5, .st [101],
  .it .i64 0, .s0, .s0] 0)) .lf) (some (.c false [.st [109, 97, 105, 110], .sl 100 0 1 (.of 100 0), .it .i64 4] 0)) .lf)) (some (.c false [.it .i64 5, .st [41], .it .i64 0,
  .it .i64 11] 0)) (.nd (.nd (.nd .lf (some (.c false [.it .i64 5, .it .i64 0, .st [], .s0] 0)) .lf) (some (.c false [.it .i64 0, .st [], .it .i64 0, .it .i64 0] 0))
  (.nd .lf (some (.c false [.it .i64 20, .it .i64 0, .st [], .s0] 0)) .lf)) (some (.c false [.it .i64 5, .st [41], .it .i64 0, .it .i64 11] 0))
  (.nd (.nd .lf (some (.c false [.it .i64 1] 1)) .lf) (some (.c false [.sl 200 0 5 (.of 200 0), .sl 202 0 1 (.of 202 0)] 0)) .lf))) (some (.c false [.it .i64 0, .st [], .it .i64 0,
  .it .i64 0] 0)) (.nd (.nd (.nd (.nd .lf (some (.c false [.it .i64 1] 1)) .lf) (some (.c false [.it .i64 0, .st [], .it .i64 0, .it .i64 0] 0))
  (.nd .lf (some (.c false [.it .i64 20, .it .i64 0, .st [], .s0] 0)) .lf)) (some (.c false [.st [40]] 0)) (.nd (.nd .lf (some (.c false [.sl 200 0 5 (.of 200 0),
  .sl 202 0 1 (.of 202 0)] 0)) .lf) (some (.c false [.it .i64 9, .st [43], .it .i64 0, .s0, .sl 172 0 2 (.lit 2)] 0)) .lf)) (some (.c false [.it .i64 1, .st [101], .it .i64 0,
  .it .i64 22] 0)) (.nd (.nd (.nd .lf (some (.c false [.sl 200 0 5 (.of 200 0), .sl 202 0 1 (.of 202 0)] 0)) .lf) (some (.c false [.st [59]] 0))
  (.nd .lf (some (.c false [.it .i64 9, .it .i64 0, .st [43], .s0] 0)) .lf)) (some (.c false [.st [43], .st [45]] 0)) (.nd (.nd .lf (some (.c false [.it .i64 5, .it .i64 0, .st [],
  .s0] 0)) .lf) (some (.c false [.it .i64 5, .st [101], .it .i64 0, .s0, .s0] 0)) .lf))))) none (.nd (.nd (.nd (.nd (.nd (.nd .lf (some (.mp [(.st [108, 101, 110], .it .i64 1, 0),
  (.st [115, 116, 114], .it .i64 1, 1), (.st [105, 110, 116], .it .i64 1, 2), (.st [112, 117, 115, 104], .it .i64 2, 3), (.st [112, 117, 116], .it .i64 3, 4), (.st [107, 101, 121,
  115], .it .i64 1, 5), (.st [104, 97, 115], .it .i64 2, 6), (.st [102, 97, 105, 108], .it .i64 1, 7)] 8)) .lf) (some (.c false [.it .i64 1, .st [101], .it .i64 0, .it .i64 22] 0))
  (.nd .lf (some (.c false [.st [108, 111, 97, 100], .bo true, .bo false, .bo false, .it .i64 0, .it .i64 1] 0)) .lf)) (some (.c false [.it .i64 5, .st [59], .it .i64 0,
  .it .i64 0] 0)) (.nd (.nd .lf (some (.c false [.it .i64 9, .st [43], .it .i64 0, .s0, .sl 172 0 2 (.lit 2)] 0)) .lf) (some (.c false [.it .i64 5, .st [125], .it .i64 0,
  .it .i64 29] 0)) .lf)) (some (.c false [.it .i64 1, .st [101], .it .i64 0, .it .i64 10] 0)) (.nd (.nd (.nd .lf (some (.dead)) .lf) (some (.c false [.it .i64 5, .st [101],
  .it .i64 0, .s0, .s0] 0)) (.nd .lf (some (.c false [.it .i64 20, .it .i64 0, .st [], .s0] 0)) .lf)) (some (.c false [.st [44], .st [41]] 0))
  (.nd (.nd .lf (some (.c false [.it .i64 5, .st [101], .it .i64 0, .s0, .s0] 0)) .lf) (some (.c false [.sl 200 0 5 (.of 200 0), .sl 202 0 1 (.of 202 0)] 0)) .lf)))
  (some (.c false [.it .i64 2, .st [102, 117, 110, 99], .it .i64 0, .it .i64 0] 0)) (.nd (.nd (.nd (.nd .lf (some (.c false [.it .i64 5, .st [101], .it .i64 0, .s0, .s0] 0)) .lf)
  (some (.c false [.st [45]] 0)) (.nd .lf (some (.c false [.it .i64 20, .it .i64 0, .st [], .s0] 0)) .lf)) (some (.c false [.it .i64 1, .st [109, 97, 105, 110], .it .i64 0,
  .it .i64 5] 0)) (.nd (.nd .lf (some (.mp [(.st [108, 101, 110], .it .i64 1, 0), (.st [115, 116, 114], .it .i64 1, 1), (.st [105, 110, 116], .it .i64 1, 2), (.st [112, 117, 115,
  104], .it .i64 2, 3), (.st [112, 117, 116], .it .i64 3, 4), (.st [107, 101, 121, 115], .it .i64 1, 5), (.st [104, 97, 115], .it .i64 2, 6), (.st [102, 97, 105, 108], .it .i64 1,
  7)] 8)) .lf) (some (.c false [.it .i64 17, .st [], .it .i64 0, .s0, .sl 189 0 1 (.lit 1)] 0)) .lf)) (some (.dead)) (.nd (.nd (.nd .lf (some (.c false [.it .i64 0, .it .i64 0,
  .st [], .s0] 0)) .lf) (some (.c false [.it .i64 0, .st [], .it .i64 0, .it .i64 0] 0)) (.nd .lf (some (.c false [.sl 363 0 1 (.of 363 0), .sl 311 0 6 (.of 311 0)] 0)) .lf))
  (some (.c false [.st [97, 110, 100]] 0)) (.nd (.nd .lf (some (.c false [.sl 363 0 1 (.of 363 0), .sl 311 0 6 (.of 311 0)] 0)) .lf) (some (.c false [.it .i64 9, .st [43],
  .it .i64 0, .s0, .sl 172 0 2 (.lit 2)] 0)) .lf)))) none (.nd (.nd (.nd (.nd (.nd .lf (some (.c false [.it .i64 0, .it .i64 0, .it .i64 0, .it .i64 0, .it .i64 0] 0)) .lf)
  (some (.c false [.st [91]] 0)) (.nd .lf (some (.c false [.st [98, 105, 110, 97, 114, 121], .bo false, .bo true, .bo false, .it .i64 2, .it .i64 1] 0)) .lf))
  (some (.c false [.it .i64 5, .st [125], .it .i64 0, .it .i64 29] 0)) (.nd (.nd .lf (some (.c false [.it .i64 5, .st [101], .it .i64 0, .s0, .s0] 0)) .lf)
  (some (.c false [.st [109, 97, 105, 110], .sl 100 0 1 (.of 100 0), .it .i64 4] 0)) .lf)) (some (.c false [.it .i64 0, .st [], .it .i64 0, .it .i64 0] 0))
  (.nd (.nd (.nd .lf (some (.dead)) .lf) (some (.c false [.it .i64 9, .st [43], .it .i64 0, .s0, .sl 172 0 2 (.lit 2)] 0)) (.nd .lf (some (.c false [.st [109, 97, 105, 110],
  .it .i64 1, .it .i64 1, .it .i64 0, .it .i64 6] 0)) .lf)) (some (.c false [.it .i64 5, .st [123], .it .i64 0, .it .i64 13] 0))
  (.nd (.nd .lf (some (.c false [.sl 363 0 1 (.of 363 0), .sl 311 0 6 (.of 311 0)] 0)) .lf) (some (.c false [.it .i64 19, .st [], .it .i64 0, .s0, .sl 194 0 1 (.of 194 0)] 0))
  .lf))) (some (.c false [.it .i64 5, .st [40], .it .i64 0, .it .i64 0] 0)) (.nd (.nd (.nd (.nd .lf (some (.c false [.it .i64 19, .st [], .it .i64 0, .s0,
  .sl 194 0 1 (.of 194 0)] 0)) .lf) (some (.c false [.it .i64 0, .st [], .it .i64 0, .it .i64 0] 0)) (.nd .lf (some (.c false [.it .i64 1, .it .i64 0, .st [], .s0] 0)) .lf))
  (some (.c false [.st [41]] 0)) (.nd (.nd .lf (some (.c false [.it .i64 0, .it .i64 0, .it .i64 0, .it .i64 0, .it .i64 0] 0)) .lf) (some (.c false [.it .i64 9, .st [43],
  .it .i64 0, .s0, .sl 172 0 2 (.lit 2)] 0)) .lf)) (some (.c false [.it .i64 5, .st [43], .it .i64 0, .it .i64 24] 0)) (.nd (.nd (.nd .lf (some (.c false [.it .i64 19, .st [],
  .it .i64 0, .s0, .sl 194 0 1 (.of 194 0)] 0)) .lf) (some (.c false [.it .i64 2] 0)) (.nd .lf (some (.c false [.it .i64 3] 0)) .lf)) (some (.c false [.it .i64 0, .st [],
  .it .i64 0, .it .i64 0] 0)) (.nd (.nd .lf (some (.c false [.st [108, 111, 97, 100], .bo true, .bo false, .bo false, .it .i64 0, .it .i64 1] 0)) .lf) (some (.c false [.it .i64 5,
  .st [101], .it .i64 0, .s0, .s0] 0)) .lf))))))) (some (.c true shp 0)) (.nd (.nd (.nd (.nd (.nd (.nd (.nd (.nd .lf (some (.c false [.st [109, 97, 105, 110],
  .sl 100 0 1 (.of 100 0), .it .i64 4] 0)) .lf) (some (.c false [.it .i64 0, .st [], .it .i64 0, .it .i64 0] 0)) (.nd .lf (some (.c false [.it .i64 5, .it .i64 0, .st [], .s0] 0))
  .lf)) (some (.c false [.it .i64 1, .st [101], .it .i64 0, .it .i64 0] 0)) (.nd (.nd .lf (some (.c false [.it .i64 19, .st [], .it .i64 0, .s0, .sl 194 0 1 (.of 194 0)] 0)) .lf)
  (some (.dead)) (.nd .lf (some (.c false [.it .i64 20, .it .i64 0, .st [], .s0] 0)) .lf))) (some (.c false [.it .i64 5, .st [40], .it .i64 0, .it .i64 9] 0))
  (.nd (.nd (.nd .lf (some (.c false [.it .i64 5, .st [101], .it .i64 0, .s0, .s0] 0)) .lf) (some (.c false [.it .i64 1, .st [101], .it .i64 0, .it .i64 26] 0))
  (.nd .lf (some (.c false [.st [109, 97, 105, 110], .it .i64 1, .it .i64 1, .it .i64 0, .it .i64 6] 0)) .lf)) (some (.c false [.it .i64 1, .st [101], .it .i64 0, .it .i64 10] 0))
  (.nd (.nd .lf (some (.c false [.sl 200 0 5 (.of 200 0), .sl 202 0 1 (.of 202 0), .mm 351, .it .i64 1, .sl 348 0 5 (.lit 5), .sl 349 0 5 (.lit 5)] 0)) .lf)
  (some (.c false [.it .i64 5, .st [101], .it .i64 0, .s0, .s0] 0)) .lf))) (some (.c false [.sl 200 0 5 (.of 200 0), .sl 202 0 1 (.of 202 0)] 0))
  (.nd (.nd (.nd (.nd .lf (some (.c false [.sl 200 0 5 (.of 200 0), .sl 202 0 1 (.of 202 0), .mm 271, .it .i64 1, .sl 268 0 5 (.lit 5), .sl 269 0 5 (.lit 5)] 0)) .lf)
  (some (.c false [.it .i64 0, .st [], .it .i64 0, .it .i64 0] 0)) (.nd .lf (some (.c false [.it .i64 9, .it .i64 0, .st [43], .s0] 0)) .lf)) (some (.c false [.pt 79 0] 0))
  (.nd (.nd .lf (some (.c false [.st [109, 97, 105, 110], .sl 100 0 1 (.of 100 0), .it .i64 4] 0)) .lf) (some (.c false [.it .i64 19, .st [], .it .i64 0, .s0,
  .sl 194 0 1 (.of 194 0)] 0)) .lf)) (some (.dead)) (.nd (.nd (.nd .lf (some (.c false [.it .i64 20, .it .i64 0, .st [], .s0] 0)) .lf) (some (.c false [.it .i64 0, .st [],
  .it .i64 0, .it .i64 0] 0)) (.nd .lf (some (.c false [.sl 363 0 1 (.of 363 0), .sl 311 0 6 (.of 311 0)] 0)) .lf)) (some (.c false [.it .i64 0, .st [], .it .i64 0, .it .i64 0] 0))
  (.nd (.nd .lf (some (.c false [.it .i64 1, .st [109, 97, 105, 110], .it .i64 0, .it .i64 0] 0)) .lf) (some (.c false [.it .i64 19, .st [], .it .i64 0, .s0,
  .sl 194 0 1 (.of 194 0)] 0)) .lf)))) none (.nd (.nd (.nd (.nd (.nd .lf (some (.c false [.st [109, 97, 105, 110], .sl 100 0 1 (.of 100 0), .it .i64 4] 0)) .lf)
  (some (.c false [.it .i64 0, .st [], .it .i64 0, .it .i64 0] 0)) (.nd .lf (some (.c false [.it .i64 5, .it .i64 0, .st [], .s0] 0)) .lf)) (some (.c false [.it .i64 5, .st [59],
  .it .i64 0, .it .i64 27] 0)) (.nd (.nd .lf (some (.c false [.it .i64 9, .st [43], .it .i64 0, .s0, .sl 172 0 2 (.lit 2)] 0)) .lf) (some (.c false [.it .i64 5, .st [101],
  .it .i64 0, .s0, .s0, .it .i64 5, .st [101], .it .i64 0, .s0, .s0, .it .i64 9, .st [43], .it .i64 0, .s0, .sl 172 0 2 (.lit 2), .it .i64 17, .st [], .it .i64 0, .s0,
  .sl 189 0 1 (.lit 1), .it .i64 19, .st [], .it .i64 0, .s0, .sl 194 0 1 (.of 194 0)] 5)) .lf)) (some (.c false [.it .i64 0, .st [], .it .i64 0, .it .i64 0] 0))
  (.nd (.nd (.nd .lf (some (.c false [.it .i64 5, .it .i64 0, .st [], .s0] 0)) .lf) (some (.c false [.it .i64 0, .st [], .it .i64 0, .it .i64 0] 0))
  (.nd .lf (some (.c false [.st [109, 97, 105, 110], .it .i64 1, .it .i64 1, .it .i64 0, .it .i64 6] 0)) .lf)) (some (.c false [.it .i64 5, .st [41], .it .i64 0, .it .i64 11] 0))
  (.nd (.nd .lf (some (.c false [.it .i64 1] 0)) .lf) (some (.c false [.sl 200 0 5 (.of 200 0), .sl 202 0 1 (.of 202 0)] 0)) .lf))) (some (.c false [.it .i64 1, .st [109, 97, 105,
  110], .it .i64 0, .it .i64 0] 0)) (.nd (.nd (.nd (.nd .lf (some (.c false [.it .i64 1] 0)) .lf) (some (.c false [.it .i64 0, .st [], .it .i64 0, .it .i64 0] 0))
  (.nd .lf (some (.c false [.st [109, 97, 105, 110], .it .i64 1, .it .i64 1, .it .i64 0, .it .i64 6] 0)) .lf)) (some (.c false [.st [109, 97, 105, 110], .sl 100 0 1 (.of 100 0),
  .it .i64 4] 0)) (.nd (.nd .lf (some (.c false [.st [109, 97, 105, 110], .sl 100 0 1 (.of 100 0), .it .i64 4] 0)) .lf) (some (.c false [.it .i64 9, .st [43], .it .i64 0, .s0,
  .sl 172 0 2 (.lit 2)] 0)) .lf)) (some (.c false [.it .i64 1, .st [101], .it .i64 0, .it .i64 22] 0)) (.nd (.nd (.nd .lf (some (.c false [.sl 200 0 5 (.of 200 0),
  .sl 202 0 1 (.of 202 0)] 0)) .lf) (some (.c false [.it .i64 0, .st [], .it .i64 0, .it .i64 0] 0)) (.nd .lf (some (.c false [.it .i64 2] 0)) .lf)) (some (.c false [.it .i64 0,
  .st [], .it .i64 0, .it .i64 0] 0)) (.nd (.nd .lf (some (.c false [.st [109, 97, 105, 110], .it .i64 1, .it .i64 1, .it .i64 0, .it .i64 6] 0)) .lf) (some (.c false [.it .i64 9,
  .st [43], .it .i64 0, .s0, .sl 172 0 2 (.lit 2)] 0)) .lf))))) none (.nd (.nd (.nd (.nd (.nd (.nd .lf (some (.c false [.st [109, 97, 105, 110], .sl 100 0 1 (.of 100 0),
  .it .i64 4] 0)) .lf) (some (.c false [.it .i64 0, .st [], .it .i64 0, .it .i64 0] 0)) (.nd .lf (some (.c false [.it .i64 5, .it .i64 0, .st [], .s0] 0)) .lf)) (some (.dead))
  (.nd (.nd .lf (some (.c false [.it .i64 17, .st [], .it .i64 0, .s0, .sl 189 0 1 (.lit 1)] 0)) .lf) (some (.c false [.it .i64 5, .st [125], .it .i64 0, .it .i64 29] 0)) .lf))
  (some (.c false [.it .i64 1, .st [101], .it .i64 0, .it .i64 10] 0)) (.nd (.nd (.nd .lf (some (.c false [.it .i64 5, .it .i64 0, .st [], .s0] 0)) .lf) (some (.c false [.it .i64 5,
  .st [101], .it .i64 0, .s0, .s0] 0)) (.nd .lf (some (.c false [.st [109, 97, 105, 110], .it .i64 1, .it .i64 1, .it .i64 0, .it .i64 6] 0)) .lf)) (some (.c false [.st [101]] 1))
  (.nd (.nd .lf (some (.c false [.it .i64 9, .st [43], .it .i64 0, .s0, .sl 172 0 2 (.lit 2)] 0)) .lf) (some (.c false [.sl 200 0 5 (.of 200 0), .sl 202 0 1 (.of 202 0)] 0)) .lf)))
  (some (.c false [.it .i64 0, .st [], .it .i64 0, .it .i64 0] 0)) (.nd (.nd (.nd (.nd .lf (some (.c false [.it .i64 9, .st [43], .it .i64 0, .s0, .sl 172 0 2 (.lit 2)] 0)) .lf)
  (some (.c false [.st [42], .st [47], .st [37]] 0)) (.nd .lf (some (.c false [.st [109, 97, 105, 110], .it .i64 1, .it .i64 1, .it .i64 0, .it .i64 6] 0)) .lf))
  (some (.c false [.it .i64 2, .st [102, 117, 110, 99], .it .i64 0, .it .i64 0] 0)) (.nd (.nd .lf (some (.c false [.st [109, 97, 105, 110], .sl 100 0 1 (.of 100 0), .it .i64 4] 0))
  .lf) (some (.c false [.it .i64 17, .st [], .it .i64 0, .s0, .sl 189 0 1 (.lit 1)] 0)) .lf)) (some (.c false [.it .i64 2, .st [114, 101, 116, 117, 114, 110], .it .i64 0,
  .it .i64 15] 0)) (.nd (.nd (.nd .lf (some (.c false [.it .i64 0, .it .i64 0, .st [], .s0] 0)) .lf) (some (.c false [.it .i64 0, .st [], .it .i64 0, .it .i64 0] 0))
  (.nd .lf (some (.c false [.it .i64 5, .it .i64 0, .st [], .s0] 0)) .lf)) (some (.c false [.st [111, 114]] 0)) (.nd (.nd .lf (some (.c false [.it .i64 1, .st [109, 97, 105, 110],
  .it .i64 0, .it .i64 0] 4)) .lf) (some (.c false [.it .i64 17, .st [], .it .i64 0, .s0, .sl 189 0 1 (.lit 1)] 0)) .lf))))
  none (.nd (.nd (.nd (.nd (.nd .lf (some (.c false [.it .i64 0, .it .i64 0, .it .i64 (-1), .it .i64 (-1), .it .i64 (-1)] 0)) .lf) (some (.dead))
  (.nd .lf (some (.c false [.it .i64 9, .it .i64 0, .st [43], .s0] 0)) .lf)) (some (.c false [.it .i64 5, .st [125], .it .i64 0, .it .i64 29] 0))
  (.nd (.nd .lf (some (.c false [.it .i64 9, .st [43], .it .i64 0, .s0, .sl 172 0 2 (.lit 2)] 0)) .lf) (some (.c false [.sl 200 0 5 (.of 200 0), .sl 202 0 1 (.of 202 0)] 0)) .lf))
  (some (.c false [.it .i64 5, .st [123], .it .i64 0, .it .i64 0] 0)) (.nd (.nd (.nd .lf (some (.c false [.it .i64 9, .it .i64 0, .st [43], .s0] 0)) .lf)
  (some (.c false [.it .i64 0, .it .i64 1] 0)) (.nd .lf (some (.c false [.sl 363 0 1 (.of 363 0), .sl 311 0 6 (.of 311 0)] 0)) .lf)) (some (.c false [.it .i64 5, .st [123],
  .it .i64 0, .it .i64 13] 0)) (.nd (.nd .lf (some (.c false [.sl 363 0 1 (.of 363 0), .sl 311 0 6 (.of 311 0)] 0)) .lf) (some (.c false [.st [109, 97, 105, 110],
  .sl 100 0 1 (.of 100 0), .it .i64 4] 0)) .lf))) (some (.dead)) (.nd (.nd (.nd (.nd .lf (some (.c false [.st [109, 97, 105, 110], .sl 100 0 1 (.of 100 0), .it .i64 4] 0)) .lf)
  (some (.c false [.st [110, 117, 108, 108], .st [116, 114, 117, 101], .st [102, 97, 108, 115, 101]] 0)) (.nd .lf (some (.c false [.st [109, 97, 105, 110], .it .i64 1, .it .i64 1,
  .it .i64 0, .it .i64 6] 0)) .lf)) (some (.c false [.it .i64 5, .st [40], .it .i64 0, .it .i64 9] 0)) (.nd (.nd .lf (some (.c false [.it .i64 0, .it .i64 0, .it .i64 (-1),
  .it .i64 (-1), .it .i64 (-1)] 0)) .lf) (some (.c false [.it .i64 5, .st [101], .it .i64 0, .s0, .s0] 0)) .lf)) (some (.c false [.it .i64 0, .st [], .it .i64 0, .it .i64 0] 0))
  (.nd (.nd (.nd .lf (some (.c false [.st [109, 97, 105, 110], .sl 100 0 1 (.of 100 0), .it .i64 4] 0)) .lf) (some (.c false [.it .i64 5, .st [59], .it .i64 0, .it .i64 27] 0))
  (.nd .lf (some (.c false [.it .i64 9, .it .i64 0, .st [43], .s0] 0)) .lf)) (some (.c false [.it .i64 0, .st [], .it .i64 0, .it .i64 0] 0))
  (.nd (.nd .lf (some (.c false [.it .i64 5, .it .i64 0, .st [], .s0] 0)) .lf) (some (.c false [.it .i64 9, .st [43], .it .i64 0, .s0, .sl 172 0 2 (.lit 2)] 0)) .lf))))))
  none (.nd (.nd (.nd (.nd (.nd (.nd (.nd .lf (some (.c false [.st [109, 97, 105, 110], .sl 100 0 1 (.of 100 0), .it .i64 4] 0)) .lf) (some (.c false [.st [110, 117, 108, 108],
  .st [116, 114, 117, 101], .st [102, 97, 108, 115, 101]] 0)) (.nd .lf (some (.c false [.sl 363 0 1 (.of 363 0), .sl 311 0 6 (.of 311 0)] 0)) .lf)) (some (.c false [.it .i64 1,
  .st [101], .it .i64 0, .it .i64 26] 0)) (.nd (.nd .lf (some (.c false [.it .i64 17, .st [], .it .i64 0, .s0, .sl 189 0 1 (.lit 1)] 0)) .lf) (some (.c false [.it .i64 3] 1))
  (.nd .lf (some (.c false [.sl 363 0 1 (.of 363 0), .sl 311 0 6 (.of 311 0)] 0)) .lf))) (some (.c false [.it .i64 1, .st [101], .it .i64 0, .it .i64 0] 0))
  (.nd (.nd (.nd .lf (some (.c false [.it .i64 5, .it .i64 0, .st [], .s0] 0)) .lf) (some (.c false [.it .i64 0, .st [], .it .i64 0, .it .i64 0] 0))
  (.nd .lf (some (.c false [.it .i64 20, .it .i64 0, .st [], .s0] 0)) .lf)) (some (.c false [.it .i64 1, .st [101], .it .i64 0, .it .i64 10] 0))
  (.nd (.nd .lf (some (.c false [.it .i64 19, .st [], .it .i64 0, .s0, .sl 194 0 1 (.of 194 0)] 0)) .lf) (some (.c false [.sl 200 0 5 (.of 200 0), .sl 202 0 1 (.of 202 0)] 0))
  .lf))) (some (.c false [.it .i64 0] 0)) (.nd (.nd (.nd (.nd .lf (some (.c false [.it .i64 19, .st [], .it .i64 0, .s0, .sl 194 0 1 (.of 194 0)] 0)) .lf)
  (some (.c false [.it .i64 5, .st [43], .it .i64 0, .it .i64 24] 0)) (.nd .lf (some (.c false [.it .i64 20, .it .i64 0, .st [], .s0] 0)) .lf)) (some (.c false [.it .i64 2,
  .st [102, 117, 110, 99], .it .i64 0, .it .i64 0] 0)) (.nd (.nd .lf (some (.c false [.st [109, 97, 105, 110], .sl 100 0 1 (.of 100 0), .it .i64 4] 0)) .lf)
  (some (.c false [.it .i64 17, .st [], .it .i64 0, .s0, .sl 189 0 1 (.lit 1)] 0)) .lf)) (some (.c false [.it .i64 0, .st [], .it .i64 0, .it .i64 0] 0))
  (.nd (.nd (.nd .lf (some (.dead)) .lf) (some (.c false [.st [61, 61], .st [33, 61], .st [60], .st [60, 61], .st [62], .st [62, 61]] 0)) (.nd .lf (some (.c false [.it .i64 5,
  .it .i64 0, .st [], .s0] 0)) .lf)) (some (.c false [.it .i64 2, .st [114, 101, 116, 117, 114, 110], .it .i64 0, .it .i64 15] 0)) (.nd (.nd .lf (some (.c false [.it .i64 1,
  .st [109, 97, 105, 110], .it .i64 0, .it .i64 0] 0)) .lf) (some (.c false [.it .i64 17, .st [], .it .i64 0, .s0, .sl 189 0 1 (.lit 1)] 0)) .lf))))
  none (.nd (.nd (.nd (.nd (.nd .lf (some (.c false [.st [109, 97, 105, 110]] 0)) .lf) (some (.c false [.it .i64 5, .st [101], .it .i64 0, .s0, .s0] 0))
  (.nd .lf (some (.c false [.sl 363 0 1 (.of 363 0), .sl 311 0 6 (.of 311 0)] 0)) .lf)) (some (.c false [.it .i64 5, .st [125], .it .i64 0, .it .i64 0] 0))
  (.nd (.nd .lf (some (.c false [.it .i64 5, .st [101], .it .i64 0, .s0, .s0] 0)) .lf) (some (.c false [.st [109, 97, 105, 110], .sl 100 0 1 (.of 100 0), .it .i64 4] 3)) .lf))
  (some (.c false [.it .i64 5, .st [41], .it .i64 0, .it .i64 11] 0)) (.nd (.nd (.nd .lf (some (.c false [.it .i64 5, .it .i64 0, .st [], .s0] 0)) .lf) (some (.c false [.it .i64 0,
  .st [], .it .i64 0, .it .i64 0] 0)) (.nd .lf (some (.c false [.it .i64 0, .it .i64 1, .it .i64 2, .it .i64 1, .it .i64 (-1), .it .i64 (-1)] 0)) .lf))
  (some (.c false [.st [123]] 0)) (.nd (.nd .lf (some (.c false [.st [109, 97, 105, 110], .it .i64 1, .it .i64 1, .it .i64 0, .it .i64 6] 0)) .lf)
  (some (.c false [.sl 200 0 5 (.of 200 0), .sl 202 0 1 (.of 202 0)] 0)) .lf))) (some (.c false [.it .i64 1, .st [109, 97, 105, 110], .it .i64 0, .it .i64 5] 0))
  (.nd (.nd (.nd (.nd .lf (some (.c false [.sl 200 0 5 (.of 200 0), .sl 202 0 1 (.of 202 0), .sl 268 0 5 (.lit 5), .it .i64 0, .sl 311 0 6 (.of 311 0)] 0)) .lf)
  (some (.c false [.it .i64 0, .st [], .it .i64 0, .it .i64 0] 0)) (.nd .lf (some (.c false [.it .i64 1, .it .i64 0, .st [], .s0] 0)) .lf)) (some (.c false [.it .i64 5, .st [40],
  .it .i64 0, .it .i64 9] 0)) (.nd (.nd .lf (some (.c false [.st [109, 97, 105, 110]] 0)) .lf) (some (.c false [.it .i64 5, .st [101], .it .i64 0, .s0, .s0] 0)) .lf)) (some (.dead))
  (.nd (.nd (.nd .lf (some (.c false [.sl 200 0 5 (.of 200 0), .sl 202 0 1 (.of 202 0)] 0)) .lf) (some (.c false [.it .i64 5, .st [59], .it .i64 0, .it .i64 27] 0))
  (.nd .lf (some (.c false [.sl 363 0 1 (.of 363 0), .sl 311 0 6 (.of 311 0)] 0)) .lf)) (some (.c false [.st [42], .st [47], .st [37]] 0))
  (.nd (.nd .lf (some (.c false [.sl 363 0 1 (.of 363 0), .sl 311 0 6 (.of 311 0)] 0)) .lf) (some (.c false [.it .i64 5, .st [101], .it .i64 0, .s0, .s0] 0)) .lf)))))
  none (.nd (.nd (.nd (.nd (.nd (.nd .lf (some (.c false [.sl 200 0 5 (.of 200 0), .sl 202 0 1 (.of 202 0)] 0)) .lf) (some (.c false [.it .i64 1, .st [101], .it .i64 0,
  .it .i64 22] 0)) (.nd .lf (some (.c false [.sl 363 0 1 (.of 363 0), .sl 311 0 6 (.of 311 0)] 0)) .lf)) (some (.c false [.it .i64 0, .st [], .it .i64 0, .it .i64 0] 0))
  (.nd (.nd .lf (some (.c false [.it .i64 9, .st [43], .it .i64 0, .s0, .sl 172 0 2 (.lit 2)] 0)) .lf) (some (.c false [.it .i64 19, .st [], .it .i64 0, .s0,
  .sl 194 0 1 (.of 194 0)] 0)) .lf)) (some (.dead)) (.nd (.nd (.nd .lf (some (.c false [.it .i64 5, .st [101], .it .i64 0, .s0, .s0] 0)) .lf) (some (.dead))
  (.nd .lf (some (.c false [.st [114, 101, 116, 117, 114, 110], .bo false, .bo false, .bo false, .it .i64 1, .it .i64 0] 0)) .lf)) (some (.c false [.it .i64 5, .st [41], .it .i64 0,
  .it .i64 11] 0)) (.nd (.nd .lf (some (.c false [.it .i64 5, .st [101], .it .i64 0, .s0, .s0] 0)) .lf) (some (.c false [.sl 363 0 1 (.of 363 0), .sl 311 0 6 (.of 311 0)] 0)) .lf)))
  (some (.c false [.it .i64 2, .st [102, 117, 110, 99], .it .i64 0, .it .i64 0] 0)) (.nd (.nd (.nd (.nd .lf (some (.c false [.it .i64 5, .st [101], .it .i64 0, .s0, .s0] 0)) .lf)
  (some (.c false [.it .i64 0, .st [], .it .i64 0, .it .i64 0] 0)) (.nd .lf (some (.c false [.st [114, 101, 116, 117, 114, 110], .bo false, .bo false, .bo false, .it .i64 1,
  .it .i64 0] 0)) .lf)) (some (.c false [.it .i64 1, .st [109, 97, 105, 110], .it .i64 0, .it .i64 5] 0)) (.nd (.nd .lf (some (.c false [.sl 200 0 5 (.of 200 0),
  .sl 202 0 1 (.of 202 0)] 0)) .lf) (some (.c false [.it .i64 9, .st [43], .it .i64 0, .s0, .sl 172 0 2 (.lit 2)] 0)) .lf)) (some (.c false [.it .i64 1, .st [101], .it .i64 0,
  .it .i64 0] 0)) (.nd (.nd (.nd .lf (some (.c false [.it .i64 1, .it .i64 0, .st [], .s0, .it .i64 20, .it .i64 0, .st [], .s0] 0)) .lf) (some (.c false [.it .i64 0, .st [],
  .it .i64 0, .it .i64 0] 0)) (.nd .lf (some (.c false [.it .i64 5, .it .i64 0, .st [], .s0] 0)) .lf)) (some (.c false [.st [110, 111, 116]] 0))
  (.nd (.nd .lf (some (.c false [.st [109, 97, 105, 110]] 0)) .lf) (some (.c false [.it .i64 9, .st [43], .it .i64 0, .s0, .sl 172 0 2 (.lit 2)] 0)) .lf))))
  none (.nd (.nd (.nd (.nd (.nd .lf (some (.c false [.st [109, 97, 105, 110], .sl 100 0 1 (.of 100 0), .it .i64 4] 0)) .lf) (some (.c false [.it .i64 0, .st [], .it .i64 0,
  .it .i64 0] 0)) (.nd .lf (some (.c false [.sl 363 0 1 (.of 363 0), .sl 311 0 6 (.of 311 0)] 0)) .lf)) (some (.c false [.it .i64 2, .st [102, 117, 110, 99], .it .i64 0, .it .i64 0,
  .it .i64 1, .st [109, 97, 105, 110], .it .i64 0, .it .i64 5, .it .i64 5, .st [40], .it .i64 0, .it .i64 9, .it .i64 1, .st [101], .it .i64 0, .it .i64 10, .it .i64 5, .st [41],
  .it .i64 0, .it .i64 11, .it .i64 5, .st [123], .it .i64 0, .it .i64 13, .it .i64 2, .st [114, 101, 116, 117, 114, 110], .it .i64 0, .it .i64 15, .it .i64 1, .st [101],
  .it .i64 0, .it .i64 22, .it .i64 5, .st [43], .it .i64 0, .it .i64 24, .it .i64 1, .st [101], .it .i64 0, .it .i64 26, .it .i64 5, .st [59], .it .i64 0, .it .i64 27, .it .i64 5,
  .st [125], .it .i64 0, .it .i64 29] 4)) (.nd (.nd .lf (some (.c false [.it .i64 5, .st [101], .it .i64 0, .s0, .s0] 0)) .lf) (some (.c false [.it .i64 19, .st [], .it .i64 0, .s0,
  .sl 194 0 1 (.of 194 0)] 0)) .lf)) (some (.c false [.it .i64 5, .st [123], .it .i64 0, .it .i64 13] 0)) (.nd (.nd (.nd .lf (some (.c false [.it .i64 17, .st [], .it .i64 0, .s0,
  .sl 189 0 1 (.lit 1)] 0)) .lf) (some (.c false [.it .i64 9, .st [43], .it .i64 0, .s0, .sl 172 0 2 (.lit 2)] 0)) (.nd .lf (some (.c false [.bo true, .bo true, .bo true, .bo true,
  .bo false, .bo false] 0)) .lf)) (some (.c false [.st [125]] 0)) (.nd (.nd .lf (some (.c false [.sl 363 0 1 (.of 363 0), .sl 311 0 6 (.of 311 0)] 0)) .lf)
  (some (.c false [.it .i64 19, .st [], .it .i64 0, .s0, .sl 194 0 1 (.of 194 0)] 0)) .lf))) (some (.c false [.it .i64 0, .st [], .it .i64 0, .it .i64 0] 0))
  (.nd (.nd (.nd (.nd .lf (some (.c false [.it .i64 17, .st [], .it .i64 0, .s0, .sl 189 0 1 (.lit 1)] 0)) .lf) (some (.c false [.it .i64 0, .st [], .it .i64 0, .it .i64 0] 0))
  (.nd .lf (some (.c false [.st [110, 117, 108, 108], .bo false, .bo false, .bo false, .it .i64 0, .it .i64 1] 0)) .lf)) (some (.c false [.it .i64 0, .st [], .it .i64 0,
  .it .i64 0] 0)) (.nd (.nd .lf (some (.c false [.st [109, 97, 105, 110], .sl 100 0 1 (.of 100 0), .it .i64 4] 0)) .lf) (some (.c false [.it .i64 5, .st [101], .it .i64 0, .s0,
  .s0] 0)) .lf)) (some (.c false [.it .i64 5, .st [43], .it .i64 0, .it .i64 24] 0)) (.nd (.nd (.nd .lf (some (.c false [.it .i64 19, .st [], .it .i64 0, .s0,
  .sl 194 0 1 (.of 194 0)] 0)) .lf) (some (.c false [.it .i64 17, .st [], .it .i64 0, .s0, .sl 189 0 1 (.lit 1)] 0)) (.nd .lf (some (.c false [.it .i64 20, .it .i64 0, .st [],
  .s0] 0)) .lf)) (some (.c false [.it .i64 0, .st [], .it .i64 0, .it .i64 0] 0)) (.nd (.nd .lf (some (.c false [.sl 363 0 1 (.of 363 0), .sl 311 0 6 (.of 311 0)] 0)) .lf)
  (some (.c false [.it .i64 5, .st [101], .it .i64 0, .s0, .s0] 0)) .lf)))))))), 451⟩
noncomputable def A4 : SA := ⟨(.nd (.nd (.nd (.nd (.nd .lf (some (.tu [.ag [.sl 363 0 1 (.of 363 0), .sl 311 0 6 (.of 311 0)], .it .i64 0])) .lf) (some (.it .i64 0))
  (.nd .lf (some (.sl 451 0 1 (.lit 1))) .lf)) (some (.it .i64 0)) (.nd (.nd .lf (some (.it .i64 0)) .lf) (some (.it .i64 0)) (.nd .lf (some (.it .i64 0)) .lf))) (some (.pt 228 0))
  (.nd (.nd (.nd .lf (some (.tu [.ag [.sl 363 0 1 (.of 363 0), .sl 311 0 6 (.of 311 0)], .it .i64 0])) .lf) (some (.tu [.ag [.sl 200 0 5 (.of 200 0), .sl 202 0 1 (.of 202 0)],
  .it .i64 0, .it .i64 0])) (.nd .lf (some (.tu [.ag [.it .i64 1, .it .i64 0, .s0, .sl 556 0 1 (.of 556 0), .s0, .it .i64 100, .it .i64 100, .it .i64 0, .it .i64 1], .it .i64 0]))
  .lf)) (some (.it .i64 0)) (.nd (.nd .lf (some (.ag [.sl 363 0 1 (.of 363 0), .sl 311 0 6 (.of 311 0)])) .lf) (some (.it .i64 0)) .lf))) (some (.bo false))
  (.nd (.nd (.nd (.nd .lf (some (.ag [.sl 200 0 5 (.of 200 0), .sl 202 0 1 (.of 202 0)])) .lf) (some (.tu [.ag [.sl 200 0 5 (.of 200 0), .sl 202 0 1 (.of 202 0)], .it .i64 0,
  .it .i64 0])) (.nd .lf (some (.ag [.it .i64 100, .it .i64 100])) .lf)) (some (.pt 450 0)) (.nd (.nd .lf (some (.tu [.ag [.it .i64 1, .it .i64 0, .s0, .sl 556 0 1 (.of 556 0), .s0,
  .it .i64 100, .it .i64 100, .it .i64 0, .it .i64 1], .it .i64 0])) .lf) (some (.it .i64 0)) .lf)) (some (.it .i64 0)) (.nd (.nd (.nd .lf (some (.ag [.sl 363 0 1 (.of 363 0),
  .sl 311 0 6 (.of 311 0)])) .lf) (some (.ag [.sl 200 0 5 (.of 200 0), .sl 202 0 1 (.of 202 0)])) (.nd .lf (some (.ag [.it .i64 1, .it .i64 0, .s0, .sl 556 0 1 (.of 556 0), .s0,
  .it .i64 100, .it .i64 100, .it .i64 0, .it .i64 1])) .lf)) (some (.pt 559 0)) (.nd (.nd .lf (some (.ag [.it .i64 3, .it .i64 21, .st [], .it .i64 0])) .lf) (some (.bo false))
  .lf)))), 56, []⟩
noncomputable def S4 : SH := ⟨(.nd (.nd (.nd (.nd (.nd (.nd (.nd (.nd (.nd (.nd .lf (some (.c false [.st [109, 97, 105, 110], .it .i64 1, .it .i64 1, .it .i64 0, .it .i64 6] 0))
  .lf) (some (.c false [.it .i64 5, .st [101], .it .i64 0, .s0, .s0] 0)) .lf) (some (.c false [.it .i64 0, .st [], .it .i64 0, .it .i64 0] 0)) (.nd .lf (some (.c false [.st [109,
  97, 105, 110], .it .i64 1, .it .i64 1, .it .i64 0, .it .i64 6] 0)) .lf)) (some (.dead)) (.nd (.nd .lf (some (.c false [.it .i64 19, .st [], .it .i64 0, .s0,
  .sl 194 0 1 (.of 194 0)] 0)) .lf) (some (.c false [.it .i64 17, .st [], .it .i64 0, .s0, .sl 189 0 1 (.lit 1)] 0)) (.nd .lf (some (.c false [.sl 363 0 1 (.of 363 0),
  .sl 311 0 6 (.of 311 0)] 0)) .lf))) (some (.c false [.it .i64 5, .st [40], .it .i64 0, .it .i64 9] 0)) (.nd (.nd (.nd (.nd .lf (some (.c false [.st [109, 97, 105, 110],
  .it .i64 1, .it .i64 1, .it .i64 0, .it .i64 6] 0)) .lf) (some (.c false [.it .i64 9, .st [43], .it .i64 0, .s0, .sl 172 0 2 (.lit 2)] 0)) .lf) (some (.c false [.it .i64 1,
  .st [101], .it .i64 0, .it .i64 26] 0)) (.nd .lf (some (.c false [.sl 363 0 1 (.of 363 0), .sl 311 0 6 (.of 311 0)] 0)) .lf)) (some (.c false [.it .i64 0, .st [], .it .i64 0,
  .it .i64 0] 0)) (.nd (.nd .lf (some (.mp [(.st [101], .it .i64 0, 0)] 1)) .lf) (some (.c false [.it .i64 5, .st [101], .it .i64 0, .s0, .s0] 0))
  (.nd .lf (some (.c false [.it .i64 5, .it .i64 0, .st [], .s0] 0)) .lf)))) none (.nd (.nd (.nd (.nd (.nd .lf (some (.c false [.it .i64 5, .it .i64 0, .st [], .s0] 0)) .lf)
  (some (.mp [(.st [101], .it .i64 0, 0)] 1)) .lf) (some (.c false [.it .i64 0, .st [], .it .i64 0, .it .i64 0] 0)) (.nd .lf (some (.c false [.st [109, 97, 105, 110], .it .i64 1,
  .it .i64 1, .it .i64 0, .it .i64 6] 0)) .lf)) (some (.c false [.sl 78 0 12 (.of 78 0), .it .i64 12, .it .i64 30, .sl 200 0 5 (.of 200 0), .sl 202 0 1 (.of 202 0)] 0))
  (.nd (.nd .lf (some (.c false [.it .i64 5, .st [101], .it .i64 0, .s0, .s0] 0)) .lf) (some (.c false [.it .i64 19, .st [], .it .i64 0, .s0, .sl 194 0 1 (.of 194 0)] 0))
  (.nd .lf (some (.c false [.it .i64 1, .st [109, 97, 105, 110], .it .i64 0, .it .i64 0] 4)) .lf))) (some (.c false [.it .i64 5, .st [123], .it .i64 0, .it .i64 13] 0))
  (.nd (.nd (.nd (.nd .lf (some (.c false [.it .i64 1, .it .i64 0, .s0, .sl 556 0 1 (.of 556 0), .s0, .it .i64 100, .it .i64 100, .it .i64 0, .it .i64 1] 0)) .lf)
  (some (.c false [.it .i64 20, .it .i64 0, .st [], .s0] 0)) .lf) (some (.dead)) (.nd .lf (some (.c false [.it .i64 5, .it .i64 0, .st [], .s0] 0)) .lf))
  (some (.c false [.it .i64 0, .st [], .it .i64 0, .it .i64 0] 0)) (.nd (.nd .lf (some (.c false [.st [109, 97, 105, 110], .it .i64 1, .it .i64 1, .it .i64 0, .it .i64 6] 0)) .lf)
  (some (.c false [.it .i64 19, .st [], .it .i64 0, .s0, .sl 194 0 1 (.of 194 0)] 0)) (.nd .lf (some (.c false [.st [109, 97, 105, 110], .it .i64 1, .it .i64 1, .it .i64 0,
  .it .i64 6] 0)) .lf))))) none (.nd (.nd (.nd (.nd (.nd (.nd .lf (some (.c false [.sl 363 0 1 (.of 363 0), .sl 311 0 6 (.of 311 0)] 0)) .lf) (some (.c false [.st [109, 97, 105,
  110]] 0)) .lf) (some (.c false [.st [40]] 0)) (.nd .lf (some (.c false [.st [109, 97, 105, 110], .it .i64 1, .it .i64 1, .it .i64 0, .it .i64 6] 0)) .lf))
  (some (.c false [.it .i64 5, .st [59], .it .i64 0, .it .i64 27] 0)) (.nd (.nd .lf (some (.c false [.it .i64 9, .st [43], .it .i64 0, .s0, .sl 172 0 2 (.lit 2)] 0)) .lf)
  (some (.c false [.it .i64 19, .st [], .it .i64 0, .s0, .sl 194 0 1 (.of 194 0)] 0)) (.nd .lf (some (.c false [.sl 363 0 1 (.of 363 0), .sl 311 0 6 (.of 311 0)] 0)) .lf)))
  (some (.c false [.it .i64 5, .st [41], .it .i64 0, .it .i64 0] 0)) (.nd (.nd (.nd (.nd .lf (some (.c false [] 0)) .lf) (some (.c false [.it .i64 5, .st [101], .it .i64 0, .s0,
  .s0] 0)) .lf) (some (.c false [.st [91]] 0)) (.nd .lf (some (.c false [.sl 363 0 1 (.of 363 0), .sl 311 0 6 (.of 311 0)] 0)) .lf)) (some (.c false [.it .i64 5, .st [41],
  .it .i64 0, .it .i64 11] 0)) (.nd (.nd .lf (some (.c false [.it .i64 17, .st [], .it .i64 0, .s0, .sl 189 0 1 (.lit 1)] 0)) .lf) (some (.c false [.sl 200 0 5 (.of 200 0),
  .sl 202 0 1 (.of 202 0)] 0)) (.nd .lf (some (.c false [.it .i64 9, .it .i64 0, .st [43], .s0] 0)) .lf)))) (some (.dead)) (.nd (.nd (.nd (.nd (.nd .lf (some (.c false [.it .i64 9,
  .it .i64 0, .st [43], .s0] 0)) .lf) (some (.c false [.it .i64 17, .st [], .it .i64 0, .s0, .sl 189 0 1 (.lit 1)] 0)) .lf) (some (.c false [.it .i64 0, .st [], .it .i64 0,
  .it .i64 0] 0)) (.nd .lf (some (.c false [.sl 363 0 1 (.of 363 0), .sl 311 0 6 (.of 311 0)] 0)) .lf)) (some (.c false [.it .i64 1, .st [109, 97, 105, 110], .it .i64 0,
  .it .i64 5] 0)) (.nd (.nd .lf (some (.c false [.st [109, 97, 105, 110]] 0)) .lf) (some (.c false [.it .i64 9, .st [43], .it .i64 0, .s0, .sl 172 0 2 (.lit 2)] 0))
  (.nd .lf (some (.c false [.it .i64 5, .it .i64 0, .st [], .s0] 0)) .lf))) (some (.c false [.it .i64 0, .st [], .it .i64 0, .it .i64 0] 0))
  (.nd (.nd (.nd .lf (some (.c false [.it .i64 5, .it .i64 0, .st [], .s0, .it .i64 5, .it .i64 0, .st [], .s0, .it .i64 9, .it .i64 0, .st [43], .s0, .it .i64 20, .it .i64 0,
  .st [], .s0, .it .i64 1, .it .i64 0, .st [], .s0, .it .i64 20, .it .i64 0, .st [], .s0] 4)) .lf) (some (.c false [.it .i64 0, .st [], .it .i64 0, .it .i64 0] 0))
  (.nd .lf (some (.c false [.it .i64 5, .it .i64 0, .st [], .s0] 0)) .lf)) (some (.c false [.it .i64 0, .st [], .it .i64 0, .it .i64 0] 0)) (.nd (.nd .lf (some (.c false [.st [109,
  97, 105, 110], .it .i64 1, .it .i64 1, .it .i64 0, .it .i64 6] 0)) .lf) (some (.c false [.it .i64 9, .st [43], .it .i64 0, .s0, .sl 172 0 2 (.lit 2)] 0))
  (.nd .lf (some (.c false [.st [109, 97, 105, 110], .it .i64 1, .it .i64 1, .it .i64 0, .it .i64 6] 0)) .lf))))))
  none (.nd (.nd (.nd (.nd (.nd (.nd (.nd .lf (some (.c false [.st [109, 97, 105, 110], .it .i64 1, .it .i64 1, .it .i64 0, .it .i64 6] 0)) .lf)
  (some (.c false [.sl 200 0 5 (.of 200 0), .sl 202 0 1 (.of 202 0)] 0)) .lf) (some (.c false [.it .i64 0, .st [], .it .i64 0, .it .i64 0] 0)) (.nd .lf (some (.c false [.st [109,
  97, 105, 110], .it .i64 1, .it .i64 1, .it .i64 0, .it .i64 6] 0)) .lf)) (some (.c false [.it .i64 1, .st [101], .it .i64 0, .it .i64 26] 0))
  (.nd (.nd .lf (some (.c false [.it .i64 17, .st [], .it .i64 0, .s0, .sl 189 0 1 (.lit 1)] 0)) .lf) (some (.c false [.st [125]] 0)) (.nd .lf (some (.c false [.it .i64 3,
  .it .i64 21, .st [], .it .i64 0] 0)) .lf))) (some (.c false [.it .i64 0, .st [], .it .i64 0, .it .i64 0] 0)) (.nd (.nd (.nd (.nd .lf (some (.c false [.it .i64 3, .it .i64 21,
  .st [], .it .i64 0] 0)) .lf) (some (.c false [.it .i64 5, .it .i64 0, .st [], .s0] 0)) .lf) (some (.c false [.it .i64 0, .st [], .it .i64 0, .it .i64 0] 0))
  (.nd .lf (some (.c false [.sl 363 0 1 (.of 363 0), .sl 311 0 6 (.of 311 0)] 0)) .lf)) (some (.c false [.st [101]] 0)) (.nd (.nd .lf (some (.c false [.it .i64 17, .st [],
  .it .i64 0, .s0, .sl 189 0 1 (.lit 1)] 0)) .lf) (some (.c false [.st [109, 97, 105, 110], .sl 100 0 1 (.of 100 0), .it .i64 4] 0)) (.nd .lf (some (.c false [.it .i64 5,
  .it .i64 0, .st [], .s0] 0)) .lf)))) (some (.c false [.it .i64 2, .st [102, 117, 110, 99], .it .i64 0, .it .i64 0] 0))
  (.nd (.nd (.nd (.nd (.nd .lf (some (.c false [.it .i64 2] 0)) .lf) (some (.c false [.it .i64 17, .st [], .it .i64 0, .s0, .sl 189 0 1 (.lit 1)] 0)) .lf)
  (some (.c false [.it .i64 5, .st [43], .it .i64 0, .it .i64 24] 0)) (.nd .lf (some (.c false [.sl 363 0 1 (.of 363 0), .sl 311 0 6 (.of 311 0)] 0)) .lf))
  (some (.c false [.it .i64 2, .st [102, 117, 110, 99], .it .i64 0, .it .i64 0] 0)) (.nd (.nd .lf (some (.c false [.sl 200 0 5 (.of 200 0), .sl 202 0 1 (.of 202 0)] 0)) .lf)
  (some (.c false [.it .i64 17, .st [], .it .i64 0, .s0, .sl 189 0 1 (.lit 1)] 0)) (.nd .lf (some (.c false [.st [109, 97, 105, 110], .it .i64 1, .it .i64 1, .it .i64 0,
  .it .i64 6] 0)) .lf))) (some (.c false [.it .i64 2, .st [114, 101, 116, 117, 114, 110], .it .i64 0, .it .i64 15] 0)) (.nd (.nd (.nd .lf (some (.c false [.it .i64 19, .st [],
  .it .i64 0, .s0, .sl 194 0 1 (.of 194 0)] 0)) .lf) (some (.c false [.it .i64 0, .st [], .it .i64 0, .it .i64 0] 0)) (.nd .lf (some (.c false [.it .i64 1] 0)) .lf))
  (some (.c false [.it .i64 2, .st [114, 101, 116, 117, 114, 110], .it .i64 0, .it .i64 15] 0)) (.nd (.nd .lf (some (.c false [.it .i64 1, .st [109, 97, 105, 110], .it .i64 0,
  .it .i64 0] 0)) .lf) (some (.c false [.it .i64 17, .st [], .it .i64 0, .s0, .sl 189 0 1 (.lit 1)] 0)) (.nd .lf (some (.c false [.st [109, 97, 105, 110], .it .i64 1, .it .i64 1,
  .it .i64 0, .it .i64 6] 0)) .lf))))) none (.nd (.nd (.nd (.nd (.nd (.nd .lf (some (.c false [.sl 363 0 1 (.of 363 0), .sl 311 0 6 (.of 311 0)] 0)) .lf) (some (.c false [.st [109,
  97, 105, 110], .sl 100 0 1 (.of 100 0), .it .i64 4] 0)) .lf) (some (.c false [.it .i64 5, .st [101], .it .i64 0, .s0, .s0] 0)) (.nd .lf (some (.c false [.st [109, 97, 105, 110],
  .it .i64 1, .it .i64 1, .it .i64 0, .it .i64 6] 0)) .lf)) (some (.c false [.it .i64 0, .st [], .it .i64 0, .it .i64 0] 0)) (.nd (.nd .lf (some (.c false [.it .i64 5, .st [101],
  .it .i64 0, .s0, .s0] 0)) .lf) (some (.c false [.sl 200 0 5 (.of 200 0), .sl 202 0 1 (.of 202 0)] 0)) (.nd .lf (some (.c false [.it .i64 1, .st [109, 97, 105, 110], .it .i64 0,
  .it .i64 0] 0)) .lf))) (some (.dead)) (.nd (.nd (.nd (.nd .lf (some (.c false [.it .i64 0, .it .i64 0, .sl 553 0 1 (.lit 1), .s0] 0)) .lf) (some (.dead)) .lf)
  (some (.c false [.it .i64 0, .st [], .it .i64 0, .it .i64 0] 0)) (.nd .lf (some (.c false [.st [109, 97, 105, 110], .it .i64 1, .it .i64 1, .it .i64 0, .it .i64 6] 0)) .lf))
  (some (.c false [.it .i64 5, .st [123], .it .i64 0, .it .i64 13] 0)) (.nd (.nd .lf (some (.c false [.st [109, 97, 105, 110], .it .i64 1, .it .i64 1, .it .i64 0, .it .i64 6] 5))
  .lf) (some (.c false [.sl 200 0 5 (.of 200 0), .sl 202 0 1 (.of 202 0)] 0)) (.nd .lf (some (.c false [.it .i64 9, .it .i64 0, .st [43], .s0] 0)) .lf))))
  (some (.c false [.it .i64 1, .st [109, 97, 105, 110], .it .i64 0, .it .i64 5] 0)) (.nd (.nd (.nd (.nd (.nd .lf (some (.c false [.it .i64 20, .it .i64 0, .st [], .s0] 0)) .lf)
  (some (.c false [.sl 363 0 1 (.of 363 0), .sl 311 0 6 (.of 311 0)] 0)) .lf) (some (.c false [.it .i64 0, .st [], .it .i64 0, .it .i64 0] 0))
  (.nd .lf (some (.c false [.sl 363 0 1 (.of 363 0), .sl 311 0 6 (.of 311 0)] 0)) .lf)) (some (.c false [.it .i64 5, .st [40], .it .i64 0, .it .i64 9] 0))
  (.nd (.nd .lf (some (.c false [.st [109, 97, 105, 110], .sl 100 0 1 (.of 100 0), .it .i64 4] 0)) .lf) (some (.c false [.it .i64 5, .st [101], .it .i64 0, .s0, .s0] 0))
  (.nd .lf (some (.c false [.it .i64 5, .it .i64 0, .st [], .s0] 0)) .lf))) (some (.c false [.it .i64 5, .st [43], .it .i64 0, .it .i64 0] 0))
  (.nd (.nd (.nd .lf (some (.c false [.sl 200 0 5 (.of 200 0), .sl 202 0 1 (.of 202 0)] 0)) .lf) (some (.c false [.it .i64 5, .st [59], .it .i64 0, .it .i64 27] 0))
  (.nd .lf (some (.c false [.it .i64 9, .it .i64 0, .st [43], .s0] 0)) .lf)) (some (.c false [.st [45]] 0)) (.nd (.nd .lf (some (.c false [.st [109, 97, 105, 110], .it .i64 1,
  .it .i64 1, .it .i64 0, .it .i64 6] 0)) .lf) (some (.c false [.it .i64 5, .st [101], .it .i64 0, .s0, .s0] 0)) (.nd .lf (some (.c false [.st [109, 97, 105, 110], .it .i64 1,
  .it .i64 1, .it .i64 0, .it .i64 6] 0)) .lf))))))) none (.nd (.nd (.nd (.nd (.nd (.nd (.nd (.nd .lf (some (.c false [.st [114, 101, 116, 117, 114, 110], .bo false, .bo false,
  .bo false, .it .i64 1, .it .i64 0] 0)) .lf) (some (.c false [.sl 200 0 5 (.of 200 0), .sl 202 0 1 (.of 202 0)] 0)) .lf) (some (.c false [.it .i64 0, .st [], .it .i64 0,
  .it .i64 0] 0)) (.nd .lf (some (.c false [.it .i64 5, .it .i64 0, .st [], .s0] 0)) .lf)) (some (.c false [.it .i64 0, .st [], .it .i64 0, .it .i64 0] 0))
  (.nd (.nd .lf (some (.c false [.it .i64 17, .st [], .it .i64 0, .s0, .sl 189 0 1 (.lit 1)] 0)) .lf) (some (.c false [.it .i64 3] 0)) (.nd .lf (some (.c false [.it .i64 20,
  .it .i64 0, .st [], .s0] 0)) .lf))) (some (.dead)) (.nd (.nd (.nd (.nd .lf (some (.c false [.it .i64 1, .it .i64 2, .bo false, .bo false] 0)) .lf) (some (.c false [.it .i64 5,
  .st [101], .it .i64 0, .s0, .s0] 0)) .lf) (some (.c false [.st [40]] 0)) (.nd .lf (some (.c false [.it .i64 1, .it .i64 0, .st [], .s0] 0)) .lf)) (some (.c false [.it .i64 1,
  .st [101], .it .i64 0, .it .i64 10] 0)) (.nd (.nd .lf (some (.c false [.it .i64 19, .st [], .it .i64 0, .s0, .sl 194 0 1 (.of 194 0)] 0)) .lf) (some (.c false [.st [109, 97, 105,
  110], .sl 100 0 1 (.of 100 0), .it .i64 4] 0)) (.nd .lf (some (.c false [.sl 363 0 1 (.of 363 0), .sl 311 0 6 (.of 311 0)] 0)) .lf)))) (some (.c false [.it .i64 0] 0))
  (.nd (.nd (.nd (.nd (.nd .lf (some (.c false [.it .i64 5, .it .i64 0, .st [], .s0] 0)) .lf) (some (.c false [.it .i64 19, .st [], .it .i64 0, .s0, .sl 194 0 1 (.of 194 0)] 0))
  .lf) (some (.c false [.it .i64 0, .st [], .it .i64 0, .it .i64 0] 0)) (.nd .lf (some (.c false [.st [43], .st [45], .st [42], .st [47], .st [37], .st [61, 61], .st [33, 61],
  .st [60], .st [60, 61], .st [62], .st [62, 61]] 0)) .lf)) (some (.c false [.st [102, 117, 110, 99]] 0)) (.nd (.nd .lf (some (.c false [.sl 200 0 5 (.of 200 0),
  .sl 202 0 1 (.of 202 0)] 0)) .lf) (some (.c false [.it .i64 19, .st [], .it .i64 0, .s0, .sl 194 0 1 (.of 194 0)] 0)) (.nd .lf (some (.c false [.st [109, 97, 105, 110]] 0)) .lf)))
  (some (.c false [.it .i64 2, .st [114, 101, 116, 117, 114, 110], .it .i64 0, .it .i64 0] 0)) (.nd (.nd (.nd .lf (some (.c false [.it .i64 20, .it .i64 0, .st [], .s0] 0)) .lf)
  (some (.c false [.it .i64 0, .st [], .it .i64 0, .it .i64 0] 0)) (.nd .lf (some (.c false [.it .i64 5, .it .i64 0, .st [], .s0] 0)) .lf)) (some (.c false [.st [108, 101, 116],
  .st [105, 102], .st [119, 104, 105, 108, 101], .st [114, 101, 116, 117, 114, 110]] 0)) (.nd (.nd .lf (some (.c false [.it .i64 0, .st [], .it .i64 0, .it .i64 0] 0)) .lf)
  (some (.c false [.it .i64 17, .st [], .it .i64 0, .s0, .sl 189 0 1 (.lit 1)] 0)) (.nd .lf (some (.c false [.st [114, 101, 116, 117, 114, 110], .bo false, .bo false, .bo false,
  .it .i64 1, .it .i64 0] 0)) .lf))))) none (.nd (.nd (.nd (.nd (.nd (.nd .lf (some (.c false [.bo true, .bo true, .bo true, .bo true, .bo false, .bo false] 0)) .lf)
  (some (.c false [.sl 200 0 5 (.of 200 0), .sl 202 0 1 (.of 202 0)] 0)) .lf) (some (.c false [.it .i64 0, .st [], .it .i64 0, .it .i64 0] 0)) (.nd .lf (some (.c false [.it .i64 9,
  .it .i64 0, .st [43], .s0] 0)) .lf)) (some (.dead)) (.nd (.nd .lf (some (.c false [.it .i64 5, .st [101], .it .i64 0, .s0, .s0] 0)) .lf) (some (.c false [.st [109, 97, 105, 110],
  .sl 100 0 1 (.of 100 0), .it .i64 4] 0)) (.nd .lf (some (.c false [.sl 363 0 1 (.of 363 0), .sl 311 0 6 (.of 311 0)] 0)) .lf))) (some (.c false [.it .i64 5, .st [41], .it .i64 0,
  .it .i64 11] 0)) (.nd (.nd (.nd (.nd .lf (some (.c false [.sl 552 0 1 (.of 552 0)] 0)) .lf) (some (.c false [.it .i64 5, .it .i64 0, .st [], .s0] 0)) .lf)
  (some (.c false [.it .i64 0, .st [], .it .i64 0, .it .i64 0] 0)) (.nd .lf (some (.c false [.it .i64 20, .it .i64 0, .st [], .s0] 0)) .lf)) (some (.c false [.it .i64 5, .st [41],
  .it .i64 0, .it .i64 11] 0)) (.nd (.nd .lf (some (.c false [.it .i64 1] 1)) .lf) (some (.c false [.sl 200 0 5 (.of 200 0), .sl 202 0 1 (.of 202 0)] 0))
  (.nd .lf (some (.c false [.sl 363 0 1 (.of 363 0), .sl 311 0 6 (.of 311 0)] 0)) .lf)))) (some (.c false [.it .i64 0, .st [], .it .i64 0, .it .i64 0] 0))
  (.nd (.nd (.nd (.nd (.nd .lf (some (.c false [.it .i64 20, .it .i64 0, .st [], .s0] 0)) .lf) (some (.c false [.it .i64 1] 1)) .lf) (some (.c false [.it .i64 0, .st [], .it .i64 0,
  .it .i64 0] 0)) (.nd .lf (some (.c false [.it .i64 20, .it .i64 0, .st [], .s0] 0)) .lf)) (some (.c false [.st [40]] 0)) (.nd (.nd .lf (some (.c false [.sl 200 0 5 (.of 200 0),
  .sl 202 0 1 (.of 202 0)] 0)) .lf) (some (.c false [.it .i64 9, .st [43], .it .i64 0, .s0, .sl 172 0 2 (.lit 2)] 0)) (.nd .lf (some (.c false [.sl 363 0 1 (.of 363 0),
  .sl 311 0 6 (.of 311 0)] 0)) .lf))) (some (.c false [.it .i64 1, .st [101], .it .i64 0, .it .i64 22] 0)) (.nd (.nd (.nd .lf (some (.c false [.sl 200 0 5 (.of 200 0),
  .sl 202 0 1 (.of 202 0)] 0)) .lf) (some (.c false [.st [59]] 0)) (.nd .lf (some (.c false [.it .i64 9, .it .i64 0, .st [43], .s0] 0)) .lf)) (some (.c false [.st [43],
  .st [45]] 0)) (.nd (.nd .lf (some (.c false [.it .i64 5, .it .i64 0, .st [], .s0] 0)) .lf) (some (.c false [.it .i64 5, .st [101], .it .i64 0, .s0, .s0] 0))
  (.nd .lf (some (.c false [.st [110, 117, 108, 108], .bo false, .bo false, .bo false, .it .i64 0, .it .i64 1] 0)) .lf))))))
  none (.nd (.nd (.nd (.nd (.nd (.nd (.nd .lf (some (.c false [.it .i64 0, .it .i64 1, .it .i64 2, .it .i64 1, .it .i64 (-1), .it .i64 (-1)] 0)) .lf) (some (.mp [(.st [108, 101,
  110], .it .i64 1, 0), (.st [115, 116, 114], .it .i64 1, 1), (.st [105, 110, 116], .it .i64 1, 2), (.st [112, 117, 115, 104], .it .i64 2, 3), (.st [112, 117, 116], .it .i64 3, 4),
  (.st [107, 101, 121, 115], .it .i64 1, 5), (.st [104, 97, 115], .it .i64 2, 6), (.st [102, 97, 105, 108], .it .i64 1, 7)] 8)) .lf) (some (.c false [.it .i64 1, .st [101],
  .it .i64 0, .it .i64 22] 0)) (.nd .lf (some (.c false [.st [108, 111, 97, 100], .bo true, .bo false, .bo false, .it .i64 0, .it .i64 1] 0)) .lf)) (some (.c false [.it .i64 5,
  .st [59], .it .i64 0, .it .i64 0] 0)) (.nd (.nd .lf (some (.c false [.it .i64 9, .st [43], .it .i64 0, .s0, .sl 172 0 2 (.lit 2)] 0)) .lf) (some (.c false [.it .i64 5, .st [125],
  .it .i64 0, .it .i64 29] 0)) (.nd .lf (some (.c false [.it .i64 100, .it .i64 100] 0)) .lf))) (some (.c false [.it .i64 1, .st [101], .it .i64 0, .it .i64 10] 0))
  (.nd (.nd (.nd (.nd .lf (some (.c false [.it .i64 1, .it .i64 2, .bo false, .bo false] 0)) .lf) (some (.dead)) .lf) (some (.c false [.it .i64 5, .st [101], .it .i64 0, .s0,
  .s0] 0)) (.nd .lf (some (.c false [.it .i64 20, .it .i64 0, .st [], .s0] 0)) .lf)) (some (.c false [.st [44], .st [41]] 0)) (.nd (.nd .lf (some (.c false [.it .i64 5, .st [101],
  .it .i64 0, .s0, .s0] 0)) .lf) (some (.c false [.sl 200 0 5 (.of 200 0), .sl 202 0 1 (.of 202 0)] 0)) (.nd .lf (some (.c false [.sl 363 0 1 (.of 363 0),
  .sl 311 0 6 (.of 311 0)] 0)) .lf)))) (some (.c false [.it .i64 2, .st [102, 117, 110, 99], .it .i64 0, .it .i64 0] 0))
  (.nd (.nd (.nd (.nd (.nd .lf (some (.c false [.sl 363 0 1 (.of 363 0), .sl 311 0 6 (.of 311 0)] 0)) .lf) (some (.c false [.it .i64 5, .st [101], .it .i64 0, .s0, .s0] 0)) .lf)
  (some (.c false [.st [45]] 0)) (.nd .lf (some (.c false [.it .i64 20, .it .i64 0, .st [], .s0] 0)) .lf)) (some (.c false [.it .i64 1, .st [109, 97, 105, 110], .it .i64 0,
  .it .i64 5] 0)) (.nd (.nd .lf (some (.mp [(.st [108, 101, 110], .it .i64 1, 0), (.st [115, 116, 114], .it .i64 1, 1), (.st [105, 110, 116], .it .i64 1, 2), (.st [112, 117, 115,
  104], .it .i64 2, 3), (.st [112, 117, 116], .it .i64 3, 4), (.st [107, 101, 121, 115], .it .i64 1, 5), (.st [104, 97, 115], .it .i64 2, 6), (.st [102, 97, 105, 108], .it .i64 1,
  7)] 8)) .lf) (some (.c false [.it .i64 17, .st [], .it .i64 0, .s0, .sl 189 0 1 (.lit 1)] 0)) (.nd .lf (some (.c false [.sl 363 0 1 (.of 363 0), .sl 311 0 6 (.of 311 0)] 0))
  .lf))) (some (.dead)) (.nd (.nd (.nd .lf (some (.c false [.it .i64 0, .it .i64 0, .st [], .s0] 0)) .lf) (some (.c false [.it .i64 0, .st [], .it .i64 0, .it .i64 0] 0))
  (.nd .lf (some (.c false [.sl 363 0 1 (.of 363 0), .sl 311 0 6 (.of 311 0)] 0)) .lf)) (some (.c false [.st [97, 110, 100]] 0))
  (.nd (.nd .lf (some (.c false [.sl 363 0 1 (.of 363 0), .sl 311 0 6 (.of 311 0)] 0)) .lf) (some (.c false [.it .i64 9, .st [43], .it .i64 0, .s0, .sl 172 0 2 (.lit 2)] 0))
  (.nd .lf (some (.c false [.it .i64 1, .it .i64 0, .st [], .s0] 0)) .lf))))) none (.nd (.nd (.nd (.nd (.nd (.nd .lf (some (.c false [.it .i64 5, .it .i64 0, .st [], .s0] 0)) .lf)
  (some (.c false [.it .i64 0, .it .i64 0, .it .i64 0, .it .i64 0, .it .i64 0] 0)) .lf) (some (.c false [.st [91]] 0)) (.nd .lf (some (.c false [.st [98, 105, 110, 97, 114, 121],
  .bo false, .bo true, .bo false, .it .i64 2, .it .i64 1] 0)) .lf)) (some (.c false [.it .i64 5, .st [125], .it .i64 0, .it .i64 29] 0)) (.nd (.nd .lf (some (.c false [.it .i64 5,
  .st [101], .it .i64 0, .s0, .s0] 0)) .lf) (some (.c false [.st [109, 97, 105, 110], .sl 100 0 1 (.of 100 0), .it .i64 4] 0)) (.nd .lf (some (.c false [.it .i64 1, .st [109, 97,
  105, 110], .it .i64 0, .it .i64 0] 0)) .lf))) (some (.c false [.it .i64 0, .st [], .it .i64 0, .it .i64 0] 0)) (.nd (.nd (.nd (.nd .lf (some (.c false [.it .i64 1, .it .i64 0,
  .s0, .sl 556 0 1 (.of 556 0), .s0, .it .i64 100, .it .i64 100, .it .i64 0, .it .i64 0] 0)) .lf) (some (.dead)) .lf) (some (.c false [.it .i64 9, .st [43], .it .i64 0, .s0,
  .sl 172 0 2 (.lit 2)] 0)) (.nd .lf (some (.c false [.st [109, 97, 105, 110], .it .i64 1, .it .i64 1, .it .i64 0, .it .i64 6] 0)) .lf)) (some (.c false [.it .i64 5, .st [123],
  .it .i64 0, .it .i64 13] 0)) (.nd (.nd .lf (some (.c false [.sl 363 0 1 (.of 363 0), .sl 311 0 6 (.of 311 0)] 0)) .lf) (some (.c false [.it .i64 19, .st [], .it .i64 0, .s0,
  .sl 194 0 1 (.of 194 0)] 0)) (.nd .lf (some (.c false [.it .i64 20, .it .i64 0, .st [], .s0] 0)) .lf)))) (some (.c false [.it .i64 5, .st [40], .it .i64 0, .it .i64 0] 0))
  (.nd (.nd (.nd (.nd (.nd .lf (some (.c false [.sl 363 0 1 (.of 363 0), .sl 311 0 6 (.of 311 0)] 0)) .lf) (some (.c false [.it .i64 19, .st [], .it .i64 0, .s0,
  .sl 194 0 1 (.of 194 0)] 0)) .lf) (some (.c false [.it .i64 0, .st [], .it .i64 0, .it .i64 0] 0)) (.nd .lf (some (.c false [.it .i64 1, .it .i64 0, .st [], .s0] 0)) .lf))
  (some (.c false [.st [41]] 0)) (.nd (.nd .lf (some (.c false [.it .i64 0, .it .i64 0, .it .i64 0, .it .i64 0, .it .i64 0] 0)) .lf) (some (.c false [.it .i64 9, .st [43],
  .it .i64 0, .s0, .sl 172 0 2 (.lit 2)] 0)) (.nd .lf (some (.c false [.sl 363 0 1 (.of 363 0), .sl 311 0 6 (.of 311 0)] 0)) .lf))) (some (.c false [.it .i64 5, .st [43],
  .it .i64 0, .it .i64 24] 0)) (.nd (.nd (.nd .lf (some (.c false [.it .i64 19, .st [], .it .i64 0, .s0, .sl 194 0 1 (.of 194 0)] 0)) .lf) (some (.c false [.it .i64 2] 0))
  (.nd .lf (some (.c false [.it .i64 3] 0)) .lf)) (some (.c false [.it .i64 0, .st [], .it .i64 0, .it .i64 0] 0)) (.nd (.nd .lf (some (.c false [.st [108, 111, 97, 100], .bo true,
  .bo false, .bo false, .it .i64 0, .it .i64 1] 0)) .lf) (some (.c false [.it .i64 5, .st [101], .it .i64 0, .s0, .s0] 0)) (.nd .lf (some (.c false [.it .i64 20, .it .i64 0, .st [],
  .s0] 0)) .lf)))))))) (some (.c true shp 0)) (.nd (.nd (.nd (.nd (.nd (.nd (.nd (.nd (.nd .lf (some (.c false [.it .i64 20, .it .i64 0, .st [], .s0] 0)) .lf)
  (some (.c false [.st [109, 97, 105, 110], .sl 100 0 1 (.of 100 0), .it .i64 4] 0)) .lf) (some (.c false [.it .i64 0, .st [], .it .i64 0, .it .i64 0] 0))
  (.nd .lf (some (.c false [.it .i64 5, .it .i64 0, .st [], .s0] 0)) .lf)) (some (.c false [.it .i64 1, .st [101], .it .i64 0, .it .i64 0] 0))
  (.nd (.nd .lf (some (.c false [.it .i64 19, .st [], .it .i64 0, .s0, .sl 194 0 1 (.of 194 0)] 0)) .lf) (some (.dead)) (.nd .lf (some (.c false [.it .i64 20, .it .i64 0, .st [],
  .s0] 0)) .lf))) (some (.c false [.it .i64 5, .st [40], .it .i64 0, .it .i64 9] 0)) (.nd (.nd (.nd (.nd .lf (some (.c false [.it .i64 1, .it .i64 2, .bo false, .bo false] 0)) .lf)
  (some (.c false [.it .i64 5, .st [101], .it .i64 0, .s0, .s0] 0)) .lf) (some (.c false [.it .i64 1, .st [101], .it .i64 0, .it .i64 26] 0)) (.nd .lf (some (.c false [.st [109, 97,
  105, 110], .it .i64 1, .it .i64 1, .it .i64 0, .it .i64 6] 0)) .lf)) (some (.c false [.it .i64 1, .st [101], .it .i64 0, .it .i64 10] 0))
  (.nd (.nd .lf (some (.c false [.sl 200 0 5 (.of 200 0), .sl 202 0 1 (.of 202 0), .mm 351, .it .i64 1, .sl 348 0 5 (.lit 5), .sl 349 0 5 (.lit 5)] 0)) .lf)
  (some (.c false [.it .i64 5, .st [101], .it .i64 0, .s0, .s0] 0)) (.nd .lf (some (.c false [.st [108, 111, 97, 100], .bo true, .bo false, .bo false, .it .i64 0, .it .i64 1] 0))
  .lf)))) (some (.c false [.sl 200 0 5 (.of 200 0), .sl 202 0 1 (.of 202 0)] 0)) (.nd (.nd (.nd (.nd (.nd .lf (some (.c false [.sl 363 0 1 (.of 363 0), .sl 311 0 6 (.of 311 0)] 0))
  .lf) (some (.c false [.sl 200 0 5 (.of 200 0), .sl 202 0 1 (.of 202 0), .mm 271, .it .i64 1, .sl 268 0 5 (.lit 5), .sl 269 0 5 (.lit 5)] 0)) .lf) (some (.c false [.it .i64 0,
  .st [], .it .i64 0, .it .i64 0] 0)) (.nd .lf (some (.c false [.it .i64 9, .it .i64 0, .st [43], .s0] 0)) .lf)) (some (.c false [.pt 79 0] 0))
  (.nd (.nd .lf (some (.c false [.st [109, 97, 105, 110], .sl 100 0 1 (.of 100 0), .it .i64 4] 0)) .lf) (some (.c false [.it .i64 19, .st [], .it .i64 0, .s0,
  .sl 194 0 1 (.of 194 0)] 0)) (.nd .lf (some (.c false [.sl 363 0 1 (.of 363 0), .sl 311 0 6 (.of 311 0)] 0)) .lf))) (some (.dead)) (.nd (.nd (.nd .lf (some (.c false [.it .i64 20,
  .it .i64 0, .st [], .s0] 0)) .lf) (some (.c false [.it .i64 0, .st [], .it .i64 0, .it .i64 0] 0)) (.nd .lf (some (.c false [.sl 363 0 1 (.of 363 0), .sl 311 0 6 (.of 311 0)] 0))
  .lf)) (some (.c false [.it .i64 0, .st [], .it .i64 0, .it .i64 0] 0)) (.nd (.nd .lf (some (.c false [.it .i64 1, .st [109, 97, 105, 110], .it .i64 0, .it .i64 0] 0)) .lf)
  (some (.c false [.it .i64 19, .st [], .it .i64 0, .s0, .sl 194 0 1 (.of 194 0)] 0)) (.nd .lf (some (.c false [.it .i64 20, .it .i64 0, .st [], .s0] 0)) .lf)))))
  none (.nd (.nd (.nd (.nd (.nd (.nd .lf (some (.c false [.st [109, 97, 105, 110], .it .i64 1, .it .i64 1, .it .i64 0, .it .i64 6] 0)) .lf) (some (.c false [.st [109, 97, 105, 110],
  .sl 100 0 1 (.of 100 0), .it .i64 4] 0)) .lf) (some (.c false [.it .i64 0, .st [], .it .i64 0, .it .i64 0] 0)) (.nd .lf (some (.c false [.it .i64 5, .it .i64 0, .st [], .s0] 0))
  .lf)) (some (.c false [.it .i64 5, .st [59], .it .i64 0, .it .i64 27] 0)) (.nd (.nd .lf (some (.c false [.it .i64 9, .st [43], .it .i64 0, .s0, .sl 172 0 2 (.lit 2)] 0)) .lf)
  (some (.c false [.it .i64 5, .st [101], .it .i64 0, .s0, .s0, .it .i64 5, .st [101], .it .i64 0, .s0, .s0, .it .i64 9, .st [43], .it .i64 0, .s0, .sl 172 0 2 (.lit 2),
  .it .i64 17, .st [], .it .i64 0, .s0, .sl 189 0 1 (.lit 1), .it .i64 19, .st [], .it .i64 0, .s0, .sl 194 0 1 (.of 194 0)] 5)) (.nd .lf (some (.c false [.sl 363 0 1 (.of 363 0),
  .sl 311 0 6 (.of 311 0)] 0)) .lf))) (some (.c false [.it .i64 0, .st [], .it .i64 0, .it .i64 0] 0)) (.nd (.nd (.nd (.nd .lf (some (.c false [.it .i64 3, .it .i64 21, .st [],
  .it .i64 0] 4)) .lf) (some (.c false [.it .i64 5, .it .i64 0, .st [], .s0] 0)) .lf) (some (.c false [.it .i64 0, .st [], .it .i64 0, .it .i64 0] 0))
  (.nd .lf (some (.c false [.st [109, 97, 105, 110], .it .i64 1, .it .i64 1, .it .i64 0, .it .i64 6] 0)) .lf)) (some (.c false [.it .i64 5, .st [41], .it .i64 0, .it .i64 11] 0))
  (.nd (.nd .lf (some (.c false [.it .i64 1] 0)) .lf) (some (.c false [.sl 200 0 5 (.of 200 0), .sl 202 0 1 (.of 202 0)] 0)) (.nd .lf (some (.c false [.st [98, 105, 110, 97, 114,
  121], .bo false, .bo true, .bo false, .it .i64 2, .it .i64 1] 0)) .lf)))) (some (.c false [.it .i64 1, .st [109, 97, 105, 110], .it .i64 0, .it .i64 0] 0))
  (.nd (.nd (.nd (.nd (.nd .lf (some (.c false [.it .i64 3] 0)) .lf) (some (.c false [.it .i64 1] 0)) .lf) (some (.c false [.it .i64 0, .st [], .it .i64 0, .it .i64 0] 0))
  (.nd .lf (some (.c false [.st [109, 97, 105, 110], .it .i64 1, .it .i64 1, .it .i64 0, .it .i64 6] 0)) .lf)) (some (.c false [.st [109, 97, 105, 110], .sl 100 0 1 (.of 100 0),
  .it .i64 4] 0)) (.nd (.nd .lf (some (.c false [.st [109, 97, 105, 110], .sl 100 0 1 (.of 100 0), .it .i64 4] 0)) .lf) (some (.c false [.it .i64 9, .st [43], .it .i64 0, .s0,
  .sl 172 0 2 (.lit 2)] 0)) (.nd .lf (some (.c false [.st [108, 111, 97, 100], .bo true, .bo false, .bo false, .it .i64 0, .it .i64 1] 0)) .lf))) (some (.c false [.it .i64 1,
  .st [101], .it .i64 0, .it .i64 22] 0)) (.nd (.nd (.nd .lf (some (.c false [.sl 200 0 5 (.of 200 0), .sl 202 0 1 (.of 202 0)] 0)) .lf) (some (.c false [.it .i64 0, .st [],
  .it .i64 0, .it .i64 0] 0)) (.nd .lf (some (.c false [.it .i64 2] 0)) .lf)) (some (.c false [.it .i64 0, .st [], .it .i64 0, .it .i64 0] 0))
  (.nd (.nd .lf (some (.c false [.st [109, 97, 105, 110], .it .i64 1, .it .i64 1, .it .i64 0, .it .i64 6] 0)) .lf) (some (.c false [.it .i64 9, .st [43], .it .i64 0, .s0,
  .sl 172 0 2 (.lit 2)] 0)) (.nd .lf (some (.c false [.it .i64 1, .it .i64 0, .st [], .s0] 0)) .lf)))))) none (.nd (.nd (.nd (.nd (.nd (.nd (.nd .lf (some (.c false [.it .i64 20,
  .it .i64 0, .st [], .s0] 0)) .lf) (some (.c false [.st [109, 97, 105, 110], .sl 100 0 1 (.of 100 0), .it .i64 4] 0)) .lf) (some (.c false [.it .i64 0, .st [], .it .i64 0,
  .it .i64 0] 0)) (.nd .lf (some (.c false [.it .i64 5, .it .i64 0, .st [], .s0] 0)) .lf)) (some (.dead)) (.nd (.nd .lf (some (.c false [.it .i64 17, .st [], .it .i64 0, .s0,
  .sl 189 0 1 (.lit 1)] 0)) .lf) (some (.c false [.it .i64 5, .st [125], .it .i64 0, .it .i64 29] 0)) (.nd .lf (some (.c false [.sl 363 0 1 (.of 363 0), .sl 311 0 6 (.of 311 0)] 0))
  .lf))) (some (.c false [.it .i64 1, .st [101], .it .i64 0, .it .i64 10] 0)) (.nd (.nd (.nd (.nd .lf (some (.c false [.it .i64 3, .it .i64 21, .st [], .it .i64 0] 0)) .lf)
  (some (.c false [.it .i64 5, .it .i64 0, .st [], .s0] 0)) .lf) (some (.c false [.it .i64 5, .st [101], .it .i64 0, .s0, .s0] 0)) (.nd .lf (some (.c false [.st [109, 97, 105, 110],
  .it .i64 1, .it .i64 1, .it .i64 0, .it .i64 6] 0)) .lf)) (some (.c false [.st [101]] 1)) (.nd (.nd .lf (some (.c false [.it .i64 9, .st [43], .it .i64 0, .s0,
  .sl 172 0 2 (.lit 2)] 0)) .lf) (some (.c false [.sl 200 0 5 (.of 200 0), .sl 202 0 1 (.of 202 0)] 0)) (.nd .lf (some (.c false [.it .i64 9, .it .i64 0, .st [43], .s0] 0)) .lf))))
  (some (.c false [.it .i64 0, .st [], .it .i64 0, .it .i64 0] 0)) (.nd (.nd (.nd (.nd (.nd .lf (some (.c false [.it .i64 9, .it .i64 0, .st [43], .s0] 0)) .lf)
  (some (.c false [.it .i64 9, .st [43], .it .i64 0, .s0, .sl 172 0 2 (.lit 2)] 0)) .lf) (some (.c false [.st [42], .st [47], .st [37]] 0)) (.nd .lf (some (.c false [.st [109, 97,
  105, 110], .it .i64 1, .it .i64 1, .it .i64 0, .it .i64 6] 0)) .lf)) (some (.c false [.it .i64 2, .st [102, 117, 110, 99], .it .i64 0, .it .i64 0] 0))
  (.nd (.nd .lf (some (.c false [.st [109, 97, 105, 110], .sl 100 0 1 (.of 100 0), .it .i64 4] 0)) .lf) (some (.c false [.it .i64 17, .st [], .it .i64 0, .s0,
  .sl 189 0 1 (.lit 1)] 0)) (.nd .lf (some (.c false [.it .i64 5, .it .i64 0, .st [], .s0] 0)) .lf))) (some (.c false [.it .i64 2, .st [114, 101, 116, 117, 114, 110], .it .i64 0,
  .it .i64 15] 0)) (.nd (.nd (.nd .lf (some (.c false [.it .i64 0, .it .i64 0, .st [], .s0] 0)) .lf) (some (.c false [.it .i64 0, .st [], .it .i64 0, .it .i64 0] 0))
  (.nd .lf (some (.c false [.it .i64 5, .it .i64 0, .st [], .s0] 0)) .lf)) (some (.c false [.st [111, 114]] 0)) (.nd (.nd .lf (some (.c false [.it .i64 1, .st [109, 97, 105, 110],
  .it .i64 0, .it .i64 0] 4)) .lf) (some (.c false [.it .i64 17, .st [], .it .i64 0, .s0, .sl 189 0 1 (.lit 1)] 0)) (.nd .lf (some (.c false [.it .i64 20, .it .i64 0, .st [],
  .s0] 0)) .lf))))) none (.nd (.nd (.nd (.nd (.nd (.nd .lf (some (.c false [.it .i64 5, .it .i64 0, .st [], .s0] 0)) .lf) (some (.c false [.it .i64 0, .it .i64 0, .it .i64 (-1),
  .it .i64 (-1), .it .i64 (-1)] 0)) .lf) (some (.dead)) (.nd .lf (some (.c false [.it .i64 9, .it .i64 0, .st [43], .s0] 0)) .lf)) (some (.c false [.it .i64 5, .st [125],
  .it .i64 0, .it .i64 29] 0)) (.nd (.nd .lf (some (.c false [.it .i64 9, .st [43], .it .i64 0, .s0, .sl 172 0 2 (.lit 2)] 0)) .lf) (some (.c false [.sl 200 0 5 (.of 200 0),
  .sl 202 0 1 (.of 202 0)] 0)) (.nd .lf (some (.c false [.it .i64 0, .st [], .it .i64 0, .it .i64 0] 0)) .lf))) (some (.c false [.it .i64 5, .st [123], .it .i64 0, .it .i64 0] 0))
  (.nd (.nd (.nd (.nd .lf (some (.c false [.it .i64 0, .it .i64 0, .sl 553 0 1 (.lit 1), .s0] 4)) .lf) (some (.c false [.it .i64 9, .it .i64 0, .st [43], .s0] 0)) .lf)
  (some (.c false [.it .i64 0, .it .i64 1] 0)) (.nd .lf (some (.c false [.sl 363 0 1 (.of 363 0), .sl 311 0 6 (.of 311 0)] 0)) .lf)) (some (.c false [.it .i64 5, .st [123],
  .it .i64 0, .it .i64 13] 0)) (.nd (.nd .lf (some (.c false [.sl 363 0 1 (.of 363 0), .sl 311 0 6 (.of 311 0)] 0)) .lf) (some (.c false [.st [109, 97, 105, 110],
  .sl 100 0 1 (.of 100 0), .it .i64 4] 0)) (.nd .lf (some (.c false [.st [43], .st [45], .st [42], .st [47], .st [37], .st [61, 61], .st [33, 61], .st [60], .st [60, 61], .st [62],
  .st [62, 61]] 0)) .lf)))) (some (.dead)) (.nd (.nd (.nd (.nd (.nd .lf (some (.c false [.it .i64 20, .it .i64 0, .st [], .s0] 0)) .lf) (some (.c false [.st [109, 97, 105, 110],
  .sl 100 0 1 (.of 100 0), .it .i64 4] 0)) .lf) (some (.c false [.st [110, 117, 108, 108], .st [116, 114, 117, 101], .st [102, 97, 108, 115, 101]] 0))
  (.nd .lf (some (.c false [.st [109, 97, 105, 110], .it .i64 1, .it .i64 1, .it .i64 0, .it .i64 6] 0)) .lf)) (some (.c false [.it .i64 5, .st [40], .it .i64 0, .it .i64 9] 0))
  (.nd (.nd .lf (some (.c false [.it .i64 0, .it .i64 0, .it .i64 (-1), .it .i64 (-1), .it .i64 (-1)] 0)) .lf) (some (.c false [.it .i64 5, .st [101], .it .i64 0, .s0, .s0] 0))
  (.nd .lf (some (.c false [.it .i64 5, .it .i64 0, .st [], .s0] 0)) .lf))) (some (.c false [.it .i64 0, .st [], .it .i64 0, .it .i64 0] 0))
  (.nd (.nd (.nd .lf (some (.c false [.st [109, 97, 105, 110], .sl 100 0 1 (.of 100 0), .it .i64 4] 0)) .lf) (some (.c false [.it .i64 5, .st [59], .it .i64 0, .it .i64 27] 0))
  (.nd .lf (some (.c false [.it .i64 9, .it .i64 0, .st [43], .s0] 0)) .lf)) (some (.c false [.it .i64 0, .st [], .it .i64 0, .it .i64 0] 0))
  (.nd (.nd .lf (some (.c false [.it .i64 5, .it .i64 0, .st [], .s0] 0)) .lf) (some (.c false [.it .i64 9, .st [43], .it .i64 0, .s0, .sl 172 0 2 (.lit 2)] 0))
  (.nd .lf (some (.c false [.it .i64 1, .it .i64 0, .st [], .s0] 0)) .lf))))))) none (.nd (.nd (.nd (.nd (.nd (.nd (.nd (.nd .lf (some (.c false [.sl 363 0 1 (.of 363 0),
  .sl 311 0 6 (.of 311 0)] 0)) .lf) (some (.c false [.st [109, 97, 105, 110], .sl 100 0 1 (.of 100 0), .it .i64 4] 0)) .lf) (some (.c false [.st [110, 117, 108, 108], .st [116, 114,
  117, 101], .st [102, 97, 108, 115, 101]] 0)) (.nd .lf (some (.c false [.sl 363 0 1 (.of 363 0), .sl 311 0 6 (.of 311 0)] 0)) .lf)) (some (.c false [.it .i64 1, .st [101],
  .it .i64 0, .it .i64 26] 0)) (.nd (.nd .lf (some (.c false [.it .i64 17, .st [], .it .i64 0, .s0, .sl 189 0 1 (.lit 1)] 0)) .lf) (some (.c false [.it .i64 3] 1))
  (.nd .lf (some (.c false [.sl 363 0 1 (.of 363 0), .sl 311 0 6 (.of 311 0)] 0)) .lf))) (some (.c false [.it .i64 1, .st [101], .it .i64 0, .it .i64 0] 0))
  (.nd (.nd (.nd (.nd .lf (some (.c false [.it .i64 3, .it .i64 21, .st [], .it .i64 0] 0)) .lf) (some (.c false [.it .i64 5, .it .i64 0, .st [], .s0] 0)) .lf)
  (some (.c false [.it .i64 0, .st [], .it .i64 0, .it .i64 0] 0)) (.nd .lf (some (.c false [.it .i64 20, .it .i64 0, .st [], .s0] 0)) .lf)) (some (.c false [.it .i64 1, .st [101],
  .it .i64 0, .it .i64 10] 0)) (.nd (.nd .lf (some (.c false [.it .i64 19, .st [], .it .i64 0, .s0, .sl 194 0 1 (.of 194 0)] 0)) .lf) (some (.c false [.sl 200 0 5 (.of 200 0),
  .sl 202 0 1 (.of 202 0)] 0)) (.nd .lf (some (.c false [.st [109, 97, 105, 110], .it .i64 1, .it .i64 1, .it .i64 0, .it .i64 6] 0)) .lf)))) (some (.c false [.it .i64 0] 0))
  (.nd (.nd (.nd (.nd (.nd .lf (some (.c false [.it .i64 5, .it .i64 0, .st [], .s0] 0)) .lf) (some (.c false [.it .i64 19, .st [], .it .i64 0, .s0, .sl 194 0 1 (.of 194 0)] 0))
  .lf) (some (.c false [.it .i64 5, .st [43], .it .i64 0, .it .i64 24] 0)) (.nd .lf (some (.c false [.it .i64 20, .it .i64 0, .st [], .s0] 0)) .lf)) (some (.c false [.it .i64 2,
  .st [102, 117, 110, 99], .it .i64 0, .it .i64 0] 0)) (.nd (.nd .lf (some (.c false [.st [109, 97, 105, 110], .sl 100 0 1 (.of 100 0), .it .i64 4] 0)) .lf)
  (some (.c false [.it .i64 17, .st [], .it .i64 0, .s0, .sl 189 0 1 (.lit 1)] 0)) (.nd .lf (some (.c false [.st [109, 97, 105, 110], .it .i64 1, .it .i64 1, .it .i64 0,
  .it .i64 6] 0)) .lf))) (some (.c false [.it .i64 0, .st [], .it .i64 0, .it .i64 0] 0)) (.nd (.nd (.nd .lf (some (.dead)) .lf) (some (.c false [.st [61, 61], .st [33, 61],
  .st [60], .st [60, 61], .st [62], .st [62, 61]] 0)) (.nd .lf (some (.c false [.it .i64 5, .it .i64 0, .st [], .s0] 0)) .lf)) (some (.c false [.it .i64 2, .st [114, 101, 116, 117,
  114, 110], .it .i64 0, .it .i64 15] 0)) (.nd (.nd .lf (some (.c false [.it .i64 1, .st [109, 97, 105, 110], .it .i64 0, .it .i64 0] 0)) .lf) (some (.c false [.it .i64 17, .st [],
  .it .i64 0, .s0, .sl 189 0 1 (.lit 1)] 0)) (.nd .lf (some (.c false [.sl 363 0 1 (.of 363 0), .sl 311 0 6 (.of 311 0)] 0)) .lf)))))
  none (.nd (.nd (.nd (.nd (.nd (.nd .lf (some (.c false [.it .i64 5, .it .i64 0, .st [], .s0] 0)) .lf) (some (.c false [.st [109, 97, 105, 110]] 0)) .lf)
  (some (.c false [.it .i64 5, .st [101], .it .i64 0, .s0, .s0] 0)) (.nd .lf (some (.c false [.sl 363 0 1 (.of 363 0), .sl 311 0 6 (.of 311 0)] 0)) .lf))
  (some (.c false [.it .i64 5, .st [125], .it .i64 0, .it .i64 0] 0)) (.nd (.nd .lf (some (.c false [.it .i64 5, .st [101], .it .i64 0, .s0, .s0] 0)) .lf) (some (.c false [.st [109,
  97, 105, 110], .sl 100 0 1 (.of 100 0), .it .i64 4] 3)) (.nd .lf (some (.c false [.st [109, 97, 105, 110], .it .i64 1, .it .i64 1, .it .i64 0, .it .i64 6] 0)) .lf)))
  (some (.c false [.it .i64 5, .st [41], .it .i64 0, .it .i64 11] 0)) (.nd (.nd (.nd (.nd .lf (some (.c false [.st [109, 97, 105, 110], .it .i64 1, .it .i64 1, .it .i64 0,
  .it .i64 6] 0)) .lf) (some (.c false [.it .i64 5, .it .i64 0, .st [], .s0] 0)) .lf) (some (.c false [.it .i64 0, .st [], .it .i64 0, .it .i64 0] 0))
  (.nd .lf (some (.c false [.it .i64 0, .it .i64 1, .it .i64 2, .it .i64 1, .it .i64 (-1), .it .i64 (-1)] 0)) .lf)) (some (.c false [.st [123]] 0))
  (.nd (.nd .lf (some (.c false [.st [109, 97, 105, 110], .it .i64 1, .it .i64 1, .it .i64 0, .it .i64 6] 0)) .lf) (some (.c false [.sl 200 0 5 (.of 200 0),
  .sl 202 0 1 (.of 202 0)] 0)) (.nd .lf (some (.c false [.st [109, 97, 105, 110], .it .i64 1, .it .i64 1, .it .i64 0, .it .i64 6] 0)) .lf)))) (some (.c false [.it .i64 1, .st [109,
  97, 105, 110], .it .i64 0, .it .i64 5] 0)) (.nd (.nd (.nd (.nd (.nd .lf (some (.c false [.sl 363 0 1 (.of 363 0), .sl 311 0 6 (.of 311 0)] 0)) .lf)
  (some (.c false [.sl 200 0 5 (.of 200 0), .sl 202 0 1 (.of 202 0), .sl 268 0 5 (.lit 5), .it .i64 0, .sl 311 0 6 (.of 311 0)] 0)) .lf) (some (.c false [.it .i64 0, .st [],
  .it .i64 0, .it .i64 0] 0)) (.nd .lf (some (.c false [.it .i64 1, .it .i64 0, .st [], .s0] 0)) .lf)) (some (.c false [.it .i64 5, .st [40], .it .i64 0, .it .i64 9] 0))
  (.nd (.nd .lf (some (.c false [.st [109, 97, 105, 110]] 0)) .lf) (some (.c false [.it .i64 5, .st [101], .it .i64 0, .s0, .s0] 0)) (.nd .lf (some (.c false [.st [109, 97, 105,
  110], .it .i64 1, .it .i64 1, .it .i64 0, .it .i64 6] 0)) .lf))) (some (.dead)) (.nd (.nd (.nd .lf (some (.c false [.sl 200 0 5 (.of 200 0), .sl 202 0 1 (.of 202 0)] 0)) .lf)
  (some (.c false [.it .i64 5, .st [59], .it .i64 0, .it .i64 27] 0)) (.nd .lf (some (.c false [.sl 363 0 1 (.of 363 0), .sl 311 0 6 (.of 311 0)] 0)) .lf))
  (some (.c false [.st [42], .st [47], .st [37]] 0)) (.nd (.nd .lf (some (.c false [.sl 363 0 1 (.of 363 0), .sl 311 0 6 (.of 311 0)] 0)) .lf) (some (.c false [.it .i64 5,
  .st [101], .it .i64 0, .s0, .s0] 0)) (.nd .lf (some (.c false [.sl 363 0 1 (.of 363 0), .sl 311 0 6 (.of 311 0)] 0)) .lf))))))
  none (.nd (.nd (.nd (.nd (.nd (.nd (.nd .lf (some (.c false [.st [109, 97, 105, 110], .it .i64 1, .it .i64 1, .it .i64 0, .it .i64 6] 0)) .lf)
  (some (.c false [.sl 200 0 5 (.of 200 0), .sl 202 0 1 (.of 202 0)] 0)) .lf) (some (.c false [.it .i64 1, .st [101], .it .i64 0, .it .i64 22] 0))
  (.nd .lf (some (.c false [.sl 363 0 1 (.of 363 0), .sl 311 0 6 (.of 311 0)] 0)) .lf)) (some (.c false [.it .i64 0, .st [], .it .i64 0, .it .i64 0] 0))
  (.nd (.nd .lf (some (.c false [.it .i64 9, .st [43], .it .i64 0, .s0, .sl 172 0 2 (.lit 2)] 0)) .lf) (some (.c false [.it .i64 19, .st [], .it .i64 0, .s0,
  .sl 194 0 1 (.of 194 0)] 0)) (.nd .lf (some (.c false [.it .i64 1, .it .i64 0, .s0, .sl 556 0 1 (.of 556 0), .s0, .it .i64 100, .it .i64 100, .it .i64 0, .it .i64 1] 0)) .lf)))
  (some (.dead)) (.nd (.nd (.nd (.nd .lf (some (.c false [.sl 363 0 1 (.of 363 0), .sl 311 0 6 (.of 311 0), .it .i64 1, .it .i64 0, .s0, .sl 556 0 1 (.of 556 0), .s0, .it .i64 100,
  .it .i64 100, .it .i64 0, .it .i64 1] 0)) .lf) (some (.c false [.it .i64 5, .st [101], .it .i64 0, .s0, .s0] 0)) .lf) (some (.dead)) (.nd .lf (some (.c false [.st [114, 101, 116,
  117, 114, 110], .bo false, .bo false, .bo false, .it .i64 1, .it .i64 0] 0)) .lf)) (some (.c false [.it .i64 5, .st [41], .it .i64 0, .it .i64 11] 0))
  (.nd (.nd .lf (some (.c false [.it .i64 5, .st [101], .it .i64 0, .s0, .s0] 0)) .lf) (some (.c false [.sl 363 0 1 (.of 363 0), .sl 311 0 6 (.of 311 0)] 0))
  (.nd .lf (some (.c false [.st [109, 97, 105, 110], .it .i64 1, .it .i64 1, .it .i64 0, .it .i64 6] 0)) .lf)))) (some (.c false [.it .i64 2, .st [102, 117, 110, 99], .it .i64 0,
  .it .i64 0] 0)) (.nd (.nd (.nd (.nd (.nd .lf (some (.c false [.it .i64 9, .it .i64 0, .st [43], .s0] 0)) .lf) (some (.c false [.it .i64 5, .st [101], .it .i64 0, .s0, .s0] 0))
  .lf) (some (.c false [.it .i64 0, .st [], .it .i64 0, .it .i64 0] 0)) (.nd .lf (some (.c false [.st [114, 101, 116, 117, 114, 110], .bo false, .bo false, .bo false, .it .i64 1,
  .it .i64 0] 0)) .lf)) (some (.c false [.it .i64 1, .st [109, 97, 105, 110], .it .i64 0, .it .i64 5] 0)) (.nd (.nd .lf (some (.c false [.sl 200 0 5 (.of 200 0),
  .sl 202 0 1 (.of 202 0)] 0)) .lf) (some (.c false [.it .i64 9, .st [43], .it .i64 0, .s0, .sl 172 0 2 (.lit 2)] 0)) (.nd .lf (some (.c false [.st [109, 97, 105, 110], .it .i64 1,
  .it .i64 1, .it .i64 0, .it .i64 6] 0)) .lf))) (some (.c false [.it .i64 1, .st [101], .it .i64 0, .it .i64 0] 0)) (.nd (.nd (.nd .lf (some (.c false [.it .i64 1, .it .i64 0,
  .st [], .s0, .it .i64 20, .it .i64 0, .st [], .s0] 0)) .lf) (some (.c false [.it .i64 0, .st [], .it .i64 0, .it .i64 0] 0)) (.nd .lf (some (.c false [.it .i64 5, .it .i64 0,
  .st [], .s0] 0)) .lf)) (some (.c false [.st [110, 111, 116]] 0)) (.nd (.nd .lf (some (.c false [.st [109, 97, 105, 110]] 0)) .lf) (some (.c false [.it .i64 9, .st [43],
  .it .i64 0, .s0, .sl 172 0 2 (.lit 2)] 0)) (.nd .lf (some (.c false [.sl 363 0 1 (.of 363 0), .sl 311 0 6 (.of 311 0)] 0)) .lf)))))
  none (.nd (.nd (.nd (.nd (.nd (.nd .lf (some (.c false [.it .i64 1] 0)) .lf) (some (.c false [.st [109, 97, 105, 110], .sl 100 0 1 (.of 100 0), .it .i64 4] 0)) .lf)
  (some (.c false [.it .i64 0, .st [], .it .i64 0, .it .i64 0] 0)) (.nd .lf (some (.c false [.sl 363 0 1 (.of 363 0), .sl 311 0 6 (.of 311 0)] 0)) .lf)) (some (.c false [.it .i64 2,
  .st [102, 117, 110, 99], .it .i64 0, .it .i64 0, .it .i64 1, .st [109, 97, 105, 110], .it .i64 0, .it .i64 5, .it .i64 5, .st [40], .it .i64 0, .it .i64 9, .it .i64 1, .st [101],
  .it .i64 0, .it .i64 10, .it .i64 5, .st [41], .it .i64 0, .it .i64 11, .it .i64 5, .st [123], .it .i64 0, .it .i64 13, .it .i64 2, .st [114, 101, 116, 117, 114, 110], .it .i64 0,
  .it .i64 15, .it .i64 1, .st [101], .it .i64 0, .it .i64 22, .it .i64 5, .st [43], .it .i64 0, .it .i64 24, .it .i64 1, .st [101], .it .i64 0, .it .i64 26, .it .i64 5, .st [59],
  .it .i64 0, .it .i64 27, .it .i64 5, .st [125], .it .i64 0, .it .i64 29] 4)) (.nd (.nd .lf (some (.c false [.it .i64 5, .st [101], .it .i64 0, .s0, .s0] 0)) .lf)
  (some (.c false [.it .i64 19, .st [], .it .i64 0, .s0, .sl 194 0 1 (.of 194 0)] 0)) (.nd .lf (some (.c false [.it .i64 1, .st [109, 97, 105, 110], .it .i64 0, .it .i64 0] 0))
  .lf))) (some (.c false [.it .i64 5, .st [123], .it .i64 0, .it .i64 13] 0)) (.nd (.nd (.nd (.nd .lf (some (.c false [.it .i64 0, .it .i64 0, .sl 553 0 1 (.lit 1), .s0] 0)) .lf)
  (some (.c false [.it .i64 17, .st [], .it .i64 0, .s0, .sl 189 0 1 (.lit 1)] 0)) .lf) (some (.c false [.it .i64 9, .st [43], .it .i64 0, .s0, .sl 172 0 2 (.lit 2)] 0))
  (.nd .lf (some (.c false [.bo true, .bo true, .bo true, .bo true, .bo false, .bo false] 0)) .lf)) (some (.c false [.st [125]] 0))
  (.nd (.nd .lf (some (.c false [.sl 363 0 1 (.of 363 0), .sl 311 0 6 (.of 311 0)] 0)) .lf) (some (.c false [.it .i64 19, .st [], .it .i64 0, .s0, .sl 194 0 1 (.of 194 0)] 0))
  (.nd .lf (some (.c false [.sl 363 0 1 (.of 363 0), .sl 311 0 6 (.of 311 0)] 0)) .lf)))) (some (.c false [.it .i64 0, .st [], .it .i64 0, .it .i64 0] 0))
  (.nd (.nd (.nd (.nd (.nd .lf (some (.c false [.st [109, 97, 105, 110]] 0)) .lf) (some (.c false [.it .i64 17, .st [], .it .i64 0, .s0, .sl 189 0 1 (.lit 1)] 0)) .lf)
  (some (.c false [.it .i64 0, .st [], .it .i64 0, .it .i64 0] 0)) (.nd .lf (some (.c false [.st [110, 117, 108, 108], .bo false, .bo false, .bo false, .it .i64 0, .it .i64 1] 0))
  .lf)) (some (.c false [.it .i64 0, .st [], .it .i64 0, .it .i64 0] 0)) (.nd (.nd .lf (some (.c false [.st [109, 97, 105, 110], .sl 100 0 1 (.of 100 0), .it .i64 4] 0)) .lf)
  (some (.c false [.it .i64 5, .st [101], .it .i64 0, .s0, .s0] 0)) (.nd .lf (some (.c false [.st [109, 97, 105, 110], .it .i64 1, .it .i64 1, .it .i64 0, .it .i64 6] 0)) .lf)))
  (some (.c false [.it .i64 5, .st [43], .it .i64 0, .it .i64 24] 0)) (.nd (.nd (.nd .lf (some (.c false [.it .i64 19, .st [], .it .i64 0, .s0, .sl 194 0 1 (.of 194 0)] 0)) .lf)
  (some (.c false [.it .i64 17, .st [], .it .i64 0, .s0, .sl 189 0 1 (.lit 1)] 0)) (.nd .lf (some (.c false [.it .i64 20, .it .i64 0, .st [], .s0] 0)) .lf))
  (some (.c false [.it .i64 0, .st [], .it .i64 0, .it .i64 0] 0)) (.nd (.nd .lf (some (.c false [.sl 363 0 1 (.of 363 0), .sl 311 0 6 (.of 311 0)] 0)) .lf)
  (some (.c false [.it .i64 5, .st [101], .it .i64 0, .s0, .s0] 0)) (.nd .lf (some (.c false [.sl 363 0 1 (.of 363 0), .sl 311 0 6 (.of 311 0)] 0)) .lf))))))))), 560⟩
noncomputable def S0 : SH := { h := (.nd .lf (some (.c true shp 0)) .lf), nx := 16 }
def dk (f : FuncId) : Bool := Nat.beq f 29
def hd : Code → Code
  | .seq a _ => a
  | c => c
def tl : Code → Code
  | .seq _ b => b
  | c => c
noncomputable def c0 : Code := match Tryz.f5.body with
  | some c => c
  | none => .skip
noncomputable def Ai : SA := { t := .lf, n := 56, df := [] }
noncomputable abbrev goT (n : Nat) (q : Rq) (S : SH) : Option (List (SR × SH)) := go Tryz.prog 216 dk n q S
/-- Each outcome is 'true'. -/
def allT : Option (List (SR × SH)) → Bool
  | some l => l.all fun x => match x.1 with
    | .v (.bo b) => b
    | _ => false
  | none => false
theorem body5 : Tryz.f5.body = some c0 := by kernel_rfl
theorem c0_seq : c0 = .seq (hd c0) (tl c0) := by kernel_rfl
theorem c1_seq : tl c0 = .seq (hd (tl c0)) (tl (tl c0)) := by kernel_rfl
theorem c2_seq : tl (tl c0) = .seq (hd (tl (tl c0))) (tl (tl (tl c0))) := by kernel_rfl
theorem c3_seq : tl (tl (tl c0)) = .seq (hd (tl (tl (tl c0)))) (tl (tl (tl (tl c0)))) := by kernel_rfl
theorem c4_seq : tl (tl (tl (tl c0))) = .seq (hd (tl (tl (tl (tl c0))))) (tl (tl (tl (tl (tl c0))))) := by kernel_rfl
theorem run0 : goT 2998 (.code (hd c0) Ai) S0 = some [(.x .nor A0, S0)] := by kernel_rfl
theorem runB : goT 2997 (.code (hd (tl c0)) A0) S0 = some [(.x .nor A1, S1)] := by kernel_rfl
theorem run2 : goT 2996 (.code (hd (tl (tl c0))) A1) S1 = some [(.x .nor A2, S1)] := by kernel_rfl
theorem run3 : goT 2995 (.code (hd (tl (tl (tl c0)))) A2) S1 = some [(.x .nor A3, S3)] := by kernel_rfl
theorem run4 : goT 2994 (.code (hd (tl (tl (tl (tl c0))))) A3) S3 = some [(.x .nor A4, S4)] := by kernel_rfl
theorem run5 : allT (bindL (goT 2994 (.code (tl (tl (tl (tl (tl c0))))) A4) S4) (sLeave Tryz.prog dk Tryz.f5)) = true := by kernel_rfl
end Sy
end Go.Proofs.YtfhcngnmgfkdkaaGreatDoor
