/- Paths: what the library's sort says of pointers to paths. No conditions. -/
import Derived.Test.YtenngklohffoaaaPthQ
import Derived.Test.YtenngklohffoaaaShelfC
import Derived.Shelf.SlSortCmp.Whole1
namespace Go.Proofs.Ytenngklohffoaaa
set_option linter.unusedVariables false
set_option linter.unusedSimpArgs false
open Go.RowKit Sym Go.Maps Go.WideMaps Go.Sort Go.Lib Go.Shelf

theorem sortLaw : SortLaw := by
  intro α _ enc h1 cf hO g cb blk off cap d w eg hcmp hH hblk hsz
  exact Any.slices_SortFunc Try.sortP enc h1 cf hO g cb blk off cap d w eg hcmp hH hblk hsz
end Go.Proofs.Ytenngklohffoaaa
