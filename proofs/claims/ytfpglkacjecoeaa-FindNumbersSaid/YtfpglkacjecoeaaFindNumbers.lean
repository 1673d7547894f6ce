/- FindNumbers' walk: its parts, joined. -/
import Derived.Test.YtfpglkacjecoeaaCt34
namespace Go.Proofs.Ytfpglkacjecoeaa
open Go.RowKit

namespace findNumbers
set_option maxRecDepth 100000 in
set_option maxHeartbeats 4000000 in
theorem walk (w : World) : Calls Try.prog 3 #[] w fun e w' => e = .returned (.bool true) ∧ Ext w w' := by
  go_enter Try.func3, Try.ntmps3
  refine wp_seq_k (fun K HK0 => ?_)
  have HK := Lib.hid HK0
  clear HK0
  go_wp2_with (fail)
  exact HK.out _ _ (part1 (Lib.hid (Ext.refl w)))
end findNumbers
end Go.Proofs.Ytfpglkacjecoeaa
