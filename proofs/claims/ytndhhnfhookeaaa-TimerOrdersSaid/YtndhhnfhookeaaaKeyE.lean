import Derived.Test.YtndhhnfhookeaaaKeyD
namespace Go.Proofs.Ytndhhnfhookeaaa
open Go.RowKit

theorem ordK_page : ordK [[2], [1, 5], [1]] = [2, 1, 0] :=
  (ordK_only (keys := [[2], [1, 5], [1]]) (l := [2, 1, 0]) (by decide) (fun x => by simp; omega)).symm

end Go.Proofs.Ytndhhnfhookeaaa
