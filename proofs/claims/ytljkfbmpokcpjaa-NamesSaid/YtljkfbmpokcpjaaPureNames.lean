/- The closed sentence: each constant of package api has its number, and Sqrt of 49 is 7. No conditions. -/
import Derived.Test.YtljkfbmpokcpjaaPNamesx1
namespace Go.Proofs.Ytljkfbmpokcpjaa.Pure
open Go.RowKit Go.Proofs.Ytljkfbmpokcpjaa.PNames Go.Proofs.YtljkfbmpokcpjaaW.PrintWords Go.Proofs.YtljkfbmpokcpjaaW.PrintLast

theorem Names : augurtop_Names.Pure := ⟨33, by decide +kernel⟩

end Go.Proofs.Ytljkfbmpokcpjaa.Pure
