/- The reference's Parse: which step a line is to it. Conditions: as stated in each theorem. -/
import Derived.Test.YtoahfegeeimomaaDoorRefParse0
import Derived.Test.YtoahfegeeimomaaDoorRefParse1
import Derived.Test.YtoahfegeeimomaaDoorRefParse2
import Derived.Test.YtoahfegeeimomaaDoorRefParse3
import Derived.Test.YtoahfegeeimomaaDoorRefParse4
import Derived.Test.YtoahfegeeimomaaDoorRefParse5
import Derived.Test.YtoahfegeeimomaaDoorRefParse6
import Derived.Test.YtoahfegeeimomaaDoorRefParse7
import Derived.Test.YtoahfegeeimomaaDoorRefParse8
namespace Go.Proofs.YtoahfegeeimomaaDoor.RefParse
open Go.RowKit Base RowD Number TextP LinesPlain Num Parse
theorem refParse (s : ByteArray) (hm : s.size ≤ 300) (w : World) : Calls Tryd.prog 14 #[.string s] w fun e w' => RP s.data.toList e ∧ Below w.heap.size w w' := by
  have h := kind_le ((splitSp s.data.toList).getD 0 []) 8
  rcases (show kindUp ((splitSp s.data.toList).getD 0 []) 8 = 0 ∨ kindUp ((splitSp s.data.toList).getD 0 []) 8 = 1 ∨ kindUp ((splitSp s.data.toList).getD 0 []) 8 = 2 ∨ kindUp ((splitSp s.data.toList).getD 0 []) 8 = 3 ∨ kindUp ((splitSp s.data.toList).getD 0 []) 8 = 4 ∨ kindUp ((splitSp s.data.toList).getD 0 []) 8 = 5 ∨ kindUp ((splitSp s.data.toList).getD 0 []) 8 = 6 ∨ kindUp ((splitSp s.data.toList).getD 0 []) 8 = 7 ∨ kindUp ((splitSp s.data.toList).getD 0 []) 8 = 8 by omega) with hk | hk | hk | hk | hk | hk | hk | hk | hk
  · exact refParse0 s hm hk w
  · exact refParse1 s hm hk w
  · exact refParse2 s hm hk w
  · exact refParse3 s hm hk w
  · exact refParse4 s hm hk w
  · exact refParse5 s hm hk w
  · exact refParse6 s hm hk w
  · exact refParse7 s hm hk w
  · exact refParse8 s hm hk w
end Go.Proofs.YtoahfegeeimomaaDoor.RefParse
