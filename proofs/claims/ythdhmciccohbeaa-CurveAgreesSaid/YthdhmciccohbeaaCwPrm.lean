/- A step towards CurveAgreesSaid: no conditions. -/
import Derived.Test.YthdhmciccohbeaaCwNum
namespace Go.Cur
open Go Go.Eng
/-! 2^255 - 19 is prime -/
set_option maxRecDepth 100000
theorem pr_8574133 : Pr 8574133 := pr_small 8574133 2927 rfl (by decide +kernel) (by decide +kernel)
theorem pr_127 : Pr 127 := pr_small 127 10 rfl (by decide +kernel) (by decide +kernel)
theorem pr_q2 : Pr 1919519569386763 := by
  refine pr_pock 1919519569386763 2 1088914891 rfl (by decide +kernel) fun r hr hrn => ?_
  have h1 : Pw 1919519569386763 2 1919519569386762 1 := pw 51 (by decide +kernel) (by decide +kernel)
  have d0 : 8574133 ∣ r - 1 := pock (n := 1919519569386763) (a := 2) (e := 1919519569386762) (k := 223873314) (c := 1059928654987441) hr hrn pr_8574133 (by decide +kernel) (by decide +kernel) h1 (pw 51 (by decide +kernel) (by decide +kernel)) (by decide +kernel) (by decide +kernel)
  have d1 : 127 ∣ r - 1 := pock (n := 1919519569386763) (a := 2) (e := 1919519569386762) (k := 15114327318006) (c := 576774792492622) hr hrn pr_127 (by decide +kernel) (by decide +kernel) h1 (pw 51 (by decide +kernel) (by decide +kernel)) (by decide +kernel) (by decide +kernel)
  exact cop_mul d0 d1 (by decide +kernel)
theorem pr_569003 : Pr 569003 := pr_small 569003 753 rfl (by decide +kernel) (by decide +kernel)
theorem pr_2773320623 : Pr 2773320623 := by
  refine pr_pock 2773320623 2 569003 rfl (by decide +kernel) fun r hr hrn => ?_
  have h1 : Pw 2773320623 2 2773320622 1 := pw 32 (by decide +kernel) (by decide +kernel)
  have d0 : 569003 ∣ r - 1 := pock (n := 2773320623) (a := 2) (e := 2773320622) (k := 4874) (c := 2039232613) hr hrn pr_569003 (by decide +kernel) (by decide +kernel) h1 (pw 32 (by decide +kernel) (by decide +kernel)) (by decide +kernel) (by decide +kernel)
  exact d0
theorem pr_72106336199 : Pr 72106336199 := by
  refine pr_pock 72106336199 2 2773320623 rfl (by decide +kernel) fun r hr hrn => ?_
  have h1 : Pw 72106336199 2 72106336198 1 := pw 37 (by decide +kernel) (by decide +kernel)
  have d0 : 2773320623 ∣ r - 1 := pock (n := 72106336199) (a := 2) (e := 72106336198) (k := 26) (c := 67108864) hr hrn pr_2773320623 (by decide +kernel) (by decide +kernel) h1 (pw 37 (by decide +kernel) (by decide +kernel)) (by decide +kernel) (by decide +kernel)
  exact d0
theorem pr_q6 : Pr 75445702479781427272750846543864801 := by
  refine pr_pock 75445702479781427272750846543864801 2 138409523410761641138333837 rfl (by decide +kernel) fun r hr hrn => ?_
  have h1 : Pw 75445702479781427272750846543864801 2 75445702479781427272750846543864800 1 := pw 116 (by decide +kernel) (by decide +kernel)
  have d0 : 1919519569386763 ∣ r - 1 := pock (n := 75445702479781427272750846543864801) (a := 2) (e := 75445702479781427272750846543864800) (k := 39304471641247389600) (c := 56747016255153332959347766392083459) hr hrn pr_q2 (by decide +kernel) (by decide +kernel) h1 (pw 116 (by decide +kernel) (by decide +kernel)) (by decide +kernel) (by decide +kernel)
  have d1 : 72106336199 ∣ r - 1 := pock (n := 75445702479781427272750846543864801) (a := 2) (e := 75445702479781427272750846543864800) (k := 1046311689884858398375200) (c := 71619851993489548214160924360205394) hr hrn pr_72106336199 (by decide +kernel) (by decide +kernel) h1 (pw 116 (by decide +kernel) (by decide +kernel)) (by decide +kernel) (by decide +kernel)
  exact cop_mul d0 d1 (by decide +kernel)
theorem pr_430751 : Pr 430751 := pr_small 430751 655 rfl (by decide +kernel) (by decide +kernel)
theorem pr_4153 : Pr 4153 := pr_small 4153 63 rfl (by decide +kernel) (by decide +kernel)
theorem pr_q9 : Pr 31757755568855353 := by
  refine pr_pock 31757755568855353 2 1788908903 rfl (by decide +kernel) fun r hr hrn => ?_
  have h1 : Pw 31757755568855353 2 31757755568855352 1 := pw 55 (by decide +kernel) (by decide +kernel)
  have d0 : 430751 ∣ r - 1 := pock (n := 31757755568855353) (a := 2) (e := 31757755568855352) (k := 73726481352) (c := 15280470251845350) hr hrn pr_430751 (by decide +kernel) (by decide +kernel) h1 (pw 55 (by decide +kernel) (by decide +kernel)) (by decide +kernel) (by decide +kernel)
  have d1 : 4153 ∣ r - 1 := pock (n := 31757755568855353) (a := 2) (e := 31757755568855352) (k := 7646943310584) (c := 28256283979054930) hr hrn pr_4153 (by decide +kernel) (by decide +kernel) h1 (pw 55 (by decide +kernel) (by decide +kernel)) (by decide +kernel) (by decide +kernel)
  exact cop_mul d0 d1 (by decide +kernel)
theorem pr_q10 : Pr 74058212732561358302231226437062788676166966415465897661863160754340907 := by
  refine pr_pock 74058212732561358302231226437062788676166966415465897661863160754340907 2 2395986178073482737347378734667165195040796357129753 rfl (by decide +kernel) fun r hr hrn => ?_
  have h1 : Pw 74058212732561358302231226437062788676166966415465897661863160754340907 2 74058212732561358302231226437062788676166966415465897661863160754340906 1 := pw 236 (by decide +kernel) (by decide +kernel)
  have d0 : 75445702479781427272750846543864801 ∣ r - 1 := pock (n := 74058212732561358302231226437062788676166966415465897661863160754340907) (a := 2) (e := 74058212732561358302231226437062788676166966415465897661863160754340906) (k := 981609426360740691344999861639072106) (c := 69490809710348678725736597923071784769591275419387514694139338586948360) hr hrn pr_q6 (by decide +kernel) (by decide +kernel) h1 (pw 236 (by decide +kernel) (by decide +kernel)) (by decide +kernel) (by decide +kernel)
  have d1 : 31757755568855353 ∣ r - 1 := pock (n := 74058212732561358302231226437062788676166966415465897661863160754340907) (a := 2) (e := 74058212732561358302231226437062788676166966415465897661863160754340906) (k := 2331972502653487852620185443007392165117953542933313402) (c := 50366660687963342066214195241331738400016478712605795091965648721912165) hr hrn pr_q9 (by decide +kernel) (by decide +kernel) h1 (pw 236 (by decide +kernel) (by decide +kernel)) (by decide +kernel) (by decide +kernel)
  exact cop_mul d0 d1 (by decide +kernel)
theorem pr_P : Pr 57896044618658097711785492504343953926634992332820282019728792003956564819949 := by
  refine pr_pock 57896044618658097711785492504343953926634992332820282019728792003956564819949 2 74058212732561358302231226437062788676166966415465897661863160754340907 rfl (by decide +kernel) fun r hr hrn => ?_
  have h1 : Pw 57896044618658097711785492504343953926634992332820282019728792003956564819949 2 57896044618658097711785492504343953926634992332820282019728792003956564819948 1 := pw 255 (by decide +kernel) (by decide +kernel)
  have d0 : 74058212732561358302231226437062788676166966415465897661863160754340907 ∣ r - 1 := pock (n := 57896044618658097711785492504343953926634992332820282019728792003956564819949) (a := 2) (e := 57896044618658097711785492504343953926634992332820282019728792003956564819948) (k := 781764) (c := 427094198651976259540344842774561673889945192655078505504941250475370961481) hr hrn pr_q10 (by decide +kernel) (by decide +kernel) h1 (pw 255 (by decide +kernel) (by decide +kernel)) (by decide +kernel) (by decide +kernel)
  exact d0
end Go.Cur
