/- Plain: the two primes, 2^255 - 19 and the curve's order. -/
import Derived.Test.YtmbbdblmengdhaaN0
set_option linter.unusedSimpArgs false
set_option linter.unusedVariables false
namespace Go.Proofs.Ytmbbdblmengdhaa

theorem pr103 : Prime 103 := prime_trial 12 (by decide) (by decide +kernel) (by decide +kernel)
theorem pr127 : Prime 127 := prime_trial 13 (by decide) (by decide +kernel) (by decide +kernel)
theorem pr991 : Prime 991 := prime_trial 33 (by decide) (by decide +kernel) (by decide +kernel)
theorem pr2551 : Prime 2551 := prime_trial 52 (by decide) (by decide +kernel) (by decide +kernel)
theorem pr4153 : Prime 4153 := prime_trial 66 (by decide) (by decide +kernel) (by decide +kernel)
theorem pr430751 : Prime 430751 := prime_trial 658 (by decide) (by decide +kernel) (by decide +kernel)
theorem pr531581 : Prime 531581 := prime_trial 731 (by decide) (by decide +kernel) (by decide +kernel)
theorem pr569003 : Prime 569003 := prime_trial 756 (by decide) (by decide +kernel) (by decide +kernel)
theorem pr1224481 : Prime 1224481 :=
  pock1' 21 (by decide +kernel) pr2551 (by decide +kernel) (by decide +kernel) (by decide +kernel) (by decide +kernel) (by decide +kernel)
theorem pr1257559732178653 : Prime 1257559732178653 :=
  pock2' 51 (by decide +kernel) pr1224481 (by decide +kernel) (by decide +kernel) (by decide +kernel) (by decide +kernel) pr531581 (by decide +kernel) (by decide +kernel) (by decide +kernel) (by decide +kernel)
theorem pr4434155615661930479 : Prime 4434155615661930479 :=
  pock1' 62 (by decide +kernel) pr1257559732178653 (by decide +kernel) (by decide +kernel) (by decide +kernel) (by decide +kernel) (by decide +kernel)
theorem pr172054593956031949258510691 : Prime 172054593956031949258510691 :=
  pock1' 88 (by decide +kernel) pr4434155615661930479 (by decide +kernel) (by decide +kernel) (by decide +kernel) (by decide +kernel) (by decide +kernel)
theorem pr19757330305831588566944191468367130476339 : Prime 19757330305831588566944191468367130476339 :=
  pock1' 134 (by decide +kernel) pr172054593956031949258510691 (by decide +kernel) (by decide +kernel) (by decide +kernel) (by decide +kernel) (by decide +kernel)
theorem pr276602624281642239937218680557139826668747 : Prime 276602624281642239937218680557139826668747 :=
  pock1' 138 (by decide +kernel) pr19757330305831588566944191468367130476339 (by decide +kernel) (by decide +kernel) (by decide +kernel) (by decide +kernel) (by decide +kernel)
theorem pr7237005577332262213973186563042994240857116359379907606001950938285454250989 : Prime 7237005577332262213973186563042994240857116359379907606001950938285454250989 :=
  pock1' 253 (by decide +kernel) pr276602624281642239937218680557139826668747 (by decide +kernel) (by decide +kernel) (by decide +kernel) (by decide +kernel) (by decide +kernel)
theorem pr31757755568855353 : Prime 31757755568855353 :=
  pock2' 55 (by decide +kernel) pr430751 (by decide +kernel) (by decide +kernel) (by decide +kernel) (by decide +kernel) pr4153 (by decide +kernel) (by decide +kernel) (by decide +kernel) (by decide +kernel)
theorem pr2773320623 : Prime 2773320623 :=
  pock1' 32 (by decide +kernel) pr569003 (by decide +kernel) (by decide +kernel) (by decide +kernel) (by decide +kernel) (by decide +kernel)
theorem pr72106336199 : Prime 72106336199 :=
  pock1' 37 (by decide +kernel) pr2773320623 (by decide +kernel) (by decide +kernel) (by decide +kernel) (by decide +kernel) (by decide +kernel)
theorem pr8574133 : Prime 8574133 :=
  pock2' 24 (by decide +kernel) pr991 (by decide +kernel) (by decide +kernel) (by decide +kernel) (by decide +kernel) pr103 (by decide +kernel) (by decide +kernel) (by decide +kernel) (by decide +kernel)
theorem pr1919519569386763 : Prime 1919519569386763 :=
  pock2' 51 (by decide +kernel) pr8574133 (by decide +kernel) (by decide +kernel) (by decide +kernel) (by decide +kernel) pr127 (by decide +kernel) (by decide +kernel) (by decide +kernel) (by decide +kernel)
theorem pr75445702479781427272750846543864801 : Prime 75445702479781427272750846543864801 :=
  pock2' 116 (by decide +kernel) pr1919519569386763 (by decide +kernel) (by decide +kernel) (by decide +kernel) (by decide +kernel) pr72106336199 (by decide +kernel) (by decide +kernel) (by decide +kernel) (by decide +kernel)
theorem pr74058212732561358302231226437062788676166966415465897661863160754340907 : Prime 74058212732561358302231226437062788676166966415465897661863160754340907 :=
  pock2' 236 (by decide +kernel) pr75445702479781427272750846543864801 (by decide +kernel) (by decide +kernel) (by decide +kernel) (by decide +kernel) pr31757755568855353 (by decide +kernel) (by decide +kernel) (by decide +kernel) (by decide +kernel)
theorem pr57896044618658097711785492504343953926634992332820282019728792003956564819949 : Prime 57896044618658097711785492504343953926634992332820282019728792003956564819949 :=
  pock1' 255 (by decide +kernel) pr74058212732561358302231226437062788676166966415465897661863160754340907 (by decide +kernel) (by decide +kernel) (by decide +kernel) (by decide +kernel) (by decide +kernel)
end Go.Proofs.Ytmbbdblmengdhaa
