/- The moduli are prime. -/
import Derived.Test.YtmbcolalfgepiaaDoorSyPa
import Derived.KernelRfl
namespace Go.Sy
open Go

theorem pr_107590001 : PrimeN 107590001 := prime_small (k := 11000) (by decide) (by kernel_rfl)
theorem pr_7240687 : PrimeN 7240687 := prime_small (k := 3000) (by decide) (by kernel_rfl)
theorem pr_96557 : PrimeN 96557 := prime_small (k := 400) (by decide) (by kernel_rfl)
theorem pr_41201 : PrimeN 41201 := prime_small (k := 300) (by decide) (by kernel_rfl)
theorem pr_1627771 : PrimeN 1627771 := prime_small (k := 1400) (by decide) (by kernel_rfl)
theorem pr_545358713 : PrimeN 545358713 := prime_small (k := 24000) (by decide) (by kernel_rfl)
theorem pr_44706919 : PrimeN 44706919 := prime_small (k := 7000) (by decide) (by kernel_rfl)
theorem pr_120233 : PrimeN 120233 := prime_small (k := 400) (by decide) (by kernel_rfl)

theorem pr_Q : PrimeN 255515944373312847190720520512484175977 := prime_test 2 [107590001, 7240687, 96557, 41201] (by kernel_rfl) (by
  intro q hq
  simp only [List.mem_cons, List.not_mem_nil, or_false] at hq
  rcases hq with rfl | rfl | rfl | rfl
  · exact pr_107590001
  · exact pr_7240687
  · exact pr_96557
  · exact pr_41201)

theorem pr_P1 : PrimeN 205115282021455665897114700593932402728804164701536103180137503955397371 := prime_test 2 [255515944373312847190720520512484175977] (by kernel_rfl) (by
  intro q hq
  rw [List.mem_singleton.1 hq]; exact pr_Q)

theorem prime_p : PrimeN 115792089237316195423570985008687907853269984665640564039457584007908834671663 := prime_test 2 [205115282021455665897114700593932402728804164701536103180137503955397371] (by kernel_rfl) (by
  intro q hq
  rw [List.mem_singleton.1 hq]; exact pr_P1)

theorem pr_S : PrimeN 297159362677 := prime_test 2 [1627771] (by kernel_rfl) (by
  intro q hq
  rw [List.mem_singleton.1 hq]; exact pr_1627771)

theorem pr_R : PrimeN 29047611873442575647497758179 := prime_test 2 [297159362677, 545358713] (by kernel_rfl) (by
  intro q hq
  simp only [List.mem_cons, List.not_mem_nil, or_false] at hq
  rcases hq with rfl | rfl
  · exact pr_S
  · exact pr_545358713)

theorem pr_q108 : PrimeN 341948486974166000522343609283189 := prime_test 2 [29047611873442575647497758179] (by kernel_rfl) (by
  intro q hq
  rw [List.mem_singleton.1 hq]; exact pr_R)

theorem pr_q67 : PrimeN 174723607534414371449 := prime_test 2 [44706919, 120233] (by kernel_rfl) (by
  intro q hq
  simp only [List.mem_cons, List.not_mem_nil, or_false] at hq
  rcases hq with rfl | rfl
  · exact pr_44706919
  · exact pr_120233)

theorem prime_n : PrimeN 115792089237316195423570985008687907852837564279074904382605163141518161494337 := prime_test 2 [341948486974166000522343609283189, 174723607534414371449] (by kernel_rfl) (by
  intro q hq
  simp only [List.mem_cons, List.not_mem_nil, or_false] at hq
  rcases hq with rfl | rfl
  · exact pr_q108
  · exact pr_q67)
end Go.Sy
