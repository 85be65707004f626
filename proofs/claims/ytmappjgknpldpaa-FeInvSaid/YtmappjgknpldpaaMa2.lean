import Derived.Test.YtmappjgknpldpaaMa1
namespace Go.Nt

theorem pr_53 : Pr 53 := .of_trial (k := 7) (by decide) (by decide) (by kernel_rfl)
theorem pr_29 : Pr 29 := .of_trial (k := 5) (by decide) (by decide) (by kernel_rfl)
theorem pr_7 : Pr 7 := .of_trial (k := 2) (by decide) (by decide) (by kernel_rfl)
theorem pr_107590001 : Pr 107590001 := pock (F := 10759) (by decide) (by decide) fun r hr hd => (mul_dvd (a := 1537) (b := 7) (by kernel_rfl) (mul_dvd (a := 53) (b := 29) (by kernel_rfl) (certp (c := 26896163) 6 hr hd pr_53 (by kernel_rfl) (by decide) (by kernel_rfl) (by decide)) (certp (c := 68236646) 5 hr hd pr_29 (by kernel_rfl) (by decide) (by kernel_rfl) (by decide))) (certp (c := 95730224) 3 hr hd pr_7 (by kernel_rfl) (by decide) (by kernel_rfl) (by decide)))
theorem pr_20113 : Pr 20113 := .of_trial (k := 141) (by decide) (by decide) (by kernel_rfl)
theorem pr_1206781 : Pr 1206781 := pock (F := 20113) (by decide) (by decide) fun r hr hd => (certp (c := 78448) 15 hr hd pr_20113 (by kernel_rfl) (by decide) (by kernel_rfl) (by decide))
theorem pr_7240687 : Pr 7240687 := pock (F := 1206781) (by decide) (by decide) fun r hr hd => (certp (c := 64) 21 hr hd pr_1206781 (by kernel_rfl) (by decide) (by kernel_rfl) (by decide))
theorem pr_96557 : Pr 96557 := .of_trial (k := 310) (by decide) (by decide) (by kernel_rfl)
theorem prB8 : Pr 255515944373312847190720520512484175977 := pock (F := 75220367286300824659) (by decide) (by decide) fun r hr hd => (mul_dvd (a := 779025521570687) (b := 96557) (by kernel_rfl) (mul_dvd (a := 107590001) (b := 7240687) (by kernel_rfl) (certp (c := 82381214149343919061612748413412685903) 27 hr hd pr_107590001 (by kernel_rfl) (by decide) (by kernel_rfl) (by decide)) (certp (c := 111233916942653821000329437866037388564) 23 hr hd pr_7240687 (by kernel_rfl) (by decide) (by kernel_rfl) (by decide))) (certp (c := 47418180093458530687350227428022525796) 17 hr hd pr_96557 (by kernel_rfl) (by decide) (by kernel_rfl) (by decide)))
theorem prB9 : Pr 205115282021455665897114700593932402728804164701536103180137503955397371 := pock (F := 255515944373312847190720520512484175977) (by decide) (by decide) fun r hr hd => (certp (c := 53072002638256206696760401718638995221936714922431175139555783581918754) 128 hr hd prB8 (by kernel_rfl) (by decide) (by kernel_rfl) (by decide))
theorem prB10 : Pr 115792089237316195423570985008687907853269984665640564039457584007908834671663 := pock (F := 205115282021455665897114700593932402728804164701536103180137503955397371) (by decide) (by decide) fun r hr hd => (certp (c := 30133174243114333125352536507925183895021889065932097717961225114769139489296) 237 hr hd prB9 (by kernel_rfl) (by decide) (by kernel_rfl) (by decide))
theorem pr_1871 : Pr 1871 := .of_trial (k := 43) (by decide) (by decide) (by kernel_rfl)
theorem pr_1627771 : Pr 1627771 := pock (F := 1871) (by decide) (by decide) fun r hr hd => (certp (c := 910796) 11 hr hd pr_1871 (by kernel_rfl) (by decide) (by kernel_rfl) (by decide))
theorem pr_297159362677 : Pr 297159362677 := pock (F := 1627771) (by decide) (by decide) fun r hr hd => (certp (c := 114170894341) 21 hr hd pr_1627771 (by kernel_rfl) (by decide) (by kernel_rfl) (by decide))
theorem pr_28181 : Pr 28181 := .of_trial (k := 167) (by decide) (by decide) (by kernel_rfl)
theorem pr_545358713 : Pr 545358713 := pock (F := 28181) (by decide) (by decide) fun r hr hd => (certp (c := 420071726) 15 hr hd pr_28181 (by kernel_rfl) (by decide) (by kernel_rfl) (by decide))
theorem prB16 : Pr 29047611873442575647497758179 := pock (F := 162058447585428954701) (by decide) (by decide) fun r hr hd => (mul_dvd (a := 297159362677) (b := 545358713) (by kernel_rfl) (certp (c := 16062460713643416818883781819) 39 hr hd pr_297159362677 (by kernel_rfl) (by decide) (by kernel_rfl) (by decide)) (certp (c := 1548700731856248688196814844) 30 hr hd pr_545358713 (by kernel_rfl) (by decide) (by kernel_rfl) (by decide)))
theorem prB17 : Pr 341948486974166000522343609283189 := pock (F := 29047611873442575647497758179) (by decide) (by decide) fun r hr hd => (certp (c := 291782875431971620014836968593543) 95 hr hd prB16 (by kernel_rfl) (by decide) (by kernel_rfl) (by decide))
theorem pr_9349 : Pr 9349 := .of_trial (k := 96) (by decide) (by decide) (by kernel_rfl)
theorem pr_44706919 : Pr 44706919 := pock (F := 9349) (by decide) (by decide) fun r hr hd => (certp (c := 24793509) 14 hr hd pr_9349 (by kernel_rfl) (by decide) (by kernel_rfl) (by decide))
theorem pr_120233 : Pr 120233 := .of_trial (k := 346) (by decide) (by decide) (by kernel_rfl)
theorem prB21 : Pr 174723607534414371449 := pock (F := 5375246992127) (by decide) (by decide) fun r hr hd => (mul_dvd (a := 44706919) (b := 120233) (by kernel_rfl) (certp (c := 69188669156729060297) 26 hr hd pr_44706919 (by kernel_rfl) (by decide) (by kernel_rfl) (by decide)) (certp (c := 97784642313376440036) 17 hr hd pr_120233 (by kernel_rfl) (by decide) (by kernel_rfl) (by decide)))
theorem prB22 : Pr 115792089237316195423570985008687907852837564279074904382605163141518161494337 := pock (F := 59746473235060985162263246577491932178200490877270861) (by decide) (by decide) fun r hr hd => (mul_dvd (a := 341948486974166000522343609283189) (b := 174723607534414371449) (by kernel_rfl) (certp (c := 86644313145397489891193855759928671818841495415153161568930588450251036589538) 109 hr hd prB17 (by kernel_rfl) (by decide) (by kernel_rfl) (by decide)) (certp (c := 58138579787377535003503259606714116115479494849592057519620557805018937774448) 68 hr hd prB21 (by kernel_rfl) (by decide) (by kernel_rfl) (by decide)))

theorem prime_p : Pr 115792089237316195423570985008687907853269984665640564039457584007908834671663 := prB10
theorem prime_n : Pr 115792089237316195423570985008687907852837564279074904382605163141518161494337 := prB22

end Go.Nt
