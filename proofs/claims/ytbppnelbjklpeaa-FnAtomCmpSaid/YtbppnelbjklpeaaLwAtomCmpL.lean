/- The walk of the law FnAtomCmp. -/
import Derived.Laws.EntriesVeiled
import Derived.Deep.RegionHeld3
import Derived.Deep.RegionWith
import Derived.BigQuiet
import Derived.Deep.QuietTactic
import Derived.Deep.DrawnRows
import Derived.WalkKit
import Derived.WalkSpells
import Derived.WalkLawsBesides
import Derived.Lib.Hide
import Derived.Test.YtbppnelbjklpeaaDraw3
import Derived.Test.YtbppnelbjklpeaaACmpP
import Derived.Test.YtbppnelbjklpeaaFs
namespace Go.Proofs.Ytbppnelbjklpeaa
open Go.RowKit D
set_option linter.unusedVariables false
attribute [local go_sem ↓] Go.wp_at_zero Go.wp_at_succ

set_option maxRecDepth 100000 in
set_option maxHeartbeats 8000000 in
theorem atomCmpLaw_walk (xs : List UInt8) (v1 : Value) (bs1 : List Nat) (ys : List UInt8) (v2 : Value) (bs2 : List Nat) (w : World) (h1 : bytesK w [v1] xs bs1) (h2 : bytesK w [v2] ys bs2) :
    Calls Try.prog 3 #[v1, v2] w fun e w' => e = .returned (.bool true) ∧ Below w.heap.size w w' := by
  obtain ⟨Ad, cap, rfl, hl, hm⟩ := sliceK_form h1
  obtain ⟨Ae, cape, rfl, hl2, hm2⟩ := sliceK_form h2
  have hlm := nat_ge_max (Nat.le_trans hl hm)
  have hlm2 := nat_ge_max (Nat.le_trans hl2 hm2)
  clear hl hm hl2 hm2
  by_cases hn : xs.length ≤ 1048576
  · by_cases hn2 : ys.length ≤ 1048576
    · have hd := drawAtomCmp_any _ xs bs1 w h1 hn
      have hd2 := fun w' (hb : Below w.heap.size w w') => drawAtomCmp_any _ ys bs2 w' (bytesK_good.below h2 hb) hn2
      have hn' : ¬ (1048576 : Int) < (xs.length : Int) := by omega
      have hn2' : ¬ (1048576 : Int) < (ys.length : Int) := by omega
      clear h1 h2 hn hn2
      go_enter Try.func3, Try.ntmps3
      go_wp2_with fail
      refine hd.mono ?_
      rintro e w1 ⟨a, b, A1, A2, c1, c2, b1, b2, rfl, hA, hB, n1, n2, hb1⟩
      have HD2 := Lib.hid (fun w' (hb : Below w1.heap.size w1 w') => hd2 w' (hb1.trans (hb.mono hb1.size)))
      have q1 := fun w' (hb : Below w1.heap.size w1 w') => atomCmp_impl a b _ _ _ _ b1 b2 w' (atomK_good.below hA hb) (atomK_good.below hB hb)
      have q2 := fun w' (hb : Below w1.heap.size w1 w') => atomCmp_spec a b _ _ _ _ b1 b2 w' (atomK_good.below hA hb) (atomK_good.below hB hb)
      have q3 := fun w' (hb : Below w1.heap.size w1 w') => atomCmp_impl b a _ _ _ _ b2 b1 w' (atomK_good.below hB hb) (atomK_good.below hA hb)
      have q4 := fun w' (hb : Below w1.heap.size w1 w') => atomOk_spec a _ _ b1 w' (atomK_good.below hA hb)
      have q5 := fun w' (hb : Below w1.heap.size w1 w') => atomOk_spec b _ _ b2 w' (atomK_good.below hB hb)
      have q6 := fun w' (hb : Below w1.heap.size w1 w') => fsAtom_any a b _ _ _ _ b1 b2 w' (atomK_good.below hA hb) (atomK_good.below hB hb)
      have q8 := fun c c0 c1 b3 w' (hb : Below w1.heap.size w1 w') (hC : atomK w' [c0, c1] c b3) => atomCmp_impl b c _ _ _ _ b2 b3 w' (atomK_good.below hB hb) hC
      have q9 := fun c c0 c1 b3 w' (hb : Below w1.heap.size w1 w') (hC : atomK w' [c0, c1] c b3) => atomCmp_impl a c _ _ _ _ b1 b3 w' (atomK_good.below hA hb) hC
      have B0 : Below w1.heap.size w1 ((w1.alloc (.cells #[.string a.name, .slice A1 a.args.length c1] 25)).alloc (.cells #[.string b.name, .slice A2 b.args.length c2] 25)) := ((Below.refl _ _).alloc (Nat.le_refl _) _).alloc (by simp) _
      have x0 : ((w1.alloc (.cells #[.string a.name, .slice A1 a.args.length c1] 25)).alloc (.cells #[.string b.name, .slice A2 b.args.length c2] 25)).cell? ⟨w1.heap.size, 0, none⟩ = some (.string a.name) := by go_simp
      have x1 : ((w1.alloc (.cells #[.string a.name, .slice A1 a.args.length c1] 25)).alloc (.cells #[.string b.name, .slice A2 b.args.length c2] 25)).cell? ⟨w1.heap.size, 1, none⟩ = some (.slice A1 a.args.length c1) := by go_simp
      have y0 : ((w1.alloc (.cells #[.string a.name, .slice A1 a.args.length c1] 25)).alloc (.cells #[.string b.name, .slice A2 b.args.length c2] 25)).cell? ⟨w1.heap.size + 1, 0, none⟩ = some (.string b.name) := by go_simp
      have y1 : ((w1.alloc (.cells #[.string a.name, .slice A1 a.args.length c1] 25)).alloc (.cells #[.string b.name, .slice A2 b.args.length c2] 25)).cell? ⟨w1.heap.size + 1, 1, none⟩ = some (.slice A2 b.args.length c2) := by go_simp
      have HV := Lib.hid (acmp_vals a b)
      have HNo : Hid ((atomOk a && atomOk b) = false → acmp a b = 0) := Lib.hid acmp_no
      have HEq : Hid (atomOk a = true → atomOk b = true → (acmp a b = 0 ↔ a = b)) := Lib.hid acmp_eq
      have HTr : Hid (∀ c, atomOk a = true → atomOk b = true → atomOk c = true → acmp a b ≤ 0 → acmp b c ≤ 0 → acmp a c ≤ 0) := Lib.hid (fun c => acmp_trans)
      rw [acmp_anti a b] at q3
      have HB1 := Lib.hid hb1
      clear hd hd2 hA hB hb1 n1 n2
      generalize acmp a b = K at *
      generalize hoa : atomOk a = oa at *
      generalize hob : atomOk b = ob at *
      clear hoa hob
      cases oa
      · have hK : K = 0 := HNo.out rfl
        subst hK
        clear HNo HEq HTr HV q5 q6 q8 q9 HD2
        go_wp2_with fail
        refine (q1 _ B0).mono ?_
        rintro e w101 ⟨rfl, hb101⟩
        have B101 := B0.trans (hb101.mono B0.size)
        replace x0 := cell_later hb101 x0
        replace x1 := cell_later hb101 x1
        replace y0 := cell_later hb101 y0
        replace y1 := cell_later hb101 y1
        go_wp2_with fail
        refine (q2 _ B101).mono ?_
        rintro e w102 ⟨rfl, hb102⟩
        have B102 := B101.trans (hb102.mono B101.size)
        replace x0 := cell_later hb102 x0
        replace x1 := cell_later hb102 x1
        replace y0 := cell_later hb102 y0
        replace y1 := cell_later hb102 y1
        go_wp2_with fail
        refine (q3 _ B102).mono ?_
        rintro e w103 ⟨rfl, hb103⟩
        have B103 := B102.trans (hb103.mono B102.size)
        replace x0 := cell_later hb103 x0
        replace x1 := cell_later hb103 x1
        replace y0 := cell_later hb103 y0
        replace y1 := cell_later hb103 y1
        go_wp2_with fail
        refine (q4 _ B103).mono ?_
        rintro e w104 ⟨rfl, hb104⟩
        have B104 := B103.trans (hb104.mono B103.size)
        replace x0 := cell_later hb104 x0
        replace x1 := cell_later hb104 x1
        replace y0 := cell_later hb104 y0
        replace y1 := cell_later hb104 y1
        go_wp2_with fail
        refine (q2 _ B104).mono ?_
        rintro e w105 ⟨rfl, hb105⟩
        have B105 := B104.trans (hb105.mono B104.size)
        replace x0 := cell_later hb105 x0
        replace x1 := cell_later hb105 x1
        replace y0 := cell_later hb105 y0
        replace y1 := cell_later hb105 y1
        go_wp2_with fail
        refine (q3 _ B105).mono ?_
        rintro e w106 ⟨rfl, hb106⟩
        have B106 := B105.trans (hb106.mono B105.size)
        replace x0 := cell_later hb106 x0
        replace x1 := cell_later hb106 x1
        replace y0 := cell_later hb106 y0
        replace y1 := cell_later hb106 y1
        go_wp2
        go_ret
        exact ⟨rfl, HB1.out.trans (B106.mono HB1.out.size)⟩
      · cases ob
        · have hK : K = 0 := HNo.out rfl
          subst hK
          clear HNo HEq HTr HV q6 q8 q9 HD2
          go_wp2_with fail
          refine (q1 _ B0).mono ?_
          rintro e w107 ⟨rfl, hb107⟩
          have B107 := B0.trans (hb107.mono B0.size)
          replace x0 := cell_later hb107 x0
          replace x1 := cell_later hb107 x1
          replace y0 := cell_later hb107 y0
          replace y1 := cell_later hb107 y1
          go_wp2_with fail
          refine (q2 _ B107).mono ?_
          rintro e w108 ⟨rfl, hb108⟩
          have B108 := B107.trans (hb108.mono B107.size)
          replace x0 := cell_later hb108 x0
          replace x1 := cell_later hb108 x1
          replace y0 := cell_later hb108 y0
          replace y1 := cell_later hb108 y1
          go_wp2_with fail
          refine (q3 _ B108).mono ?_
          rintro e w109 ⟨rfl, hb109⟩
          have B109 := B108.trans (hb109.mono B108.size)
          replace x0 := cell_later hb109 x0
          replace x1 := cell_later hb109 x1
          replace y0 := cell_later hb109 y0
          replace y1 := cell_later hb109 y1
          go_wp2_with fail
          refine (q4 _ B109).mono ?_
          rintro e w110 ⟨rfl, hb110⟩
          have B110 := B109.trans (hb110.mono B109.size)
          replace x0 := cell_later hb110 x0
          replace x1 := cell_later hb110 x1
          replace y0 := cell_later hb110 y0
          replace y1 := cell_later hb110 y1
          go_wp2_with fail
          refine (q5 _ B110).mono ?_
          rintro e w111 ⟨rfl, hb111⟩
          have B111 := B110.trans (hb111.mono B110.size)
          replace x0 := cell_later hb111 x0
          replace x1 := cell_later hb111 x1
          replace y0 := cell_later hb111 y0
          replace y1 := cell_later hb111 y1
          go_wp2_with fail
          refine (q2 _ B111).mono ?_
          rintro e w112 ⟨rfl, hb112⟩
          have B112 := B111.trans (hb112.mono B111.size)
          replace x0 := cell_later hb112 x0
          replace x1 := cell_later hb112 x1
          replace y0 := cell_later hb112 y0
          replace y1 := cell_later hb112 y1
          go_wp2_with fail
          refine (q3 _ B112).mono ?_
          rintro e w113 ⟨rfl, hb113⟩
          have B113 := B112.trans (hb113.mono B112.size)
          replace x0 := cell_later hb113 x0
          replace x1 := cell_later hb113 x1
          replace y0 := cell_later hb113 y0
          replace y1 := cell_later hb113 y1
          go_wp2
          go_ret
          exact ⟨rfl, HB1.out.trans (B113.mono HB1.out.size)⟩
        · have HT0 := Lib.hid (fun c => HTr.out c rfl rfl)
          clear HTr
          rcases HV.out with hK | hK | hK
          · subst hK
            clear HNo
            have HE : Hid (¬ a = b) := Lib.hid (fun e => by have := (HEq.out rfl rfl).2 e; omega)
            go_wp2_with fail
            refine (q1 _ B0).mono ?_
            rintro e w114 ⟨rfl, hb114⟩
            have B114 := B0.trans (hb114.mono B0.size)
            replace x0 := cell_later hb114 x0
            replace x1 := cell_later hb114 x1
            replace y0 := cell_later hb114 y0
            replace y1 := cell_later hb114 y1
            go_wp2_with fail
            refine (q2 _ B114).mono ?_
            rintro e w115 ⟨rfl, hb115⟩
            have B115 := B114.trans (hb115.mono B114.size)
            replace x0 := cell_later hb115 x0
            replace x1 := cell_later hb115 x1
            replace y0 := cell_later hb115 y0
            replace y1 := cell_later hb115 y1
            go_wp2_with fail
            refine (q3 _ B115).mono ?_
            rintro e w116 ⟨rfl, hb116⟩
            have B116 := B115.trans (hb116.mono B115.size)
            replace x0 := cell_later hb116 x0
            replace x1 := cell_later hb116 x1
            replace y0 := cell_later hb116 y0
            replace y1 := cell_later hb116 y1
            go_wp2_with fail
            refine (q4 _ B116).mono ?_
            rintro e w117 ⟨rfl, hb117⟩
            have B117 := B116.trans (hb117.mono B116.size)
            replace x0 := cell_later hb117 x0
            replace x1 := cell_later hb117 x1
            replace y0 := cell_later hb117 y0
            replace y1 := cell_later hb117 y1
            go_wp2_with fail
            refine (q5 _ B117).mono ?_
            rintro e w118 ⟨rfl, hb118⟩
            have B118 := B117.trans (hb118.mono B117.size)
            replace x0 := cell_later hb118 x0
            replace x1 := cell_later hb118 x1
            replace y0 := cell_later hb118 y0
            replace y1 := cell_later hb118 y1
            go_wp2_with fail
            refine (HD2.out _ B118).mono ?_
            rintro e w119 ⟨c, d, A3, A4, c3, c4, b3, b4, rfl, hC, hD, n3, n4, hb119⟩
            have B119 := B118.trans (hb119.mono B118.size)
            have hCA : Below w119.heap.size w119 ((w119.alloc (.cells #[.string c.name, .slice A3 c.args.length c3] 25)).alloc (.cells #[.string d.name, .slice A4 d.args.length c4] 25)) := ((Below.refl _ _).alloc (Nat.le_refl _) _).alloc (by simp) _
            replace x0 := cell_later (hb119.trans (hCA.mono hb119.size)) x0
            replace x1 := cell_later (hb119.trans (hCA.mono hb119.size)) x1
            replace y0 := cell_later (hb119.trans (hCA.mono hb119.size)) y0
            replace y1 := cell_later (hb119.trans (hCA.mono hb119.size)) y1
            have z0 : ((w119.alloc (.cells #[.string c.name, .slice A3 c.args.length c3] 25)).alloc (.cells #[.string d.name, .slice A4 d.args.length c4] 25)).cell? ⟨w119.heap.size, 0, none⟩ = some (.string c.name) := by go_simp
            have z1 : ((w119.alloc (.cells #[.string c.name, .slice A3 c.args.length c3] 25)).alloc (.cells #[.string d.name, .slice A4 d.args.length c4] 25)).cell? ⟨w119.heap.size, 1, none⟩ = some (.slice A3 c.args.length c3) := by go_simp
            have r7 := fun w' (hb : Below w119.heap.size w119 w') => atomOk_spec c _ _ b3 w' (atomK_good.below hC hb)
            have r8 := fun w' (hb : Below w119.heap.size w119 w') => q8 c _ _ b3 w' (B119.trans (hb.mono B119.size)) (atomK_good.below hC hb)
            have r9 := fun w' (hb : Below w119.heap.size w119 w') => q9 c _ _ b3 w' (B119.trans (hb.mono B119.size)) (atomK_good.below hC hb)
            have r6 := fun w' (hb : Below w119.heap.size w119 w') => q6 w' (B119.trans (hb.mono B119.size))
            have HT2 := Lib.hid (HT0.out c)
            have HM := Lib.hid (acmp_vals b c)
            have HJ := Lib.hid (acmp_vals a c)
            have HBN := Lib.hid B119
            clear q8 q9 q6 hC hD n3 n4 HT0 HEq
            generalize acmp b c = M at *
            generalize acmp a c = J at *
            generalize atomOk c = oc at *
            go_wp2_with fail
            refine (r6 _ hCA).mono ?_
            rintro e w120 ⟨r, rfl, hr, hb120⟩
            obtain rfl : r = false := by
              have := HE.out
              cases r; rfl; exact (this (hr.1 rfl)).elim
            have B120 := hCA.trans (hb120.mono hCA.size)
            clear hr
            replace x0 := cell_later hb120 x0
            replace x1 := cell_later hb120 x1
            replace y0 := cell_later hb120 y0
            replace y1 := cell_later hb120 y1
            replace z0 := cell_later hb120 z0
            replace z1 := cell_later hb120 z1
            go_wp2_with fail
            refine (r7 _ B120).mono ?_
            rintro e w121 ⟨rfl, hb121⟩
            have B121 := B120.trans (hb121.mono B120.size)
            replace x0 := cell_later hb121 x0
            replace x1 := cell_later hb121 x1
            replace y0 := cell_later hb121 y0
            replace y1 := cell_later hb121 y1
            replace z0 := cell_later hb121 z0
            replace z1 := cell_later hb121 z1
            cases oc
            · skip
              go_wp2_with fail
              refine (r6 _ B121).mono ?_
              rintro e w122 ⟨r, rfl, hr, hb122⟩
              obtain rfl : r = false := by
                have := HE.out
                cases r; rfl; exact (this (hr.1 rfl)).elim
              have B122 := B121.trans (hb122.mono B121.size)
              clear hr
              replace x0 := cell_later hb122 x0
              replace x1 := cell_later hb122 x1
              replace y0 := cell_later hb122 y0
              replace y1 := cell_later hb122 y1
              replace z0 := cell_later hb122 z0
              replace z1 := cell_later hb122 z1
              go_wp2
              go_ret
              exact ⟨rfl, HB1.out.trans ((HBN.out.trans (B122.mono HBN.out.size)).mono HB1.out.size)⟩
            · have HT3 := Lib.hid (HT2.out rfl (by omega))
              go_wp2_with fail
              refine (r8 _ B121).mono ?_
              rintro e w123 ⟨rfl, hb123⟩
              have B123 := B121.trans (hb123.mono B121.size)
              replace x0 := cell_later hb123 x0
              replace x1 := cell_later hb123 x1
              replace y0 := cell_later hb123 y0
              replace y1 := cell_later hb123 y1
              replace z0 := cell_later hb123 z0
              replace z1 := cell_later hb123 z1
              rcases HM.out with hM | hM | hM
              · subst hM
                have HJ2 := Lib.hid (HT3.out (by omega))
                go_wp2_with fail
                refine (r9 _ B123).mono ?_
                rintro e w124 ⟨rfl, hb124⟩
                have B124 := B123.trans (hb124.mono B123.size)
                replace x0 := cell_later hb124 x0
                replace x1 := cell_later hb124 x1
                replace y0 := cell_later hb124 y0
                replace y1 := cell_later hb124 y1
                replace z0 := cell_later hb124 z0
                replace z1 := cell_later hb124 z1
                rcases HJ.out with hJ | hJ | hJ
                · subst hJ
                  go_wp2
                  go_ret
                  exact ⟨rfl, HB1.out.trans ((HBN.out.trans (B124.mono HBN.out.size)).mono HB1.out.size)⟩
                · subst hJ
                  go_wp2
                  go_ret
                  exact ⟨rfl, HB1.out.trans ((HBN.out.trans (B124.mono HBN.out.size)).mono HB1.out.size)⟩
                · exact absurd (hJ ▸ HJ2.out) (by omega)
              · subst hM
                have HJ2 := Lib.hid (HT3.out (by omega))
                go_wp2_with fail
                refine (r9 _ B123).mono ?_
                rintro e w125 ⟨rfl, hb125⟩
                have B125 := B123.trans (hb125.mono B123.size)
                replace x0 := cell_later hb125 x0
                replace x1 := cell_later hb125 x1
                replace y0 := cell_later hb125 y0
                replace y1 := cell_later hb125 y1
                replace z0 := cell_later hb125 z0
                replace z1 := cell_later hb125 z1
                rcases HJ.out with hJ | hJ | hJ
                · subst hJ
                  go_wp2
                  go_ret
                  exact ⟨rfl, HB1.out.trans ((HBN.out.trans (B125.mono HBN.out.size)).mono HB1.out.size)⟩
                · subst hJ
                  go_wp2
                  go_ret
                  exact ⟨rfl, HB1.out.trans ((HBN.out.trans (B125.mono HBN.out.size)).mono HB1.out.size)⟩
                · exact absurd (hJ ▸ HJ2.out) (by omega)
              · subst hM
                go_wp2_with fail
                refine (r6 _ B123).mono ?_
                rintro e w126 ⟨r, rfl, hr, hb126⟩
                obtain rfl : r = false := by
                  have := HE.out
                  cases r; rfl; exact (this (hr.1 rfl)).elim
                have B126 := B123.trans (hb126.mono B123.size)
                clear hr
                replace x0 := cell_later hb126 x0
                replace x1 := cell_later hb126 x1
                replace y0 := cell_later hb126 y0
                replace y1 := cell_later hb126 y1
                replace z0 := cell_later hb126 z0
                replace z1 := cell_later hb126 z1
                go_wp2
                go_ret
                exact ⟨rfl, HB1.out.trans ((HBN.out.trans (B126.mono HBN.out.size)).mono HB1.out.size)⟩
          · subst hK
            clear HNo
            have HE : Hid (a = b) := Lib.hid ((HEq.out rfl rfl).1 rfl)
            go_wp2_with fail
            refine (q1 _ B0).mono ?_
            rintro e w127 ⟨rfl, hb127⟩
            have B127 := B0.trans (hb127.mono B0.size)
            replace x0 := cell_later hb127 x0
            replace x1 := cell_later hb127 x1
            replace y0 := cell_later hb127 y0
            replace y1 := cell_later hb127 y1
            go_wp2_with fail
            refine (q2 _ B127).mono ?_
            rintro e w128 ⟨rfl, hb128⟩
            have B128 := B127.trans (hb128.mono B127.size)
            replace x0 := cell_later hb128 x0
            replace x1 := cell_later hb128 x1
            replace y0 := cell_later hb128 y0
            replace y1 := cell_later hb128 y1
            go_wp2_with fail
            refine (q3 _ B128).mono ?_
            rintro e w129 ⟨rfl, hb129⟩
            have B129 := B128.trans (hb129.mono B128.size)
            replace x0 := cell_later hb129 x0
            replace x1 := cell_later hb129 x1
            replace y0 := cell_later hb129 y0
            replace y1 := cell_later hb129 y1
            go_wp2_with fail
            refine (q4 _ B129).mono ?_
            rintro e w130 ⟨rfl, hb130⟩
            have B130 := B129.trans (hb130.mono B129.size)
            replace x0 := cell_later hb130 x0
            replace x1 := cell_later hb130 x1
            replace y0 := cell_later hb130 y0
            replace y1 := cell_later hb130 y1
            go_wp2_with fail
            refine (q5 _ B130).mono ?_
            rintro e w131 ⟨rfl, hb131⟩
            have B131 := B130.trans (hb131.mono B130.size)
            replace x0 := cell_later hb131 x0
            replace x1 := cell_later hb131 x1
            replace y0 := cell_later hb131 y0
            replace y1 := cell_later hb131 y1
            go_wp2_with fail
            refine (HD2.out _ B131).mono ?_
            rintro e w132 ⟨c, d, A3, A4, c3, c4, b3, b4, rfl, hC, hD, n3, n4, hb132⟩
            have B132 := B131.trans (hb132.mono B131.size)
            have hCA : Below w132.heap.size w132 ((w132.alloc (.cells #[.string c.name, .slice A3 c.args.length c3] 25)).alloc (.cells #[.string d.name, .slice A4 d.args.length c4] 25)) := ((Below.refl _ _).alloc (Nat.le_refl _) _).alloc (by simp) _
            replace x0 := cell_later (hb132.trans (hCA.mono hb132.size)) x0
            replace x1 := cell_later (hb132.trans (hCA.mono hb132.size)) x1
            replace y0 := cell_later (hb132.trans (hCA.mono hb132.size)) y0
            replace y1 := cell_later (hb132.trans (hCA.mono hb132.size)) y1
            have z0 : ((w132.alloc (.cells #[.string c.name, .slice A3 c.args.length c3] 25)).alloc (.cells #[.string d.name, .slice A4 d.args.length c4] 25)).cell? ⟨w132.heap.size, 0, none⟩ = some (.string c.name) := by go_simp
            have z1 : ((w132.alloc (.cells #[.string c.name, .slice A3 c.args.length c3] 25)).alloc (.cells #[.string d.name, .slice A4 d.args.length c4] 25)).cell? ⟨w132.heap.size, 1, none⟩ = some (.slice A3 c.args.length c3) := by go_simp
            have r7 := fun w' (hb : Below w132.heap.size w132 w') => atomOk_spec c _ _ b3 w' (atomK_good.below hC hb)
            have r8 := fun w' (hb : Below w132.heap.size w132 w') => q8 c _ _ b3 w' (B132.trans (hb.mono B132.size)) (atomK_good.below hC hb)
            have r9 := fun w' (hb : Below w132.heap.size w132 w') => q9 c _ _ b3 w' (B132.trans (hb.mono B132.size)) (atomK_good.below hC hb)
            have r6 := fun w' (hb : Below w132.heap.size w132 w') => q6 w' (B132.trans (hb.mono B132.size))
            have HT2 := Lib.hid (HT0.out c)
            have HM := Lib.hid (acmp_vals b c)
            have HJ := Lib.hid (acmp_vals a c)
            have HBN := Lib.hid B132
            clear q8 q9 q6 hC hD n3 n4 HT0 HEq
            generalize acmp b c = M at *
            generalize acmp a c = J at *
            generalize atomOk c = oc at *
            go_wp2_with fail
            refine (r6 _ hCA).mono ?_
            rintro e w133 ⟨r, rfl, hr, hb133⟩
            obtain rfl : r = true := by
              have := HE.out
              exact hr.2 this
            have B133 := hCA.trans (hb133.mono hCA.size)
            clear hr
            replace x0 := cell_later hb133 x0
            replace x1 := cell_later hb133 x1
            replace y0 := cell_later hb133 y0
            replace y1 := cell_later hb133 y1
            replace z0 := cell_later hb133 z0
            replace z1 := cell_later hb133 z1
            go_wp2_with fail
            refine (r7 _ B133).mono ?_
            rintro e w134 ⟨rfl, hb134⟩
            have B134 := B133.trans (hb134.mono B133.size)
            replace x0 := cell_later hb134 x0
            replace x1 := cell_later hb134 x1
            replace y0 := cell_later hb134 y0
            replace y1 := cell_later hb134 y1
            replace z0 := cell_later hb134 z0
            replace z1 := cell_later hb134 z1
            cases oc
            · skip
              go_wp2_with fail
              refine (r6 _ B134).mono ?_
              rintro e w135 ⟨r, rfl, hr, hb135⟩
              obtain rfl : r = true := by
                have := HE.out
                exact hr.2 this
              have B135 := B134.trans (hb135.mono B134.size)
              clear hr
              replace x0 := cell_later hb135 x0
              replace x1 := cell_later hb135 x1
              replace y0 := cell_later hb135 y0
              replace y1 := cell_later hb135 y1
              replace z0 := cell_later hb135 z0
              replace z1 := cell_later hb135 z1
              go_wp2
              go_ret
              exact ⟨rfl, HB1.out.trans ((HBN.out.trans (B135.mono HBN.out.size)).mono HB1.out.size)⟩
            · have HT3 := Lib.hid (HT2.out rfl (by omega))
              go_wp2_with fail
              refine (r8 _ B134).mono ?_
              rintro e w136 ⟨rfl, hb136⟩
              have B136 := B134.trans (hb136.mono B134.size)
              replace x0 := cell_later hb136 x0
              replace x1 := cell_later hb136 x1
              replace y0 := cell_later hb136 y0
              replace y1 := cell_later hb136 y1
              replace z0 := cell_later hb136 z0
              replace z1 := cell_later hb136 z1
              rcases HM.out with hM | hM | hM
              · subst hM
                have HJ2 := Lib.hid (HT3.out (by omega))
                go_wp2_with fail
                refine (r9 _ B136).mono ?_
                rintro e w137 ⟨rfl, hb137⟩
                have B137 := B136.trans (hb137.mono B136.size)
                replace x0 := cell_later hb137 x0
                replace x1 := cell_later hb137 x1
                replace y0 := cell_later hb137 y0
                replace y1 := cell_later hb137 y1
                replace z0 := cell_later hb137 z0
                replace z1 := cell_later hb137 z1
                rcases HJ.out with hJ | hJ | hJ
                · subst hJ
                  go_wp2
                  go_ret
                  exact ⟨rfl, HB1.out.trans ((HBN.out.trans (B137.mono HBN.out.size)).mono HB1.out.size)⟩
                · subst hJ
                  go_wp2
                  go_ret
                  exact ⟨rfl, HB1.out.trans ((HBN.out.trans (B137.mono HBN.out.size)).mono HB1.out.size)⟩
                · exact absurd (hJ ▸ HJ2.out) (by omega)
              · subst hM
                have HJ2 := Lib.hid (HT3.out (by omega))
                go_wp2_with fail
                refine (r9 _ B136).mono ?_
                rintro e w138 ⟨rfl, hb138⟩
                have B138 := B136.trans (hb138.mono B136.size)
                replace x0 := cell_later hb138 x0
                replace x1 := cell_later hb138 x1
                replace y0 := cell_later hb138 y0
                replace y1 := cell_later hb138 y1
                replace z0 := cell_later hb138 z0
                replace z1 := cell_later hb138 z1
                rcases HJ.out with hJ | hJ | hJ
                · subst hJ
                  go_wp2
                  go_ret
                  exact ⟨rfl, HB1.out.trans ((HBN.out.trans (B138.mono HBN.out.size)).mono HB1.out.size)⟩
                · subst hJ
                  go_wp2
                  go_ret
                  exact ⟨rfl, HB1.out.trans ((HBN.out.trans (B138.mono HBN.out.size)).mono HB1.out.size)⟩
                · exact absurd (hJ ▸ HJ2.out) (by omega)
              · subst hM
                go_wp2_with fail
                refine (r6 _ B136).mono ?_
                rintro e w139 ⟨r, rfl, hr, hb139⟩
                obtain rfl : r = true := by
                  have := HE.out
                  exact hr.2 this
                have B139 := B136.trans (hb139.mono B136.size)
                clear hr
                replace x0 := cell_later hb139 x0
                replace x1 := cell_later hb139 x1
                replace y0 := cell_later hb139 y0
                replace y1 := cell_later hb139 y1
                replace z0 := cell_later hb139 z0
                replace z1 := cell_later hb139 z1
                go_wp2
                go_ret
                exact ⟨rfl, HB1.out.trans ((HBN.out.trans (B139.mono HBN.out.size)).mono HB1.out.size)⟩
          · subst hK
            clear HNo
            have HE : Hid (¬ a = b) := Lib.hid (fun e => by have := (HEq.out rfl rfl).2 e; omega)
            go_wp2_with fail
            refine (q1 _ B0).mono ?_
            rintro e w140 ⟨rfl, hb140⟩
            have B140 := B0.trans (hb140.mono B0.size)
            replace x0 := cell_later hb140 x0
            replace x1 := cell_later hb140 x1
            replace y0 := cell_later hb140 y0
            replace y1 := cell_later hb140 y1
            go_wp2_with fail
            refine (q2 _ B140).mono ?_
            rintro e w141 ⟨rfl, hb141⟩
            have B141 := B140.trans (hb141.mono B140.size)
            replace x0 := cell_later hb141 x0
            replace x1 := cell_later hb141 x1
            replace y0 := cell_later hb141 y0
            replace y1 := cell_later hb141 y1
            go_wp2_with fail
            refine (q3 _ B141).mono ?_
            rintro e w142 ⟨rfl, hb142⟩
            have B142 := B141.trans (hb142.mono B141.size)
            replace x0 := cell_later hb142 x0
            replace x1 := cell_later hb142 x1
            replace y0 := cell_later hb142 y0
            replace y1 := cell_later hb142 y1
            go_wp2_with fail
            refine (q4 _ B142).mono ?_
            rintro e w143 ⟨rfl, hb143⟩
            have B143 := B142.trans (hb143.mono B142.size)
            replace x0 := cell_later hb143 x0
            replace x1 := cell_later hb143 x1
            replace y0 := cell_later hb143 y0
            replace y1 := cell_later hb143 y1
            go_wp2_with fail
            refine (q5 _ B143).mono ?_
            rintro e w144 ⟨rfl, hb144⟩
            have B144 := B143.trans (hb144.mono B143.size)
            replace x0 := cell_later hb144 x0
            replace x1 := cell_later hb144 x1
            replace y0 := cell_later hb144 y0
            replace y1 := cell_later hb144 y1
            go_wp2_with fail
            refine (HD2.out _ B144).mono ?_
            rintro e w145 ⟨c, d, A3, A4, c3, c4, b3, b4, rfl, hC, hD, n3, n4, hb145⟩
            have B145 := B144.trans (hb145.mono B144.size)
            have hCA : Below w145.heap.size w145 ((w145.alloc (.cells #[.string c.name, .slice A3 c.args.length c3] 25)).alloc (.cells #[.string d.name, .slice A4 d.args.length c4] 25)) := ((Below.refl _ _).alloc (Nat.le_refl _) _).alloc (by simp) _
            replace x0 := cell_later (hb145.trans (hCA.mono hb145.size)) x0
            replace x1 := cell_later (hb145.trans (hCA.mono hb145.size)) x1
            replace y0 := cell_later (hb145.trans (hCA.mono hb145.size)) y0
            replace y1 := cell_later (hb145.trans (hCA.mono hb145.size)) y1
            have z0 : ((w145.alloc (.cells #[.string c.name, .slice A3 c.args.length c3] 25)).alloc (.cells #[.string d.name, .slice A4 d.args.length c4] 25)).cell? ⟨w145.heap.size, 0, none⟩ = some (.string c.name) := by go_simp
            have z1 : ((w145.alloc (.cells #[.string c.name, .slice A3 c.args.length c3] 25)).alloc (.cells #[.string d.name, .slice A4 d.args.length c4] 25)).cell? ⟨w145.heap.size, 1, none⟩ = some (.slice A3 c.args.length c3) := by go_simp
            have r7 := fun w' (hb : Below w145.heap.size w145 w') => atomOk_spec c _ _ b3 w' (atomK_good.below hC hb)
            have r8 := fun w' (hb : Below w145.heap.size w145 w') => q8 c _ _ b3 w' (B145.trans (hb.mono B145.size)) (atomK_good.below hC hb)
            have r9 := fun w' (hb : Below w145.heap.size w145 w') => q9 c _ _ b3 w' (B145.trans (hb.mono B145.size)) (atomK_good.below hC hb)
            have r6 := fun w' (hb : Below w145.heap.size w145 w') => q6 w' (B145.trans (hb.mono B145.size))
            have HT2 := Lib.hid (HT0.out c)
            have HM := Lib.hid (acmp_vals b c)
            have HJ := Lib.hid (acmp_vals a c)
            have HBN := Lib.hid B145
            clear q8 q9 q6 hC hD n3 n4 HT0 HEq
            generalize acmp b c = M at *
            generalize acmp a c = J at *
            generalize atomOk c = oc at *
            go_wp2_with fail
            refine (r6 _ hCA).mono ?_
            rintro e w146 ⟨r, rfl, hr, hb146⟩
            obtain rfl : r = false := by
              have := HE.out
              cases r; rfl; exact (this (hr.1 rfl)).elim
            have B146 := hCA.trans (hb146.mono hCA.size)
            clear hr
            replace x0 := cell_later hb146 x0
            replace x1 := cell_later hb146 x1
            replace y0 := cell_later hb146 y0
            replace y1 := cell_later hb146 y1
            replace z0 := cell_later hb146 z0
            replace z1 := cell_later hb146 z1
            go_wp2_with fail
            refine (r7 _ B146).mono ?_
            rintro e w147 ⟨rfl, hb147⟩
            have B147 := B146.trans (hb147.mono B146.size)
            replace x0 := cell_later hb147 x0
            replace x1 := cell_later hb147 x1
            replace y0 := cell_later hb147 y0
            replace y1 := cell_later hb147 y1
            replace z0 := cell_later hb147 z0
            replace z1 := cell_later hb147 z1
            cases oc
            · skip
              go_wp2_with fail
              refine (r6 _ B147).mono ?_
              rintro e w148 ⟨r, rfl, hr, hb148⟩
              obtain rfl : r = false := by
                have := HE.out
                cases r; rfl; exact (this (hr.1 rfl)).elim
              have B148 := B147.trans (hb148.mono B147.size)
              clear hr
              replace x0 := cell_later hb148 x0
              replace x1 := cell_later hb148 x1
              replace y0 := cell_later hb148 y0
              replace y1 := cell_later hb148 y1
              replace z0 := cell_later hb148 z0
              replace z1 := cell_later hb148 z1
              go_wp2
              go_ret
              exact ⟨rfl, HB1.out.trans ((HBN.out.trans (B148.mono HBN.out.size)).mono HB1.out.size)⟩
            · skip
              go_wp2_with fail
              refine (r6 _ B147).mono ?_
              rintro e w149 ⟨r, rfl, hr, hb149⟩
              obtain rfl : r = false := by
                have := HE.out
                cases r; rfl; exact (this (hr.1 rfl)).elim
              have B149 := B147.trans (hb149.mono B147.size)
              clear hr
              replace x0 := cell_later hb149 x0
              replace x1 := cell_later hb149 x1
              replace y0 := cell_later hb149 y0
              replace y1 := cell_later hb149 y1
              replace z0 := cell_later hb149 z0
              replace z1 := cell_later hb149 z1
              go_wp2
              go_ret
              exact ⟨rfl, HB1.out.trans ((HBN.out.trans (B149.mono HBN.out.size)).mono HB1.out.size)⟩
    · have hn2' : (1048576 : Int) < (ys.length : Int) := by omega
      have hn' : ¬ (1048576 : Int) < (xs.length : Int) := by omega
      clear h1 h2
      go_enter Try.func3, Try.ntmps3
      go_wp2
      go_ret
      exact ⟨rfl, Below.refl _ _⟩
  · have hn' : (1048576 : Int) < (xs.length : Int) := by omega
    clear h1 h2
    go_enter Try.func3, Try.ntmps3
    go_wp2
    go_ret
    exact ⟨rfl, Below.refl _ _⟩

end Go.Proofs.Ytbppnelbjklpeaa
