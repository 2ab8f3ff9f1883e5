/- The walk of ChangeAt. -/
import Derived.Test.YtpbdjpfbhicmdaaGreatDoorCbxbo
import Derived.Test.YtpbdjpfbhicmdaaGreatDoorCbxbq
set_option linter.unusedSimpArgs false
set_option linter.unusedVariables false
set_option maxRecDepth 100000
set_option maxHeartbeats 6400000
namespace Go.Proofs.YtpbdjpfbhicmdaaGreatDoor
open Go.RowKit
theorem changeAt_at (l : Sl VR) (i : Nat) (w W : World) (hr : Rd (· < w.heap.size) 2 VR.enc w l) (hb : Below w.heap.size w W) (hi : i<l.l.length) : ∃ b o x,l.A=some ⟨b,o,none⟩∧l.l[i]? = some x∧W.cell? ⟨b,o+i * 2,none⟩=some (.int .i64 x.f):=by
  obtain ⟨b,o,hA,hF,hc⟩:=hr.at1 hi
  exact ⟨b,o,l.l[i],hA,List.getElem?_eq_getElem hi,(hc.keep (hb.block b hF)).c2.1⟩
theorem changeat (l : Sl VR) (a n : Int) (w : World) (hg : SigW w) (hr : Rd (· < w.heap.size) 2 VR.enc w l) (hs : ∀ x,x ∈ l.l→x.t.size≤9223372036854775807) (ha : I64 a) (hn : 0≤n) (hn2 : n<4294967296) :
    Calls Tryz.prog 6 #[.slice l.A l.l.length l.c,.int .i64 a,.int .u32 n] w fun r w'=>r = .returned (.bool true)∧Below w.heap.size w w':=by
  have HG:=Lib.hid hg
  have HR:=Lib.hid hr
  have HS:=Lib.hid hs
  clear hg hr hs
  obtain ⟨A,c,l⟩:=l
  simp only at HS ⊢
  go_enter Tryz.func6,Tryz.ntmps6
  go_wp2_with fail
  refine (law35_small w HG.out).mono ?_
  rintro r w1 ⟨rfl,hb1⟩
  have HB:=Lib.hid hb1
  clear hb1
  go_wp2_with fail
  have hc:=r35_Few ⟨A,c,l⟩ w1 (HR.out.later HB.out) HS.out
  simp only at hc
  refine hc.mono ?_
  clear hc
  rintro r w2 ⟨B,rfl,hf,hb2⟩
  have HFW:=Lib.hid hf
  replace HB:=Lib.hid (HB.out.trans (hb2.mono HB.out.size))
  clear hf hb2
  rcases B
  · go_wp2_with fail
    go_ret
    exact ⟨rfl,HB.out⟩
  have hl4 : l.length≤4:=(HFW.out rfl).1
  clear HFW
  go_wp2_with fail
  have hc:=ch_At ⟨A,c,l⟩ a w2 (HR.out.later HB.out) HS.out (HG.out.later HB.out)
  simp only at hc
  refine hc.mono ?_
  clear hc
  rintro r w3 ⟨rfl,hb3⟩
  replace HB:=Lib.hid (HB.out.trans (hb3.mono HB.out.size))
  clear hb3
  obtain ⟨I,hI⟩ : ∃ I,atC l a=I:=⟨_,rfl⟩
  rw [hI]
  have HI:=Lib.hid hI
  clear hI
  go_wp2_with fail
  have hc:=ch_Right ⟨A,c,l⟩ w3 (HR.out.later HB.out) HS.out (HG.out.later HB.out)
  simp only at hc
  refine hc.mono ?_
  clear hc
  rintro r w4 ⟨rfl,hb4⟩
  replace HB:=Lib.hid (HB.out.trans (hb4.mono HB.out.size))
  clear hb4
  obtain ⟨R,hR⟩ : ∃ R,rightC l=R:=⟨_,rfl⟩
  rw [hR]
  have HRR:=Lib.hid hR
  clear hR
  rcases R
  · have hi1 : I = -1:=by rw [← HI.out]; exact atC_no HRR.out
    subst hi1
    go_wp2_with fail
    go_ret
    exact ⟨rfl,HB.out⟩
  obtain ⟨k,hk,hik,hle,hgt⟩:=atC_right HRR.out a
  obtain ⟨hl1,_⟩:=right_len HRR.out
  rw [HI.out] at hik
  have HLE:=Lib.hid hle
  have HGT:=Lib.hid hgt
  clear hle hgt
  have HMO:=Lib.hid (fun b (hab : a≤b)=>by have h:=atC_mono HRR.out hab; rw [HI.out] at h; exact h)
  rcases k with _ | k
  · have hi1 : I = -1:=by omega
    subst hi1
    obtain ⟨b,o,x,hA,hx,hcx⟩:=changeAt_at ⟨A,c,l⟩ 0 w w4 HR.out HB.out (by show 0<l.length; omega)
    simp only at hA hx
    subst hA
    have hgx : ¬ x.f≤a:=by have:=HGT.out x hx; omega
    obtain ⟨xf,xt⟩:=x
    simp only [Nat.zero_mul,Nat.add_zero] at hcx hgx
    have hgb : decide (xf≤a)=false:=decide_eq_false hgx
    have h01 : (0 : Int)<(l.length : Int):=by omega
    have h02 : decide ((l.length : Int)≤-1)=false:=decide_eq_false (by omega)
    have hw1 : IntKind.i64.wrap ((l.length : Int) - 1)=(l.length : Int) - 1:=by rw [IntKind.wrap_i64]; omega
    have hmn : ¬ (l.length : Int) - 1<0:=by omega
    clear hgx hx hik hk
    by_cases a0 : a<0
    · go_wp2_with fail
      go_ret
      exact ⟨rfl,HB.out⟩
    · by_cases a1 : 1048576<a
      · go_wp2_with fail
        go_ret
        exact ⟨rfl,HB.out⟩
      · have hwa : IntKind.i64.wrap (a+n)=a+n:=by rw [IntKind.wrap_i64]; omega
        have hmo:=HMO.out (a+n) (by omega)
        have HA0:=Lib.hid a0
        have HA1:=Lib.hid a1
        have a0b : decide (a<0)=false:=decide_eq_false a0
        have a1b : decide (1048576<a)=false:=decide_eq_false a1
        clear a0 a1
        go_wp2_with fail
        have hc:=ch_At ⟨some ⟨b,o,none⟩,c,l⟩ (a+n) w4 (HR.out.later HB.out) HS.out (HG.out.later HB.out)
        simp only at hc
        refine hc.mono ?_
        clear hc
        rintro r w5 ⟨rfl,hb5⟩
        have hbz:=HB.out.trans (hb5.mono HB.out.size)
        clear hb5
        obtain ⟨J,hJ⟩ : ∃ J,atC l (a+n)=J:=⟨_,rfl⟩
        rw [hJ] at hmo ⊢
        clear hJ
        have hjb : decide (J ≥ -1)=true:=decide_eq_true hmo
        have hjc : decide (-1≤J)=true:=decide_eq_true hmo
        clear hmo
        go_wp2_with fail
        go_ret
        exact ⟨rfl,hbz⟩
  · have hi1 : I=(k : Int):=by omega
    subst hi1
    obtain ⟨b,o,x,hA,hx,hcx⟩:=changeAt_at ⟨A,c,l⟩ k w w4 HR.out HB.out (by show k<l.length; omega)
    simp only at hA hx
    subst hA
    have hlx : x.f≤a:=HLE.out k x (by omega) hx
    obtain ⟨xf,xt⟩:=x
    simp only at hcx hlx
    have hgb : decide (a<xf)=false:=decide_eq_false (by omega)
    have h01 : decide ((k : Int) < -1)=false:=decide_eq_false (by omega)
    have h02 : (k : Int)<(l.length : Int):=by omega
    have h02b : decide ((l.length : Int)≤(k : Int))=false:=decide_eq_false (by omega)
    have h02c : decide (l.length≤k)=false:=decide_eq_false (by omega)
    have h02d : k<l.length:=by omega
    have h03 : ¬ (k : Int)<0:=by omega
    have h03b : (0 : Int)≤(k : Int):=by omega
    have hw0 : IntKind.i64.wrap ((k : Int)+1)=(k : Int)+1:=by rw [IntKind.wrap_i64]; omega
    have hw1 : IntKind.i64.wrap ((l.length : Int) - 1)=(l.length : Int) - 1:=by rw [IntKind.wrap_i64]; omega
    by_cases hkl : k+1<l.length
    · obtain ⟨b',o',y,hA',hy,hcy⟩:=changeAt_at ⟨some ⟨b,o,none⟩,c,l⟩ (k+1) w w4 HR.out HB.out (by show k+1<l.length; omega)
      simp only at hA' hy
      injection hA' with hA'
      injection hA' with hA1 hA2
      subst hA1 hA2
      have hgy:=HGT.out y hy
      obtain ⟨yf,yt⟩:=y
      simp only at hcy hgy
      have hyb : decide (yf≤a)=false:=decide_eq_false (by omega)
      have h04 : (k : Int)+1<(l.length : Int):=by omega
      have h04c : k+1<l.length:=hkl
      have hmn : ¬ (l.length : Int) - 1<(k : Int)+1:=by omega
      clear hlx hgy hx hy hik hk hkl
      by_cases a0 : a<0
      · go_wp2_with fail
        go_ret
        exact ⟨rfl,HB.out⟩
      · by_cases a1 : 1048576<a
        · go_wp2_with fail
          go_ret
          exact ⟨rfl,HB.out⟩
        · have hwa : IntKind.i64.wrap (a+n)=a+n:=by rw [IntKind.wrap_i64]; omega
          have hmo:=HMO.out (a+n) (by omega)
          have HA0:=Lib.hid a0
          have HA1:=Lib.hid a1
          have a0b : decide (a<0)=false:=decide_eq_false a0
          have a1b : decide (1048576<a)=false:=decide_eq_false a1
          clear a0 a1
          go_wp2_with fail
          have hc:=ch_At ⟨some ⟨b,o,none⟩,c,l⟩ (a+n) w4 (HR.out.later HB.out) HS.out (HG.out.later HB.out)
          simp only at hc
          refine hc.mono ?_
          clear hc
          rintro r w5 ⟨rfl,hb5⟩
          have hbz:=HB.out.trans (hb5.mono HB.out.size)
          clear hb5
          obtain ⟨J,hJ⟩ : ∃ J,atC l (a+n)=J:=⟨_,rfl⟩
          rw [hJ] at hmo ⊢
          clear hJ
          have hjb : decide (J ≥ (k : Int))=true:=decide_eq_true hmo
          have hjc : decide ((k : Int)≤J)=true:=decide_eq_true hmo
          clear hmo
          go_wp2_with fail
          go_ret
          exact ⟨rfl,hbz⟩
    · have h04 : decide ((k : Int)+1<(l.length : Int))=false:=decide_eq_false (by omega)
      have h04c : decide (k+1<l.length)=false:=decide_eq_false (by omega)
      clear hlx hx hik hk hkl
      by_cases a0 : a<0
      · go_wp2_with fail
        go_ret
        exact ⟨rfl,HB.out⟩
      · by_cases a1 : 1048576<a
        · go_wp2_with fail
          go_ret
          exact ⟨rfl,HB.out⟩
        · have hwa : IntKind.i64.wrap (a+n)=a+n:=by rw [IntKind.wrap_i64]; omega
          have hmo:=HMO.out (a+n) (by omega)
          have HA0:=Lib.hid a0
          have HA1:=Lib.hid a1
          have a0b : decide (a<0)=false:=decide_eq_false a0
          have a1b : decide (1048576<a)=false:=decide_eq_false a1
          clear a0 a1
          go_wp2_with fail
          have hc:=ch_At ⟨some ⟨b,o,none⟩,c,l⟩ (a+n) w4 (HR.out.later HB.out) HS.out (HG.out.later HB.out)
          simp only at hc
          refine hc.mono ?_
          clear hc
          rintro r w5 ⟨rfl,hb5⟩
          have hbz:=HB.out.trans (hb5.mono HB.out.size)
          clear hb5
          obtain ⟨J,hJ⟩ : ∃ J,atC l (a+n)=J:=⟨_,rfl⟩
          rw [hJ] at hmo ⊢
          clear hJ
          have hjb : decide (J ≥ (k : Int))=true:=decide_eq_true hmo
          have hjc : decide ((k : Int)≤J)=true:=decide_eq_true hmo
          clear hmo
          go_wp2_with fail
          go_ret
          exact ⟨rfl,hbz⟩
end Go.Proofs.YtpbdjpfbhicmdaaGreatDoor
