/- Walk: the example of the documentation. -/
import Derived.Test.YtlbihfbeamlacaaHbxbp
import Derived.Test.YtlbihfbeamlacaaHbxbq
import Derived.Test.YtlbihfbeamlacaaHbxbr
set_option linter.unusedSimpArgs false
set_option linter.unusedVariables false
set_option maxRecDepth 100000
set_option maxHeartbeats 6400000
namespace Go.Proofs.Ytlbihfbeamlacaa
open Go.RowKit
theorem law_small (w : World) : Calls Try.prog 8 #[] w fun r w'=>r = .returned (.bool true)∧Below w.heap.size w w':=by
  go_enter Try.func8,Try.ntmps8
  have HB : Hid (Below w.heap.size w w):=Lib.hid (Below.refl _ _)
  go_wp2_with fail
  refine (law_edge 0 1 2 _).mono ?_
  rintro r w1 ⟨rfl,hb⟩
  replace HB:=Lib.hid (HB.out.trans (hb.mono HB.out.size))
  try replace HL:=Lib.hid (HL.out.below hb)
  try replace HP:=Lib.hid (HP.out.below hb)
  try replace HQ:=Lib.hid (HQ.out.below hb)
  try replace HV:=Lib.hid (HV.out.below hb)
  try replace HX:=Lib.hid (HX.out.later hb)
  clear hb
  simp only [ED.v']
  go_wp2_with fail
  refine (law_edge 1 2 2 _).mono ?_
  rintro r w2 ⟨rfl,hb⟩
  replace HB:=Lib.hid (HB.out.trans (hb.mono HB.out.size))
  try replace HL:=Lib.hid (HL.out.below hb)
  try replace HP:=Lib.hid (HP.out.below hb)
  try replace HQ:=Lib.hid (HQ.out.below hb)
  try replace HV:=Lib.hid (HV.out.below hb)
  try replace HX:=Lib.hid (HX.out.later hb)
  clear hb
  simp only [ED.v']
  go_wp2_with fail
  refine (law_edge 2 3 1 _).mono ?_
  rintro r w3 ⟨rfl,hb⟩
  replace HB:=Lib.hid (HB.out.trans (hb.mono HB.out.size))
  try replace HL:=Lib.hid (HL.out.below hb)
  try replace HP:=Lib.hid (HP.out.below hb)
  try replace HQ:=Lib.hid (HQ.out.below hb)
  try replace HV:=Lib.hid (HV.out.below hb)
  try replace HX:=Lib.hid (HX.out.later hb)
  clear hb
  simp only [ED.v']
  go_wp2_with fail
  refine (law_edge 0 2 9 _).mono ?_
  rintro r w4 ⟨rfl,hb⟩
  replace HB:=Lib.hid (HB.out.trans (hb.mono HB.out.size))
  try replace HL:=Lib.hid (HL.out.below hb)
  try replace HP:=Lib.hid (HP.out.below hb)
  try replace HQ:=Lib.hid (HQ.out.below hb)
  try replace HV:=Lib.hid (HV.out.below hb)
  try replace HX:=Lib.hid (HX.out.later hb)
  clear hb
  simp only [ED.v']
  go_wp2_with fail
  have HL : Hid (Own w4.heap.size 44 4 ED.enc (w4.alloc (.cells #[.int .i64 0,.int .i64 1,.int .i64 2,.int .i64 (-1),.int .i64 1,.int .i64 2,.int .i64 2,.int .i64 (-1),.int .i64 2,.int .i64 3,.int .i64 1,.int .i64 (-1),.int .i64 0,.int .i64 2,.int .i64 9,.int .i64 (-1)] 44)) ⟨some ⟨w4.heap.size,0,none⟩,4,es4⟩):=Lib.hid (Own.lit w4 _ es4 (Nat.le_refl _) (by simp [maxLen,es4]) rfl ED.k)
  have hb : Below w4.heap.size w4 (w4.alloc (.cells #[.int .i64 0,.int .i64 1,.int .i64 2,.int .i64 (-1),.int .i64 1,.int .i64 2,.int .i64 2,.int .i64 (-1),.int .i64 2,.int .i64 3,.int .i64 1,.int .i64 (-1),.int .i64 0,.int .i64 2,.int .i64 9,.int .i64 (-1)] 44)):=(Below.refl _ _).alloc (Nat.le_refl _) _
  have hz : w4.heap.size+1=(w4.alloc (.cells #[.int .i64 0,.int .i64 1,.int .i64 2,.int .i64 (-1),.int .i64 1,.int .i64 2,.int .i64 2,.int .i64 (-1),.int .i64 2,.int .i64 3,.int .i64 1,.int .i64 (-1),.int .i64 0,.int .i64 2,.int .i64 9,.int .i64 (-1)] 44)).heap.size:=by simp
  replace HB:=Lib.hid (HB.out.trans (hb.mono HB.out.size))
  rw [hz]
  clear hb hz
  generalize w4.alloc (.cells #[.int .i64 0,.int .i64 1,.int .i64 2,.int .i64 (-1),.int .i64 1,.int .i64 2,.int .i64 2,.int .i64 (-1),.int .i64 2,.int .i64 3,.int .i64 1,.int .i64 (-1),.int .i64 0,.int .i64 2,.int .i64 9,.int .i64 (-1)] 44)=w5 at *
  have HR : Hid (Own w5.heap.size 3 1 ienc (w5.alloc (.cells #[.int .i64 3,.int .i64 0,.int .i64 1,.int .i64 2] 3)) ⟨some ⟨w5.heap.size,0,none⟩,4,R4⟩):=Lib.hid (Own.lit w5 _ R4 (Nat.le_refl _) (by simp [maxLen,R4]) rfl ienc_k)
  have hb : Below w5.heap.size w5 (w5.alloc (.cells #[.int .i64 3,.int .i64 0,.int .i64 1,.int .i64 2] 3)):=(Below.refl _ _).alloc (Nat.le_refl _) _
  replace HB:=Lib.hid (HB.out.trans (hb.mono HB.out.size))
  try replace HL:=Lib.hid (HL.out.below hb)
  try replace HP:=Lib.hid (HP.out.below hb)
  try replace HQ:=Lib.hid (HQ.out.below hb)
  try replace HV:=Lib.hid (HV.out.below hb)
  try replace HX:=Lib.hid (HX.out.later hb)
  clear hb
  generalize w5.alloc (.cells #[.int .i64 3,.int .i64 0,.int .i64 1,.int .i64 2] 3)=w6 at *
  generalize w4.heap.size=gl at *
  generalize w5.heap.size=gr at *
  refine (hier_Build 4 ⟨some ⟨gl,0,none⟩,4,es4⟩ ⟨some ⟨gr,0,none⟩,4,R4⟩ w6 ((Own.rd ED.k HL.out).mono fun b hb=>hb.2) ((Own.rd ienc_k HR.out).mono fun b hb=>hb.2) (by simp [R4]) (fun _=>by omega)).mono ?_
  clear HR
  rintro r w7 ⟨RA,EA,Rc,Ec,rfl,ho1,ho2,hb⟩
  simp only [bldV4] at ho1 ho2 ⊢
  have HP:=Lib.hid ho1
  have HQ:=Lib.hid ho2
  clear ho1 ho2
  replace HB:=Lib.hid (HB.out.trans (hb.mono HB.out.size))
  replace HL:=Lib.hid (HL.out.below hb)
  clear hb
  go_wp2_with fail
  have HX : Hid (Blk (w7.alloc (.cells #[.slice RA R4.length Rc,.slice EA E4.length Ec] 25)) w7.heap.size 25 #[.slice RA R4.length Rc,.slice EA E4.length Ec]):=Lib.hid (Blk.new _ _ _)
  have hb : Below w7.heap.size w7 (w7.alloc (.cells #[.slice RA R4.length Rc,.slice EA E4.length Ec] 25)):=(Below.refl _ _).alloc (Nat.le_refl _) _
  replace HB:=Lib.hid (HB.out.trans (hb.mono HB.out.size))
  replace HL:=Lib.hid (HL.out.below hb)
  replace HP:=Lib.hid (HP.out.below hb)
  replace HQ:=Lib.hid (HQ.out.below hb)
  clear hb
  generalize w7.alloc (.cells #[.slice RA R4.length Rc,.slice EA E4.length Ec] 25)=w8 at *
  generalize w7.heap.size=gh at *
  refine (law_edge 0 1 2 _).mono ?_
  rintro r w9 ⟨rfl,hb⟩
  replace HB:=Lib.hid (HB.out.trans (hb.mono HB.out.size))
  try replace HL:=Lib.hid (HL.out.below hb)
  try replace HP:=Lib.hid (HP.out.below hb)
  try replace HQ:=Lib.hid (HQ.out.below hb)
  try replace HV:=Lib.hid (HV.out.below hb)
  try replace HX:=Lib.hid (HX.out.later hb)
  clear hb
  simp only [ED.v']
  go_wp2_with fail
  refine (law_edge 1 2 2 _).mono ?_
  rintro r w10 ⟨rfl,hb⟩
  replace HB:=Lib.hid (HB.out.trans (hb.mono HB.out.size))
  try replace HL:=Lib.hid (HL.out.below hb)
  try replace HP:=Lib.hid (HP.out.below hb)
  try replace HQ:=Lib.hid (HQ.out.below hb)
  try replace HV:=Lib.hid (HV.out.below hb)
  try replace HX:=Lib.hid (HX.out.later hb)
  clear hb
  simp only [ED.v']
  go_wp2_with fail
  refine (law_edge 2 3 1 _).mono ?_
  rintro r w11 ⟨rfl,hb⟩
  replace HB:=Lib.hid (HB.out.trans (hb.mono HB.out.size))
  try replace HL:=Lib.hid (HL.out.below hb)
  try replace HP:=Lib.hid (HP.out.below hb)
  try replace HQ:=Lib.hid (HQ.out.below hb)
  try replace HV:=Lib.hid (HV.out.below hb)
  try replace HX:=Lib.hid (HX.out.later hb)
  clear hb
  simp only [ED.v']
  obtain ⟨x0,x1,xf,xz⟩:=HX.out.b2
  go_wp2_with fail
  clear x0 x1 xf xz
  have HV : Hid (Own w11.heap.size 44 4 ED.enc (w11.alloc (.cells #[.int .i64 0,.int .i64 1,.int .i64 2,.int .i64 (-1),.int .i64 0,.int .i64 2,.int .i64 4,.int .i64 1,.int .i64 0,.int .i64 3,.int .i64 5,.int .i64 2,.int .i64 1,.int .i64 2,.int .i64 2,.int .i64 (-1),.int .i64 2,.int .i64 3,.int .i64 1,.int .i64 (-1)] 44)) ⟨some ⟨w11.heap.size,0,none⟩,5,E4⟩):=Lib.hid (Own.lit w11 _ E4 (Nat.le_refl _) (by simp [maxLen,E4]) rfl ED.k)
  have hb : Below w11.heap.size w11 (w11.alloc (.cells #[.int .i64 0,.int .i64 1,.int .i64 2,.int .i64 (-1),.int .i64 0,.int .i64 2,.int .i64 4,.int .i64 1,.int .i64 0,.int .i64 3,.int .i64 5,.int .i64 2,.int .i64 1,.int .i64 2,.int .i64 2,.int .i64 (-1),.int .i64 2,.int .i64 3,.int .i64 1,.int .i64 (-1)] 44)):=(Below.refl _ _).alloc (Nat.le_refl _) _
  replace HB:=Lib.hid (HB.out.trans (hb.mono HB.out.size))
  replace HL:=Lib.hid (HL.out.below hb)
  replace HP:=Lib.hid (HP.out.below hb)
  replace HQ:=Lib.hid (HQ.out.below hb)
  replace HX:=Lib.hid (HX.out.later hb)
  clear hb
  generalize w11.alloc (.cells #[.int .i64 0,.int .i64 1,.int .i64 2,.int .i64 (-1),.int .i64 0,.int .i64 2,.int .i64 4,.int .i64 1,.int .i64 0,.int .i64 3,.int .i64 5,.int .i64 2,.int .i64 1,.int .i64 2,.int .i64 2,.int .i64 (-1),.int .i64 2,.int .i64 3,.int .i64 1,.int .i64 (-1)] 44)=w12 at *
  generalize w11.heap.size=gv at *
  refine (r13_Same ⟨EA,Ec,E4⟩ ⟨some ⟨gv,0,none⟩,5,E4⟩ w12 ((Own.rd ED.k HQ.out).mono fun b hb=>hb.2) ((Own.rd ED.k HV.out).mono fun b hb=>hb.2)).mono ?_
  rintro r w13 ⟨rfl,hb⟩
  clear HV
  replace HB:=Lib.hid (HB.out.trans (hb.mono HB.out.size))
  try replace HL:=Lib.hid (HL.out.below hb)
  try replace HP:=Lib.hid (HP.out.below hb)
  try replace HQ:=Lib.hid (HQ.out.below hb)
  try replace HV:=Lib.hid (HV.out.below hb)
  try replace HX:=Lib.hid (HX.out.later hb)
  clear hb
  simp only [decide_true]
  obtain ⟨x0,x1,xf,xz⟩:=HX.out.b2
  go_wp2_with fail
  clear x0 x1 xf xz
  refine (hier_Dist 4 es4 (tabK es4 4) ⟨RA,Rc,R4⟩ ⟨EA,Ec,E4⟩ 0 3 w13 ((Own.rd ienc_k HP.out).mono fun b hb=>hb.2) ((Own.rd ED.k HQ.out).mono fun b hb=>hb.2) hrt4).mono ?_
  rintro r w14 ⟨rfl,hb⟩
  rw [if_pos (by unfold Ir; omega),tab4a]
  replace HB:=Lib.hid (HB.out.trans (hb.mono HB.out.size))
  try replace HL:=Lib.hid (HL.out.below hb)
  try replace HP:=Lib.hid (HP.out.below hb)
  try replace HQ:=Lib.hid (HQ.out.below hb)
  try replace HV:=Lib.hid (HV.out.below hb)
  try replace HX:=Lib.hid (HX.out.later hb)
  clear hb
  obtain ⟨x0,x1,xf,xz⟩:=HX.out.b2
  go_wp2_with fail
  clear x0 x1 xf xz
  refine (hier_Path 4 es4 (tabK es4 4) ⟨RA,Rc,R4⟩ ⟨EA,Ec,E4⟩ 0 3 w14 ((Own.rd ienc_k HP.out).mono fun b hb=>hb.2) ((Own.rd ED.k HQ.out).mono fun b hb=>hb.2) hrt4).mono ?_
  rintro r w15 ⟨PA,pc,out,rfl,ho,hp,hb⟩
  rw [if_pos (by rw [tab4a]; unfold Ir; omega)] at hp
  have hout:=path4a hp
  subst hout
  replace HB:=Lib.hid (HB.out.trans (hb.mono HB.out.size))
  try replace HL:=Lib.hid (HL.out.below hb)
  try replace HP:=Lib.hid (HP.out.below hb)
  try replace HQ:=Lib.hid (HQ.out.below hb)
  try replace HV:=Lib.hid (HV.out.below hb)
  try replace HX:=Lib.hid (HX.out.later hb)
  clear hb
  have HV:=Lib.hid ho
  clear ho hp
  go_wp2_with fail
  have HU : Hid (Own w15.heap.size 3 1 ienc (w15.alloc (.cells #[.int .i64 0,.int .i64 1,.int .i64 2,.int .i64 3] 3)) ⟨some ⟨w15.heap.size,0,none⟩,4,[0,1,2,3]⟩):=Lib.hid (Own.lit w15 _ [0,1,2,3] (Nat.le_refl _) (by simp [maxLen]) rfl ienc_k)
  have hb : Below w15.heap.size w15 (w15.alloc (.cells #[.int .i64 0,.int .i64 1,.int .i64 2,.int .i64 3] 3)):=(Below.refl _ _).alloc (Nat.le_refl _) _
  replace HB:=Lib.hid (HB.out.trans (hb.mono HB.out.size))
  try replace HL:=Lib.hid (HL.out.below hb)
  try replace HP:=Lib.hid (HP.out.below hb)
  try replace HQ:=Lib.hid (HQ.out.below hb)
  try replace HV:=Lib.hid (HV.out.below hb)
  try replace HX:=Lib.hid (HX.out.later hb)
  clear hb
  generalize w15.alloc (.cells #[.int .i64 0,.int .i64 1,.int .i64 2,.int .i64 3] 3)=w16 at *
  generalize w15.heap.size=gu at *
  refine (r13_Ints ⟨PA,pc,[0,1,2,3]⟩ ⟨some ⟨gu,0,none⟩,4,[0,1,2,3]⟩ w16 ((Own.rd ienc_k HV.out).mono fun b hb=>hb.2) ((Own.rd ienc_k HU.out).mono fun b hb=>hb.2)).mono ?_
  clear HU HV
  rintro r w17 ⟨rfl,hb⟩
  replace HB:=Lib.hid (HB.out.trans (hb.mono HB.out.size))
  try replace HL:=Lib.hid (HL.out.below hb)
  try replace HP:=Lib.hid (HP.out.below hb)
  try replace HQ:=Lib.hid (HQ.out.below hb)
  try replace HV:=Lib.hid (HV.out.below hb)
  try replace HX:=Lib.hid (HX.out.later hb)
  clear hb
  simp only [decide_true]
  obtain ⟨x0,x1,xf,xz⟩:=HX.out.b2
  go_wp2_with fail
  clear x0 x1 xf xz
  refine (hier_Dist 4 es4 (tabK es4 4) ⟨RA,Rc,R4⟩ ⟨EA,Ec,E4⟩ 3 0 w17 ((Own.rd ienc_k HP.out).mono fun b hb=>hb.2) ((Own.rd ED.k HQ.out).mono fun b hb=>hb.2) hrt4).mono ?_
  rintro r w18 ⟨rfl,hb⟩
  rw [if_pos (by unfold Ir; omega),tab4b]
  replace HB:=Lib.hid (HB.out.trans (hb.mono HB.out.size))
  try replace HL:=Lib.hid (HL.out.below hb)
  try replace HP:=Lib.hid (HP.out.below hb)
  try replace HQ:=Lib.hid (HQ.out.below hb)
  try replace HV:=Lib.hid (HV.out.below hb)
  try replace HX:=Lib.hid (HX.out.later hb)
  clear hb
  obtain ⟨x0,x1,xf,xz⟩:=HX.out.b2
  go_wp2_with fail
  clear x0 x1 xf xz
  refine (hier_Path 4 es4 (tabK es4 4) ⟨RA,Rc,R4⟩ ⟨EA,Ec,E4⟩ 3 0 w18 ((Own.rd ienc_k HP.out).mono fun b hb=>hb.2) ((Own.rd ED.k HQ.out).mono fun b hb=>hb.2) hrt4).mono ?_
  rintro r w19 ⟨QA,qc,out,rfl,ho,hp,hb⟩
  rw [if_neg (by rw [tab4b]; omega)] at hp
  subst hp
  replace HB:=Lib.hid (HB.out.trans (hb.mono HB.out.size))
  try replace HL:=Lib.hid (HL.out.below hb)
  try replace HP:=Lib.hid (HP.out.below hb)
  try replace HQ:=Lib.hid (HQ.out.below hb)
  try replace HV:=Lib.hid (HV.out.below hb)
  try replace HX:=Lib.hid (HX.out.later hb)
  clear hb
  clear ho
  obtain ⟨x0,x1,xf,xz⟩:=HX.out.b2
  go_wp2_with fail
  clear x0 x1 xf xz
  refine (hier_Path 4 es4 (tabK es4 4) ⟨RA,Rc,R4⟩ ⟨EA,Ec,E4⟩ 2 2 w19 ((Own.rd ienc_k HP.out).mono fun b hb=>hb.2) ((Own.rd ED.k HQ.out).mono fun b hb=>hb.2) hrt4).mono ?_
  rintro r w20 ⟨SA,sc,out,rfl,ho,hp,hb⟩
  rw [if_pos (by rw [tab4c]; unfold Ir; omega)] at hp
  have hout:=path4b hp
  subst hout
  replace HB:=Lib.hid (HB.out.trans (hb.mono HB.out.size))
  try replace HL:=Lib.hid (HL.out.below hb)
  try replace HP:=Lib.hid (HP.out.below hb)
  try replace HQ:=Lib.hid (HQ.out.below hb)
  try replace HV:=Lib.hid (HV.out.below hb)
  try replace HX:=Lib.hid (HX.out.later hb)
  clear hb
  have HV:=Lib.hid ho
  clear ho hp
  go_wp2_with fail
  have HU : Hid (Own w20.heap.size 3 1 ienc (w20.alloc (.cells #[.int .i64 2] 3)) ⟨some ⟨w20.heap.size,0,none⟩,1,[2]⟩):=Lib.hid (Own.lit w20 _ [2] (Nat.le_refl _) (by simp [maxLen]) rfl ienc_k)
  have hb : Below w20.heap.size w20 (w20.alloc (.cells #[.int .i64 2] 3)):=(Below.refl _ _).alloc (Nat.le_refl _) _
  replace HB:=Lib.hid (HB.out.trans (hb.mono HB.out.size))
  try replace HL:=Lib.hid (HL.out.below hb)
  try replace HP:=Lib.hid (HP.out.below hb)
  try replace HQ:=Lib.hid (HQ.out.below hb)
  try replace HV:=Lib.hid (HV.out.below hb)
  try replace HX:=Lib.hid (HX.out.later hb)
  clear hb
  generalize w20.alloc (.cells #[.int .i64 2] 3)=w21 at *
  generalize w20.heap.size=gs at *
  refine (r13_Ints ⟨SA,sc,[2]⟩ ⟨some ⟨gs,0,none⟩,1,[2]⟩ w21 ((Own.rd ienc_k HV.out).mono fun b hb=>hb.2) ((Own.rd ienc_k HU.out).mono fun b hb=>hb.2)).mono ?_
  clear HU HV
  rintro r w22 ⟨rfl,hb⟩
  replace HB:=Lib.hid (HB.out.trans (hb.mono HB.out.size))
  try replace HL:=Lib.hid (HL.out.below hb)
  try replace HP:=Lib.hid (HP.out.below hb)
  try replace HQ:=Lib.hid (HQ.out.below hb)
  try replace HV:=Lib.hid (HV.out.below hb)
  try replace HX:=Lib.hid (HX.out.later hb)
  clear hb
  simp only [decide_true]
  obtain ⟨x0,x1,xf,xz⟩:=HX.out.b2
  go_wp2_with fail
  clear x0 x1 xf xz
  refine (hier_Check 4 ⟨some ⟨gl,0,none⟩,4,es4⟩ ⟨RA,Rc,R4⟩ ⟨EA,Ec,E4⟩ w22 ((Own.rd ED.k HL.out).mono fun b hb=>hb.2) ((Own.rd ienc_k HP.out).mono fun b hb=>hb.2) ((Own.rd ED.k HQ.out).mono fun b hb=>hb.2) (by simp [R4]) (fun _=>by omega)).mono ?_
  rintro r w23 ⟨rfl,hb⟩
  simp only [chk4]
  replace HB:=Lib.hid (HB.out.trans (hb.mono HB.out.size))
  try replace HL:=Lib.hid (HL.out.below hb)
  try replace HP:=Lib.hid (HP.out.below hb)
  try replace HQ:=Lib.hid (HQ.out.below hb)
  try replace HV:=Lib.hid (HV.out.below hb)
  try replace HX:=Lib.hid (HX.out.later hb)
  clear hb
  go_wp2_with fail
  go_ret
  exact ⟨rfl,HB.out⟩
end Go.Proofs.Ytlbihfbeamlacaa
