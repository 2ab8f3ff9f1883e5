/- The walk of ChangeBefore. -/
import Derived.Test.YtpbdjpfbhicmdaaGreatDoorCbemxaa
import Derived.Test.YtpbdjpfbhicmdaaGreatDoorCbxbq
set_option linter.unusedSimpArgs false
set_option linter.unusedVariables false
set_option maxRecDepth 100000
set_option maxHeartbeats 6400000
namespace Go.Proofs.YtpbdjpfbhicmdaaGreatDoor
open Go.RowKit
theorem byl_cs (b : Byl) : ∃ cs,b.v = .agg cs∧cs.size=25∧cs.all (·.oneCell')=true∧cs[0]? = some (.string b.nm):=by
  obtain ⟨nm,ls,ea,eb,ec,ed,q,sh,ch⟩:=b
  exact ⟨_,byl_v _ _ _ _ _ _ _ _ _,rfl,by kernel_rfl,rfl⟩
theorem changebefore (l : Sl VR) (t : ByteArray) (f a : Int) (w : World) (hg : SigW w) (hr : Rd (· < w.heap.size) 2 VR.enc w l) (hs : ∀ x,x ∈ l.l→x.t.size≤9223372036854775807) (ht : t.size≤9223372036854775807) (_hf : I64 f) (_ha : I64 a) :
    Calls Tryz.prog 4 #[.slice l.A l.l.length l.c,.string t,.int .i64 f,.int .i64 a] w fun r w'=>r = .returned (.bool true)∧Below w.heap.size w w':=by
  have HG:=Lib.hid hg
  have HR:=Lib.hid hr
  have HS:=Lib.hid hs
  have HT:=Lib.hid ht
  have hcap:=hr.lecap
  clear hg hr hs
  obtain ⟨A,c,l⟩:=l
  simp only at HS hcap ⊢
  go_enter Tryz.func4,Tryz.ntmps4
  go_wp2_with fail
  refine (law35_small w HG.out).mono ?_
  rintro r w1 ⟨rfl,hb1⟩
  have HB:=Lib.hid hb1
  clear hb1
  go_wp2_with fail
  have hc:=r35_Few ⟨A,c,l⟩ w1 (HR.out.later HB.out) HS.out
  simp only at hc
  refine hc.mono ?_
  clear hc
  rintro r w2 ⟨B,rfl,hf,hb2⟩
  have HFW:=Lib.hid hf
  clear hf
  replace HB:=Lib.hid (HB.out.trans (hb2.mono HB.out.size))
  try replace HO:=Lib.hid (HO.out.below hb2)
  try replace HY:=Lib.hid (HY.out.later hb2)
  try replace HBT:=Lib.hid (HBT.out.later hb2)
  clear hb2
  rcases B
  · go_wp2_with fail
    go_ret
    exact ⟨rfl,HB.out⟩
  have hl4 : l.length≤4:=(HFW.out rfl).1
  clear HFW
  by_cases h500 : 500<t.size
  · have h5i : (500 : Int)<(t.size : Int):=by omega
    go_wp2_with fail
    go_ret
    exact ⟨rfl,HB.out⟩
  have h5i : decide ((500 : Int)<(t.size : Int))=false:=decide_eq_false (by omega)
  have h5n : decide (500<t.size)=false:=decide_eq_false h500
  clear h500
  go_wp2_with fail
  have hc:=ch_Adopt ⟨A,c,l⟩ t f w2 (HR.out.later HB.out) HS.out HT.out (HG.out.later HB.out)
  simp only at hc
  obtain ⟨E,hE⟩ : ∃ E,adoE l t f=E:=⟨_,rfl⟩
  rw [hE] at hc
  have HE:=Lib.hid hE
  clear hE
  refine hc.mono ?_
  clear hc
  rintro r w3 ⟨hb3,hr⟩
  by_cases h0 : E=0
  · rw [if_pos h0] at hr
    obtain ⟨mA,mc,rfl,hown⟩:=hr
    subst h0
    have HAD:=Lib.hid (adoE_zero HE.out)
    have HO:=Lib.hid hown
    clear hown
    replace HB:=Lib.hid (HB.out.trans (hb3.mono HB.out.size))
    clear hb3
    go_wp2_with fail
    have hc:=syn_Parse t w3 HT.out (HG.out.later HB.out)
    refine hc.mono ?_
    clear hc
    rintro r w4 hc
    obtain ⟨hb4,b,hsh,hat,rfl⟩:=hc.one
    obtain ⟨hc0,hk0⟩:=HAD.out.code
    have HSH:=Lib.hid hsh
    have HBT : Hid (Byl.At (· < w4.heap.size) w4 b):=Lib.hid (hat.keepF (fun _ _=>rfl) (fun i hi=>hi.2))
    have HCK : Hid (chkU b=0):=Lib.hid (by rw [chkU_is hsh]; exact hk0)
    have HL20 : Hid (b.lets.l.length≤1000000):=Lib.hid (by
      have h1:=parsB_lets t.data.toList
      rw [← hsh] at h1
      simp only [shB,List.length_map] at h1
      omega)
    have HNM : Hid (b.nm=(parC t.data.toList).1.name):=Lib.hid (by rw [parC_name,← hsh]; rfl)
    rw [hc0]
    obtain ⟨pp,hpp⟩ : ∃ x,(parsB t.data.toList).2.1=x:=⟨_,rfl⟩
    rw [hpp]
    clear hc hsh hat hc0 hk0 hpp
    replace HB:=Lib.hid (HB.out.trans (hb4.mono HB.out.size))
    try replace HO:=Lib.hid (HO.out.below hb4)
    try replace HY:=Lib.hid (HY.out.later hb4)
    try replace HBT:=Lib.hid (HBT.out.later hb4)
    clear hb4
    obtain ⟨cs,hcs,hsz,hone,hn0⟩:=byl_cs b
    have HCV:=Lib.hid hcs
    rw [hcs]
    have HSZ:=Lib.hid hsz
    have HON:=Lib.hid hone
    have HN0:=Lib.hid hn0
    clear hcs hsz hone hn0
    go_wp2_with (refine wpList_store_row rfl 28 (.tmp 12) (.tmp 39) rfl w4.heap.size cs rfl rfl 28 #[.string (⟨#[]⟩ : ByteArray),.slice none 0 0,.int .i64 0,.int .i64 0,.int .i64 0,.string (⟨#[]⟩ : ByteArray),.slice none 0 0,.int .i64 0,.int .i64 0,.int .i64 0,.string (⟨#[]⟩ : ByteArray),.slice none 0 0,.int .i64 0,.int .i64 0,.int .i64 0,.string (⟨#[]⟩ : ByteArray),.slice none 0 0,.int .i64 0,.int .i64 0,.int .i64 0,.string (⟨#[]⟩ : ByteArray),.slice none 0 0,.int .i64 0,.int .i64 0,.int .i64 0] (Blk.new w4 _ _) (by rw [HSZ.out]; kernel_rfl) (by rw [HSZ.out]; rfl) HON.out ?_; apply Hid.out)
    have hbw : Below w4.heap.size w4 ((w4.alloc (.cells #[.string (⟨#[]⟩ : ByteArray),.slice none 0 0,.int .i64 0,.int .i64 0,.int .i64 0,.string (⟨#[]⟩ : ByteArray),.slice none 0 0,.int .i64 0,.int .i64 0,.int .i64 0,.string (⟨#[]⟩ : ByteArray),.slice none 0 0,.int .i64 0,.int .i64 0,.int .i64 0,.string (⟨#[]⟩ : ByteArray),.slice none 0 0,.int .i64 0,.int .i64 0,.int .i64 0,.string (⟨#[]⟩ : ByteArray),.slice none 0 0,.int .i64 0,.int .i64 0,.int .i64 0] 28)).setRow w4.heap.size cs):=((Below.refl _ _).alloc (Nat.le_refl _) _).trans (row_below (Nat.le_refl _))
    have hy : Blk ((w4.alloc (.cells #[.string (⟨#[]⟩ : ByteArray),.slice none 0 0,.int .i64 0,.int .i64 0,.int .i64 0,.string (⟨#[]⟩ : ByteArray),.slice none 0 0,.int .i64 0,.int .i64 0,.int .i64 0,.string (⟨#[]⟩ : ByteArray),.slice none 0 0,.int .i64 0,.int .i64 0,.int .i64 0,.string (⟨#[]⟩ : ByteArray),.slice none 0 0,.int .i64 0,.int .i64 0,.int .i64 0,.string (⟨#[]⟩ : ByteArray),.slice none 0 0,.int .i64 0,.int .i64 0,.int .i64 0] 28)).setRow w4.heap.size cs) w4.heap.size 28 cs:=setRow_heap _ _ #[.string (⟨#[]⟩ : ByteArray),.slice none 0 0,.int .i64 0,.int .i64 0,.int .i64 0,.string (⟨#[]⟩ : ByteArray),.slice none 0 0,.int .i64 0,.int .i64 0,.int .i64 0,.string (⟨#[]⟩ : ByteArray),.slice none 0 0,.int .i64 0,.int .i64 0,.int .i64 0,.string (⟨#[]⟩ : ByteArray),.slice none 0 0,.int .i64 0,.int .i64 0,.int .i64 0,.string (⟨#[]⟩ : ByteArray),.slice none 0 0,.int .i64 0,.int .i64 0,.int .i64 0] _ _ (0,0) (Blk.new w4 _ _)
    replace HB:=Lib.hid (HB.out.trans (hbw.mono HB.out.size))
    try replace HO:=Lib.hid (HO.out.below hbw)
    try replace HY:=Lib.hid (HY.out.later hbw)
    try replace HBT:=Lib.hid (HBT.out.later hbw)
    clear hbw
    have HY:=Lib.hid hy
    clear hy
    generalize (w4.alloc (.cells #[.string (⟨#[]⟩ : ByteArray),.slice none 0 0,.int .i64 0,.int .i64 0,.int .i64 0,.string (⟨#[]⟩ : ByteArray),.slice none 0 0,.int .i64 0,.int .i64 0,.int .i64 0,.string (⟨#[]⟩ : ByteArray),.slice none 0 0,.int .i64 0,.int .i64 0,.int .i64 0,.string (⟨#[]⟩ : ByteArray),.slice none 0 0,.int .i64 0,.int .i64 0,.int .i64 0,.string (⟨#[]⟩ : ByteArray),.slice none 0 0,.int .i64 0,.int .i64 0,.int .i64 0] 28)).setRow w4.heap.size cs=w5 at *
    generalize w4.heap.size=g12 at *
    refine Lib.hid ?_
    go_wp2_with (refine wpl_load_rowW rfl 28 (.tmp 12) rfl g12 rfl 28 cs (0,0) _ HY.out Tryz.underlying28 rfl (by rw [HSZ.out]; kernel_rfl) ?_)
    have hc:=un_Check b w5 HBT.out HL20.out
    rw [HCV.out,HCK.out] at hc
    refine hc.mono ?_
    clear hc
    rintro r w6 ⟨rfl,hb6⟩
    replace HB:=Lib.hid (HB.out.trans (hb6.mono HB.out.size))
    try replace HO:=Lib.hid (HO.out.below hb6)
    try replace HY:=Lib.hid (HY.out.later hb6)
    try replace HBT:=Lib.hid (HBT.out.later hb6)
    clear hb6
    have hw1 : IntKind.i64.wrap ((l.length : Int)+1)=(l.length : Int)+1:=by rw [IntKind.wrap_i64]; omega
    have hml : (l ++ [(⟨f,t⟩ : VR)]).length=l.length+1:=by simp
    go_wp2_with fail
    have hc:=ch_Right ⟨A,c,l⟩ w6 (HR.out.later HB.out) HS.out (HG.out.later HB.out)
    simp only at hc
    rw [HAD.out.right] at hc
    refine hc.mono ?_
    clear hc
    rintro r w7 ⟨rfl,hb7⟩
    replace HB:=Lib.hid (HB.out.trans (hb7.mono HB.out.size))
    try replace HO:=Lib.hid (HO.out.below hb7)
    try replace HY:=Lib.hid (HY.out.later hb7)
    try replace HBT:=Lib.hid (HBT.out.later hb7)
    clear hb7
    go_wp2_with fail
    obtain ⟨gm,hmA,hmc⟩ : ∃ gm,mA=some ⟨gm,0,none⟩∧l.length+1≤mc:=by
      rcases HO.out.form with ⟨_,_,h3⟩ | ⟨gm,h1,h2,_,h4,_⟩
      · simp at h3
      · exact ⟨gm,h1,by simpa using h4⟩
    subst hmA
    have HMS : Hid (∀ x,x ∈ l ++ [(⟨f,t⟩ : VR)]→x.t.size≤9223372036854775807):=Lib.hid (fun x hx=>by
      rcases List.mem_append.1 hx with h | h
      · exact HS.out x h
      · obtain rfl:=List.mem_singleton.1 h; exact HT.out)
    have hc:=ch_Right ⟨some ⟨gm,0,none⟩,mc,l ++ [(⟨f,t⟩ : VR)]⟩ w7 ((HO.out.rd VR.enc_k).mono fun _ h=>h.2) HMS.out (HG.out.later HB.out)
    simp only [hml] at hc
    rw [HAD.out.both] at hc
    refine hc.mono ?_
    clear hc
    rintro r w8 ⟨rfl,hb8⟩
    replace HB:=Lib.hid (HB.out.trans (hb8.mono HB.out.size))
    try replace HO:=Lib.hid (HO.out.below hb8)
    try replace HY:=Lib.hid (HY.out.later hb8)
    try replace HBT:=Lib.hid (HBT.out.later hb8)
    clear hb8
    have hmci : (l.length : Int)≤(mc : Int):=by omega
    have hmcn : l.length≤mc:=by omega
    go_wp2_with fail
    have hsl : Rd (· < w8.heap.size) 2 VR.enc w8 ⟨some ⟨gm,0,none⟩,mc,l⟩:=by
      have h:=((HO.out.rd VR.enc_k).mono fun _ (h : _∧_)=>h.2).takeN l.length
      simpa using h
    have hc:=r35_Same ⟨some ⟨gm,0,none⟩,mc,l⟩ ⟨A,c,l⟩ w8 hsl (HR.out.later HB.out)
    simp only [decide_true] at hc
    refine hc.mono ?_
    clear hc hsl
    rintro r w9 ⟨rfl,hb9⟩
    replace HB:=Lib.hid (HB.out.trans (hb9.mono HB.out.size))
    try replace HO:=Lib.hid (HO.out.below hb9)
    try replace HY:=Lib.hid (HY.out.later hb9)
    try replace HBT:=Lib.hid (HBT.out.later hb9)
    clear hb9
    obtain ⟨e0,e1⟩ : w9.cell? ⟨gm,l.length * 2,none⟩=some (.int .i64 f)∧w9.cell? ⟨gm,l.length * 2+1,none⟩=some (.string t):=by
      obtain ⟨b',o',hA',_,hcc⟩:=(HO.out.rd VR.enc_k).2.2.2 l.length ⟨f,t⟩ (by simp)
      injection hA' with hA'
      injection hA' with h1 h2
      subst h1 h2
      have:=hcc.c2
      rw [Nat.zero_add] at this
      exact this
    have qG:=ver_guard
    have qN:=fun w=>ver_neq f f t t w
    rw [decide_eq_true rfl] at qN
    have hlt1 : (l.length : Int)<(l.length : Int)+1:=by omega
    go_wp2_with fail
    have hc:=ch_At ⟨A,c,l⟩ a w9 (HR.out.later HB.out) HS.out (HG.out.later HB.out)
    simp only at hc
    obtain ⟨I,hI⟩ : ∃ I,atC l a=I:=⟨_,rfl⟩
    rw [hI] at hc
    refine hc.mono ?_
    clear hc e0 e1 qG qN
    rintro r w10 ⟨rfl,hb10⟩
    replace HB:=Lib.hid (HB.out.trans (hb10.mono HB.out.size))
    try replace HO:=Lib.hid (HO.out.below hb10)
    try replace HY:=Lib.hid (HY.out.later hb10)
    try replace HBT:=Lib.hid (HBT.out.later hb10)
    clear hb10
    have HMA:=Lib.hid (HAD.out.at_ a)
    obtain ⟨hl1,_⟩:=right_len HAD.out.right
    have hlt0 : 0<l.length:=by omega
    obtain ⟨b0,o0,hA0,hF0,hcl0⟩:=HR.out.at1 hlt0
    simp only at hA0 hF0 hcl0
    have hcl2:=hcl0.keep (HB.out.block b0 hF0)
    have hsx:=HS.out l[0] (List.getElem_mem hlt0)
    have hh : l.headD ⟨0,⟨#[]⟩⟩=l[0]:=by
      rcases l with _ | ⟨y,l⟩
      · simp at hlt0
      · rfl
    have HNE:=Lib.hid (HAD.out.name)
    rw [hh] at HNE
    clear hh hcl0
    generalize l[0]=x at *
    obtain ⟨xf,xt⟩:=x
    obtain ⟨g0,g1⟩:=Cells.c2 hcl2
    simp only [Nat.zero_mul,Nat.add_zero] at g0 g1
    clear hcl2
    simp only at hsx
    have HNF : Hid ((parC t.data.toList).1.name=(parC xt.data.toList).1.name):=Lib.hid HNE.out
    clear HNE
    subst hA0
    have HII:=Lib.hid hI
    have hl0i : (0 : Int)<(l.length : Int):=by omega
    clear hI
    by_cases hfa : f≤a
    · have hfb : decide (a ≥ f)=true:=decide_eq_true hfa
      have hma : atC (l ++ [(⟨f,t⟩ : VR)]) a=(l.length : Int):=by rw [HMA.out,if_pos hfa]
      have HMB:=Lib.hid hma
      clear hma
      go_wp2_with fail
      have hc:=syn_Parse xt w10 hsx (HG.out.later HB.out)
      refine hc.mono ?_
      clear hc
      rintro r w11 hc
      obtain ⟨hb11,b2,hsh2,_,rfl⟩:=hc.one
      have HN2 : Hid (b2.nm=(parC xt.data.toList).1.name):=Lib.hid (by rw [parC_name,← hsh2]; rfl)
      obtain ⟨pp2,hpp2⟩ : ∃ x,(parsB xt.data.toList).2.1=x:=⟨_,rfl⟩
      obtain ⟨qq2,hqq2⟩ : ∃ x,(parsB xt.data.toList).2.2=x:=⟨_,rfl⟩
      rw [hpp2,hqq2]
      clear hc hsh2 hpp2 hqq2
      replace HB:=Lib.hid (HB.out.trans (hb11.mono HB.out.size))
      try replace HO:=Lib.hid (HO.out.below hb11)
      try replace HY:=Lib.hid (HY.out.later hb11)
      try replace HBT:=Lib.hid (HBT.out.later hb11)
      clear hb11
      obtain ⟨cs2,hcs2,hsz2,hone2,hn02⟩:=byl_cs b2
      rw [hcs2]
      have HSZ2:=Lib.hid hsz2
      have HON2:=Lib.hid hone2
      have HN02:=Lib.hid hn02
      clear hcs2 hsz2 hone2 hn02
      go_wp2_with (refine wpList_store_row rfl 28 (.tmp 16) (.tmp 107) rfl w11.heap.size cs2 rfl rfl 28 #[.string (⟨#[]⟩ : ByteArray),.slice none 0 0,.int .i64 0,.int .i64 0,.int .i64 0,.string (⟨#[]⟩ : ByteArray),.slice none 0 0,.int .i64 0,.int .i64 0,.int .i64 0,.string (⟨#[]⟩ : ByteArray),.slice none 0 0,.int .i64 0,.int .i64 0,.int .i64 0,.string (⟨#[]⟩ : ByteArray),.slice none 0 0,.int .i64 0,.int .i64 0,.int .i64 0,.string (⟨#[]⟩ : ByteArray),.slice none 0 0,.int .i64 0,.int .i64 0,.int .i64 0] (Blk.new w11 _ _) (by rw [HSZ2.out]; kernel_rfl) (by rw [HSZ2.out]; rfl) HON2.out ?_; apply Hid.out)
      have hbw : Below w11.heap.size w11 ((w11.alloc (.cells #[.string (⟨#[]⟩ : ByteArray),.slice none 0 0,.int .i64 0,.int .i64 0,.int .i64 0,.string (⟨#[]⟩ : ByteArray),.slice none 0 0,.int .i64 0,.int .i64 0,.int .i64 0,.string (⟨#[]⟩ : ByteArray),.slice none 0 0,.int .i64 0,.int .i64 0,.int .i64 0,.string (⟨#[]⟩ : ByteArray),.slice none 0 0,.int .i64 0,.int .i64 0,.int .i64 0,.string (⟨#[]⟩ : ByteArray),.slice none 0 0,.int .i64 0,.int .i64 0,.int .i64 0] 28)).setRow w11.heap.size cs2):=((Below.refl _ _).alloc (Nat.le_refl _) _).trans (row_below (Nat.le_refl _))
      have hy2 : Blk ((w11.alloc (.cells #[.string (⟨#[]⟩ : ByteArray),.slice none 0 0,.int .i64 0,.int .i64 0,.int .i64 0,.string (⟨#[]⟩ : ByteArray),.slice none 0 0,.int .i64 0,.int .i64 0,.int .i64 0,.string (⟨#[]⟩ : ByteArray),.slice none 0 0,.int .i64 0,.int .i64 0,.int .i64 0,.string (⟨#[]⟩ : ByteArray),.slice none 0 0,.int .i64 0,.int .i64 0,.int .i64 0,.string (⟨#[]⟩ : ByteArray),.slice none 0 0,.int .i64 0,.int .i64 0,.int .i64 0] 28)).setRow w11.heap.size cs2) w11.heap.size 28 cs2:=setRow_heap _ _ #[.string (⟨#[]⟩ : ByteArray),.slice none 0 0,.int .i64 0,.int .i64 0,.int .i64 0,.string (⟨#[]⟩ : ByteArray),.slice none 0 0,.int .i64 0,.int .i64 0,.int .i64 0,.string (⟨#[]⟩ : ByteArray),.slice none 0 0,.int .i64 0,.int .i64 0,.int .i64 0,.string (⟨#[]⟩ : ByteArray),.slice none 0 0,.int .i64 0,.int .i64 0,.int .i64 0,.string (⟨#[]⟩ : ByteArray),.slice none 0 0,.int .i64 0,.int .i64 0,.int .i64 0] _ _ (0,0) (Blk.new w11 _ _)
      replace HB:=Lib.hid (HB.out.trans (hbw.mono HB.out.size))
      try replace HO:=Lib.hid (HO.out.below hbw)
      try replace HY:=Lib.hid (HY.out.later hbw)
      try replace HBT:=Lib.hid (HBT.out.later hbw)
      clear hbw
      have HY2:=Lib.hid hy2
      clear hy2
      generalize (w11.alloc (.cells #[.string (⟨#[]⟩ : ByteArray),.slice none 0 0,.int .i64 0,.int .i64 0,.int .i64 0,.string (⟨#[]⟩ : ByteArray),.slice none 0 0,.int .i64 0,.int .i64 0,.int .i64 0,.string (⟨#[]⟩ : ByteArray),.slice none 0 0,.int .i64 0,.int .i64 0,.int .i64 0,.string (⟨#[]⟩ : ByteArray),.slice none 0 0,.int .i64 0,.int .i64 0,.int .i64 0,.string (⟨#[]⟩ : ByteArray),.slice none 0 0,.int .i64 0,.int .i64 0,.int .i64 0] 28)).setRow w11.heap.size cs2=w12 at *
      generalize w11.heap.size=g16 at *
      refine Lib.hid ?_
      go_wp2_with fail
      have hc:=ch_At ⟨some ⟨gm,0,none⟩,mc,l ++ [(⟨f,t⟩ : VR)]⟩ a w12 ((HO.out.rd VR.enc_k).mono fun _ h=>h.2) HMS.out (HG.out.later HB.out)
      simp only [hml] at hc
      rw [HMB.out] at hc
      refine hc.mono ?_
      clear hc
      rintro r w13 ⟨rfl,hb13⟩
      replace HY2:=Lib.hid (HY2.out.later hb13)
      replace HB:=Lib.hid (HB.out.trans (hb13.mono HB.out.size))
      try replace HO:=Lib.hid (HO.out.below hb13)
      try replace HY:=Lib.hid (HY.out.later hb13)
      try replace HBT:=Lib.hid (HBT.out.later hb13)
      clear hb13
      have n16 : w13.cell? ⟨g16,0,none⟩=some (.string b2.nm):=(HY2.out.cell 0).trans HN02.out
      have n12 : w13.cell? ⟨g12,0,none⟩=some (.string b.nm):=(HY.out.cell 0).trans HN0.out
      rw [HNM.out,HNF.out,← HN2.out] at n12
      go_wp2_with fail
      go_ret
      exact ⟨rfl,HB.out⟩
    · have hfb : decide (a ≥ f)=false:=decide_eq_false hfa
      have hma : atC (l ++ [(⟨f,t⟩ : VR)]) a=I:=by rw [HMA.out,if_neg hfa,HII.out]
      have HMB:=Lib.hid hma
      clear hma
      go_wp2_with fail
      have hc:=syn_Parse xt w10 hsx (HG.out.later HB.out)
      refine hc.mono ?_
      clear hc
      rintro r w11 hc
      obtain ⟨hb11,b2,hsh2,_,rfl⟩:=hc.one
      have HN2 : Hid (b2.nm=(parC xt.data.toList).1.name):=Lib.hid (by rw [parC_name,← hsh2]; rfl)
      obtain ⟨pp2,hpp2⟩ : ∃ x,(parsB xt.data.toList).2.1=x:=⟨_,rfl⟩
      obtain ⟨qq2,hqq2⟩ : ∃ x,(parsB xt.data.toList).2.2=x:=⟨_,rfl⟩
      rw [hpp2,hqq2]
      clear hc hsh2 hpp2 hqq2
      replace HB:=Lib.hid (HB.out.trans (hb11.mono HB.out.size))
      try replace HO:=Lib.hid (HO.out.below hb11)
      try replace HY:=Lib.hid (HY.out.later hb11)
      try replace HBT:=Lib.hid (HBT.out.later hb11)
      clear hb11
      obtain ⟨cs2,hcs2,hsz2,hone2,hn02⟩:=byl_cs b2
      rw [hcs2]
      have HSZ2:=Lib.hid hsz2
      have HON2:=Lib.hid hone2
      have HN02:=Lib.hid hn02
      clear hcs2 hsz2 hone2 hn02
      go_wp2_with (refine wpList_store_row rfl 28 (.tmp 16) (.tmp 107) rfl w11.heap.size cs2 rfl rfl 28 #[.string (⟨#[]⟩ : ByteArray),.slice none 0 0,.int .i64 0,.int .i64 0,.int .i64 0,.string (⟨#[]⟩ : ByteArray),.slice none 0 0,.int .i64 0,.int .i64 0,.int .i64 0,.string (⟨#[]⟩ : ByteArray),.slice none 0 0,.int .i64 0,.int .i64 0,.int .i64 0,.string (⟨#[]⟩ : ByteArray),.slice none 0 0,.int .i64 0,.int .i64 0,.int .i64 0,.string (⟨#[]⟩ : ByteArray),.slice none 0 0,.int .i64 0,.int .i64 0,.int .i64 0] (Blk.new w11 _ _) (by rw [HSZ2.out]; kernel_rfl) (by rw [HSZ2.out]; rfl) HON2.out ?_; apply Hid.out)
      have hbw : Below w11.heap.size w11 ((w11.alloc (.cells #[.string (⟨#[]⟩ : ByteArray),.slice none 0 0,.int .i64 0,.int .i64 0,.int .i64 0,.string (⟨#[]⟩ : ByteArray),.slice none 0 0,.int .i64 0,.int .i64 0,.int .i64 0,.string (⟨#[]⟩ : ByteArray),.slice none 0 0,.int .i64 0,.int .i64 0,.int .i64 0,.string (⟨#[]⟩ : ByteArray),.slice none 0 0,.int .i64 0,.int .i64 0,.int .i64 0,.string (⟨#[]⟩ : ByteArray),.slice none 0 0,.int .i64 0,.int .i64 0,.int .i64 0] 28)).setRow w11.heap.size cs2):=((Below.refl _ _).alloc (Nat.le_refl _) _).trans (row_below (Nat.le_refl _))
      have hy2 : Blk ((w11.alloc (.cells #[.string (⟨#[]⟩ : ByteArray),.slice none 0 0,.int .i64 0,.int .i64 0,.int .i64 0,.string (⟨#[]⟩ : ByteArray),.slice none 0 0,.int .i64 0,.int .i64 0,.int .i64 0,.string (⟨#[]⟩ : ByteArray),.slice none 0 0,.int .i64 0,.int .i64 0,.int .i64 0,.string (⟨#[]⟩ : ByteArray),.slice none 0 0,.int .i64 0,.int .i64 0,.int .i64 0,.string (⟨#[]⟩ : ByteArray),.slice none 0 0,.int .i64 0,.int .i64 0,.int .i64 0] 28)).setRow w11.heap.size cs2) w11.heap.size 28 cs2:=setRow_heap _ _ #[.string (⟨#[]⟩ : ByteArray),.slice none 0 0,.int .i64 0,.int .i64 0,.int .i64 0,.string (⟨#[]⟩ : ByteArray),.slice none 0 0,.int .i64 0,.int .i64 0,.int .i64 0,.string (⟨#[]⟩ : ByteArray),.slice none 0 0,.int .i64 0,.int .i64 0,.int .i64 0,.string (⟨#[]⟩ : ByteArray),.slice none 0 0,.int .i64 0,.int .i64 0,.int .i64 0,.string (⟨#[]⟩ : ByteArray),.slice none 0 0,.int .i64 0,.int .i64 0,.int .i64 0] _ _ (0,0) (Blk.new w11 _ _)
      replace HB:=Lib.hid (HB.out.trans (hbw.mono HB.out.size))
      try replace HO:=Lib.hid (HO.out.below hbw)
      try replace HY:=Lib.hid (HY.out.later hbw)
      try replace HBT:=Lib.hid (HBT.out.later hbw)
      clear hbw
      have HY2:=Lib.hid hy2
      clear hy2
      generalize (w11.alloc (.cells #[.string (⟨#[]⟩ : ByteArray),.slice none 0 0,.int .i64 0,.int .i64 0,.int .i64 0,.string (⟨#[]⟩ : ByteArray),.slice none 0 0,.int .i64 0,.int .i64 0,.int .i64 0,.string (⟨#[]⟩ : ByteArray),.slice none 0 0,.int .i64 0,.int .i64 0,.int .i64 0,.string (⟨#[]⟩ : ByteArray),.slice none 0 0,.int .i64 0,.int .i64 0,.int .i64 0,.string (⟨#[]⟩ : ByteArray),.slice none 0 0,.int .i64 0,.int .i64 0,.int .i64 0] 28)).setRow w11.heap.size cs2=w12 at *
      generalize w11.heap.size=g16 at *
      refine Lib.hid ?_
      go_wp2_with fail
      have hc:=ch_At ⟨some ⟨gm,0,none⟩,mc,l ++ [(⟨f,t⟩ : VR)]⟩ a w12 ((HO.out.rd VR.enc_k).mono fun _ h=>h.2) HMS.out (HG.out.later HB.out)
      simp only [hml] at hc
      rw [HMB.out] at hc
      refine hc.mono ?_
      clear hc
      rintro r w13 ⟨rfl,hb13⟩
      replace HY2:=Lib.hid (HY2.out.later hb13)
      replace HB:=Lib.hid (HB.out.trans (hb13.mono HB.out.size))
      try replace HO:=Lib.hid (HO.out.below hb13)
      try replace HY:=Lib.hid (HY.out.later hb13)
      try replace HBT:=Lib.hid (HBT.out.later hb13)
      clear hb13
      have n16 : w13.cell? ⟨g16,0,none⟩=some (.string b2.nm):=(HY2.out.cell 0).trans HN02.out
      have n12 : w13.cell? ⟨g12,0,none⟩=some (.string b.nm):=(HY.out.cell 0).trans HN0.out
      rw [HNM.out,HNF.out,← HN2.out] at n12
      go_wp2_with fail
      go_ret
      exact ⟨rfl,HB.out⟩
  · rw [if_neg h0] at hr
    subst hr
    have h0b : (E != 0)=true:=bne_iff_ne.2 h0
    replace HB:=Lib.hid (HB.out.trans (hb3.mono HB.out.size))
    clear hb3 h0
    go_wp2_with fail
    have hc:=syn_Parse t w3 HT.out (HG.out.later HB.out)
    refine hc.mono ?_
    clear hc
    rintro r w4 hc
    obtain ⟨hb4,b,hsh,hat,rfl⟩:=hc.one
    replace HB:=Lib.hid (HB.out.trans (hb4.mono HB.out.size))
    try replace HO:=Lib.hid (HO.out.below hb4)
    try replace HY:=Lib.hid (HY.out.later hb4)
    try replace HBT:=Lib.hid (HBT.out.later hb4)
    clear hb4
    obtain ⟨cs,hcs,hsz,hone,hn0⟩:=byl_cs b
    rw [hcs]
    have HSZ:=Lib.hid hsz
    have HON:=Lib.hid hone
    obtain ⟨pp,hpp⟩ : ∃ x,(parsB t.data.toList).2.1=x:=⟨_,rfl⟩
    obtain ⟨qq,hqq⟩ : ∃ x,(parsB t.data.toList).2.2=x:=⟨_,rfl⟩
    rw [hpp,hqq]
    clear hc hcs hsz hone hn0 hsh hat hpp hqq
    go_wp2_with (refine wpList_store_row rfl 28 (.tmp 12) (.tmp 39) rfl w4.heap.size cs rfl rfl 28 #[.string (⟨#[]⟩ : ByteArray),.slice none 0 0,.int .i64 0,.int .i64 0,.int .i64 0,.string (⟨#[]⟩ : ByteArray),.slice none 0 0,.int .i64 0,.int .i64 0,.int .i64 0,.string (⟨#[]⟩ : ByteArray),.slice none 0 0,.int .i64 0,.int .i64 0,.int .i64 0,.string (⟨#[]⟩ : ByteArray),.slice none 0 0,.int .i64 0,.int .i64 0,.int .i64 0,.string (⟨#[]⟩ : ByteArray),.slice none 0 0,.int .i64 0,.int .i64 0,.int .i64 0] (Blk.new w4 _ _) (by rw [HSZ.out]; kernel_rfl) (by rw [HSZ.out]; rfl) HON.out ?_; apply Hid.out)
    have hbw : Below w4.heap.size w4 ((w4.alloc (.cells #[.string (⟨#[]⟩ : ByteArray),.slice none 0 0,.int .i64 0,.int .i64 0,.int .i64 0,.string (⟨#[]⟩ : ByteArray),.slice none 0 0,.int .i64 0,.int .i64 0,.int .i64 0,.string (⟨#[]⟩ : ByteArray),.slice none 0 0,.int .i64 0,.int .i64 0,.int .i64 0,.string (⟨#[]⟩ : ByteArray),.slice none 0 0,.int .i64 0,.int .i64 0,.int .i64 0,.string (⟨#[]⟩ : ByteArray),.slice none 0 0,.int .i64 0,.int .i64 0,.int .i64 0] 28)).setRow w4.heap.size cs):=((Below.refl _ _).alloc (Nat.le_refl _) _).trans (row_below (Nat.le_refl _))
    replace HB:=Lib.hid (HB.out.trans (hbw.mono HB.out.size))
    try replace HO:=Lib.hid (HO.out.below hbw)
    try replace HY:=Lib.hid (HY.out.later hbw)
    try replace HBT:=Lib.hid (HBT.out.later hbw)
    clear hbw
    generalize (w4.alloc (.cells #[.string (⟨#[]⟩ : ByteArray),.slice none 0 0,.int .i64 0,.int .i64 0,.int .i64 0,.string (⟨#[]⟩ : ByteArray),.slice none 0 0,.int .i64 0,.int .i64 0,.int .i64 0,.string (⟨#[]⟩ : ByteArray),.slice none 0 0,.int .i64 0,.int .i64 0,.int .i64 0,.string (⟨#[]⟩ : ByteArray),.slice none 0 0,.int .i64 0,.int .i64 0,.int .i64 0,.string (⟨#[]⟩ : ByteArray),.slice none 0 0,.int .i64 0,.int .i64 0,.int .i64 0] 28)).setRow w4.heap.size cs=w5 at *
    refine Lib.hid ?_
    go_wp2_with fail
    go_ret
    exact ⟨rfl,HB.out⟩
end Go.Proofs.YtpbdjpfbhicmdaaGreatDoor
