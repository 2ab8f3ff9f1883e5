/- The plain law of syntax.Parse: what a text of bylaws says, as a function of its bytes. -/
import Derived.Test.YtpbdjpfbhicmdaaGreatDoorCbxax
import Derived.Test.YtpbdjpfbhicmdaaGreatDoorCbxba
set_option linter.unusedSimpArgs false
set_option linter.unusedVariables false
set_option maxRecDepth 100000
set_option maxHeartbeats 6400000
namespace Go.Proofs.YtpbdjpfbhicmdaaGreatDoor
open Go.RowKit
def numT (lo hi : Int) : List TK→PX Int
  | t :: r=>if t.k=1 then (if lo≤t.n∧t.n≤hi then .ok t.n r else .stop t.p 3) else .stop t.p 12
  | []=>.stop 0 12
def partT (s : ByteArray) (lo hi : Int) (r : List TK) : PX Int:=(wantT s r).bind fun _ r=>(numT lo hi r).bind fun n r=>(wantT ⟨#[59]⟩ r).bind fun _ r=>.ok n r
noncomputable def wholeT (f : Nat) (s : ByteArray) (r : List TK) : PX PS:=(pR f (.exp 0) r).bind fun x r=>if isT s r=true then (if levL x.1≤12 then .ok x.1 r.tail else .stop (posT r) 6) else .stop (posT r) 12
def freshT (l : List ByteArray) (r : List TK) : PX ByteArray:=if namedT r=true then (if inL (textT r) l=true then .stop (posT r) 5 else nameT r) else .stop (posT r) 12
noncomputable def letsT (f : Nat) : Nat→List (ByteArray × PS)→List TK→PX (List (ByteArray × PS))
  | 0,_,r=>.stop (posT r) 1
  | k+1,l,r =>
    if isT ⟨#[108,101,116]⟩ r=true then
      (if l.length<20 then (freshT (l.map (·.1)) r.tail).bind fun s r=>(wantT ⟨#[61]⟩ r).bind fun _ r=>(wholeT f ⟨#[59]⟩ r).bind fun e r=>letsT f k (l ++ [(s,e)]) r
       else .stop (posT r) 6)
    else .ok l r
structure BS where
  name : ByteArray
  lets : List (ByteArray × PS)
  admit : PS
  fare : PS
  late : PS
  noshow : PS
  quota : Int
  share : Int
  change : Int
noncomputable def secT (f : Nat) (s : ByteArray) (r : List TK) : PX PS:=(wantT s r).bind fun _ r=>wholeT f ⟨#[59]⟩ r
def endT : List TK→PX Unit
  | t :: r=>if t.k=3 then .ok () (t :: r) else .stop t.p 12
  | []=>.stop 0 12
noncomputable def bylT (f : Nat) (r : List TK) : PX BS :=
  (wantT ⟨#[98,121,108,97,119,115]⟩ r).bind fun _ r=>(nameT r).bind fun s r=>(wantT ⟨#[59]⟩ r).bind fun _ r=>(letsT f 21 [] r).bind fun l r =>
  (secT f ⟨#[97,100,109,105,116]⟩ r).bind fun a r=>(secT f ⟨#[102,97,114,101]⟩ r).bind fun b r=>(secT f ⟨#[108,97,116,101]⟩ r).bind fun c r=>(secT f ⟨#[110,111,115,104,111,119]⟩ r).bind fun d r =>
  (partT ⟨#[113,117,111,116,97]⟩ 0 1000 r).bind fun q r=>(partT ⟨#[115,104,97,114,101]⟩ 0 1000 r).bind fun h r=>(partT ⟨#[99,104,97,110,103,101]⟩ 1 1000 r).bind fun g r =>
  (endT r).bind fun _ r=>.ok ⟨s,l,a,b,c,d,q,h,g⟩ r
noncomputable def parsB (l : List UInt8) : Option BS × Int × Int :=
  if (lexT l).2.2≠0 then (none,(lexT l).2)
  else match bylT (5 * (lexT l).1.length+10) (lexT l).1 with
    | .ok b _=>(some b,0,0)
    | .stop p e=>(none,p,e)
def cF : List UInt8:=[98,121,108,97,119,115,32,99,111,111,112,32,59,32,97,100,109,105,116,32,116,114,117,101,32,59,32,102,97,114,101,32,51,48,48,32,99,101,110,116,115,32,59,32,108,97,116,101,32,53,48,32,99,101,110,116,115,32,59,32,110,111,115,104,111,119,32,49,48,48,32,99,101,110,116,115,32,59,32,113,117,111,116,97,32,57,32,59,32,115,104,97,114,101,32,49,48,48,32,59,32,99,104,97,110,103,101,32,54,48,48,32,59]
def cS : List UInt8:=[98,121,108,97,119,115,32,99,111,111,112,32,59,32,97,100,109,105,116,32,116,114,105,112,32,100,105,114,101,99,116,32,60,32,51,49,32,109,105,110,117,116,101,115,32,59,32,102,97,114,101,32,52,48,48,32,99,101,110,116,115,32,59,32,108,97,116,101,32,53,48,32,99,101,110,116,115,32,59,32,110,111,115,104,111,119,32,49,48,48,32,99,101,110,116,115,32,59,32,113,117,111,116,97,32,57,32,59,32,115,104,97,114,101,32,49,48,48,32,59,32,99,104,97,110,103,101,32,54,48,48,32,59]
theorem parsB_F : parsB cF=(some ⟨⟨#[99,111,111,112]⟩,[],.mk 0 1 3 empS [],.mk 0 300 1 empS [],.mk 0 50 1 empS [],.mk 0 100 1 empS [],9,100,600⟩,0,0):=by kernel_rfl
theorem parsB_S : parsB cS=(some ⟨⟨#[99,111,111,112]⟩,[],.mk 10 0 0 empS [.mk 2 0 0 ⟨#[100,105,114,101,99,116]⟩ [],.mk 0 31 2 empS []],.mk 0 400 1 empS [],.mk 0 50 1 empS [],.mk 0 100 1 empS [],9,100,600⟩,0,0):=by kernel_rfl
section
variable {g : Nat} {L : Sl TK} {a : Nat} {X : Nat→Prop}
theorem numT_at {x : TK} (hx : L.l[a]? = some x) (lo hi : Int) : numT lo hi (L.l.drop a)=if x.k=1 then (if lo≤x.n∧x.n≤hi then .ok x.n (L.l.drop (a+1)) else .stop x.p 3) else .stop x.p 12:=by
  rw [drop_at hx]
  rfl
theorem blk_neq {w : World} {g g' : Nat} {cs cs' : Array Value} (h : Blk w g 115 cs) (h' : Blk w g' 100 cs') : g≠g':=fun e=>by
  subst e
  have hq : some (Obj.cells cs 115 (0,0))=some (Obj.cells cs' 100 (0,0)):=h.symm.trans h'
  injection hq with hq
  injection hq with _ hq _
  exact absurd hq (by decide)
theorem p_number (lo hi : Int) (w : World) (ht : TkS L) (h : PrS g L a X w) : Calls Tryz.prog 88 #[.pointer (some ⟨g,0,none⟩),.int .i64 lo,.int .i64 hi] w fun r w'=>PxP g L (a+1) X w w' r (numT lo hi (L.l.drop a)) (fun n=>r = .returned (.int .i64 n)):=by
  obtain ⟨x,hx⟩:=h.get
  have HS:=Lib.hid h
  have HX:=Lib.hid hx
  have HT:=Lib.hid ht
  have HN:=Lib.hid (numT_at hx lo hi)
  rw [HN.out]
  have hc:=p_next hx w h
  obtain ⟨xk,xt,xn,xp⟩:=x
  simp only [TK.v] at hc HN ⊢
  clear h hx ht HN
  by_cases h1 : xk=1
  · rw [if_pos h1]
    have hk1 : (xk == 1)=true:=by rw [h1]; rfl
    have HK1:=Lib.hid h1
    clear h1
    by_cases h2 : lo≤xn
    · by_cases h3 : xn≤hi
      · rw [if_pos ⟨h2,h3⟩]
        have hlt:=HT.out.end_ a (by rw [HX.out]; simp) (fun y hy=>by rw [HX.out] at hy; injection hy with hy; rw [← hy]; simp only [HK1.out]; decide)
        have HLT:=Lib.hid hlt
        clear hlt
        go_enter Tryz.func88,Tryz.ntmps88
        go_wp2_with fail
        refine hc.mono ?_
        clear hc
        rintro r w2 ⟨rfl,hb2⟩
        have HB2:=Lib.hid hb2
        clear hb2
        go_wp2_with fail
        have hal : Below w2.heap.size w2 (w2.alloc (.cells #[.int .i64 xk,.string xt,.int .i64 xn,.int .i64 xp] 115)):=(Below.refl _ _).alloc (Nat.le_refl _) _
        have HX3 : Hid (Blk (w2.alloc (.cells #[.int .i64 xk,.string xt,.int .i64 xn,.int .i64 xp] 115)) w2.heap.size 115 #[.int .i64 xk,.string xt,.int .i64 xn,.int .i64 xp]):=Lib.hid (Blk.new _ _ _)
        have HB3:=Lib.hid (HB2.out.trans (hal.mono HB2.out.size))
        have HS3:=Lib.hid (HS.out.later HB3.out)
        clear hal HB2
        generalize w2.alloc (.cells #[.int .i64 xk,.string xt,.int .i64 xn,.int .i64 xp] 115)=w3 at *
        generalize w2.heap.size=q at *
        refine (p_check_ok _ 12 w3).mono ?_
        rintro r w4 ⟨rfl,rfl⟩
        obtain ⟨x0,x1,x2,x3,xf,xz⟩:=HX3.out.b4
        go_wp2_with fail
        clear x0 x1 x2 x3 xf xz
        refine (p_check_ok _ 3 w3).mono ?_
        rintro r w5 ⟨rfl,rfl⟩
        have hal : a<100000:=Nat.lt_of_lt_of_le HS.out.lt HT.out.len
        obtain ⟨b0,b1,bf,bz⟩:=HS3.out.blk.b2
        have hwr : IntKind.i64.wrap ((a : Int)+1)=((a+1 : Nat) : Int):=by rw [IntKind.wrap_i64]; omega
        have hne : q≠g:=blk_neq HX3.out HS3.out.blk
        have x2:=HX3.out.cell 2
        go_wp2_with fail
        go_ret
        exact ⟨grown_trans (below_by HB3.out _) (grown_st1 1 _),⟨a+1,Nat.le_refl _,rfl,by simpa using HS3.out.move HLT.out⟩,rfl⟩
      · rw [if_neg (fun h=>h3 h.2)]
        have hd2 : decide (lo≤xn)=true:=decide_eq_true h2
        have hd3 : decide (xn≤hi)=false:=decide_eq_false h3
        clear h2 h3
        go_enter Tryz.func88,Tryz.ntmps88
        go_wp2_with fail
        refine hc.mono ?_
        clear hc
        rintro r w2 ⟨rfl,hb2⟩
        have HB2:=Lib.hid hb2
        clear hb2
        go_wp2_with fail
        have hal : Below w2.heap.size w2 (w2.alloc (.cells #[.int .i64 xk,.string xt,.int .i64 xn,.int .i64 xp] 115)):=(Below.refl _ _).alloc (Nat.le_refl _) _
        have HX3 : Hid (Blk (w2.alloc (.cells #[.int .i64 xk,.string xt,.int .i64 xn,.int .i64 xp] 115)) w2.heap.size 115 #[.int .i64 xk,.string xt,.int .i64 xn,.int .i64 xp]):=Lib.hid (Blk.new _ _ _)
        have HB3:=Lib.hid (HB2.out.trans (hal.mono HB2.out.size))
        have HS3:=Lib.hid (HS.out.later HB3.out)
        clear hal HB2
        generalize w2.alloc (.cells #[.int .i64 xk,.string xt,.int .i64 xn,.int .i64 xp] 115)=w3 at *
        generalize w2.heap.size=q at *
        refine (p_check_ok _ 12 w3).mono ?_
        rintro r w4 ⟨rfl,rfl⟩
        obtain ⟨x0,x1,x2,x3,xf,xz⟩:=HX3.out.b4
        go_wp2_with fail
        clear x0 x1 x2 x3 xf xz
        refine (p_check_no HX.out 3 w3 HS3.out).mono ?_
        rintro r w4 ⟨rfl,hb4⟩
        have HG4:=Lib.hid (below_by (HB3.out.trans (hb4.mono HB3.out.size)) (some g))
        clear hb4
        simp only [StopV]
        go_wp2_with fail
        exact ⟨rfl,HG4.out,rfl⟩
    · rw [if_neg (fun h=>h2 h.1)]
      have hd2 : decide (lo≤xn)=false:=decide_eq_false h2
      clear h2
      go_enter Tryz.func88,Tryz.ntmps88
      go_wp2_with fail
      refine hc.mono ?_
      clear hc
      rintro r w2 ⟨rfl,hb2⟩
      have HB2:=Lib.hid hb2
      clear hb2
      go_wp2_with fail
      have hal : Below w2.heap.size w2 (w2.alloc (.cells #[.int .i64 xk,.string xt,.int .i64 xn,.int .i64 xp] 115)):=(Below.refl _ _).alloc (Nat.le_refl _) _
      have HX3 : Hid (Blk (w2.alloc (.cells #[.int .i64 xk,.string xt,.int .i64 xn,.int .i64 xp] 115)) w2.heap.size 115 #[.int .i64 xk,.string xt,.int .i64 xn,.int .i64 xp]):=Lib.hid (Blk.new _ _ _)
      have HB3:=Lib.hid (HB2.out.trans (hal.mono HB2.out.size))
      have HS3:=Lib.hid (HS.out.later HB3.out)
      clear hal HB2
      generalize w2.alloc (.cells #[.int .i64 xk,.string xt,.int .i64 xn,.int .i64 xp] 115)=w3 at *
      generalize w2.heap.size=q at *
      refine (p_check_ok _ 12 w3).mono ?_
      rintro r w4 ⟨rfl,rfl⟩
      obtain ⟨x0,x1,x2,x3,xf,xz⟩:=HX3.out.b4
      go_wp2_with fail
      clear x0 x1 x2 x3 xf xz
      refine (p_check_no HX.out 3 w3 HS3.out).mono ?_
      rintro r w4 ⟨rfl,hb4⟩
      have HG4:=Lib.hid (below_by (HB3.out.trans (hb4.mono HB3.out.size)) (some g))
      clear hb4
      simp only [StopV]
      go_wp2_with fail
      exact ⟨rfl,HG4.out,rfl⟩
  · rw [if_neg h1]
    have hk1 : (xk == 1)=false:=by simpa using h1
    clear h1
    go_enter Tryz.func88,Tryz.ntmps88
    go_wp2_with fail
    refine hc.mono ?_
    clear hc
    rintro r w2 ⟨rfl,hb2⟩
    have HB2:=Lib.hid hb2
    clear hb2
    go_wp2_with fail
    have hal : Below w2.heap.size w2 (w2.alloc (.cells #[.int .i64 xk,.string xt,.int .i64 xn,.int .i64 xp] 115)):=(Below.refl _ _).alloc (Nat.le_refl _) _
    have HX3 : Hid (Blk (w2.alloc (.cells #[.int .i64 xk,.string xt,.int .i64 xn,.int .i64 xp] 115)) w2.heap.size 115 #[.int .i64 xk,.string xt,.int .i64 xn,.int .i64 xp]):=Lib.hid (Blk.new _ _ _)
    have HB3:=Lib.hid (HB2.out.trans (hal.mono HB2.out.size))
    have HS3:=Lib.hid (HS.out.later HB3.out)
    clear hal HB2
    generalize w2.alloc (.cells #[.int .i64 xk,.string xt,.int .i64 xn,.int .i64 xp] 115)=w3 at *
    generalize w2.heap.size=q at *
    refine (p_check_no HX.out 12 w3 HS3.out).mono ?_
    rintro r w4 ⟨rfl,hb4⟩
    have HG4:=Lib.hid (below_by (HB3.out.trans (hb4.mono HB3.out.size)) (some g))
    clear hb4
    simp only [StopV]
    go_wp2_with fail
    exact ⟨rfl,HG4.out,rfl⟩
end
section
variable {g : Nat} {L : Sl TK} {a : Nat} {X : Nat→Prop}
theorem p_want1 (s : ByteArray) (w : World) (ht : TkS L) (h : PrS g L a X w) :
    Calls Tryz.prog 52 #[.pointer (some ⟨g,0,none⟩),.slice (some ⟨w.heap.size,0,none⟩) 1 1] (w.alloc (.cells #[.string s] 9)) fun r w'=>PxP g L (a+1) X w w' r (wantT s (L.l.drop a)) (fun _=>r = .returned (.tuple #[])):=by
  have hal : Below w.heap.size w (w.alloc (.cells #[.string s] 9)):=(Below.refl _ _).alloc (Nat.le_refl _) _
  refine (p_want s _ ht.end_ ht.len (h.later hal) (q:=w.heap.size) (by simp) (Nat.ne_of_gt h.blk.lt) (by simp)).mono ?_
  rintro r w' ⟨h1,h2⟩
  exact ⟨grown_trans (below_by hal _) h1,h2⟩
theorem p_part (s : ByteArray) (lo hi : Int) (w : World) (ht : TkS L) (h : PrS g L a X w) : Calls Tryz.prog 56 #[.pointer (some ⟨g,0,none⟩),.string s,.int .i64 lo,.int .i64 hi] w fun r w'=>PxP g L (a+1) X w w' r (partT s lo hi (L.l.drop a)) (fun n=>r = .returned (.int .i64 n)):=by
  have hc:=p_want1 s w ht h
  obtain ⟨V,hV⟩ : ∃ V,partT s lo hi (L.l.drop a)=V:=⟨_,rfl⟩
  rw [hV]
  unfold partT at hV
  obtain ⟨V1,hV1⟩ : ∃ V,wantT s (L.l.drop a)=V:=⟨_,rfl⟩
  rw [hV1] at hV hc
  have HT:=Lib.hid ht
  clear hV1 ht h
  cases V1 with
  | stop p e =>
    have hv : V = .stop p e:=hV.symm
    subst hv
    clear hV
    go_enter Tryz.func56,Tryz.ntmps56
    go_wp2_with fail
    refine hc.mono ?_
    clear hc
    rintro r w2 ⟨hg,rfl⟩
    have HG:=Lib.hid hg
    clear hg
    simp only [StopV]
    go_wp2_with fail
    exact ⟨rfl,HG.out,rfl⟩
  | ok u l =>
    have hV : (numT lo hi l).bind (fun n r=>(wantT ⟨#[59]⟩ r).bind fun _ r=>.ok n r)=V:=hV
    have HV:=Lib.hid hV
    clear hV
    go_enter Tryz.func56,Tryz.ntmps56
    go_wp2_with fail
    refine hc.mono ?_
    clear hc
    rintro r w2 ⟨hg,⟨b,hab,rfl,hps⟩,rfl⟩
    have hn:=p_number lo hi w2 HT.out hps
    obtain ⟨V2,hV2⟩ : ∃ V,numT lo hi (L.l.drop b)=V:=⟨_,rfl⟩
    have hV:=HV.out
    rw [hV2] at hn hV
    have HG:=Lib.hid hg
    clear hV2 hg hps HV
    cases V2 with
    | stop p e =>
      have hv : V = .stop p e:=hV.symm
      subst hv
      clear hV
      go_wp2_with fail
      refine hn.mono ?_
      clear hn
      rintro r w3 ⟨hg3,rfl⟩
      have HG3:=Lib.hid (grown_trans HG.out hg3)
      clear hg3
      simp only [StopV]
      go_wp2_with fail
      exact ⟨rfl,HG3.out,rfl⟩
    | ok n l2 =>
      have hV : (wantT ⟨#[59]⟩ l2).bind (fun _ r=>.ok n r)=V:=hV
      have HV:=Lib.hid hV
      clear hV
      go_wp2_with fail
      refine hn.mono ?_
      clear hn
      rintro r w3 ⟨hg3,⟨b3,hb3,rfl,hps3⟩,rfl⟩
      have HG3:=Lib.hid (grown_trans HG.out hg3)
      have hw:=p_want1 ⟨#[59]⟩ w3 HT.out hps3
      obtain ⟨V3,hV3⟩ : ∃ V,wantT ⟨#[59]⟩ (L.l.drop b3)=V:=⟨_,rfl⟩
      have hV:=HV.out
      rw [hV3] at hw hV
      clear hg3 hps3 hV3 HV
      cases V3 with
      | stop p e =>
        have hv : V = .stop p e:=hV.symm
        subst hv
        clear hV
        go_wp2_with fail
        refine hw.mono ?_
        clear hw
        rintro r w4 ⟨hg4,rfl⟩
        have HG4:=Lib.hid (grown_trans HG3.out hg4)
        clear hg4
        simp only [StopV]
        go_wp2_with fail
        exact ⟨rfl,HG4.out,rfl⟩
      | ok u3 l3 =>
        have hv : V = .ok n l3:=hV.symm
        subst hv
        clear hV
        go_wp2_with fail
        refine hw.mono ?_
        clear hw
        rintro r w4 ⟨hg4,⟨b4,hb4,rfl,hps4⟩,rfl⟩
        have HG4:=Lib.hid (grown_trans HG3.out hg4)
        have HP4:=Lib.hid hps4
        have hb : a+1≤b4:=by omega
        clear hg4 hps4
        go_wp2_with fail
        go_ret
        exact ⟨HG4.out,⟨b4,hb,rfl,HP4.out⟩,rfl⟩
end
section
variable {g : Nat} {L : Sl TK} {a : Nat} {X : Nat→Prop}
theorem freshT_no {l : List ByteArray} {x : TK} (hx : L.l[a]? = some x) (h : namedT (L.l.drop a)=false) : freshT l (L.l.drop a) = .stop x.p 12:=by
  unfold freshT; rw [if_neg (by rw [h]; decide),posT_at hx]
theorem textT_at {l : List TK} {x : TK} (hx : l[a]? = some x) : textT (l.drop a)=x.t:=by rw [drop_at hx]; rfl
theorem p_fresh (s : Sl ByteArray) (w : World) (ht : TkS L) (h : PrS g L a X w) (hr : Rd (fun b=>b≠g∧b<w.heap.size) 1 senc w s) :
    Calls Tryz.prog 85 #[.pointer (some ⟨g,0,none⟩),.slice s.A s.l.length s.c] w fun r w'=>PxP g L (a+1) X w w' r (freshT s.l (L.l.drop a)) (fun n=>r = .returned (.string n)):=by
  have hc:=p_named w ht h
  obtain ⟨x,hx⟩:=h.get
  have HS:=Lib.hid h
  have HX:=Lib.hid hx
  have HT:=Lib.hid ht
  have HR:=Lib.hid (hr.mono (fun b hb=>hb.2))
  obtain ⟨V,hV⟩ : ∃ V,namedT (L.l.drop a)=V:=⟨_,rfl⟩
  have HV:=Lib.hid hV
  rw [hV] at hc
  clear h hV hx ht hr
  rcases V
  · have HF:=Lib.hid (freshT_no (l:=s.l) HX.out HV.out)
    rw [HF.out]
    clear HF
    go_enter Tryz.func85,Tryz.ntmps85
    go_wp2_with fail
    refine hc.mono ?_
    clear hc
    rintro r w2 ⟨rfl,hb2⟩
    have HB2:=Lib.hid hb2
    clear hb2
    go_wp2_with fail
    refine (p_check_no HX.out 12 w2 (HS.out.later HB2.out)).mono ?_
    rintro r w3 ⟨rfl,hb3⟩
    have HG3:=Lib.hid (below_by (HB2.out.trans (hb3.mono HB2.out.size)) (some g))
    clear hb3
    simp only [StopV]
    go_wp2_with fail
    exact ⟨rfl,HG3.out,rfl⟩
  · have hq1 : ∀ w : World,(Instr.field 115 x.v 1).run Tryz.prog w = .ok (.string x.t) w:=fun _=>by obtain ⟨xk,xt,xn,xp⟩:=x; kernel_rfl
    go_enter Tryz.func85,Tryz.ntmps85
    go_wp2_with fail
    refine hc.mono ?_
    clear hc
    rintro r w2 ⟨rfl,hb2⟩
    have HB2:=Lib.hid hb2
    clear hb2
    go_wp2_with fail
    refine (p_check_ok _ 12 w2).mono ?_
    rintro r w3 ⟨rfl,rfl⟩
    go_wp2_with fail
    refine (p_next HX.out w2 (HS.out.later HB2.out)).mono ?_
    rintro r w3 ⟨rfl,hb3⟩
    have HB3 : Hid (Below w.heap.size w w3):=Lib.hid (HB2.out.trans (hb3.mono HB2.out.size))
    clear hb3 HB2
    go_wp2_with fail
    refine (has_str s x.t w3 (HR.out.later HB3.out)).mono ?_
    rintro r w4 ⟨rfl,hb4⟩
    have HB4:=Lib.hid (HB3.out.trans (hb4.mono HB3.out.size))
    clear hb4 HB3
    obtain ⟨B,hB⟩ : ∃ B,inL x.t s.l=B:=⟨_,rfl⟩
    have HFN : Hid (freshT s.l (L.l.drop a)=if B=true then .stop x.p 5 else nameT (L.l.drop a)):=Lib.hid (by
      unfold freshT
      rw [if_pos (by rw [HV.out]),textT_at HX.out,hB,posT_at HX.out])
    rw [hB]
    clear hB
    rcases B
    · have HF : Hid (freshT s.l (L.l.drop a)=nameT (L.l.drop a)):=Lib.hid (by rw [HFN.out]; rfl)
      have hn:=p_name w4 HT.out (HS.out.later HB4.out)
      rw [← HF.out] at hn
      have HN:=Lib.hid hn
      clear hn HF HFN
      have HG4:=Lib.hid (below_by HB4.out (some g))
      go_wp2_with fail
      refine (p_check_ok _ 5 w4).mono ?_
      rintro r w5 ⟨rfl,rfl⟩
      go_wp2_with fail
      obtain ⟨V,hV⟩ : ∃ V,freshT s.l (L.l.drop a)=V:=⟨_,rfl⟩
      have HVV:=Lib.hid hV
      have hn:=HN.out
      rw [hV] at hn
      clear HN hV
      cases V with
      | stop p e =>
        refine hn.mono ?_
        rintro r w5 ⟨hg,rfl⟩
        have HG5:=Lib.hid (grown_trans HG4.out hg)
        clear hg hn
        simp only [StopV]
        go_wp2_with fail
        exact ⟨rfl,by rw [HVV.out]; exact ⟨HG5.out,rfl⟩⟩
      | ok n l =>
        refine hn.mono ?_
        rintro r w5 ⟨hg,⟨b,hab,rfl,hps⟩,rfl⟩
        have HG5:=Lib.hid (grown_trans HG4.out hg)
        have HP5:=Lib.hid hps
        clear hg hps hn
        go_wp2_with fail
        go_ret
        rw [HVV.out]
        exact ⟨HG5.out,⟨b,hab,rfl,HP5.out⟩,rfl⟩
    · have HF : Hid (freshT s.l (L.l.drop a) = .stop x.p 5):=Lib.hid (by rw [HFN.out]; rfl)
      go_wp2_with fail
      refine (p_check_no HX.out 5 w4 (HS.out.later HB4.out)).mono ?_
      rintro r w5 ⟨rfl,hb5⟩
      have HG5:=Lib.hid (below_by (HB4.out.trans (hb5.mono HB4.out.size)) (some g))
      clear hb5
      simp only [StopV]
      go_wp2_with fail
      exact ⟨rfl,by rw [HF.out]; exact ⟨HG5.out,rfl⟩⟩
end
end Go.Proofs.YtpbdjpfbhicmdaaGreatDoor
