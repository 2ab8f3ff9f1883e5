/- The plain law of units.Check: what it says hangs on the shape of the bylaws alone, not on where they lie. -/
import Derived.Test.YtpbdjpfbhicmdaaGreatDoorCbxbi
import Derived.Test.YtpbdjpfbhicmdaaGreatDoorCbxbf
import Derived.Test.YtpbdjpfbhicmdaaGreatDoorCbxbg
import Derived.Test.YtpbdjpfbhicmdaaGreatDoorCbxaf
set_option linter.unusedSimpArgs false
set_option linter.unusedVariables false
set_option maxRecDepth 100000
set_option maxHeartbeats 6400000
namespace Go.Proofs.YtpbdjpfbhicmdaaGreatDoor
open Go.RowKit
noncomputable def shL (x : LT) : ByteArray × PS:=(x.nm,shp x.b)
noncomputable def shB (b : Byl) : BS:=⟨b.nm,b.lets.l.map shL,shp b.ad,shp b.fa,shp b.la,shp b.no,b.q,b.sh,b.ch⟩
theorem shp_inv {o n u : Int} {s : ByteArray} {r : List PS} {e : PT} (h : shp e = .mk o n u s r) : ∃ A c l,e=⟨o,n,u,s,A,c,l⟩∧l.map shp=r:=by
  obtain ⟨o',n',u',s',A,c,l⟩:=e
  rw [shp_mk] at h
  injection h with h1 h2 h3 h4 h5
  subst h1 h2 h3 h4
  exact ⟨A,c,l,rfl,h5⟩
theorem map_sh {α β γ : Type} {sh : α→β} (F G : α→γ) (hF : ∀ x y,sh x=sh y→F x=G y) : ∀ {l l' : List α},l.map sh=l'.map sh→l.map F=l'.map G
  | [],[],_=>rfl
  | [],_ :: _,h=>by simp at h
  | _ :: _,[],h=>by simp at h
  | x :: l,y :: l',h=>by
    simp only [List.map_cons,List.cons.injEq] at h ⊢
    exact ⟨hF x y h.1,map_sh F G hF h.2⟩
theorem all_sh {α β : Type} {sh : α→β} (F : α→Bool) (hF : ∀ x y,sh x=sh y→F x=F y) {l l' : List α} (h : l.map sh=l'.map sh) : l.all F=l'.all F:=by
  have h1:=map_sh F F hF h
  have h2 : ∀ m : List α,m.all F=(m.map F).all id:=fun m=>by rw [List.all_map]; rfl
  rw [h2,h2,h1]
theorem len_sh {α β : Type} {sh : α→β} {l l' : List α} (h : l.map sh=l'.map sh) : l.length=l'.length:=by simpa using congrArg List.length h
theorem okE_sh : ∀ (k : Nat) (e e' : PT),shp e=shp e'→okE k e=okE k e'
  | 0,_,_,_=>by unfold okE; rfl
  | k+1,e,⟨o,n,u,s,A,c,l⟩,h=>by
    rw [shp_mk] at h
    obtain ⟨A',c',l',rfl,hl⟩:=shp_inv h
    unfold okE
    rw [len_sh hl,all_sh (okE k) (okE_sh k) hl]
theorem nameU_sh (s : ByteArray) : ∀ {L L' : List LT} (U : List Int),L.map shL=L'.map shL→nameU s L U=nameU s L' U
  | [],[],_,_=>rfl
  | [],_ :: _,_,h=>by simp at h
  | _ :: _,[],_,h=>by simp at h
  | x :: L,y :: L',[],_=>by unfold nameU; rfl
  | x :: L,y :: L',u :: U,h=>by
    simp only [List.map_cons,List.cons.injEq] at h
    have hn : x.nm=y.nm:=congrArg Prod.fst h.1
    unfold nameU
    rw [hn,nameU_sh s U h.2]
theorem unU_sh {L L' : List LT} (U : List Int) (hL : L.map shL=L'.map shL) : ∀ (k : Nat) (e e' : PT),shp e=shp e'→unU L U k e=unU L' U k e'
  | 0,_,_,_=>by unfold unU; rfl
  | k+1,e,⟨o,n,u,s,A,c,l⟩,h=>by
    rw [shp_mk] at h
    obtain ⟨A',c',l',rfl,hl⟩:=shp_inv h
    unfold unU
    rw [map_sh (unU L U k) (unU L' U k) (unU_sh U hL k) hl,nameU_sh s U hL]
theorem at_sh {α β : Type} {sh : α→β} {l l' : List α} (h : l.map sh=l'.map sh) (k : Nat) : (l[k]? = none∧l'[k]? = none)∨∃ x y,l[k]? = some x∧l'[k]? = some y∧sh x=sh y:=by
  have h1 : (l.map sh)[k]? = (l'.map sh)[k]?:=by rw [h]
  rw [List.getElem?_map,List.getElem?_map] at h1
  rcases hx : l[k]? with _ | x <;> rcases hy : l'[k]? with _ | y
  · exact .inl ⟨rfl,rfl⟩
  · rw [hx,hy] at h1; simp at h1
  · rw [hx,hy] at h1; simp at h1
  · rw [hx,hy] at h1
    exact .inr ⟨x,y,rfl,rfl,by simpa using h1⟩
theorem take_sh {α β : Type} {sh : α→β} {l l' : List α} (h : l.map sh=l'.map sh) (k : Nat) : (l.take k).map sh=(l'.take k).map sh:=by rw [List.map_take,List.map_take,h]
theorem scN_sh {L L' : List LT} (hL : L.map shL=L'.map shL) : ∀ k,scN L k=scN L' k
  | 0=>rfl
  | k+1=>by
    rcases at_sh hL k with ⟨h1,h2⟩ | ⟨x,y,h1,h2,h3⟩
    · unfold scN
      rw [h1,h2]
      exact scN_sh hL k
    · rw [scN_succ h1,scN_succ h2,scN_sh hL k,unU_sh _ (take_sh hL k) 12 x.b y.b (congrArg Prod.snd h3)]
theorem rexpL_sh (x y : LT) (h : shL x=shL y) : rexp x.b=rexp y.b:=okE_sh 12 _ _ (congrArg Prod.snd h)
theorem ofU_sh {L L' : List LT} (hL : L.map shL=L'.map shL) (e e' : PT) (h : shp e=shp e') : ofU L e=ofU L' e':=by
  unfold ofU scU
  rw [show rexp e=rexp e' from okE_sh 12 _ _ h,all_sh (fun x=>rexp x.b) rexpL_sh hL,len_sh hL,unU_sh _ hL 12 e e' h,scN_sh hL]
theorem letE_sh {L L' : List LT} (hL : L.map shL=L'.map shL) (k : Nat) : letE L k=letE L' k:=by
  unfold letE
  rcases at_sh hL k with ⟨h1,h2⟩ | ⟨x,y,h1,h2,h3⟩
  · rw [h1,h2]
  · rw [h1,h2]
    simp only
    rw [ofU_sh (take_sh hL k) x.b y.b (congrArg Prod.snd h3)]
theorem fourE_sh {L L' : List LT} (hL : L.map shL=L'.map shL) {xs ys : List PT} (hx : xs.map shp=ys.map shp) (k : Nat) : fourE L xs k=fourE L' ys k:=by
  unfold fourE
  rcases at_sh hx k with ⟨h1,h2⟩ | ⟨x,y,h1,h2,h3⟩
  · rw [h1,h2]
  · rw [h1,h2]
    simp only
    rw [ofU_sh hL x y h3]
theorem bylB_sh {b b' : Byl} (h : shB b=shB b') : bylB b=bylB b':=by
  unfold shB at h
  injection h with h1 h2 h3 h4 h5 h6 h7 h8 h9
  have hn : namesL b.lets.l=namesL b'.lets.l:=map_sh LT.nm LT.nm (fun x y e=>congrArg Prod.fst e) h2
  have h4' : [b.ad,b.fa,b.la,b.no].all rexp=[b'.ad,b'.fa,b'.la,b'.no].all rexp:=by
    simp only [List.all_cons,List.all_nil]
    rw [show rexp b.ad=rexp b'.ad from okE_sh 12 _ _ h3,show rexp b.fa=rexp b'.fa from okE_sh 12 _ _ h4,show rexp b.la=rexp b'.la from okE_sh 12 _ _ h5,show rexp b.no=rexp b'.no from okE_sh 12 _ _ h6]
  unfold bylB
  rw [all_sh (fun x=>rexp x.b) rexpL_sh h2,h1,h7,h8,h9,hn,len_sh h2,h4']
theorem chkU_sh {b b' : Byl} (h : shB b=shB b') : chkU b=chkU b':=by
  have h0:=bylB_sh h
  unfold shB at h
  injection h with h1 h2 h3 h4 h5 h6 h7 h8 h9
  have hx : [b.ad,b.fa,b.la,b.no].map shp=[b'.ad,b'.fa,b'.la,b'.no].map shp:=by simp only [List.map_cons,List.map_nil,h3,h4,h5,h6]
  unfold chkU
  rw [h0,len_sh h2,List.map_congr_left (fun k _=>letE_sh h2 k),List.map_congr_left (fun k _=>fourE_sh h2 hx k)]
noncomputable def unP : PS→PT:=PS.rec (motive_1:=fun _=>PT) (motive_2:=fun _=>List PT) (fun o n u s _ ih=>.mk o n u s none 0 ih) [] (fun _ _ a b=>a :: b)
theorem unP_mk (o n u : Int) (s : ByteArray) (l : List PS) : unP (.mk o n u s l)=⟨o,n,u,s,none,0,l.map unP⟩:=by
  show PT.mk o n u s none 0 (PS.rec_1 (motive_1:=fun _=>PT) (motive_2:=fun _=>List PT) (fun o n u s _ ih=>.mk o n u s none 0 ih) [] (fun _ _ a b=>a :: b) l)=_
  congr 1
  induction l with
  | nil=>rfl
  | cons x l ih=>exact congrArg (unP x :: ·) ih
theorem shp_unP : ∀ e : PS,shp (unP e)=e:=fun e =>
  PS.rec (motive_1:=fun e=>shp (unP e)=e) (motive_2:=fun l=>(l.map unP).map shp=l) (fun o n u s l ih=>by rw [unP_mk,shp_mk,ih]) rfl (fun x l h1 h2=>by rw [List.map_cons,List.map_cons,h1,h2]) e
noncomputable def unB (b : BS) : Byl:=⟨b.name,⟨none,0,b.lets.map fun x=>⟨x.1,unP x.2⟩⟩,unP b.admit,unP b.fare,unP b.late,unP b.noshow,b.quota,b.share,b.change⟩
theorem shB_unB (b : BS) : shB (unB b)=b:=by
  obtain ⟨nm,ls,a,f,l,n,q,s,c⟩:=b
  unfold shB unB
  simp only [shp_unP,List.map_map,BS.mk.injEq,true_and,and_true]
  conv=>rhs; rw [← List.map_id ls]
  exact List.map_congr_left fun x _=>by obtain ⟨x1,x2⟩:=x; simp [shL,shp_unP]
noncomputable def chkS (b : BS) : Int:=chkU (unB b)
theorem chkU_is {b : Byl} {s : BS} (h : shB b=s) : chkU b=chkS s:=chkU_sh (by rw [shB_unB,h])
def bsZ : BS:=⟨⟨#[]⟩,[],.mk 0 0 0 empS [],.mk 0 0 0 empS [],.mk 0 0 0 empS [],.mk 0 0 0 empS [],0,0,0⟩
noncomputable def parC (l : List UInt8) : BS × Int:=match parsB l with
  | (some b,_,_)=>(b,chkS b)
  | (none,_,e)=>(bsZ,if e=0 then chkS bsZ else e)
theorem chkS_Z : chkS bsZ=1:=by kernel_rfl
theorem parC_F : parC cF=(⟨⟨#[99,111,111,112]⟩,[],.mk 0 1 3 empS [],.mk 0 300 1 empS [],.mk 0 50 1 empS [],.mk 0 100 1 empS [],9,100,600⟩,0):=by
  unfold parC; rw [parsB_F]; kernel_rfl
theorem parC_S : parC cS=(⟨⟨#[99,111,111,112]⟩,[],.mk 10 0 0 empS [.mk 2 0 0 ⟨#[100,105,114,101,99,116]⟩ [],.mk 0 31 2 empS []],.mk 0 400 1 empS [],.mk 0 50 1 empS [],.mk 0 100 1 empS [],9,100,600⟩,0):=by
  unfold parC; rw [parsB_S]; kernel_rfl
theorem letsT_end {f k : Nat} {l : List (ByteArray × PS)} {r : List TK} (h : isT (⟨#[108,101,116]⟩ : ByteArray) r=false) : letsT f (k+1) l r = .ok l r:=by
  rw [letsT,if_neg (by rw [h]; decide)]
theorem letsT_full {f k : Nat} {l : List (ByteArray × PS)} {r : List TK} (h : isT (⟨#[108,101,116]⟩ : ByteArray) r=true) (hl : ¬ l.length<20) : letsT f (k+1) l r = .stop (posT r) 6:=by
  rw [letsT,if_pos h,if_neg hl]
theorem letsT_go {f k : Nat} {l : List (ByteArray × PS)} {r : List TK} (h : isT (⟨#[108,101,116]⟩ : ByteArray) r=true) (hl : l.length<20) : letsT f (k+1) l r=(freshT (l.map (·.1)) r.tail).bind fun s r=>(wantT ⟨#[61]⟩ r).bind fun _ r=>(wholeT f ⟨#[59]⟩ r).bind fun e r=>letsT f k (l ++ [(s,e)]) r:=by
  rw [letsT,if_pos h,if_pos hl]
theorem freshT_size {L : Sl TK} (ht : TkS L) {l : List ByteArray} {b : Nat} {n : ByteArray} {r : List TK} (h : freshT l (L.l.drop b) = .ok n r) : n.size≤9223372036854775807:=by
  rcases hx : L.l[b]? with _ | x
  · rw [List.drop_eq_nil_of_le (by simpa using hx)] at h
    simp [freshT,namedT] at h
  · have hd:=drop_at hx
    by_cases h1 : namedT (L.l.drop b)=true
    · rw [freshT,if_pos h1] at h
      by_cases h2 : inL (textT (L.l.drop b)) l=true
      · rw [if_pos h2] at h; cases h
      · rw [if_neg h2,nameT,if_pos h1] at h
        injection h with h3
        rw [← h3,textT_at hx]
        exact ht.at_ hx
    · rw [freshT,if_neg h1] at h; cases h
theorem own_last {w : World} {base nb c : Nat} {l : List ByteArray} {n : ByteArray} (h : Own base 9 1 senc w ⟨some ⟨nb,0,none⟩,c,l ++ [n]⟩) : w.cell? ⟨nb,l.length,none⟩=some (.string n):=by
  obtain ⟨b,o,hA,hF,hc⟩:=(h.rd senc_k).2.2.2 l.length n (by simp)
  injection hA with hA
  injection hA with h1 h2
  subst h1 h2
  have:=hc.c1
  rw [Nat.zero_add,Nat.mul_one] at this
  exact this
theorem shL_fst (l : List LT) : (l.map shL).map (·.1)=l.map LT.nm:=by rw [List.map_map]; rfl
def LetP (g h : Nat) (L : Sl TK) (a : Nat) (X : Nat→Prop) (nm : ByteArray) (w w' : World) (r : Ending) (V : PX (List (ByteArray × PS))) : Prop :=
  Gr2 w w' g h∧match V with
  | .ok v l=>r = .returned (.tuple #[])∧∃ (b : Nat) (ls : Sl LT),a≤b∧l=L.l.drop b∧PrS g L b X w'∧Blk w' h 28 (byC nm (slV ls))∧LetsAt (Nm X w') w' ls∧ls.l.map shL=v
  | .stop p e=>r=StopV p e
def LtP (g h : Nat) (L : Sl TK) (a : Nat) (X : Nat→Prop) (w : World) (nm : ByteArray) (f : Nat) (V : PX (List (ByteArray × PS))) (k : Nat) (ns : Sl ByteArray) (W : World) : Prop :=
  ∃ (b : Nat) (Y : Nat→Prop) (ls : Sl LT),a≤b∧LeS g h L b X w nm Y ns ls W∧V=letsT f k (ls.l.map shL) (L.l.drop b)∧k+ls.l.length=21∧ns.l=ls.l.map LT.nm∧1≤k
theorem LeS.fin {g h : Nat} {L : Sl TK} {a b : Nat} {X Y : Nat→Prop} {w W : World} {nm : ByteArray} {ns : Sl ByteArray} {ls : Sl LT} {V : PX (List (ByteArray × PS))} (s : LeS g h L b X w nm Y ns ls W) (hX : ∀ i,X i→i<w.heap.size) (hg : X g) (hab : a≤b) (hV : V = .ok (ls.l.map shL) (L.l.drop b)) :
    LetP g h L a X nm w W (.returned (.tuple #[])) V:=by
  subst hV
  refine ⟨s.gr,rfl,b,ls,hab,rfl,s.ps.less s.xy hg,s.box,⟨(s.ols.rd LT.enc_k).mono fun c hc=>⟨hc.2,fun h=>by have:=hX c h; omega⟩,fun x hx=>⟨(s.all x hx).nm,(s.all x hx).b.mono fun c hc=>hc.less s.xy⟩⟩,rfl⟩
theorem LeS.bad {g h : Nat} {L : Sl TK} {a b : Nat} {X Y : Nat→Prop} {w W W' : World} {nm : ByteArray} {ns : Sl ByteArray} {ls : Sl LT} {V : PX (List (ByteArray × PS))} {p e : Int} (s : LeS g h L b X w nm Y ns ls W) (hg : W.grownBy W' (some g)) (hV : V = .stop p e) : LetP g h L a X nm w W' (StopV p e) V:=by
  subst hV
  exact ⟨s.gr.step hg (fun m hm=>.inl (by injection hm with hm; exact hm.symm)),rfl⟩
theorem p_lets {g h : Nat} {L : Sl TK} {a : Nat} {X : Nat→Prop} (f : Nat) (nm : ByteArray) (w : World) (ht : TkS L) (hp : PrS g L a X w) (hX : X h) (hgh : g≠h) (hb : Blk w h 28 (byC nm (.slice none 0 0))) (hf : 5 * L.l.length+3≤f) :
    Calls Tryz.prog 54 #[.pointer (some ⟨g,0,none⟩),.pointer (some ⟨h,0,none⟩)] w fun r w'=>LetP g h L a X nm w w' r (letsT f 21 [] (L.l.drop a)):=by
  obtain ⟨V,hV⟩ : ∃ V,letsT f 21 [] (L.l.drop a)=V:=⟨_,rfl⟩
  rw [hV]
  have HV:=Lib.hid hV
  have HT:=Lib.hid ht
  have HX:=Lib.hid (fun i (hi : X i)=>hp.xlt i hi)
  have HXH:=Lib.hid hX
  have HXG:=Lib.hid hp.xg
  have hgw : g<w.heap.size:=hp.blk.lt
  have hhw : h<w.heap.size:=hb.lt
  have HS0:=Lib.hid (LeS.start hp hb)
  clear hV ht hp hX hb
  go_enter Tryz.func54,Tryz.ntmps54
  go_wp2_with fail
  go_loopg [4] 21 (fun k nv wr=>∃ (ns : Sl ByteArray),nv = .slice ns.A ns.l.length ns.c∧Hid (LtP g h L a X w nm f V k ns wr))
  case atStart=>exact ⟨⟨none,0,[]⟩,rfl,Lib.hid ⟨a,X,⟨none,0,[]⟩,Nat.le_refl _,HS0.out,HV.out.symm,rfl,rfl,by omega⟩⟩
  case round =>
    obtain ⟨⟨nA,nc,nl⟩,rfl,HLP⟩:=hrel
    obtain ⟨b,Y,⟨lA,lc,ll⟩,hab,hs,hv,hk,hn,hk1⟩:=HLP.out
    simp only at hv hk hn
    have HS:=Lib.hid hs
    have HPV:=Lib.hid hv
    have HK:=Lib.hid hk
    have HN:=Lib.hid hn
    have HAB:=Lib.hid hab
    have hyh:=hs.xy h HXH.out
    have HYH:=Lib.hid hyh
    clear HLP hs hv hk hn hab HV HS0 hyh
    simp only
    go_wp2_with fail
    refine (p_is (⟨#[108,101,116]⟩ : ByteArray) wr HS.out.ps).mono ?_
    rintro r w1 ⟨rfl,hb1⟩
    have HS1:=Lib.hid (HS.out.later hgw hgh hb1)
    have HLB:=Lib.hid HS.out.ps.lt
    clear HS hb1
    have hnl : nl.length=ll.length:=by rw [HN.out,List.length_map]
    obtain ⟨k',rfl⟩ : ∃ k',gk=k'+1:=⟨gk - 1,by omega⟩
    clear hk1
    obtain ⟨B,hB⟩ : ∃ B,isT (⟨#[108,101,116]⟩ : ByteArray) (L.l.drop b)=B:=⟨_,rfl⟩
    have HB:=Lib.hid hB
    rw [hB]
    clear hB
    rcases B
    · have HF:=Lib.hid (HPV.out.trans (letsT_end HB.out))
      clear HPV hnl
      go_wp2_with fail
      exact bodyPost_end (results_none rfl _ _ _) rfl (HS1.out.fin HX.out HXG.out HAB.out HF.out)
    · have hk:=HK.out
      by_cases h20 : ll.length<20
      · have h20i : (nl.length : Int)<20:=by rw [hnl]; omega
        have hgo:=HPV.out.trans (letsT_go HB.out (by rw [List.length_map]; exact h20))
        rw [shL_fst,List.tail_drop,← HN.out] at hgo
        have HGO:=Lib.hid hgo
        have HLT:=Lib.hid (isT_lt HT.out.end_ HLB.out HB.out)
        have H20:=Lib.hid h20
        have HNL:=Lib.hid hnl
        clear hgo h20 hk hnl HPV
        go_wp2_with fail
        refine (p_check_ok _ 6 w1).mono ?_
        rintro r w2 ⟨rfl,rfl⟩
        obtain ⟨b0,b1,bf,bz⟩:=HS1.out.ps.blk.b2
        have hal : b<100000:=Nat.lt_of_lt_of_le HLB.out HT.out.len
        have hwr : IntKind.i64.wrap ((b : Int)+1)=((b+1 : Nat) : Int):=by rw [IntKind.wrap_i64]; omega
        go_wp2_with fail
        have hm:=HS1.out.move hgw hgh HLT.out
        rw [show ((b+1 : Nat) : Int)=(b : Int)+1 by omega] at hm
        have HS2:=Lib.hid hm
        clear hm b0 b1 bf bz hwr HS1
        generalize w1.setCell ⟨g,1,none⟩ (.int .i64 ((b : Int)+1))=w2 at *
        have hc:=p_fresh ⟨nA,nc,nl⟩ w2 HT.out HS2.out.ps ((HS2.out.own.rd senc_k).mono (fun c hc=>⟨by have:=hc.1; omega,hc.2⟩))
        simp only at hc
        obtain ⟨NV,hNV⟩ : ∃ v,freshT nl (L.l.drop (b+1))=v:=⟨_,rfl⟩
        have hgo:=HGO.out
        rw [hNV] at hc hgo
        have HNV:=Lib.hid hNV
        clear hNV HGO
        rcases NV with ⟨n,l1⟩ | ⟨pp,ee⟩
        rotate_left
        · have HPE:=Lib.hid (show V = .stop pp ee from hgo)
          clear hgo
          refine hc.mono ?_
          clear hc
          rintro r w9 ⟨hg,rfl⟩
          have HFI:=Lib.hid (HS2.out.bad (a:=a) hg HPE.out)
          clear hg
          simp only [StopV]
          go_wp2_with fail
          exact ⟨rfl,HFI.out⟩
        have HGO : Hid (V=(wantT ⟨#[61]⟩ l1).bind fun _ r=>(wholeT f ⟨#[59]⟩ r).bind fun e r=>letsT f k' (ll.map shL ++ [(n,e)]) r):=Lib.hid hgo
        have HNS : Hid (n.size≤9223372036854775807):=Lib.hid (freshT_size HT.out HNV.out)
        clear hgo HNV
        refine hc.mono ?_
        clear hc
        rintro r w3 ⟨hg,⟨b1,hb1,rfl,hs⟩,rfl⟩
        have HS3:=Lib.hid (HS2.out.step hgw hgh hs hg)
        have HB1:=Lib.hid hb1
        clear hg hs hb1 HS2
        have hnl2 : nl.length<20:=by omega
        go_wp2_with (at_builtin
                     go_must (refine wpl_append_sl _ rfl (.tmp 19) (.tmp 23) _ rfl Tryz.underlying117 infoStr (by omega) senc_k senc_one ⟨nA,nc,nl⟩ ⟨some ⟨w3.heap.size,0,none⟩,1,[n]⟩ rfl rfl (HS3.out.own.alloc _) (rd_ones (Blk.new w3 _ _)) (by simp [maxLen]; omega) (by simp; omega) (by have:=HS3.out.gr.size; simp; omega) ?_)
                     intro A1 c1 w4 hown hg hAA)
        have hal3 : Below w3.heap.size w3 (w3.alloc (.cells #[.string n] 9)):=(Below.refl _ _).alloc (Nat.le_refl _) _
        have HS4:=Lib.hid ((HS3.out.later hgw hgh hal3).name hgw hhw hown hg hAA)
        have HYH4 : Hid ((fun i=>Y i∨(slV (⟨A1,c1,nl ++ [n]⟩ : Sl ByteArray)).ownBlock=some i) h):=Lib.hid (.inl HYH.out)
        clear hown hg hAA hal3 HS3 HYH
        generalize (fun i=>Y i∨(slV (⟨A1,c1,nl ++ [n]⟩ : Sl ByteArray)).ownBlock=some i)=Y4 at *
        go_wp2_with fail
        have hc:=p_want1 ⟨#[61]⟩ w4 HT.out HS4.out.ps
        obtain ⟨NV,hNV⟩ : ∃ v,wantT ⟨#[61]⟩ (L.l.drop b1)=v:=⟨_,rfl⟩
        have hgo:=HGO.out
        rw [hNV] at hc hgo
        clear hNV HGO
        rcases NV with ⟨u1,l1⟩ | ⟨pp,ee⟩
        rotate_left
        · have HPE:=Lib.hid (show V = .stop pp ee from hgo)
          clear hgo
          refine hc.mono ?_
          clear hc
          rintro r w9 ⟨hg,rfl⟩
          have HFI:=Lib.hid (HS4.out.bad (a:=a) hg HPE.out)
          clear hg
          simp only [StopV]
          go_wp2_with fail
          exact ⟨rfl,HFI.out⟩
        have HGO : Hid (V=(wholeT f ⟨#[59]⟩ l1).bind fun e r=>letsT f k' (ll.map shL ++ [(n,e)]) r):=Lib.hid hgo
        clear hgo
        refine hc.mono ?_
        clear hc
        rintro r w5 ⟨hg,⟨b2,hb2,rfl,hs⟩,rfl⟩
        have HS5:=Lib.hid ((HS4.out.step hgw hgh hs hg).later hgw hgh (Below.drew (Below.refl _ _)))
        have HB2:=Lib.hid hb2
        clear hg hs hb2 HS4
        obtain ⟨nb,hA1⟩ : ∃ nb,A1=some ⟨nb,0,none⟩:=by
          rcases HS5.out.own.form with ⟨_,_,h3⟩ | ⟨nb,h1,_⟩
          · simp at h3
          · exact ⟨nb,h1⟩
        subst hA1
        have hcn:=own_last HS5.out.own
        have hcx : w5.drew.cell? ⟨h,1,none⟩=some (.slice lA ll.length lc):=HS5.out.box.cell 1
        have hwj : IntKind.i64.wrap (nl.length : Int)=(nl.length : Int):=by rw [IntKind.wrap_i64]; omega
        have hlt1 : (nl.length : Int)<(nl.length : Int)+1:=by omega
        go_wp2_with fail
        refine wp_region_T (fun W=>W.cell? ⟨h,1,none⟩=some (.slice lA ll.length lc)∧W.cell? ⟨nb,nl.length,none⟩=some (.string n)) (fun i=>18≤i) (by kernel_rfl) ⟨hcx,hcn⟩ (fun hHeld=>?_)
        refine qtq 0 ?_
        simp only [qsa,qsb,qsc]
        refine qtq 1 ?_
        simp only [qsa,qsb,qsc]
        refine qtq 2 ?_
        simp only [qsa,qsb,qsc]
        refine qtq 3 ?_
        simp only [qsa,qsb,qsc]
        refine qtq 4 ?_
        simp only [qsa,qsb,qsc]
        refine qtq 5 ?_
        simp only [qsa,qsb,qsc]
        refine qtq 6 ?_
        simp only [qsa,qsb,qsc]
        refine qtq 7 ?_
        simp only [qsa,qsb,qsc]
        clear hHeld
        have hHeld:=And.intro hcx hcn
        refine wpAnyT_take2 (i:=8) (v:=.int .i64 nl.length) rfl rfl (by kernel_rfl) (by kernel_rfl) (by kernel_rfl) (by kernel_rfl) (fun _ _ _ h=>h) (Or.inl ⟨by rfl, ?_⟩) (by first | assumption | trivial) ?_
        · (intro w hSw; (try dsimp only at hSw); go_simp) <;> (first | (with_reducible rfl) | assumption | (simp; done) | (simp [*]; done) | (simp; omega))
        simp only [qsa,qsb,qsc]
        refine qtq 9 ?_
        simp only [qsa,qsb,qsc]
        refine qtq 10 ?_
        simp only [qsa,qsb,qsc]
        refine qtq 11 ?_
        simp only [qsa,qsb,qsc]
        clear hHeld
        refine wpAnyT_next (i:=12) (by kernel_rfl) rfl ?_
        go_wp2_with fail
        clear hcx hcn hwj hlt1
        generalize w5.drew=w6 at *
        have hc:=p_whole f ⟨#[59]⟩ w6 HT.out HS5.out.ps (by omega)
        obtain ⟨NV,hNV⟩ : ∃ v,wholeT f ⟨#[59]⟩ (L.l.drop b2)=v:=⟨_,rfl⟩
        have hgo:=HGO.out
        rw [hNV] at hc hgo
        clear hNV HGO
        rcases NV with ⟨ps,l1⟩ | ⟨pp,ee⟩
        rotate_left
        · have HPE:=Lib.hid (show V = .stop pp ee from hgo)
          clear hgo
          refine hc.mono ?_
          clear hc
          rintro r w9 ⟨hg,rfl⟩
          have HFI:=Lib.hid (HS5.out.bad (a:=a) hg HPE.out)
          clear hg
          simp only [StopV]
          go_wp2_with fail
          exact ⟨rfl,HFI.out⟩
        have HGO : Hid (V=letsT f k' (ll.map shL ++ [(n,ps)]) l1):=Lib.hid hgo
        clear hgo
        refine hc.mono ?_
        clear hc
        rintro r w7 ⟨hg,⟨b3,hb3,rfl,hs⟩,⟨⟨eo,en,eu,es,eA,ec,el⟩,ht,hat,rfl⟩⟩
        have HS7:=Lib.hid (HS5.out.step hgw hgh hs hg)
        have HB3:=Lib.hid hb3
        have hgo:=HGO.out
        rw [← (show shp ⟨eo,en,eu,es,eA,ec,el⟩=ps from ht)] at hgo
        have HGO2:=Lib.hid hgo
        have HAT:=Lib.hid hat
        clear hg hs hb3 hgo ht hat HGO HS5
        simp only [PT.v,expV]
        have hcn:=own_last HS7.out.own
        have hcx : w7.cell? ⟨h,1,none⟩=some (.slice lA ll.length lc):=HS7.out.box.cell 1
        go_wp2_with fail
        refine And.intro (by first | exact fun _=>(And.intro hcx hcn) | exact (And.intro hcx hcn)) ?_
        have hHeld:=And.intro hcx hcn
        refine qtq 13 ?_
        simp only [qsa,qsb,qsc]
        clear hHeld
        refine wpAnyT_next (i:=14) (by kernel_rfl) rfl ?_
        go_wp2_with fail
        have hal7 : Below w7.heap.size w7 (w7.alloc (.cells #[.string n,.int .i64 eo,.int .i64 en,.int .i64 eu,.string es,.slice eA el.length ec] 82)):=(Below.refl _ _).alloc (Nat.le_refl _) _
        have HS8:=Lib.hid (HS7.out.later hgw hgh hal7)
        have HX8 : Hid (LT.At (Nm Y4 (w7.alloc (.cells #[.string n,.int .i64 eo,.int .i64 en,.int .i64 eu,.string es,.slice eA el.length ec] 82))) (w7.alloc (.cells #[.string n,.int .i64 eo,.int .i64 en,.int .i64 eu,.string es,.slice eA el.length ec] 82)) ⟨n,⟨eo,en,eu,es,eA,ec,el⟩⟩):=Lib.hid ⟨HNS.out,HAT.out.more hal7 (Mor.refl _ _ _)⟩
        have HR8 : Hid (Rd (· < (w7.alloc (.cells #[.string n,.int .i64 eo,.int .i64 en,.int .i64 eu,.string es,.slice eA el.length ec] 82)).heap.size) 6 LT.enc (w7.alloc (.cells #[.string n,.int .i64 eo,.int .i64 en,.int .i64 eu,.string es,.slice eA el.length ec] 82)) ⟨some ⟨w7.heap.size,0,none⟩,1,[(⟨n,⟨eo,en,eu,es,eA,ec,el⟩⟩ : LT)]⟩):=Lib.hid (rd_one6 (Blk.new _ _ _))
        refine And.intro (by first | exact fun _=>⟨kal _ hcx,kal _ hcn⟩ | exact ⟨kal _ hcx,kal _ hcn⟩) ?_
        clear hcx hcn hal7 HS7 HAT
        generalize w7.alloc (.cells #[.string n,.int .i64 eo,.int .i64 en,.int .i64 eu,.string es,.slice eA el.length ec] 82)=w8 at *
        generalize w7.heap.size=q7 at *
        refine wpAnyT_next (i:=15) (by kernel_rfl) rfl ?_
        have h20n:=H20.out
        refine wpl_append_sl _ rfl (.tmp 32) (.tmp 42) _ rfl Tryz.underlying23 infoLet (by omega) LT.enc_k LT.enc_one ⟨lA,lc,ll⟩ ⟨some ⟨q7,0,none⟩,1,[(⟨n,⟨eo,en,eu,es,eA,ec,el⟩⟩ : LT)]⟩ rfl rfl HS8.out.ols HR8.out (by simp [maxLen]; omega) (by simp; omega) HS8.out.gr.size ?_
        intro A2 c2 w9 hown hg hAA
        simp only at hown hg hAA
        have hcx9 : w9.cell? ⟨h,1,none⟩=some (.slice lA ll.length lc):=(HS8.out.box.grown hg (fun e=>by have:=own_ge HS8.out.ols h e.symm; omega)).cell 1
        have hcn9 : w9.cell? ⟨nb,nl.length,none⟩=some (.string n):=own_last (own_keepE HS8.out.ols HS8.out.own (Ne.symm str_let) hg)
        have hfx9 : ∀ o,w9.frozen? ⟨h,o,none⟩=false:=(HS8.out.box.grown hg (fun e=>by have:=own_ge HS8.out.ols h e.symm; omega)).frozen
        have hs9:=HS8.out.letA hgw hhw hgh HX8.out HYH4.out hown hg hAA
        rw [show slV (⟨A2,c2,ll ++ [(⟨n,⟨eo,en,eu,es,eA,ec,el⟩⟩ : LT)]⟩ : Sl LT) = .slice A2 (ll.length+1) c2 by simp [slV]] at hs9
        have HS9:=Lib.hid hs9
        clear hown hg hAA hs9 HS8 HX8 HR8 h20n
        have hll : (ll ++ [(⟨n,⟨eo,en,eu,es,eA,ec,el⟩⟩ : LT)]).length=ll.length+1:=by simp
        rw [hll]
        clear hll
        go_wp2_with fail
        refine And.intro (by first | exact fun _=>⟨hcx9,hcn9⟩ | exact ⟨hcx9,hcn9⟩) ?_
        refine wpAnyT_next (i:=16) (by kernel_rfl) rfl ?_
        go_wp2_with fail
        refine And.intro (by first | exact fun _=>⟨hcx9,hcn9⟩ | exact ⟨hcx9,hcn9⟩) ?_
        have hHeld:=And.intro hcx9 hcn9
        refine qtq 17 ?_
        simp only [qsa,qsb,qsc]
        clear hHeld
        refine wpAnyT_next (i:=18) (by kernel_rfl) rfl ?_
        go_wp2_with fail
        try simp only [QT]
        try (with_reducible refine And.intro (fun h=>by simp at h) ?_)
        refine wpAnyT_done (by kernel_rfl) ?_ _
        clear hcx9 hcn9 hfx9
        go_wp2_with fail
        go_roundg k'
        case measure=>omega
        case rel =>
          refine ⟨⟨some ⟨nb,0,none⟩,c1,nl ++ [n]⟩,by simp,Lib.hid ⟨b3,_,⟨A2,c2,ll ++ [(⟨n,⟨eo,en,eu,es,eA,ec,el⟩⟩ : LT)]⟩, ?_,HS9.out, ?_, ?_, ?_, ?_⟩⟩
          · have h1:=HAB.out
            have h2:=HB1.out
            have h3:=HB2.out
            have h4:=HB3.out
            omega
          · rw [HGO2.out]
            simp only [List.map_append,List.map_cons,List.map_nil,shL]
          · have h1:=HK.out
            simp only [List.length_append,List.length_cons,List.length_nil]
            omega
          · simp only [List.map_append,List.map_cons,List.map_nil,HN.out]
          · have h1:=HK.out
            have h2:=H20.out
            omega
      · have h20i : decide ((nl.length : Int)<20)=false:=decide_eq_false (by rw [hnl]; omega)
        have hpe:=HPV.out.trans (letsT_full HB.out (by rw [List.length_map]; omega))
        obtain ⟨x,hx⟩:=HS1.out.ps.get
        rw [posT_at hx] at hpe
        have HPE:=Lib.hid hpe
        have HXX:=Lib.hid hx
        clear hpe hx hnl h20 hk HPV
        go_wp2_with fail
        refine (p_check_no HXX.out 6 w1 HS1.out.ps).mono ?_
        rintro r w2 ⟨rfl,hb2⟩
        have HFI:=Lib.hid (HS1.out.bad (a:=a) (below_by hb2 _) HPE.out)
        clear hb2
        simp only [StopV]
        go_wp2_with fail
        exact ⟨rfl,HFI.out⟩
def wordN : Nat→ByteArray
  | 0=>⟨#[97,100,109,105,116]⟩
  | 1=>⟨#[102,97,114,101]⟩
  | 2=>⟨#[108,97,116,101]⟩
  | _=>⟨#[110,111,115,104,111,119]⟩
def psZ : PS:=.mk 0 0 0 empS []
noncomputable def byl4 (nm : ByteArray) (ls : List (ByteArray × PS)) (es : List PS) (r : List TK) : PX BS :=
  (partT ⟨#[113,117,111,116,97]⟩ 0 1000 r).bind fun q r=>(partT ⟨#[115,104,97,114,101]⟩ 0 1000 r).bind fun h r=>(partT ⟨#[99,104,97,110,103,101]⟩ 1 1000 r).bind fun g r =>
  (endT r).bind fun _ r=>.ok ⟨nm,ls,es.getD 0 psZ,es.getD 1 psZ,es.getD 2 psZ,es.getD 3 psZ,q,h,g⟩ r
noncomputable def bylN (f : Nat) (nm : ByteArray) (ls : List (ByteArray × PS)) : Nat→List PS→List TK→PX BS
  | 0,es,r=>byl4 nm ls es r
  | n+1,es,r=>(secT f (wordN es.length) r).bind fun e r=>bylN f nm ls n (es ++ [e]) r
theorem bylT_eq (f : Nat) (r : List TK) : bylT f r=(wantT ⟨#[98,121,108,97,119,115]⟩ r).bind fun _ r=>(nameT r).bind fun s r=>(wantT ⟨#[59]⟩ r).bind fun _ r=>(letsT f 21 [] r).bind fun l r=>bylN f s l 4 [] r:=rfl
def ptZ : PT:=⟨0,0,0,⟨#[]⟩,none,0,[]⟩
def byE (nm : ByteArray) (V : Value) (a b c d : PT) (q sh ch : Int) : Array Value:=#[.string nm,V,.int .i64 a.op,.int .i64 a.n,.int .i64 a.un,.string a.s,slV a.a,.int .i64 b.op,.int .i64 b.n,.int .i64 b.un,.string b.s,slV b.a,.int .i64 c.op,.int .i64 c.n,.int .i64 c.un,.string c.s,slV c.a,.int .i64 d.op,.int .i64 d.n,.int .i64 d.un,.string d.s,slV d.a,.int .i64 q,.int .i64 sh,.int .i64 ch]
def tsE (nm : ByteArray) (V : Value) (ts : List PT) (q sh ch : Int) : Array Value:=byE nm V (ts.getD 0 ptZ) (ts.getD 1 ptZ) (ts.getD 2 ptZ) (ts.getD 3 ptZ) q sh ch
theorem tsE_nil (nm : ByteArray) (V : Value) : tsE nm V [] 0 0 0=byC nm V:=rfl
theorem tsE_set (nm : ByteArray) (V : Value) (ts : List PT) (h : ts.length<4) (t : PT) (q sh ch : Int) :
    (((((tsE nm V ts q sh ch).setIfInBounds (2+5 * ts.length) (.int .i64 t.op)).setIfInBounds (2+5 * ts.length+1) (.int .i64 t.n)).setIfInBounds (2+5 * ts.length+2) (.int .i64 t.un)).setIfInBounds (2+5 * ts.length+3) (.string t.s)).setIfInBounds (2+5 * ts.length+4) (slV t.a)=tsE nm V (ts ++ [t]) q sh ch:=by
  rcases ts with _ | ⟨a,_ | ⟨b,_ | ⟨c,_ | ⟨d,r⟩⟩⟩⟩
  · rfl
  · rfl
  · rfl
  · rfl
  · exact absurd h (by simp only [List.length_cons]; omega)
theorem tsE_end (nm : ByteArray) (V : Value) (ts : List PT) (q sh ch : Int) : (((tsE nm V ts 0 0 0).setIfInBounds 22 (.int .i64 q)).setIfInBounds 23 (.int .i64 sh)).setIfInBounds 24 (.int .i64 ch)=tsE nm V ts q sh ch:=rfl
def set5o (w : World) (e o : Nat) (a b c d x : Value) : World:=((((w.setCell ⟨e,o,none⟩ a).setCell ⟨e,o+1,none⟩ b).setCell ⟨e,o+2,none⟩ c).setCell ⟨e,o+3,none⟩ d).setCell ⟨e,o+4,none⟩ x
theorem grown_set5o {w : World} {e o : Nat} {a b c d x : Value} : w.grownBy (set5o w e o a b c d x) (some e) :=
  grown_trans (grown_trans (grown_trans (grown_trans (grown_st1 _ _) (grown_st1 _ _)) (grown_st1 _ _)) (grown_st1 _ _)) (grown_st1 _ _)
structure ByS (g : Nat) (L : Sl TK) (b : Nat) (X : Nat→Prop) (w : World) (nm : ByteArray) (ls : Sl LT) (ts : List PT) (q sh ch : Int) (W : World) : Prop where
  ps : PrS g L b (XB X w) W
  res : Blk W w.heap.size 28 (byC ⟨#[]⟩ (.slice none 0 0))
  box : Blk W (w.heap.size+1) 28 (tsE nm (slV ls) ts q sh ch)
  lets : LetsAt (Nm (XB X w) W) W ls
  all : ∀ t,t ∈ ts→PT.At (Nm (XB X w) W) W t
  gr : w.grownBy W (some g)
  gq : g<w.heap.size
section
variable {g : Nat} {L : Sl TK} {a b : Nat} {X : Nat→Prop} {w W W' : World} {nm : ByteArray} {ls : Sl LT} {ts : List PT} {q sh ch : Int}
theorem ByS.step (s : ByS g L a X w nm ls ts q sh ch W) (hp : PrS g L b (XB X w) W') (hg : W.grownBy W' (some g)) : ByS g L b X w nm ls ts q sh ch W' :=
  ⟨hp,s.res.gm hg (by have:=s.gq; omega),s.box.gm hg (by have:=s.gq; omega),s.lets.grow s.ps.xg hg,fun t ht=>(s.all t ht).grow s.ps.xg hg,grown_trans s.gr hg,s.gq⟩
theorem ByS.later (s : ByS g L a X w nm ls ts q sh ch W) (hb : Below W.heap.size W W') : ByS g L a X w nm ls ts q sh ch W':=s.step (s.ps.later hb) (below_by hb _)
theorem ByS.start0 (hp : PrS g L a X w) : PrS g L a (XB X w) ((w.alloc (.cells (byC ⟨#[]⟩ (.slice none 0 0)) 28)).alloc (.cells (byC ⟨#[]⟩ (.slice none 0 0)) 28)):=by
  have hb : Below w.heap.size w ((w.alloc (.cells (byC ⟨#[]⟩ (.slice none 0 0)) 28)).alloc (.cells (byC ⟨#[]⟩ (.slice none 0 0)) 28)):=qbl
  refine hp.more hb ⟨fun _ h=>.inl h,fun c hc=>?_⟩
  rcases hc with hc | rfl | rfl
  · exact .inl hc
  · exact .inr ⟨Nat.le_refl _,by simp; omega⟩
  · exact .inr ⟨by omega,by simp⟩
theorem ByS.put (s : ByS g L b X w nm ls ts q sh ch W) (h4 : ts.length<4) {o n u : Int} {xs : ByteArray} {A : Option Addr} {c : Nat} {l : List PT} (ht : PT.At (Nm (XB X w) W) W ⟨o,n,u,xs,A,c,l⟩) {k : Nat} (hk : 2+5 * ts.length=k) :
    ByS g L b X w nm ls (ts ++ [⟨o,n,u,xs,A,c,l⟩]) q sh ch (set5o W (w.heap.size+1) k (.int .i64 o) (.int .i64 n) (.int .i64 u) (.string xs) (.slice A l.length c)):=by
  subst hk
  have hq : XB X w (w.heap.size+1):=.inr (.inr rfl)
  have hg:=s.gq
  have hne : g≠w.heap.size+1:=by omega
  have hG:=@grown_set5o W (w.heap.size+1) (2+5 * ts.length) (.int .i64 o) (.int .i64 n) (.int .i64 u) (.string xs) (.slice A l.length c)
  have hB:=((((s.box.set_ (2+5 * ts.length) (.int .i64 o)).set_ (2+5 * ts.length+1) (.int .i64 n)).set_ (2+5 * ts.length+2) (.int .i64 u)).set_ (2+5 * ts.length+3) (.string xs)).set_ (2+5 * ts.length+4) (.slice A l.length c)
  have he:=tsE_set nm (slV ls) ts h4 ⟨o,n,u,xs,A,c,l⟩ q sh ch
  simp only [PT.op,PT.n,PT.un,PT.s,PT.a,slV] at he
  simp only [slV] at hB
  rw [he] at hB
  refine ⟨s.ps.keepNm hG (fun m hm=>by injection hm with hm; subst hm; exact ⟨hq,Ne.symm hne⟩) (fun _ h=>.inl h) (fun _ h=>h),s.res.gm hG (by omega),hB,s.lets.grow hq hG,fun t ht'=>?_, ?_,s.gq⟩
  · rcases List.mem_append.1 ht' with h | h
    · exact (s.all t h).grow hq hG
    · obtain rfl:=List.mem_singleton.1 h
      exact ht.grow hq hG
  · exact ⟨hG.os.trans s.gr.os,hG.tape.trans s.gr.tape,hG.output.trans s.gr.output,Nat.le_trans s.gr.size hG.size,fun j hj h1=>(hG.block j (Nat.lt_of_lt_of_le hj s.gr.size) (fun e=>by injection e with e; omega)).trans (s.gr.block j hj h1)⟩
theorem ByS.stH (s : ByS g L b X w nm ls ts q sh ch W) {nm' : ByteArray} {q' sh' ch' : Int} {i : Nat} {u : Value} (hi : (tsE nm (slV ls) ts q sh ch).setIfInBounds i u=tsE nm' (slV ls) ts q' sh' ch') : ByS g L b X w nm' ls ts q' sh' ch' (W.setCell ⟨w.heap.size+1,i,none⟩ u):=by
  have hq : XB X w (w.heap.size+1):=.inr (.inr rfl)
  have hg:=s.gq
  have hne : g≠w.heap.size+1:=by omega
  have hG : W.grownBy (W.setCell ⟨w.heap.size+1,i,none⟩ u) (some (w.heap.size+1)):=grown_st1 i u
  have hB:=s.box.set_ i u
  rw [hi] at hB
  refine ⟨s.ps.set_ hq hne _,s.res.gm hG (by omega),hB,s.lets.grow hq hG,fun t ht=>(s.all t ht).grow hq hG, ?_,s.gq⟩
  exact ⟨hG.os.trans s.gr.os,hG.tape.trans s.gr.tape,hG.output.trans s.gr.output,Nat.le_trans s.gr.size hG.size,fun j hj h1=>(hG.block j (Nat.lt_of_lt_of_le hj s.gr.size) (fun e=>by injection e with e; omega)).trans (s.gr.block j hj h1)⟩
theorem ByS.name (s : ByS g L b X w nm ls ts q sh ch W) (n : ByteArray) : ByS g L b X w n ls ts q sh ch (W.setCell ⟨w.heap.size+1,0,none⟩ (.string n)):=s.stH rfl
theorem ByS.ends (s : ByS g L b X w nm ls ts q sh ch W) (a c e : Int) : ByS g L b X w nm ls ts a c e (((W.setCell ⟨w.heap.size+1,22,none⟩ (.int .i64 a)).setCell ⟨w.heap.size+1,23,none⟩ (.int .i64 c)).setCell ⟨w.heap.size+1,24,none⟩ (.int .i64 e)) :=
  ((s.stH (q':=a) (sh':=sh) (ch':=ch) rfl).stH (q':=a) (sh':=c) (ch':=ch) rfl).stH rfl
theorem ByS.of_lets {W0 : World} (hl : Gr2 W0 W g (w.heap.size+1)) (hg0 : w.grownBy W0 (some g)) (hgw : g<w.heap.size) (hz : w.heap.size<W0.heap.size) (hp : PrS g L b (XB X w) W) (hr : Blk W0 w.heap.size 28 (byC ⟨#[]⟩ (.slice none 0 0))) (hb : Blk W (w.heap.size+1) 28 (byC nm (slV ls))) (hls : LetsAt (Nm (XB X w) W) W ls) : ByS g L b X w nm ls [] 0 0 0 W :=
  ⟨hp,(hl.block _ hz (by omega) (by omega)).trans hr,by rw [tsE_nil]; exact hb,hls,fun t ht=>by simp at ht,⟨hl.os.trans hg0.os,hl.tape.trans hg0.tape,hl.output.trans hg0.output,Nat.le_trans hg0.size hl.size,fun j hj h1=>(hl.block j (Nat.lt_of_lt_of_le hj hg0.size) (fun e=>h1 (by rw [e])) (by omega)).trans (hg0.block j hj h1)⟩,hgw⟩
end
end Go.Proofs.YtpbdjpfbhicmdaaGreatDoor
