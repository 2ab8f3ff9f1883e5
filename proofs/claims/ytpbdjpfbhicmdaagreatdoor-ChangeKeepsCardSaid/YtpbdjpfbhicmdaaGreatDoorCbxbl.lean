/- Walk of syntax.Parse. -/
import Derived.Test.YtpbdjpfbhicmdaaGreatDoorCbxbk
set_option linter.unusedSimpArgs false
set_option linter.unusedVariables false
set_option maxRecDepth 100000
set_option maxHeartbeats 6400000
namespace Go.Proofs.YtpbdjpfbhicmdaaGreatDoor
open Go.RowKit
theorem Byl.At.keepF {F G : Nat→Prop} {w w' : World} {b : Byl} (h : Byl.At F w b) (hk : ∀ i,F i→w'.heap[i]? = w.heap[i]?) (hN : ∀ i,F i→G i) : Byl.At G w' b :=
  ⟨h.nm,h.lets.keep hk hN,h.ad.keep hk hN,h.fa.keep hk hN,h.la.keep hk hN,h.no.keep hk hN⟩
theorem Byl.At.laterN {w w' : World} {m : Nat} {b : Byl} (h : Byl.At (Nw m w) w b) (hb : Below w.heap.size w w') : Byl.At (Nw m w') w' b:=h.keepF (fun i hi=>hb.block i hi.2) (fun i hi=>⟨hi.1,Nat.lt_of_lt_of_le hi.2 hb.size⟩)
theorem PbT.fin {g : Nat} {w W : World} {nm : ByteArray} {ls : Sl LT} {a b c d : PT} {q sh ch : Int} (h : PbT g w W) (ht : Byl.At (Nm (XQ g w) W) W ⟨nm,ls,a,b,c,d,q,sh,ch⟩) :
    (W.setRow w.heap.size (byE nm (slV ls) a b c d q sh ch)).heap.size=W.heap.size∧Blk (W.setRow w.heap.size (byE nm (slV ls) a b c d q sh ch)) w.heap.size 28 (byE nm (slV ls) a b c d q sh ch)∧(∃ x,Blk (W.setRow w.heap.size (byE nm (slV ls) a b c d q sh ch)) (w.heap.size+1) 3 #[x])∧(∃ x,Blk (W.setRow w.heap.size (byE nm (slV ls) a b c d q sh ch)) (w.heap.size+1+1) 33 #[x]) ∧
    Byl.At (fun i=>i<W.heap.size∧w.heap.size+3≤i) (W.setRow w.heap.size (byE nm (slV ls) a b c d q sh ch)) ⟨nm,ls,a,b,c,d,q,sh,ch⟩∧Below w.heap.size w (W.setRow w.heap.size (byE nm (slV ls) a b c d q sh ch)):=by
  obtain ⟨x,hx⟩:=h.pos
  obtain ⟨y,hy⟩:=h.err
  have hg:=h.gq
  have hB : Below w.heap.size w W:=grown_below h.gr (Nat.le_refl _) (by omega)
  have hk : ∀ i,Nm (XQ g w) W i→(W.setRow w.heap.size (byE nm (slV ls) a b c d q sh ch)).heap[i]? = W.heap[i]?:=fun i hi=>setRow_other _ _ _ _ (fun e=>hi.2 (.inr (by omega)))
  have hN : ∀ i,Nm (XQ g w) W i→i<W.heap.size∧w.heap.size+3≤i:=fun i hi=>⟨hi.1,by
    rcases Nat.lt_or_ge i (w.heap.size+3) with h1 | h1
    · exact absurd (show XQ g w i from .inr h1) hi.2
    · exact h1⟩
  refine ⟨by simp [World.setRow],setRow_heap _ _ _ _ _ _ h.res,⟨x,(setRow_other _ _ _ _ (by omega)).trans hx⟩,⟨y,(setRow_other _ _ _ _ (by omega)).trans hy⟩,⟨ht.nm,ht.lets.keep hk hN,ht.ad.keep hk hN,ht.fa.keep hk hN,ht.la.keep hk hN,ht.no.keep hk hN⟩,hB.trans ⟨rfl,rfl,rfl,by simp [World.setRow],fun k hk=>setRow_other _ _ k _ (by omega)⟩⟩
theorem syn_Parse (s : ByteArray) (w : World) (hs : s.size≤9223372036854775807) (hg : SigW w) : Calls Tryz.prog 21 #[.string s] w fun r w'=>ParB w w' (parsB s.data.toList) r:=by
  have hmf : ∀ (fn : Fn) (first cap : Array Value) (w : World),(Instr.makeFunc fn first cap).run Tryz.prog w = .ok (.func fn first cap) w:=fun _ _ _ _=>rfl
  obtain ⟨PV,hPV⟩ : ∃ v,parsB s.data.toList=v:=⟨_,rfl⟩
  have HPV:=Lib.hid hPV
  rw [hPV]
  clear hPV
  have HB0 : Hid (Below w.heap.size w (((w.alloc (.cells #[.string (⟨#[]⟩ : ByteArray),.slice none 0 0,.int .i64 0,.int .i64 0,.int .i64 0,.string (⟨#[]⟩ : ByteArray),.slice none 0 0,.int .i64 0,.int .i64 0,.int .i64 0,.string (⟨#[]⟩ : ByteArray),.slice none 0 0,.int .i64 0,.int .i64 0,.int .i64 0,.string (⟨#[]⟩ : ByteArray),.slice none 0 0,.int .i64 0,.int .i64 0,.int .i64 0,.string (⟨#[]⟩ : ByteArray),.slice none 0 0,.int .i64 0,.int .i64 0,.int .i64 0] 28)).alloc (.cells #[.int .i64 0] 3)).alloc (.cells #[.int .i64 0] 33))):=Lib.hid qbl
  have hc:=syn_open s _ hs (hg.later HB0.out)
  obtain ⟨V,hV⟩ : ∃ V,lexT s.data.toList=V:=⟨_,rfl⟩
  rw [hV] at hc
  have HV:=Lib.hid hV
  clear hV hg
  go_enter_defers Tryz.func21,Tryz.ntmps21
  go_wp2_with fail
  refine hc.mono ?_
  clear hc
  rintro r w1 ⟨gp,A,c,rfl,hblk,hrd,hb1,hgp⟩
  obtain ⟨l,p,e⟩:=V
  simp only at hblk hrd
  have hz0 : (((w.alloc (.cells #[.string (⟨#[]⟩ : ByteArray),.slice none 0 0,.int .i64 0,.int .i64 0,.int .i64 0,.string (⟨#[]⟩ : ByteArray),.slice none 0 0,.int .i64 0,.int .i64 0,.int .i64 0,.string (⟨#[]⟩ : ByteArray),.slice none 0 0,.int .i64 0,.int .i64 0,.int .i64 0,.string (⟨#[]⟩ : ByteArray),.slice none 0 0,.int .i64 0,.int .i64 0,.int .i64 0,.string (⟨#[]⟩ : ByteArray),.slice none 0 0,.int .i64 0,.int .i64 0,.int .i64 0] 28)).alloc (.cells #[.int .i64 0] 3)).alloc (.cells #[.int .i64 0] 33)).heap.size=w.heap.size+3:=by simp
  have HR : Hid (Blk w1 w.heap.size 28 #[.string (⟨#[]⟩ : ByteArray),.slice none 0 0,.int .i64 0,.int .i64 0,.int .i64 0,.string (⟨#[]⟩ : ByteArray),.slice none 0 0,.int .i64 0,.int .i64 0,.int .i64 0,.string (⟨#[]⟩ : ByteArray),.slice none 0 0,.int .i64 0,.int .i64 0,.int .i64 0,.string (⟨#[]⟩ : ByteArray),.slice none 0 0,.int .i64 0,.int .i64 0,.int .i64 0,.string (⟨#[]⟩ : ByteArray),.slice none 0 0,.int .i64 0,.int .i64 0,.int .i64 0]):=Lib.hid ((((Blk.new _ _ _).alloc _).alloc _).later hb1)
  have HPo : Hid (Blk w1 (w.heap.size+1) 3 #[.int .i64 0]):=Lib.hid (((Blk.new' (by simp)).alloc _).later hb1)
  have HEr : Hid (Blk w1 (w.heap.size+1+1) 33 #[.int .i64 0]):=Lib.hid ((Blk.new' (by simp)).later hb1)
  rw [hz0] at hrd hgp
  have HBK:=Lib.hid hblk
  have HRD:=Lib.hid hrd
  have HB1 : Hid (Below w.heap.size w w1):=Lib.hid (HB0.out.trans (hb1.mono (by rw [hz0]; omega)))
  clear hblk hrd hb1 HB0 hz0
  obtain ⟨p0,pf,pz⟩:=HPo.out.b1
  obtain ⟨q0,qf,qz⟩:=HEr.out.b1
  by_cases h0 : e=0
  · subst h0
    obtain ⟨ht1,ht2⟩ : TkS ⟨A,c,l⟩∧0<l.length:=by
      have:=tks_lex (l:=s.data.toList) (by rw [HV.out]) A c
      rw [HV.out] at this
      exact this
    obtain ⟨hm,hs0⟩:=PbT.start (L:=⟨A,c,l⟩) HR.out HPo.out HEr.out HBK.out HRD.out HB1.out hgp ht2 (.int .i64 p) (.int .i64 0)
    have HM:=Lib.hid hm
    have HS:=Lib.hid hs0
    have HTK:=Lib.hid ht1
    have hl4 : l.length≤100000:=ht1.len
    clear hm hs0 ht1 HR HBK HRD HB1
    go_wp2_with fail
    clear p0 pf pz q0 qf qz HPo HEr
    generalize (w1.setCell ⟨w.heap.size+1,0,none⟩ (.int .i64 p)).setCell ⟨w.heap.size+1+1,0,none⟩ (.int .i64 0)=w2 at *
    have hc:=p_bylaws (5 * l.length+10) w2 HTK.out HS.out (by simp only; omega)
    simp only [List.drop_zero] at hc
    obtain ⟨NV,hNV⟩ : ∃ v,bylT (5 * l.length+10) l=v:=⟨_,rfl⟩
    rw [hNV] at hc
    have HNV:=Lib.hid hNV
    clear hNV
    refine hc.mono ?_
    clear hc
    rintro r w3 hc
    rcases NV with ⟨bv,l2⟩ | ⟨pp,ee⟩
    rotate_left
    · obtain ⟨hg,rfl⟩:=hc
      have HM3:=Lib.hid (HM.out.step hg)
      have HPE:=Lib.hid (HPV.out.symm.trans (parsB_stop HV.out rfl HNV.out))
      clear HM hg HS HPV
      have HM:=HM3
      clear HM3
      obtain ⟨x9,hx9⟩:=HM.out.pos
      obtain ⟨y9,hy9⟩:=HM.out.err
      have hz9:=HM.out.gr.size
      simp only [StopV]
      go_wp2_with fail
      refine leaves_cons (f:=36) (args:=#[.pointer (some ⟨w.heap.size+1,0,none⟩),.pointer (some ⟨w.heap.size+1+1,0,none⟩),.pointer (some ⟨w.heap.size,0,none⟩)]) (by simp) (by simp [go_sem]) ?_
      refine (pb_catch (w.heap.size+1) (w.heap.size+1+1) w.heap.size (by omega) (by omega) (by omega) w.heap.size (by omega) (by omega) (Nat.le_refl _) pp ee [] _ hz9 x9 y9 _ rfl hx9 hy9 HM.out.res).mono ?_
      rintro e9 u9 w9 ⟨rfl,rfl,hp9,hq9,hr9,hb9⟩
      have HB9 : Hid (Below w.heap.size w w9):=Lib.hid ((grown_below HM.out.gr (Nat.le_refl _) (by have:=HM.out.gq; omega)).trans hb9)
      have HRS:=Lib.hid (fun tmps h2 h3 h4=>parse_results tmps w9 w.heap.size _ _ #[.string (⟨#[]⟩ : ByteArray),.slice none 0 0,.int .i64 0,.int .i64 0,.int .i64 0,.string (⟨#[]⟩ : ByteArray),.slice none 0 0,.int .i64 0,.int .i64 0,.int .i64 0,.string (⟨#[]⟩ : ByteArray),.slice none 0 0,.int .i64 0,.int .i64 0,.int .i64 0,.string (⟨#[]⟩ : ByteArray),.slice none 0 0,.int .i64 0,.int .i64 0,.int .i64 0,.string (⟨#[]⟩ : ByteArray),.slice none 0 0,.int .i64 0,.int .i64 0,.int .i64 0] _ _ (by kernel_rfl) h2 h3 h4 hr9 hp9 hq9)
      clear hp9 hq9 hr9 hb9
      show ∃ v,_∧_
      refine ⟨_,HRS.out _ rfl rfl rfl, ?_⟩
      rw [HPE.out]
      exact ⟨HB9.out,rfl⟩
    obtain ⟨hg,⟨nm,ls,ea,eb,ec,ed,q,sh,ch⟩,rfl,hat,hsh⟩:=hc
    have HPE:=Lib.hid (HPV.out.symm.trans (parsB_ok HV.out rfl HNV.out))
    have HM3:=Lib.hid (HM.out.step hg)
    have HAT:=Lib.hid hat
    have HSH:=Lib.hid hsh
    clear HM HS hg hat hsh HPV HNV
    rw [byl_v]
    go_wp2_with (refine wpList_store_row rfl 28 (.tmp 2) (.tmp 19) rfl w.heap.size (byE nm (slV ls) ea eb ec ed q sh ch) rfl rfl 28 _ HM3.out.res (by kernel_rfl) rfl (by kernel_rfl) ?_; apply Hid.out)
    obtain ⟨hz4,hr4,hp4,he4,hat4,hb4⟩:=HM3.out.fin HAT.out
    obtain ⟨x9,hx9⟩:=hp4
    obtain ⟨y9,hy9⟩:=he4
    have HR4:=Lib.hid hr4
    have HA4:=Lib.hid hat4
    have HB4:=Lib.hid hb4
    have HX4:=Lib.hid hx9
    have HY4:=Lib.hid hy9
    have HZ4:=Lib.hid hz4
    clear HM3 HAT hr4 hat4 hb4 hz4
    generalize w3.setRow w.heap.size (byE nm (slV ls) ea eb ec ed q sh ch)=w4 at *
    obtain ⟨p0,pf,pz⟩:=hx9.b1
    obtain ⟨q0,qf,qz⟩:=hy9.b1
    clear hx9 hy9
    refine Lib.hid ?_
    go_wp2_with fail
    have HR9 : Hid (Blk ((w4.setCell ⟨w.heap.size+1,0,none⟩ (.int .i64 0)).setCell ⟨w.heap.size+1+1,0,none⟩ (.int .i64 0)) w.heap.size 28 (byE nm (slV ls) ea eb ec ed q sh ch)):=Lib.hid ((HR4.out.far (by simp only; omega) _).far (by simp only; omega) _)
    have HP9 : Hid (Blk ((w4.setCell ⟨w.heap.size+1,0,none⟩ (.int .i64 0)).setCell ⟨w.heap.size+1+1,0,none⟩ (.int .i64 0)) (w.heap.size+1) 3 #[.int .i64 0]):=Lib.hid (by simpa using ((HX4.out.set_ 0 (.int .i64 0)).far (p:=⟨w.heap.size+1+1,0,none⟩) (by simp only; omega) (.int .i64 0)))
    have HQ9 : Hid (Blk ((w4.setCell ⟨w.heap.size+1,0,none⟩ (.int .i64 0)).setCell ⟨w.heap.size+1+1,0,none⟩ (.int .i64 0)) (w.heap.size+1+1) 33 #[.int .i64 0]):=Lib.hid (by simpa using ((HY4.out.far (p:=⟨w.heap.size+1,0,none⟩) (by simp only; omega) (.int .i64 0)).set_ 0 (.int .i64 0)))
    have HB9 : Hid (Below w.heap.size w ((w4.setCell ⟨w.heap.size+1,0,none⟩ (.int .i64 0)).setCell ⟨w.heap.size+1+1,0,none⟩ (.int .i64 0))):=Lib.hid ((HB4.out.setCell (by simp only; omega) _).setCell (by simp only; omega) _)
    have HA9 : Hid (Byl.At (Nw w.heap.size ((w4.setCell ⟨w.heap.size+1,0,none⟩ (.int .i64 0)).setCell ⟨w.heap.size+1+1,0,none⟩ (.int .i64 0))) ((w4.setCell ⟨w.heap.size+1,0,none⟩ (.int .i64 0)).setCell ⟨w.heap.size+1+1,0,none⟩ (.int .i64 0)) ⟨nm,ls,ea,eb,ec,ed,q,sh,ch⟩):=Lib.hid (by
      have hk : ∀ i,(i<w3.heap.size∧w.heap.size+3≤i)→((w4.setCell ⟨w.heap.size+1,0,none⟩ (.int .i64 0)).setCell ⟨w.heap.size+1+1,0,none⟩ (.int .i64 0)).heap[i]? = w4.heap[i]?:=fun i hi=>(Below.heap_setCell _ _ _ i (by simp only; omega)).trans (Below.heap_setCell _ _ _ i (by simp only; omega))
      have hN : ∀ i,(i<w3.heap.size∧w.heap.size+3≤i)→Nw w.heap.size ((w4.setCell ⟨w.heap.size+1,0,none⟩ (.int .i64 0)).setCell ⟨w.heap.size+1+1,0,none⟩ (.int .i64 0)) i:=fun i hi=>⟨by omega,by simp [HZ4.out]; exact hi.1⟩
      exact ⟨HA4.out.nm,HA4.out.lets.keep hk hN,HA4.out.ad.keep hk hN,HA4.out.fa.keep hk hN,HA4.out.la.keep hk hN,HA4.out.no.keep hk hN⟩)
    clear p0 pf pz q0 qf qz HR4 HX4 HY4 HB4 HA4
    generalize (w4.setCell ⟨w.heap.size+1,0,none⟩ (.int .i64 0)).setCell ⟨w.heap.size+1+1,0,none⟩ (.int .i64 0)=w9 at *
    refine leaves_cons (f:=36) (args:=#[.pointer (some ⟨w.heap.size+1,0,none⟩),.pointer (some ⟨w.heap.size+1+1,0,none⟩),.pointer (some ⟨w.heap.size,0,none⟩)]) (by simp) (by simp [go_sem]) ?_
    refine (pb_idle _ _ _ _).mono ?_
    rintro e9 u9 w10 ⟨rfl,rfl,hb10⟩
    show ∃ v,_∧_
    refine ⟨_,parse_results _ w10 w.heap.size _ _ (byE nm (slV ls) ea eb ec ed q sh ch) _ _ (by kernel_rfl) rfl rfl rfl (HR9.out.later hb10) (HP9.out.later hb10) (HQ9.out.later hb10), ?_⟩
    rw [HPE.out]
    exact ⟨HB9.out.trans (hb10.mono HB9.out.size),_,HSH.out,HA9.out.laterN hb10,by rw [byl_v]⟩
  · have h0b : (e != 0)=true:=bne_iff_ne.2 h0
    have HPE:=Lib.hid (HPV.out.symm.trans (parsB_lex HV.out h0))
    clear HV HPV
    go_wp2_with fail
    have H1 : Hid (Blk (((w1.setCell ⟨w.heap.size+1,0,none⟩ (.int .i64 p)).setCell ⟨w.heap.size+1+1,0,none⟩ (.int .i64 e)).drew) w.heap.size 28 #[.string (⟨#[]⟩ : ByteArray),.slice none 0 0,.int .i64 0,.int .i64 0,.int .i64 0,.string (⟨#[]⟩ : ByteArray),.slice none 0 0,.int .i64 0,.int .i64 0,.int .i64 0,.string (⟨#[]⟩ : ByteArray),.slice none 0 0,.int .i64 0,.int .i64 0,.int .i64 0,.string (⟨#[]⟩ : ByteArray),.slice none 0 0,.int .i64 0,.int .i64 0,.int .i64 0,.string (⟨#[]⟩ : ByteArray),.slice none 0 0,.int .i64 0,.int .i64 0,.int .i64 0]):=Lib.hid ((HR.out.far (by simp only; omega) _).far (by simp only; omega) _)
    have H2 : Hid (Blk (((w1.setCell ⟨w.heap.size+1,0,none⟩ (.int .i64 p)).setCell ⟨w.heap.size+1+1,0,none⟩ (.int .i64 e)).drew) (w.heap.size+1) 3 #[.int .i64 p]):=Lib.hid (by simpa using ((HPo.out.set_ 0 (.int .i64 p)).far (p:=⟨w.heap.size+1+1,0,none⟩) (by simp only; omega) (.int .i64 e)).drew)
    have H3 : Hid (Blk (((w1.setCell ⟨w.heap.size+1,0,none⟩ (.int .i64 p)).setCell ⟨w.heap.size+1+1,0,none⟩ (.int .i64 e)).drew) (w.heap.size+1+1) 33 #[.int .i64 e]):=Lib.hid (by simpa using ((HEr.out.far (p:=⟨w.heap.size+1,0,none⟩) (by simp only; omega) (.int .i64 p)).set_ 0 (.int .i64 e)).drew)
    have H4 : Hid (Below w.heap.size w (((w1.setCell ⟨w.heap.size+1,0,none⟩ (.int .i64 p)).setCell ⟨w.heap.size+1+1,0,none⟩ (.int .i64 e)).drew)):=Lib.hid (Below.drew ((HB1.out.setCell (by simp only; omega) _).setCell (by simp only; omega) _))
    clear p0 pf pz q0 qf qz HR HPo HEr HBK HRD HB1
    refine wp_region_T (fun _=>True) (fun _=>false) (by kernel_rfl) trivial (fun _=>?_)
    generalize ((w1.setCell ⟨w.heap.size+1,0,none⟩ (.int .i64 p)).setCell ⟨w.heap.size+1+1,0,none⟩ (.int .i64 e)).drew=w3 at *
    have hn1 : w.heap.size+1≠w.heap.size:=by omega
    have hn2 : w.heap.size+1+1≠w.heap.size:=by omega
    obtain ⟨p0,pf,pz⟩:=H2.out.b1
    obtain ⟨q0,qf,qz⟩:=H3.out.b1
    refine wpAnyT_three (i:=0) (j:=1) (l:=2) (by kernel_rfl) rfl rfl rfl ?_ ?_ ?_
    · skip
      go_wp2_with fail
      try simp only [QT]
      try (with_reducible refine And.intro (by first | exact trivial | exact fun _=>trivial) ?_)
      refine wpAnyT_two (i:=1) (j:=2) (by kernel_rfl) rfl rfl ?_ ?_
      · skip
        go_wp2_with fail
        try simp only [QT]
        try (with_reducible refine And.intro (by first | exact trivial | exact fun _=>trivial) ?_)
        refine wpAnyT_next (i:=2) (by kernel_rfl) rfl ?_
        go_wp2_with fail
        try simp only [QT]
        try (with_reducible refine And.intro (by first | exact trivial | exact fun _=>trivial) ?_)
        refine wpAnyT_next (i:=3) (by kernel_rfl) rfl ?_
        refine wpList_store_row rfl 28 (.tmp 2) (.tmp 14) rfl w.heap.size #[.string (⟨#[]⟩ : ByteArray),.slice none 0 0,.int .i64 0,.int .i64 0,.int .i64 0,.string (⟨#[]⟩ : ByteArray),.slice none 0 0,.int .i64 0,.int .i64 0,.int .i64 0,.string (⟨#[]⟩ : ByteArray),.slice none 0 0,.int .i64 0,.int .i64 0,.int .i64 0,.string (⟨#[]⟩ : ByteArray),.slice none 0 0,.int .i64 0,.int .i64 0,.int .i64 0,.string (⟨#[]⟩ : ByteArray),.slice none 0 0,.int .i64 0,.int .i64 0,.int .i64 0] rfl rfl 28 _ H1.out (by kernel_rfl) rfl (by kernel_rfl) ?_
        have G1 : Hid (Blk (w3.setRow w.heap.size #[.string (⟨#[]⟩ : ByteArray),.slice none 0 0,.int .i64 0,.int .i64 0,.int .i64 0,.string (⟨#[]⟩ : ByteArray),.slice none 0 0,.int .i64 0,.int .i64 0,.int .i64 0,.string (⟨#[]⟩ : ByteArray),.slice none 0 0,.int .i64 0,.int .i64 0,.int .i64 0,.string (⟨#[]⟩ : ByteArray),.slice none 0 0,.int .i64 0,.int .i64 0,.int .i64 0,.string (⟨#[]⟩ : ByteArray),.slice none 0 0,.int .i64 0,.int .i64 0,.int .i64 0]) w.heap.size 28 #[.string (⟨#[]⟩ : ByteArray),.slice none 0 0,.int .i64 0,.int .i64 0,.int .i64 0,.string (⟨#[]⟩ : ByteArray),.slice none 0 0,.int .i64 0,.int .i64 0,.int .i64 0,.string (⟨#[]⟩ : ByteArray),.slice none 0 0,.int .i64 0,.int .i64 0,.int .i64 0,.string (⟨#[]⟩ : ByteArray),.slice none 0 0,.int .i64 0,.int .i64 0,.int .i64 0,.string (⟨#[]⟩ : ByteArray),.slice none 0 0,.int .i64 0,.int .i64 0,.int .i64 0]):=Lib.hid (setRow_heap _ _ _ _ _ _ H1.out)
        have G2 : Hid (Blk (w3.setRow w.heap.size #[.string (⟨#[]⟩ : ByteArray),.slice none 0 0,.int .i64 0,.int .i64 0,.int .i64 0,.string (⟨#[]⟩ : ByteArray),.slice none 0 0,.int .i64 0,.int .i64 0,.int .i64 0,.string (⟨#[]⟩ : ByteArray),.slice none 0 0,.int .i64 0,.int .i64 0,.int .i64 0,.string (⟨#[]⟩ : ByteArray),.slice none 0 0,.int .i64 0,.int .i64 0,.int .i64 0,.string (⟨#[]⟩ : ByteArray),.slice none 0 0,.int .i64 0,.int .i64 0,.int .i64 0]) (w.heap.size+1) 3 #[.int .i64 p]):=Lib.hid ((setRow_other _ _ _ _ hn1).trans H2.out)
        have G3 : Hid (Blk (w3.setRow w.heap.size #[.string (⟨#[]⟩ : ByteArray),.slice none 0 0,.int .i64 0,.int .i64 0,.int .i64 0,.string (⟨#[]⟩ : ByteArray),.slice none 0 0,.int .i64 0,.int .i64 0,.int .i64 0,.string (⟨#[]⟩ : ByteArray),.slice none 0 0,.int .i64 0,.int .i64 0,.int .i64 0,.string (⟨#[]⟩ : ByteArray),.slice none 0 0,.int .i64 0,.int .i64 0,.int .i64 0,.string (⟨#[]⟩ : ByteArray),.slice none 0 0,.int .i64 0,.int .i64 0,.int .i64 0]) (w.heap.size+1+1) 33 #[.int .i64 e]):=Lib.hid ((setRow_other _ _ _ _ hn2).trans H3.out)
        have G4 : Hid (Below w.heap.size w (w3.setRow w.heap.size #[.string (⟨#[]⟩ : ByteArray),.slice none 0 0,.int .i64 0,.int .i64 0,.int .i64 0,.string (⟨#[]⟩ : ByteArray),.slice none 0 0,.int .i64 0,.int .i64 0,.int .i64 0,.string (⟨#[]⟩ : ByteArray),.slice none 0 0,.int .i64 0,.int .i64 0,.int .i64 0,.string (⟨#[]⟩ : ByteArray),.slice none 0 0,.int .i64 0,.int .i64 0,.int .i64 0,.string (⟨#[]⟩ : ByteArray),.slice none 0 0,.int .i64 0,.int .i64 0,.int .i64 0])):=Lib.hid (H4.out.trans ⟨rfl,rfl,rfl,by simp [World.setRow],fun k hk=>setRow_other _ _ k _ (by omega)⟩)
        clear H1 H2 H3 H4 p0 pf pz q0 qf qz
        generalize w3.setRow w.heap.size #[.string (⟨#[]⟩ : ByteArray),.slice none 0 0,.int .i64 0,.int .i64 0,.int .i64 0,.string (⟨#[]⟩ : ByteArray),.slice none 0 0,.int .i64 0,.int .i64 0,.int .i64 0,.string (⟨#[]⟩ : ByteArray),.slice none 0 0,.int .i64 0,.int .i64 0,.int .i64 0,.string (⟨#[]⟩ : ByteArray),.slice none 0 0,.int .i64 0,.int .i64 0,.int .i64 0,.string (⟨#[]⟩ : ByteArray),.slice none 0 0,.int .i64 0,.int .i64 0,.int .i64 0]=w4 at *
        obtain ⟨p0,pf,pz⟩:=G2.out.b1
        obtain ⟨q0,qf,qz⟩:=G3.out.b1
        go_wp2_with fail
        try simp only [QT]
        try (with_reducible refine And.intro (by first | exact trivial | exact fun _=>trivial) ?_)
        refine wpAnyT_next (i:=4) (by kernel_rfl) rfl ?_
        go_wp2_with fail
        try simp only [QT]
        try (with_reducible refine And.intro (by first | exact trivial | exact fun _=>trivial) ?_)
        refine wpAnyT_next (i:=5) (by kernel_rfl) rfl ?_
        go_wp2_with fail
        try simp only [QT]
        try (with_reducible refine And.intro (by first | exact trivial | exact fun _=>trivial) ?_)
        refine wpAnyT_done (by kernel_rfl) ?_ _
        go_wp2_with fail
        have R1 : Blk ((w4.setCell ⟨w.heap.size+1,0,none⟩ (.int .i64 p)).setCell ⟨w.heap.size+1+1,0,none⟩ (.int .i64 e)) w.heap.size 28 #[.string (⟨#[]⟩ : ByteArray),.slice none 0 0,.int .i64 0,.int .i64 0,.int .i64 0,.string (⟨#[]⟩ : ByteArray),.slice none 0 0,.int .i64 0,.int .i64 0,.int .i64 0,.string (⟨#[]⟩ : ByteArray),.slice none 0 0,.int .i64 0,.int .i64 0,.int .i64 0,.string (⟨#[]⟩ : ByteArray),.slice none 0 0,.int .i64 0,.int .i64 0,.int .i64 0,.string (⟨#[]⟩ : ByteArray),.slice none 0 0,.int .i64 0,.int .i64 0,.int .i64 0]:=(G1.out.far (Ne.symm hn1) _).far (Ne.symm hn2) _
        have R2 : Blk ((w4.setCell ⟨w.heap.size+1,0,none⟩ (.int .i64 p)).setCell ⟨w.heap.size+1+1,0,none⟩ (.int .i64 e)) (w.heap.size+1) 3 #[.int .i64 p]:=by simpa using ((G2.out.set_ 0 (.int .i64 p)).far (p:=⟨w.heap.size+1+1,0,none⟩) (by simp only; omega) (.int .i64 e))
        have R3 : Blk ((w4.setCell ⟨w.heap.size+1,0,none⟩ (.int .i64 p)).setCell ⟨w.heap.size+1+1,0,none⟩ (.int .i64 e)) (w.heap.size+1+1) 33 #[.int .i64 e]:=by simpa using ((G3.out.far (p:=⟨w.heap.size+1,0,none⟩) (by simp only; omega) (.int .i64 p)).set_ 0 (.int .i64 e))
        have R4 : Below w.heap.size w ((w4.setCell ⟨w.heap.size+1,0,none⟩ (.int .i64 p)).setCell ⟨w.heap.size+1+1,0,none⟩ (.int .i64 e)):=(G4.out.setCell (by simp only; omega) _).setCell (by simp only; omega) _
        show ∃ v,_∧_
        refine ⟨_,parse_results _ _ w.heap.size _ _ #[.string (⟨#[]⟩ : ByteArray),.slice none 0 0,.int .i64 0,.int .i64 0,.int .i64 0,.string (⟨#[]⟩ : ByteArray),.slice none 0 0,.int .i64 0,.int .i64 0,.int .i64 0,.string (⟨#[]⟩ : ByteArray),.slice none 0 0,.int .i64 0,.int .i64 0,.int .i64 0,.string (⟨#[]⟩ : ByteArray),.slice none 0 0,.int .i64 0,.int .i64 0,.int .i64 0,.string (⟨#[]⟩ : ByteArray),.slice none 0 0,.int .i64 0,.int .i64 0,.int .i64 0] _ _ (by kernel_rfl) rfl rfl rfl R1 R2 R3, ?_⟩
        rw [HPE.out]
        exact ⟨R4,rfl⟩
      · skip
        go_wp2_with fail
        try simp only [QT]
        try (with_reducible refine And.intro (by first | exact trivial | exact fun _=>trivial) ?_)
        refine wpAnyT_two (i:=1) (j:=3) (by kernel_rfl) rfl rfl ?_ ?_
        · skip
          go_wp2_with fail
          try simp only [QT]
          try (with_reducible refine And.intro (by first | exact trivial | exact fun _=>trivial) ?_)
          refine wpAnyT_next (i:=3) (by kernel_rfl) rfl ?_
          refine wpList_store_row rfl 28 (.tmp 2) (.tmp 14) rfl w.heap.size #[.string (⟨#[]⟩ : ByteArray),.slice none 0 0,.int .i64 0,.int .i64 0,.int .i64 0,.string (⟨#[]⟩ : ByteArray),.slice none 0 0,.int .i64 0,.int .i64 0,.int .i64 0,.string (⟨#[]⟩ : ByteArray),.slice none 0 0,.int .i64 0,.int .i64 0,.int .i64 0,.string (⟨#[]⟩ : ByteArray),.slice none 0 0,.int .i64 0,.int .i64 0,.int .i64 0,.string (⟨#[]⟩ : ByteArray),.slice none 0 0,.int .i64 0,.int .i64 0,.int .i64 0] rfl rfl 28 _ H1.out (by kernel_rfl) rfl (by kernel_rfl) ?_
          have G1 : Hid (Blk (w3.setRow w.heap.size #[.string (⟨#[]⟩ : ByteArray),.slice none 0 0,.int .i64 0,.int .i64 0,.int .i64 0,.string (⟨#[]⟩ : ByteArray),.slice none 0 0,.int .i64 0,.int .i64 0,.int .i64 0,.string (⟨#[]⟩ : ByteArray),.slice none 0 0,.int .i64 0,.int .i64 0,.int .i64 0,.string (⟨#[]⟩ : ByteArray),.slice none 0 0,.int .i64 0,.int .i64 0,.int .i64 0,.string (⟨#[]⟩ : ByteArray),.slice none 0 0,.int .i64 0,.int .i64 0,.int .i64 0]) w.heap.size 28 #[.string (⟨#[]⟩ : ByteArray),.slice none 0 0,.int .i64 0,.int .i64 0,.int .i64 0,.string (⟨#[]⟩ : ByteArray),.slice none 0 0,.int .i64 0,.int .i64 0,.int .i64 0,.string (⟨#[]⟩ : ByteArray),.slice none 0 0,.int .i64 0,.int .i64 0,.int .i64 0,.string (⟨#[]⟩ : ByteArray),.slice none 0 0,.int .i64 0,.int .i64 0,.int .i64 0,.string (⟨#[]⟩ : ByteArray),.slice none 0 0,.int .i64 0,.int .i64 0,.int .i64 0]):=Lib.hid (setRow_heap _ _ _ _ _ _ H1.out)
          have G2 : Hid (Blk (w3.setRow w.heap.size #[.string (⟨#[]⟩ : ByteArray),.slice none 0 0,.int .i64 0,.int .i64 0,.int .i64 0,.string (⟨#[]⟩ : ByteArray),.slice none 0 0,.int .i64 0,.int .i64 0,.int .i64 0,.string (⟨#[]⟩ : ByteArray),.slice none 0 0,.int .i64 0,.int .i64 0,.int .i64 0,.string (⟨#[]⟩ : ByteArray),.slice none 0 0,.int .i64 0,.int .i64 0,.int .i64 0,.string (⟨#[]⟩ : ByteArray),.slice none 0 0,.int .i64 0,.int .i64 0,.int .i64 0]) (w.heap.size+1) 3 #[.int .i64 p]):=Lib.hid ((setRow_other _ _ _ _ hn1).trans H2.out)
          have G3 : Hid (Blk (w3.setRow w.heap.size #[.string (⟨#[]⟩ : ByteArray),.slice none 0 0,.int .i64 0,.int .i64 0,.int .i64 0,.string (⟨#[]⟩ : ByteArray),.slice none 0 0,.int .i64 0,.int .i64 0,.int .i64 0,.string (⟨#[]⟩ : ByteArray),.slice none 0 0,.int .i64 0,.int .i64 0,.int .i64 0,.string (⟨#[]⟩ : ByteArray),.slice none 0 0,.int .i64 0,.int .i64 0,.int .i64 0,.string (⟨#[]⟩ : ByteArray),.slice none 0 0,.int .i64 0,.int .i64 0,.int .i64 0]) (w.heap.size+1+1) 33 #[.int .i64 e]):=Lib.hid ((setRow_other _ _ _ _ hn2).trans H3.out)
          have G4 : Hid (Below w.heap.size w (w3.setRow w.heap.size #[.string (⟨#[]⟩ : ByteArray),.slice none 0 0,.int .i64 0,.int .i64 0,.int .i64 0,.string (⟨#[]⟩ : ByteArray),.slice none 0 0,.int .i64 0,.int .i64 0,.int .i64 0,.string (⟨#[]⟩ : ByteArray),.slice none 0 0,.int .i64 0,.int .i64 0,.int .i64 0,.string (⟨#[]⟩ : ByteArray),.slice none 0 0,.int .i64 0,.int .i64 0,.int .i64 0,.string (⟨#[]⟩ : ByteArray),.slice none 0 0,.int .i64 0,.int .i64 0,.int .i64 0])):=Lib.hid (H4.out.trans ⟨rfl,rfl,rfl,by simp [World.setRow],fun k hk=>setRow_other _ _ k _ (by omega)⟩)
          clear H1 H2 H3 H4 p0 pf pz q0 qf qz
          generalize w3.setRow w.heap.size #[.string (⟨#[]⟩ : ByteArray),.slice none 0 0,.int .i64 0,.int .i64 0,.int .i64 0,.string (⟨#[]⟩ : ByteArray),.slice none 0 0,.int .i64 0,.int .i64 0,.int .i64 0,.string (⟨#[]⟩ : ByteArray),.slice none 0 0,.int .i64 0,.int .i64 0,.int .i64 0,.string (⟨#[]⟩ : ByteArray),.slice none 0 0,.int .i64 0,.int .i64 0,.int .i64 0,.string (⟨#[]⟩ : ByteArray),.slice none 0 0,.int .i64 0,.int .i64 0,.int .i64 0]=w4 at *
          obtain ⟨p0,pf,pz⟩:=G2.out.b1
          obtain ⟨q0,qf,qz⟩:=G3.out.b1
          go_wp2_with fail
          try simp only [QT]
          try (with_reducible refine And.intro (by first | exact trivial | exact fun _=>trivial) ?_)
          refine wpAnyT_next (i:=4) (by kernel_rfl) rfl ?_
          go_wp2_with fail
          try simp only [QT]
          try (with_reducible refine And.intro (by first | exact trivial | exact fun _=>trivial) ?_)
          refine wpAnyT_next (i:=5) (by kernel_rfl) rfl ?_
          go_wp2_with fail
          try simp only [QT]
          try (with_reducible refine And.intro (by first | exact trivial | exact fun _=>trivial) ?_)
          refine wpAnyT_done (by kernel_rfl) ?_ _
          go_wp2_with fail
          have R1 : Blk ((w4.setCell ⟨w.heap.size+1,0,none⟩ (.int .i64 p)).setCell ⟨w.heap.size+1+1,0,none⟩ (.int .i64 e)) w.heap.size 28 #[.string (⟨#[]⟩ : ByteArray),.slice none 0 0,.int .i64 0,.int .i64 0,.int .i64 0,.string (⟨#[]⟩ : ByteArray),.slice none 0 0,.int .i64 0,.int .i64 0,.int .i64 0,.string (⟨#[]⟩ : ByteArray),.slice none 0 0,.int .i64 0,.int .i64 0,.int .i64 0,.string (⟨#[]⟩ : ByteArray),.slice none 0 0,.int .i64 0,.int .i64 0,.int .i64 0,.string (⟨#[]⟩ : ByteArray),.slice none 0 0,.int .i64 0,.int .i64 0,.int .i64 0]:=(G1.out.far (Ne.symm hn1) _).far (Ne.symm hn2) _
          have R2 : Blk ((w4.setCell ⟨w.heap.size+1,0,none⟩ (.int .i64 p)).setCell ⟨w.heap.size+1+1,0,none⟩ (.int .i64 e)) (w.heap.size+1) 3 #[.int .i64 p]:=by simpa using ((G2.out.set_ 0 (.int .i64 p)).far (p:=⟨w.heap.size+1+1,0,none⟩) (by simp only; omega) (.int .i64 e))
          have R3 : Blk ((w4.setCell ⟨w.heap.size+1,0,none⟩ (.int .i64 p)).setCell ⟨w.heap.size+1+1,0,none⟩ (.int .i64 e)) (w.heap.size+1+1) 33 #[.int .i64 e]:=by simpa using ((G3.out.far (p:=⟨w.heap.size+1,0,none⟩) (by simp only; omega) (.int .i64 p)).set_ 0 (.int .i64 e))
          have R4 : Below w.heap.size w ((w4.setCell ⟨w.heap.size+1,0,none⟩ (.int .i64 p)).setCell ⟨w.heap.size+1+1,0,none⟩ (.int .i64 e)):=(G4.out.setCell (by simp only; omega) _).setCell (by simp only; omega) _
          show ∃ v,_∧_
          refine ⟨_,parse_results _ _ w.heap.size _ _ #[.string (⟨#[]⟩ : ByteArray),.slice none 0 0,.int .i64 0,.int .i64 0,.int .i64 0,.string (⟨#[]⟩ : ByteArray),.slice none 0 0,.int .i64 0,.int .i64 0,.int .i64 0,.string (⟨#[]⟩ : ByteArray),.slice none 0 0,.int .i64 0,.int .i64 0,.int .i64 0,.string (⟨#[]⟩ : ByteArray),.slice none 0 0,.int .i64 0,.int .i64 0,.int .i64 0,.string (⟨#[]⟩ : ByteArray),.slice none 0 0,.int .i64 0,.int .i64 0,.int .i64 0] _ _ (by kernel_rfl) rfl rfl rfl R1 R2 R3, ?_⟩
          rw [HPE.out]
          exact ⟨R4,rfl⟩
        · skip
          refine wpList_store_row rfl 28 (.tmp 2) (.tmp 14) rfl w.heap.size #[.string (⟨#[]⟩ : ByteArray),.slice none 0 0,.int .i64 0,.int .i64 0,.int .i64 0,.string (⟨#[]⟩ : ByteArray),.slice none 0 0,.int .i64 0,.int .i64 0,.int .i64 0,.string (⟨#[]⟩ : ByteArray),.slice none 0 0,.int .i64 0,.int .i64 0,.int .i64 0,.string (⟨#[]⟩ : ByteArray),.slice none 0 0,.int .i64 0,.int .i64 0,.int .i64 0,.string (⟨#[]⟩ : ByteArray),.slice none 0 0,.int .i64 0,.int .i64 0,.int .i64 0] rfl rfl 28 _ H1.out (by kernel_rfl) rfl (by kernel_rfl) ?_
          have G1 : Hid (Blk (w3.setRow w.heap.size #[.string (⟨#[]⟩ : ByteArray),.slice none 0 0,.int .i64 0,.int .i64 0,.int .i64 0,.string (⟨#[]⟩ : ByteArray),.slice none 0 0,.int .i64 0,.int .i64 0,.int .i64 0,.string (⟨#[]⟩ : ByteArray),.slice none 0 0,.int .i64 0,.int .i64 0,.int .i64 0,.string (⟨#[]⟩ : ByteArray),.slice none 0 0,.int .i64 0,.int .i64 0,.int .i64 0,.string (⟨#[]⟩ : ByteArray),.slice none 0 0,.int .i64 0,.int .i64 0,.int .i64 0]) w.heap.size 28 #[.string (⟨#[]⟩ : ByteArray),.slice none 0 0,.int .i64 0,.int .i64 0,.int .i64 0,.string (⟨#[]⟩ : ByteArray),.slice none 0 0,.int .i64 0,.int .i64 0,.int .i64 0,.string (⟨#[]⟩ : ByteArray),.slice none 0 0,.int .i64 0,.int .i64 0,.int .i64 0,.string (⟨#[]⟩ : ByteArray),.slice none 0 0,.int .i64 0,.int .i64 0,.int .i64 0,.string (⟨#[]⟩ : ByteArray),.slice none 0 0,.int .i64 0,.int .i64 0,.int .i64 0]):=Lib.hid (setRow_heap _ _ _ _ _ _ H1.out)
          have G2 : Hid (Blk (w3.setRow w.heap.size #[.string (⟨#[]⟩ : ByteArray),.slice none 0 0,.int .i64 0,.int .i64 0,.int .i64 0,.string (⟨#[]⟩ : ByteArray),.slice none 0 0,.int .i64 0,.int .i64 0,.int .i64 0,.string (⟨#[]⟩ : ByteArray),.slice none 0 0,.int .i64 0,.int .i64 0,.int .i64 0,.string (⟨#[]⟩ : ByteArray),.slice none 0 0,.int .i64 0,.int .i64 0,.int .i64 0,.string (⟨#[]⟩ : ByteArray),.slice none 0 0,.int .i64 0,.int .i64 0,.int .i64 0]) (w.heap.size+1) 3 #[.int .i64 p]):=Lib.hid ((setRow_other _ _ _ _ hn1).trans H2.out)
          have G3 : Hid (Blk (w3.setRow w.heap.size #[.string (⟨#[]⟩ : ByteArray),.slice none 0 0,.int .i64 0,.int .i64 0,.int .i64 0,.string (⟨#[]⟩ : ByteArray),.slice none 0 0,.int .i64 0,.int .i64 0,.int .i64 0,.string (⟨#[]⟩ : ByteArray),.slice none 0 0,.int .i64 0,.int .i64 0,.int .i64 0,.string (⟨#[]⟩ : ByteArray),.slice none 0 0,.int .i64 0,.int .i64 0,.int .i64 0,.string (⟨#[]⟩ : ByteArray),.slice none 0 0,.int .i64 0,.int .i64 0,.int .i64 0]) (w.heap.size+1+1) 33 #[.int .i64 e]):=Lib.hid ((setRow_other _ _ _ _ hn2).trans H3.out)
          have G4 : Hid (Below w.heap.size w (w3.setRow w.heap.size #[.string (⟨#[]⟩ : ByteArray),.slice none 0 0,.int .i64 0,.int .i64 0,.int .i64 0,.string (⟨#[]⟩ : ByteArray),.slice none 0 0,.int .i64 0,.int .i64 0,.int .i64 0,.string (⟨#[]⟩ : ByteArray),.slice none 0 0,.int .i64 0,.int .i64 0,.int .i64 0,.string (⟨#[]⟩ : ByteArray),.slice none 0 0,.int .i64 0,.int .i64 0,.int .i64 0,.string (⟨#[]⟩ : ByteArray),.slice none 0 0,.int .i64 0,.int .i64 0,.int .i64 0])):=Lib.hid (H4.out.trans ⟨rfl,rfl,rfl,by simp [World.setRow],fun k hk=>setRow_other _ _ k _ (by omega)⟩)
          clear H1 H2 H3 H4 p0 pf pz q0 qf qz
          generalize w3.setRow w.heap.size #[.string (⟨#[]⟩ : ByteArray),.slice none 0 0,.int .i64 0,.int .i64 0,.int .i64 0,.string (⟨#[]⟩ : ByteArray),.slice none 0 0,.int .i64 0,.int .i64 0,.int .i64 0,.string (⟨#[]⟩ : ByteArray),.slice none 0 0,.int .i64 0,.int .i64 0,.int .i64 0,.string (⟨#[]⟩ : ByteArray),.slice none 0 0,.int .i64 0,.int .i64 0,.int .i64 0,.string (⟨#[]⟩ : ByteArray),.slice none 0 0,.int .i64 0,.int .i64 0,.int .i64 0]=w4 at *
          obtain ⟨p0,pf,pz⟩:=G2.out.b1
          obtain ⟨q0,qf,qz⟩:=G3.out.b1
          go_wp2_with fail
          try simp only [QT]
          try (with_reducible refine And.intro (by first | exact trivial | exact fun _=>trivial) ?_)
          refine wpAnyT_next (i:=1) (by kernel_rfl) rfl ?_
          go_wp2_with fail
          try simp only [QT]
          try (with_reducible refine And.intro (by first | exact trivial | exact fun _=>trivial) ?_)
          refine wpAnyT_next (i:=4) (by kernel_rfl) rfl ?_
          go_wp2_with fail
          try simp only [QT]
          try (with_reducible refine And.intro (by first | exact trivial | exact fun _=>trivial) ?_)
          refine wpAnyT_next (i:=5) (by kernel_rfl) rfl ?_
          go_wp2_with fail
          try simp only [QT]
          try (with_reducible refine And.intro (by first | exact trivial | exact fun _=>trivial) ?_)
          refine wpAnyT_done (by kernel_rfl) ?_ _
          go_wp2_with fail
          have R1 : Blk ((w4.setCell ⟨w.heap.size+1,0,none⟩ (.int .i64 p)).setCell ⟨w.heap.size+1+1,0,none⟩ (.int .i64 e)) w.heap.size 28 #[.string (⟨#[]⟩ : ByteArray),.slice none 0 0,.int .i64 0,.int .i64 0,.int .i64 0,.string (⟨#[]⟩ : ByteArray),.slice none 0 0,.int .i64 0,.int .i64 0,.int .i64 0,.string (⟨#[]⟩ : ByteArray),.slice none 0 0,.int .i64 0,.int .i64 0,.int .i64 0,.string (⟨#[]⟩ : ByteArray),.slice none 0 0,.int .i64 0,.int .i64 0,.int .i64 0,.string (⟨#[]⟩ : ByteArray),.slice none 0 0,.int .i64 0,.int .i64 0,.int .i64 0]:=(G1.out.far (Ne.symm hn1) _).far (Ne.symm hn2) _
          have R2 : Blk ((w4.setCell ⟨w.heap.size+1,0,none⟩ (.int .i64 p)).setCell ⟨w.heap.size+1+1,0,none⟩ (.int .i64 e)) (w.heap.size+1) 3 #[.int .i64 p]:=by simpa using ((G2.out.set_ 0 (.int .i64 p)).far (p:=⟨w.heap.size+1+1,0,none⟩) (by simp only; omega) (.int .i64 e))
          have R3 : Blk ((w4.setCell ⟨w.heap.size+1,0,none⟩ (.int .i64 p)).setCell ⟨w.heap.size+1+1,0,none⟩ (.int .i64 e)) (w.heap.size+1+1) 33 #[.int .i64 e]:=by simpa using ((G3.out.far (p:=⟨w.heap.size+1,0,none⟩) (by simp only; omega) (.int .i64 p)).set_ 0 (.int .i64 e))
          have R4 : Below w.heap.size w ((w4.setCell ⟨w.heap.size+1,0,none⟩ (.int .i64 p)).setCell ⟨w.heap.size+1+1,0,none⟩ (.int .i64 e)):=(G4.out.setCell (by simp only; omega) _).setCell (by simp only; omega) _
          show ∃ v,_∧_
          refine ⟨_,parse_results _ _ w.heap.size _ _ #[.string (⟨#[]⟩ : ByteArray),.slice none 0 0,.int .i64 0,.int .i64 0,.int .i64 0,.string (⟨#[]⟩ : ByteArray),.slice none 0 0,.int .i64 0,.int .i64 0,.int .i64 0,.string (⟨#[]⟩ : ByteArray),.slice none 0 0,.int .i64 0,.int .i64 0,.int .i64 0,.string (⟨#[]⟩ : ByteArray),.slice none 0 0,.int .i64 0,.int .i64 0,.int .i64 0,.string (⟨#[]⟩ : ByteArray),.slice none 0 0,.int .i64 0,.int .i64 0,.int .i64 0] _ _ (by kernel_rfl) rfl rfl rfl R1 R2 R3, ?_⟩
          rw [HPE.out]
          exact ⟨R4,rfl⟩
    · skip
      go_wp2_with fail
      try simp only [QT]
      try (with_reducible refine And.intro (by first | exact trivial | exact fun _=>trivial) ?_)
      refine wpAnyT_two (i:=0) (j:=2) (by kernel_rfl) rfl rfl ?_ ?_
      · skip
        go_wp2_with fail
        try simp only [QT]
        try (with_reducible refine And.intro (by first | exact trivial | exact fun _=>trivial) ?_)
        refine wpAnyT_next (i:=2) (by kernel_rfl) rfl ?_
        go_wp2_with fail
        try simp only [QT]
        try (with_reducible refine And.intro (by first | exact trivial | exact fun _=>trivial) ?_)
        refine wpAnyT_next (i:=3) (by kernel_rfl) rfl ?_
        refine wpList_store_row rfl 28 (.tmp 2) (.tmp 14) rfl w.heap.size #[.string (⟨#[]⟩ : ByteArray),.slice none 0 0,.int .i64 0,.int .i64 0,.int .i64 0,.string (⟨#[]⟩ : ByteArray),.slice none 0 0,.int .i64 0,.int .i64 0,.int .i64 0,.string (⟨#[]⟩ : ByteArray),.slice none 0 0,.int .i64 0,.int .i64 0,.int .i64 0,.string (⟨#[]⟩ : ByteArray),.slice none 0 0,.int .i64 0,.int .i64 0,.int .i64 0,.string (⟨#[]⟩ : ByteArray),.slice none 0 0,.int .i64 0,.int .i64 0,.int .i64 0] rfl rfl 28 _ H1.out (by kernel_rfl) rfl (by kernel_rfl) ?_
        have G1 : Hid (Blk (w3.setRow w.heap.size #[.string (⟨#[]⟩ : ByteArray),.slice none 0 0,.int .i64 0,.int .i64 0,.int .i64 0,.string (⟨#[]⟩ : ByteArray),.slice none 0 0,.int .i64 0,.int .i64 0,.int .i64 0,.string (⟨#[]⟩ : ByteArray),.slice none 0 0,.int .i64 0,.int .i64 0,.int .i64 0,.string (⟨#[]⟩ : ByteArray),.slice none 0 0,.int .i64 0,.int .i64 0,.int .i64 0,.string (⟨#[]⟩ : ByteArray),.slice none 0 0,.int .i64 0,.int .i64 0,.int .i64 0]) w.heap.size 28 #[.string (⟨#[]⟩ : ByteArray),.slice none 0 0,.int .i64 0,.int .i64 0,.int .i64 0,.string (⟨#[]⟩ : ByteArray),.slice none 0 0,.int .i64 0,.int .i64 0,.int .i64 0,.string (⟨#[]⟩ : ByteArray),.slice none 0 0,.int .i64 0,.int .i64 0,.int .i64 0,.string (⟨#[]⟩ : ByteArray),.slice none 0 0,.int .i64 0,.int .i64 0,.int .i64 0,.string (⟨#[]⟩ : ByteArray),.slice none 0 0,.int .i64 0,.int .i64 0,.int .i64 0]):=Lib.hid (setRow_heap _ _ _ _ _ _ H1.out)
        have G2 : Hid (Blk (w3.setRow w.heap.size #[.string (⟨#[]⟩ : ByteArray),.slice none 0 0,.int .i64 0,.int .i64 0,.int .i64 0,.string (⟨#[]⟩ : ByteArray),.slice none 0 0,.int .i64 0,.int .i64 0,.int .i64 0,.string (⟨#[]⟩ : ByteArray),.slice none 0 0,.int .i64 0,.int .i64 0,.int .i64 0,.string (⟨#[]⟩ : ByteArray),.slice none 0 0,.int .i64 0,.int .i64 0,.int .i64 0,.string (⟨#[]⟩ : ByteArray),.slice none 0 0,.int .i64 0,.int .i64 0,.int .i64 0]) (w.heap.size+1) 3 #[.int .i64 p]):=Lib.hid ((setRow_other _ _ _ _ hn1).trans H2.out)
        have G3 : Hid (Blk (w3.setRow w.heap.size #[.string (⟨#[]⟩ : ByteArray),.slice none 0 0,.int .i64 0,.int .i64 0,.int .i64 0,.string (⟨#[]⟩ : ByteArray),.slice none 0 0,.int .i64 0,.int .i64 0,.int .i64 0,.string (⟨#[]⟩ : ByteArray),.slice none 0 0,.int .i64 0,.int .i64 0,.int .i64 0,.string (⟨#[]⟩ : ByteArray),.slice none 0 0,.int .i64 0,.int .i64 0,.int .i64 0,.string (⟨#[]⟩ : ByteArray),.slice none 0 0,.int .i64 0,.int .i64 0,.int .i64 0]) (w.heap.size+1+1) 33 #[.int .i64 e]):=Lib.hid ((setRow_other _ _ _ _ hn2).trans H3.out)
        have G4 : Hid (Below w.heap.size w (w3.setRow w.heap.size #[.string (⟨#[]⟩ : ByteArray),.slice none 0 0,.int .i64 0,.int .i64 0,.int .i64 0,.string (⟨#[]⟩ : ByteArray),.slice none 0 0,.int .i64 0,.int .i64 0,.int .i64 0,.string (⟨#[]⟩ : ByteArray),.slice none 0 0,.int .i64 0,.int .i64 0,.int .i64 0,.string (⟨#[]⟩ : ByteArray),.slice none 0 0,.int .i64 0,.int .i64 0,.int .i64 0,.string (⟨#[]⟩ : ByteArray),.slice none 0 0,.int .i64 0,.int .i64 0,.int .i64 0])):=Lib.hid (H4.out.trans ⟨rfl,rfl,rfl,by simp [World.setRow],fun k hk=>setRow_other _ _ k _ (by omega)⟩)
        clear H1 H2 H3 H4 p0 pf pz q0 qf qz
        generalize w3.setRow w.heap.size #[.string (⟨#[]⟩ : ByteArray),.slice none 0 0,.int .i64 0,.int .i64 0,.int .i64 0,.string (⟨#[]⟩ : ByteArray),.slice none 0 0,.int .i64 0,.int .i64 0,.int .i64 0,.string (⟨#[]⟩ : ByteArray),.slice none 0 0,.int .i64 0,.int .i64 0,.int .i64 0,.string (⟨#[]⟩ : ByteArray),.slice none 0 0,.int .i64 0,.int .i64 0,.int .i64 0,.string (⟨#[]⟩ : ByteArray),.slice none 0 0,.int .i64 0,.int .i64 0,.int .i64 0]=w4 at *
        obtain ⟨p0,pf,pz⟩:=G2.out.b1
        obtain ⟨q0,qf,qz⟩:=G3.out.b1
        go_wp2_with fail
        try simp only [QT]
        try (with_reducible refine And.intro (by first | exact trivial | exact fun _=>trivial) ?_)
        refine wpAnyT_next (i:=4) (by kernel_rfl) rfl ?_
        go_wp2_with fail
        try simp only [QT]
        try (with_reducible refine And.intro (by first | exact trivial | exact fun _=>trivial) ?_)
        refine wpAnyT_next (i:=5) (by kernel_rfl) rfl ?_
        go_wp2_with fail
        try simp only [QT]
        try (with_reducible refine And.intro (by first | exact trivial | exact fun _=>trivial) ?_)
        refine wpAnyT_done (by kernel_rfl) ?_ _
        go_wp2_with fail
        have R1 : Blk ((w4.setCell ⟨w.heap.size+1,0,none⟩ (.int .i64 p)).setCell ⟨w.heap.size+1+1,0,none⟩ (.int .i64 e)) w.heap.size 28 #[.string (⟨#[]⟩ : ByteArray),.slice none 0 0,.int .i64 0,.int .i64 0,.int .i64 0,.string (⟨#[]⟩ : ByteArray),.slice none 0 0,.int .i64 0,.int .i64 0,.int .i64 0,.string (⟨#[]⟩ : ByteArray),.slice none 0 0,.int .i64 0,.int .i64 0,.int .i64 0,.string (⟨#[]⟩ : ByteArray),.slice none 0 0,.int .i64 0,.int .i64 0,.int .i64 0,.string (⟨#[]⟩ : ByteArray),.slice none 0 0,.int .i64 0,.int .i64 0,.int .i64 0]:=(G1.out.far (Ne.symm hn1) _).far (Ne.symm hn2) _
        have R2 : Blk ((w4.setCell ⟨w.heap.size+1,0,none⟩ (.int .i64 p)).setCell ⟨w.heap.size+1+1,0,none⟩ (.int .i64 e)) (w.heap.size+1) 3 #[.int .i64 p]:=by simpa using ((G2.out.set_ 0 (.int .i64 p)).far (p:=⟨w.heap.size+1+1,0,none⟩) (by simp only; omega) (.int .i64 e))
        have R3 : Blk ((w4.setCell ⟨w.heap.size+1,0,none⟩ (.int .i64 p)).setCell ⟨w.heap.size+1+1,0,none⟩ (.int .i64 e)) (w.heap.size+1+1) 33 #[.int .i64 e]:=by simpa using ((G3.out.far (p:=⟨w.heap.size+1,0,none⟩) (by simp only; omega) (.int .i64 p)).set_ 0 (.int .i64 e))
        have R4 : Below w.heap.size w ((w4.setCell ⟨w.heap.size+1,0,none⟩ (.int .i64 p)).setCell ⟨w.heap.size+1+1,0,none⟩ (.int .i64 e)):=(G4.out.setCell (by simp only; omega) _).setCell (by simp only; omega) _
        show ∃ v,_∧_
        refine ⟨_,parse_results _ _ w.heap.size _ _ #[.string (⟨#[]⟩ : ByteArray),.slice none 0 0,.int .i64 0,.int .i64 0,.int .i64 0,.string (⟨#[]⟩ : ByteArray),.slice none 0 0,.int .i64 0,.int .i64 0,.int .i64 0,.string (⟨#[]⟩ : ByteArray),.slice none 0 0,.int .i64 0,.int .i64 0,.int .i64 0,.string (⟨#[]⟩ : ByteArray),.slice none 0 0,.int .i64 0,.int .i64 0,.int .i64 0,.string (⟨#[]⟩ : ByteArray),.slice none 0 0,.int .i64 0,.int .i64 0,.int .i64 0] _ _ (by kernel_rfl) rfl rfl rfl R1 R2 R3, ?_⟩
        rw [HPE.out]
        exact ⟨R4,rfl⟩
      · skip
        go_wp2_with fail
        try simp only [QT]
        try (with_reducible refine And.intro (by first | exact trivial | exact fun _=>trivial) ?_)
        refine wpAnyT_next (i:=0) (by kernel_rfl) rfl ?_
        go_wp2_with fail
        try simp only [QT]
        try (with_reducible refine And.intro (by first | exact trivial | exact fun _=>trivial) ?_)
        refine wpAnyT_next (i:=3) (by kernel_rfl) rfl ?_
        refine wpList_store_row rfl 28 (.tmp 2) (.tmp 14) rfl w.heap.size #[.string (⟨#[]⟩ : ByteArray),.slice none 0 0,.int .i64 0,.int .i64 0,.int .i64 0,.string (⟨#[]⟩ : ByteArray),.slice none 0 0,.int .i64 0,.int .i64 0,.int .i64 0,.string (⟨#[]⟩ : ByteArray),.slice none 0 0,.int .i64 0,.int .i64 0,.int .i64 0,.string (⟨#[]⟩ : ByteArray),.slice none 0 0,.int .i64 0,.int .i64 0,.int .i64 0,.string (⟨#[]⟩ : ByteArray),.slice none 0 0,.int .i64 0,.int .i64 0,.int .i64 0] rfl rfl 28 _ H1.out (by kernel_rfl) rfl (by kernel_rfl) ?_
        have G1 : Hid (Blk (w3.setRow w.heap.size #[.string (⟨#[]⟩ : ByteArray),.slice none 0 0,.int .i64 0,.int .i64 0,.int .i64 0,.string (⟨#[]⟩ : ByteArray),.slice none 0 0,.int .i64 0,.int .i64 0,.int .i64 0,.string (⟨#[]⟩ : ByteArray),.slice none 0 0,.int .i64 0,.int .i64 0,.int .i64 0,.string (⟨#[]⟩ : ByteArray),.slice none 0 0,.int .i64 0,.int .i64 0,.int .i64 0,.string (⟨#[]⟩ : ByteArray),.slice none 0 0,.int .i64 0,.int .i64 0,.int .i64 0]) w.heap.size 28 #[.string (⟨#[]⟩ : ByteArray),.slice none 0 0,.int .i64 0,.int .i64 0,.int .i64 0,.string (⟨#[]⟩ : ByteArray),.slice none 0 0,.int .i64 0,.int .i64 0,.int .i64 0,.string (⟨#[]⟩ : ByteArray),.slice none 0 0,.int .i64 0,.int .i64 0,.int .i64 0,.string (⟨#[]⟩ : ByteArray),.slice none 0 0,.int .i64 0,.int .i64 0,.int .i64 0,.string (⟨#[]⟩ : ByteArray),.slice none 0 0,.int .i64 0,.int .i64 0,.int .i64 0]):=Lib.hid (setRow_heap _ _ _ _ _ _ H1.out)
        have G2 : Hid (Blk (w3.setRow w.heap.size #[.string (⟨#[]⟩ : ByteArray),.slice none 0 0,.int .i64 0,.int .i64 0,.int .i64 0,.string (⟨#[]⟩ : ByteArray),.slice none 0 0,.int .i64 0,.int .i64 0,.int .i64 0,.string (⟨#[]⟩ : ByteArray),.slice none 0 0,.int .i64 0,.int .i64 0,.int .i64 0,.string (⟨#[]⟩ : ByteArray),.slice none 0 0,.int .i64 0,.int .i64 0,.int .i64 0,.string (⟨#[]⟩ : ByteArray),.slice none 0 0,.int .i64 0,.int .i64 0,.int .i64 0]) (w.heap.size+1) 3 #[.int .i64 p]):=Lib.hid ((setRow_other _ _ _ _ hn1).trans H2.out)
        have G3 : Hid (Blk (w3.setRow w.heap.size #[.string (⟨#[]⟩ : ByteArray),.slice none 0 0,.int .i64 0,.int .i64 0,.int .i64 0,.string (⟨#[]⟩ : ByteArray),.slice none 0 0,.int .i64 0,.int .i64 0,.int .i64 0,.string (⟨#[]⟩ : ByteArray),.slice none 0 0,.int .i64 0,.int .i64 0,.int .i64 0,.string (⟨#[]⟩ : ByteArray),.slice none 0 0,.int .i64 0,.int .i64 0,.int .i64 0,.string (⟨#[]⟩ : ByteArray),.slice none 0 0,.int .i64 0,.int .i64 0,.int .i64 0]) (w.heap.size+1+1) 33 #[.int .i64 e]):=Lib.hid ((setRow_other _ _ _ _ hn2).trans H3.out)
        have G4 : Hid (Below w.heap.size w (w3.setRow w.heap.size #[.string (⟨#[]⟩ : ByteArray),.slice none 0 0,.int .i64 0,.int .i64 0,.int .i64 0,.string (⟨#[]⟩ : ByteArray),.slice none 0 0,.int .i64 0,.int .i64 0,.int .i64 0,.string (⟨#[]⟩ : ByteArray),.slice none 0 0,.int .i64 0,.int .i64 0,.int .i64 0,.string (⟨#[]⟩ : ByteArray),.slice none 0 0,.int .i64 0,.int .i64 0,.int .i64 0,.string (⟨#[]⟩ : ByteArray),.slice none 0 0,.int .i64 0,.int .i64 0,.int .i64 0])):=Lib.hid (H4.out.trans ⟨rfl,rfl,rfl,by simp [World.setRow],fun k hk=>setRow_other _ _ k _ (by omega)⟩)
        clear H1 H2 H3 H4 p0 pf pz q0 qf qz
        generalize w3.setRow w.heap.size #[.string (⟨#[]⟩ : ByteArray),.slice none 0 0,.int .i64 0,.int .i64 0,.int .i64 0,.string (⟨#[]⟩ : ByteArray),.slice none 0 0,.int .i64 0,.int .i64 0,.int .i64 0,.string (⟨#[]⟩ : ByteArray),.slice none 0 0,.int .i64 0,.int .i64 0,.int .i64 0,.string (⟨#[]⟩ : ByteArray),.slice none 0 0,.int .i64 0,.int .i64 0,.int .i64 0,.string (⟨#[]⟩ : ByteArray),.slice none 0 0,.int .i64 0,.int .i64 0,.int .i64 0]=w4 at *
        obtain ⟨p0,pf,pz⟩:=G2.out.b1
        obtain ⟨q0,qf,qz⟩:=G3.out.b1
        go_wp2_with fail
        try simp only [QT]
        try (with_reducible refine And.intro (by first | exact trivial | exact fun _=>trivial) ?_)
        refine wpAnyT_next (i:=4) (by kernel_rfl) rfl ?_
        go_wp2_with fail
        try simp only [QT]
        try (with_reducible refine And.intro (by first | exact trivial | exact fun _=>trivial) ?_)
        refine wpAnyT_next (i:=5) (by kernel_rfl) rfl ?_
        go_wp2_with fail
        try simp only [QT]
        try (with_reducible refine And.intro (by first | exact trivial | exact fun _=>trivial) ?_)
        refine wpAnyT_done (by kernel_rfl) ?_ _
        go_wp2_with fail
        have R1 : Blk ((w4.setCell ⟨w.heap.size+1,0,none⟩ (.int .i64 p)).setCell ⟨w.heap.size+1+1,0,none⟩ (.int .i64 e)) w.heap.size 28 #[.string (⟨#[]⟩ : ByteArray),.slice none 0 0,.int .i64 0,.int .i64 0,.int .i64 0,.string (⟨#[]⟩ : ByteArray),.slice none 0 0,.int .i64 0,.int .i64 0,.int .i64 0,.string (⟨#[]⟩ : ByteArray),.slice none 0 0,.int .i64 0,.int .i64 0,.int .i64 0,.string (⟨#[]⟩ : ByteArray),.slice none 0 0,.int .i64 0,.int .i64 0,.int .i64 0,.string (⟨#[]⟩ : ByteArray),.slice none 0 0,.int .i64 0,.int .i64 0,.int .i64 0]:=(G1.out.far (Ne.symm hn1) _).far (Ne.symm hn2) _
        have R2 : Blk ((w4.setCell ⟨w.heap.size+1,0,none⟩ (.int .i64 p)).setCell ⟨w.heap.size+1+1,0,none⟩ (.int .i64 e)) (w.heap.size+1) 3 #[.int .i64 p]:=by simpa using ((G2.out.set_ 0 (.int .i64 p)).far (p:=⟨w.heap.size+1+1,0,none⟩) (by simp only; omega) (.int .i64 e))
        have R3 : Blk ((w4.setCell ⟨w.heap.size+1,0,none⟩ (.int .i64 p)).setCell ⟨w.heap.size+1+1,0,none⟩ (.int .i64 e)) (w.heap.size+1+1) 33 #[.int .i64 e]:=by simpa using ((G3.out.far (p:=⟨w.heap.size+1,0,none⟩) (by simp only; omega) (.int .i64 p)).set_ 0 (.int .i64 e))
        have R4 : Below w.heap.size w ((w4.setCell ⟨w.heap.size+1,0,none⟩ (.int .i64 p)).setCell ⟨w.heap.size+1+1,0,none⟩ (.int .i64 e)):=(G4.out.setCell (by simp only; omega) _).setCell (by simp only; omega) _
        show ∃ v,_∧_
        refine ⟨_,parse_results _ _ w.heap.size _ _ #[.string (⟨#[]⟩ : ByteArray),.slice none 0 0,.int .i64 0,.int .i64 0,.int .i64 0,.string (⟨#[]⟩ : ByteArray),.slice none 0 0,.int .i64 0,.int .i64 0,.int .i64 0,.string (⟨#[]⟩ : ByteArray),.slice none 0 0,.int .i64 0,.int .i64 0,.int .i64 0,.string (⟨#[]⟩ : ByteArray),.slice none 0 0,.int .i64 0,.int .i64 0,.int .i64 0,.string (⟨#[]⟩ : ByteArray),.slice none 0 0,.int .i64 0,.int .i64 0,.int .i64 0] _ _ (by kernel_rfl) rfl rfl rfl R1 R2 R3, ?_⟩
        rw [HPE.out]
        exact ⟨R4,rfl⟩
    · skip
      go_wp2_with fail
      try simp only [QT]
      try (with_reducible refine And.intro (by first | exact trivial | exact fun _=>trivial) ?_)
      refine wpAnyT_two (i:=0) (j:=1) (by kernel_rfl) rfl rfl ?_ ?_
      · skip
        go_wp2_with fail
        try simp only [QT]
        try (with_reducible refine And.intro (by first | exact trivial | exact fun _=>trivial) ?_)
        refine wpAnyT_two (i:=1) (j:=3) (by kernel_rfl) rfl rfl ?_ ?_
        · skip
          go_wp2_with fail
          try simp only [QT]
          try (with_reducible refine And.intro (by first | exact trivial | exact fun _=>trivial) ?_)
          refine wpAnyT_next (i:=3) (by kernel_rfl) rfl ?_
          refine wpList_store_row rfl 28 (.tmp 2) (.tmp 14) rfl w.heap.size #[.string (⟨#[]⟩ : ByteArray),.slice none 0 0,.int .i64 0,.int .i64 0,.int .i64 0,.string (⟨#[]⟩ : ByteArray),.slice none 0 0,.int .i64 0,.int .i64 0,.int .i64 0,.string (⟨#[]⟩ : ByteArray),.slice none 0 0,.int .i64 0,.int .i64 0,.int .i64 0,.string (⟨#[]⟩ : ByteArray),.slice none 0 0,.int .i64 0,.int .i64 0,.int .i64 0,.string (⟨#[]⟩ : ByteArray),.slice none 0 0,.int .i64 0,.int .i64 0,.int .i64 0] rfl rfl 28 _ H1.out (by kernel_rfl) rfl (by kernel_rfl) ?_
          have G1 : Hid (Blk (w3.setRow w.heap.size #[.string (⟨#[]⟩ : ByteArray),.slice none 0 0,.int .i64 0,.int .i64 0,.int .i64 0,.string (⟨#[]⟩ : ByteArray),.slice none 0 0,.int .i64 0,.int .i64 0,.int .i64 0,.string (⟨#[]⟩ : ByteArray),.slice none 0 0,.int .i64 0,.int .i64 0,.int .i64 0,.string (⟨#[]⟩ : ByteArray),.slice none 0 0,.int .i64 0,.int .i64 0,.int .i64 0,.string (⟨#[]⟩ : ByteArray),.slice none 0 0,.int .i64 0,.int .i64 0,.int .i64 0]) w.heap.size 28 #[.string (⟨#[]⟩ : ByteArray),.slice none 0 0,.int .i64 0,.int .i64 0,.int .i64 0,.string (⟨#[]⟩ : ByteArray),.slice none 0 0,.int .i64 0,.int .i64 0,.int .i64 0,.string (⟨#[]⟩ : ByteArray),.slice none 0 0,.int .i64 0,.int .i64 0,.int .i64 0,.string (⟨#[]⟩ : ByteArray),.slice none 0 0,.int .i64 0,.int .i64 0,.int .i64 0,.string (⟨#[]⟩ : ByteArray),.slice none 0 0,.int .i64 0,.int .i64 0,.int .i64 0]):=Lib.hid (setRow_heap _ _ _ _ _ _ H1.out)
          have G2 : Hid (Blk (w3.setRow w.heap.size #[.string (⟨#[]⟩ : ByteArray),.slice none 0 0,.int .i64 0,.int .i64 0,.int .i64 0,.string (⟨#[]⟩ : ByteArray),.slice none 0 0,.int .i64 0,.int .i64 0,.int .i64 0,.string (⟨#[]⟩ : ByteArray),.slice none 0 0,.int .i64 0,.int .i64 0,.int .i64 0,.string (⟨#[]⟩ : ByteArray),.slice none 0 0,.int .i64 0,.int .i64 0,.int .i64 0,.string (⟨#[]⟩ : ByteArray),.slice none 0 0,.int .i64 0,.int .i64 0,.int .i64 0]) (w.heap.size+1) 3 #[.int .i64 p]):=Lib.hid ((setRow_other _ _ _ _ hn1).trans H2.out)
          have G3 : Hid (Blk (w3.setRow w.heap.size #[.string (⟨#[]⟩ : ByteArray),.slice none 0 0,.int .i64 0,.int .i64 0,.int .i64 0,.string (⟨#[]⟩ : ByteArray),.slice none 0 0,.int .i64 0,.int .i64 0,.int .i64 0,.string (⟨#[]⟩ : ByteArray),.slice none 0 0,.int .i64 0,.int .i64 0,.int .i64 0,.string (⟨#[]⟩ : ByteArray),.slice none 0 0,.int .i64 0,.int .i64 0,.int .i64 0,.string (⟨#[]⟩ : ByteArray),.slice none 0 0,.int .i64 0,.int .i64 0,.int .i64 0]) (w.heap.size+1+1) 33 #[.int .i64 e]):=Lib.hid ((setRow_other _ _ _ _ hn2).trans H3.out)
          have G4 : Hid (Below w.heap.size w (w3.setRow w.heap.size #[.string (⟨#[]⟩ : ByteArray),.slice none 0 0,.int .i64 0,.int .i64 0,.int .i64 0,.string (⟨#[]⟩ : ByteArray),.slice none 0 0,.int .i64 0,.int .i64 0,.int .i64 0,.string (⟨#[]⟩ : ByteArray),.slice none 0 0,.int .i64 0,.int .i64 0,.int .i64 0,.string (⟨#[]⟩ : ByteArray),.slice none 0 0,.int .i64 0,.int .i64 0,.int .i64 0,.string (⟨#[]⟩ : ByteArray),.slice none 0 0,.int .i64 0,.int .i64 0,.int .i64 0])):=Lib.hid (H4.out.trans ⟨rfl,rfl,rfl,by simp [World.setRow],fun k hk=>setRow_other _ _ k _ (by omega)⟩)
          clear H1 H2 H3 H4 p0 pf pz q0 qf qz
          generalize w3.setRow w.heap.size #[.string (⟨#[]⟩ : ByteArray),.slice none 0 0,.int .i64 0,.int .i64 0,.int .i64 0,.string (⟨#[]⟩ : ByteArray),.slice none 0 0,.int .i64 0,.int .i64 0,.int .i64 0,.string (⟨#[]⟩ : ByteArray),.slice none 0 0,.int .i64 0,.int .i64 0,.int .i64 0,.string (⟨#[]⟩ : ByteArray),.slice none 0 0,.int .i64 0,.int .i64 0,.int .i64 0,.string (⟨#[]⟩ : ByteArray),.slice none 0 0,.int .i64 0,.int .i64 0,.int .i64 0]=w4 at *
          obtain ⟨p0,pf,pz⟩:=G2.out.b1
          obtain ⟨q0,qf,qz⟩:=G3.out.b1
          go_wp2_with fail
          try simp only [QT]
          try (with_reducible refine And.intro (by first | exact trivial | exact fun _=>trivial) ?_)
          refine wpAnyT_next (i:=4) (by kernel_rfl) rfl ?_
          go_wp2_with fail
          try simp only [QT]
          try (with_reducible refine And.intro (by first | exact trivial | exact fun _=>trivial) ?_)
          refine wpAnyT_next (i:=5) (by kernel_rfl) rfl ?_
          go_wp2_with fail
          try simp only [QT]
          try (with_reducible refine And.intro (by first | exact trivial | exact fun _=>trivial) ?_)
          refine wpAnyT_done (by kernel_rfl) ?_ _
          go_wp2_with fail
          have R1 : Blk ((w4.setCell ⟨w.heap.size+1,0,none⟩ (.int .i64 p)).setCell ⟨w.heap.size+1+1,0,none⟩ (.int .i64 e)) w.heap.size 28 #[.string (⟨#[]⟩ : ByteArray),.slice none 0 0,.int .i64 0,.int .i64 0,.int .i64 0,.string (⟨#[]⟩ : ByteArray),.slice none 0 0,.int .i64 0,.int .i64 0,.int .i64 0,.string (⟨#[]⟩ : ByteArray),.slice none 0 0,.int .i64 0,.int .i64 0,.int .i64 0,.string (⟨#[]⟩ : ByteArray),.slice none 0 0,.int .i64 0,.int .i64 0,.int .i64 0,.string (⟨#[]⟩ : ByteArray),.slice none 0 0,.int .i64 0,.int .i64 0,.int .i64 0]:=(G1.out.far (Ne.symm hn1) _).far (Ne.symm hn2) _
          have R2 : Blk ((w4.setCell ⟨w.heap.size+1,0,none⟩ (.int .i64 p)).setCell ⟨w.heap.size+1+1,0,none⟩ (.int .i64 e)) (w.heap.size+1) 3 #[.int .i64 p]:=by simpa using ((G2.out.set_ 0 (.int .i64 p)).far (p:=⟨w.heap.size+1+1,0,none⟩) (by simp only; omega) (.int .i64 e))
          have R3 : Blk ((w4.setCell ⟨w.heap.size+1,0,none⟩ (.int .i64 p)).setCell ⟨w.heap.size+1+1,0,none⟩ (.int .i64 e)) (w.heap.size+1+1) 33 #[.int .i64 e]:=by simpa using ((G3.out.far (p:=⟨w.heap.size+1,0,none⟩) (by simp only; omega) (.int .i64 p)).set_ 0 (.int .i64 e))
          have R4 : Below w.heap.size w ((w4.setCell ⟨w.heap.size+1,0,none⟩ (.int .i64 p)).setCell ⟨w.heap.size+1+1,0,none⟩ (.int .i64 e)):=(G4.out.setCell (by simp only; omega) _).setCell (by simp only; omega) _
          show ∃ v,_∧_
          refine ⟨_,parse_results _ _ w.heap.size _ _ #[.string (⟨#[]⟩ : ByteArray),.slice none 0 0,.int .i64 0,.int .i64 0,.int .i64 0,.string (⟨#[]⟩ : ByteArray),.slice none 0 0,.int .i64 0,.int .i64 0,.int .i64 0,.string (⟨#[]⟩ : ByteArray),.slice none 0 0,.int .i64 0,.int .i64 0,.int .i64 0,.string (⟨#[]⟩ : ByteArray),.slice none 0 0,.int .i64 0,.int .i64 0,.int .i64 0,.string (⟨#[]⟩ : ByteArray),.slice none 0 0,.int .i64 0,.int .i64 0,.int .i64 0] _ _ (by kernel_rfl) rfl rfl rfl R1 R2 R3, ?_⟩
          rw [HPE.out]
          exact ⟨R4,rfl⟩
        · skip
          refine wpList_store_row rfl 28 (.tmp 2) (.tmp 14) rfl w.heap.size #[.string (⟨#[]⟩ : ByteArray),.slice none 0 0,.int .i64 0,.int .i64 0,.int .i64 0,.string (⟨#[]⟩ : ByteArray),.slice none 0 0,.int .i64 0,.int .i64 0,.int .i64 0,.string (⟨#[]⟩ : ByteArray),.slice none 0 0,.int .i64 0,.int .i64 0,.int .i64 0,.string (⟨#[]⟩ : ByteArray),.slice none 0 0,.int .i64 0,.int .i64 0,.int .i64 0,.string (⟨#[]⟩ : ByteArray),.slice none 0 0,.int .i64 0,.int .i64 0,.int .i64 0] rfl rfl 28 _ H1.out (by kernel_rfl) rfl (by kernel_rfl) ?_
          have G1 : Hid (Blk (w3.setRow w.heap.size #[.string (⟨#[]⟩ : ByteArray),.slice none 0 0,.int .i64 0,.int .i64 0,.int .i64 0,.string (⟨#[]⟩ : ByteArray),.slice none 0 0,.int .i64 0,.int .i64 0,.int .i64 0,.string (⟨#[]⟩ : ByteArray),.slice none 0 0,.int .i64 0,.int .i64 0,.int .i64 0,.string (⟨#[]⟩ : ByteArray),.slice none 0 0,.int .i64 0,.int .i64 0,.int .i64 0,.string (⟨#[]⟩ : ByteArray),.slice none 0 0,.int .i64 0,.int .i64 0,.int .i64 0]) w.heap.size 28 #[.string (⟨#[]⟩ : ByteArray),.slice none 0 0,.int .i64 0,.int .i64 0,.int .i64 0,.string (⟨#[]⟩ : ByteArray),.slice none 0 0,.int .i64 0,.int .i64 0,.int .i64 0,.string (⟨#[]⟩ : ByteArray),.slice none 0 0,.int .i64 0,.int .i64 0,.int .i64 0,.string (⟨#[]⟩ : ByteArray),.slice none 0 0,.int .i64 0,.int .i64 0,.int .i64 0,.string (⟨#[]⟩ : ByteArray),.slice none 0 0,.int .i64 0,.int .i64 0,.int .i64 0]):=Lib.hid (setRow_heap _ _ _ _ _ _ H1.out)
          have G2 : Hid (Blk (w3.setRow w.heap.size #[.string (⟨#[]⟩ : ByteArray),.slice none 0 0,.int .i64 0,.int .i64 0,.int .i64 0,.string (⟨#[]⟩ : ByteArray),.slice none 0 0,.int .i64 0,.int .i64 0,.int .i64 0,.string (⟨#[]⟩ : ByteArray),.slice none 0 0,.int .i64 0,.int .i64 0,.int .i64 0,.string (⟨#[]⟩ : ByteArray),.slice none 0 0,.int .i64 0,.int .i64 0,.int .i64 0,.string (⟨#[]⟩ : ByteArray),.slice none 0 0,.int .i64 0,.int .i64 0,.int .i64 0]) (w.heap.size+1) 3 #[.int .i64 p]):=Lib.hid ((setRow_other _ _ _ _ hn1).trans H2.out)
          have G3 : Hid (Blk (w3.setRow w.heap.size #[.string (⟨#[]⟩ : ByteArray),.slice none 0 0,.int .i64 0,.int .i64 0,.int .i64 0,.string (⟨#[]⟩ : ByteArray),.slice none 0 0,.int .i64 0,.int .i64 0,.int .i64 0,.string (⟨#[]⟩ : ByteArray),.slice none 0 0,.int .i64 0,.int .i64 0,.int .i64 0,.string (⟨#[]⟩ : ByteArray),.slice none 0 0,.int .i64 0,.int .i64 0,.int .i64 0,.string (⟨#[]⟩ : ByteArray),.slice none 0 0,.int .i64 0,.int .i64 0,.int .i64 0]) (w.heap.size+1+1) 33 #[.int .i64 e]):=Lib.hid ((setRow_other _ _ _ _ hn2).trans H3.out)
          have G4 : Hid (Below w.heap.size w (w3.setRow w.heap.size #[.string (⟨#[]⟩ : ByteArray),.slice none 0 0,.int .i64 0,.int .i64 0,.int .i64 0,.string (⟨#[]⟩ : ByteArray),.slice none 0 0,.int .i64 0,.int .i64 0,.int .i64 0,.string (⟨#[]⟩ : ByteArray),.slice none 0 0,.int .i64 0,.int .i64 0,.int .i64 0,.string (⟨#[]⟩ : ByteArray),.slice none 0 0,.int .i64 0,.int .i64 0,.int .i64 0,.string (⟨#[]⟩ : ByteArray),.slice none 0 0,.int .i64 0,.int .i64 0,.int .i64 0])):=Lib.hid (H4.out.trans ⟨rfl,rfl,rfl,by simp [World.setRow],fun k hk=>setRow_other _ _ k _ (by omega)⟩)
          clear H1 H2 H3 H4 p0 pf pz q0 qf qz
          generalize w3.setRow w.heap.size #[.string (⟨#[]⟩ : ByteArray),.slice none 0 0,.int .i64 0,.int .i64 0,.int .i64 0,.string (⟨#[]⟩ : ByteArray),.slice none 0 0,.int .i64 0,.int .i64 0,.int .i64 0,.string (⟨#[]⟩ : ByteArray),.slice none 0 0,.int .i64 0,.int .i64 0,.int .i64 0,.string (⟨#[]⟩ : ByteArray),.slice none 0 0,.int .i64 0,.int .i64 0,.int .i64 0,.string (⟨#[]⟩ : ByteArray),.slice none 0 0,.int .i64 0,.int .i64 0,.int .i64 0]=w4 at *
          obtain ⟨p0,pf,pz⟩:=G2.out.b1
          obtain ⟨q0,qf,qz⟩:=G3.out.b1
          go_wp2_with fail
          try simp only [QT]
          try (with_reducible refine And.intro (by first | exact trivial | exact fun _=>trivial) ?_)
          refine wpAnyT_next (i:=1) (by kernel_rfl) rfl ?_
          go_wp2_with fail
          try simp only [QT]
          try (with_reducible refine And.intro (by first | exact trivial | exact fun _=>trivial) ?_)
          refine wpAnyT_next (i:=4) (by kernel_rfl) rfl ?_
          go_wp2_with fail
          try simp only [QT]
          try (with_reducible refine And.intro (by first | exact trivial | exact fun _=>trivial) ?_)
          refine wpAnyT_next (i:=5) (by kernel_rfl) rfl ?_
          go_wp2_with fail
          try simp only [QT]
          try (with_reducible refine And.intro (by first | exact trivial | exact fun _=>trivial) ?_)
          refine wpAnyT_done (by kernel_rfl) ?_ _
          go_wp2_with fail
          have R1 : Blk ((w4.setCell ⟨w.heap.size+1,0,none⟩ (.int .i64 p)).setCell ⟨w.heap.size+1+1,0,none⟩ (.int .i64 e)) w.heap.size 28 #[.string (⟨#[]⟩ : ByteArray),.slice none 0 0,.int .i64 0,.int .i64 0,.int .i64 0,.string (⟨#[]⟩ : ByteArray),.slice none 0 0,.int .i64 0,.int .i64 0,.int .i64 0,.string (⟨#[]⟩ : ByteArray),.slice none 0 0,.int .i64 0,.int .i64 0,.int .i64 0,.string (⟨#[]⟩ : ByteArray),.slice none 0 0,.int .i64 0,.int .i64 0,.int .i64 0,.string (⟨#[]⟩ : ByteArray),.slice none 0 0,.int .i64 0,.int .i64 0,.int .i64 0]:=(G1.out.far (Ne.symm hn1) _).far (Ne.symm hn2) _
          have R2 : Blk ((w4.setCell ⟨w.heap.size+1,0,none⟩ (.int .i64 p)).setCell ⟨w.heap.size+1+1,0,none⟩ (.int .i64 e)) (w.heap.size+1) 3 #[.int .i64 p]:=by simpa using ((G2.out.set_ 0 (.int .i64 p)).far (p:=⟨w.heap.size+1+1,0,none⟩) (by simp only; omega) (.int .i64 e))
          have R3 : Blk ((w4.setCell ⟨w.heap.size+1,0,none⟩ (.int .i64 p)).setCell ⟨w.heap.size+1+1,0,none⟩ (.int .i64 e)) (w.heap.size+1+1) 33 #[.int .i64 e]:=by simpa using ((G3.out.far (p:=⟨w.heap.size+1,0,none⟩) (by simp only; omega) (.int .i64 p)).set_ 0 (.int .i64 e))
          have R4 : Below w.heap.size w ((w4.setCell ⟨w.heap.size+1,0,none⟩ (.int .i64 p)).setCell ⟨w.heap.size+1+1,0,none⟩ (.int .i64 e)):=(G4.out.setCell (by simp only; omega) _).setCell (by simp only; omega) _
          show ∃ v,_∧_
          refine ⟨_,parse_results _ _ w.heap.size _ _ #[.string (⟨#[]⟩ : ByteArray),.slice none 0 0,.int .i64 0,.int .i64 0,.int .i64 0,.string (⟨#[]⟩ : ByteArray),.slice none 0 0,.int .i64 0,.int .i64 0,.int .i64 0,.string (⟨#[]⟩ : ByteArray),.slice none 0 0,.int .i64 0,.int .i64 0,.int .i64 0,.string (⟨#[]⟩ : ByteArray),.slice none 0 0,.int .i64 0,.int .i64 0,.int .i64 0,.string (⟨#[]⟩ : ByteArray),.slice none 0 0,.int .i64 0,.int .i64 0,.int .i64 0] _ _ (by kernel_rfl) rfl rfl rfl R1 R2 R3, ?_⟩
          rw [HPE.out]
          exact ⟨R4,rfl⟩
      · skip
        go_wp2_with fail
        try simp only [QT]
        try (with_reducible refine And.intro (by first | exact trivial | exact fun _=>trivial) ?_)
        refine wpAnyT_next (i:=0) (by kernel_rfl) rfl ?_
        go_wp2_with fail
        try simp only [QT]
        try (with_reducible refine And.intro (by first | exact trivial | exact fun _=>trivial) ?_)
        refine wpAnyT_next (i:=3) (by kernel_rfl) rfl ?_
        refine wpList_store_row rfl 28 (.tmp 2) (.tmp 14) rfl w.heap.size #[.string (⟨#[]⟩ : ByteArray),.slice none 0 0,.int .i64 0,.int .i64 0,.int .i64 0,.string (⟨#[]⟩ : ByteArray),.slice none 0 0,.int .i64 0,.int .i64 0,.int .i64 0,.string (⟨#[]⟩ : ByteArray),.slice none 0 0,.int .i64 0,.int .i64 0,.int .i64 0,.string (⟨#[]⟩ : ByteArray),.slice none 0 0,.int .i64 0,.int .i64 0,.int .i64 0,.string (⟨#[]⟩ : ByteArray),.slice none 0 0,.int .i64 0,.int .i64 0,.int .i64 0] rfl rfl 28 _ H1.out (by kernel_rfl) rfl (by kernel_rfl) ?_
        have G1 : Hid (Blk (w3.setRow w.heap.size #[.string (⟨#[]⟩ : ByteArray),.slice none 0 0,.int .i64 0,.int .i64 0,.int .i64 0,.string (⟨#[]⟩ : ByteArray),.slice none 0 0,.int .i64 0,.int .i64 0,.int .i64 0,.string (⟨#[]⟩ : ByteArray),.slice none 0 0,.int .i64 0,.int .i64 0,.int .i64 0,.string (⟨#[]⟩ : ByteArray),.slice none 0 0,.int .i64 0,.int .i64 0,.int .i64 0,.string (⟨#[]⟩ : ByteArray),.slice none 0 0,.int .i64 0,.int .i64 0,.int .i64 0]) w.heap.size 28 #[.string (⟨#[]⟩ : ByteArray),.slice none 0 0,.int .i64 0,.int .i64 0,.int .i64 0,.string (⟨#[]⟩ : ByteArray),.slice none 0 0,.int .i64 0,.int .i64 0,.int .i64 0,.string (⟨#[]⟩ : ByteArray),.slice none 0 0,.int .i64 0,.int .i64 0,.int .i64 0,.string (⟨#[]⟩ : ByteArray),.slice none 0 0,.int .i64 0,.int .i64 0,.int .i64 0,.string (⟨#[]⟩ : ByteArray),.slice none 0 0,.int .i64 0,.int .i64 0,.int .i64 0]):=Lib.hid (setRow_heap _ _ _ _ _ _ H1.out)
        have G2 : Hid (Blk (w3.setRow w.heap.size #[.string (⟨#[]⟩ : ByteArray),.slice none 0 0,.int .i64 0,.int .i64 0,.int .i64 0,.string (⟨#[]⟩ : ByteArray),.slice none 0 0,.int .i64 0,.int .i64 0,.int .i64 0,.string (⟨#[]⟩ : ByteArray),.slice none 0 0,.int .i64 0,.int .i64 0,.int .i64 0,.string (⟨#[]⟩ : ByteArray),.slice none 0 0,.int .i64 0,.int .i64 0,.int .i64 0,.string (⟨#[]⟩ : ByteArray),.slice none 0 0,.int .i64 0,.int .i64 0,.int .i64 0]) (w.heap.size+1) 3 #[.int .i64 p]):=Lib.hid ((setRow_other _ _ _ _ hn1).trans H2.out)
        have G3 : Hid (Blk (w3.setRow w.heap.size #[.string (⟨#[]⟩ : ByteArray),.slice none 0 0,.int .i64 0,.int .i64 0,.int .i64 0,.string (⟨#[]⟩ : ByteArray),.slice none 0 0,.int .i64 0,.int .i64 0,.int .i64 0,.string (⟨#[]⟩ : ByteArray),.slice none 0 0,.int .i64 0,.int .i64 0,.int .i64 0,.string (⟨#[]⟩ : ByteArray),.slice none 0 0,.int .i64 0,.int .i64 0,.int .i64 0,.string (⟨#[]⟩ : ByteArray),.slice none 0 0,.int .i64 0,.int .i64 0,.int .i64 0]) (w.heap.size+1+1) 33 #[.int .i64 e]):=Lib.hid ((setRow_other _ _ _ _ hn2).trans H3.out)
        have G4 : Hid (Below w.heap.size w (w3.setRow w.heap.size #[.string (⟨#[]⟩ : ByteArray),.slice none 0 0,.int .i64 0,.int .i64 0,.int .i64 0,.string (⟨#[]⟩ : ByteArray),.slice none 0 0,.int .i64 0,.int .i64 0,.int .i64 0,.string (⟨#[]⟩ : ByteArray),.slice none 0 0,.int .i64 0,.int .i64 0,.int .i64 0,.string (⟨#[]⟩ : ByteArray),.slice none 0 0,.int .i64 0,.int .i64 0,.int .i64 0,.string (⟨#[]⟩ : ByteArray),.slice none 0 0,.int .i64 0,.int .i64 0,.int .i64 0])):=Lib.hid (H4.out.trans ⟨rfl,rfl,rfl,by simp [World.setRow],fun k hk=>setRow_other _ _ k _ (by omega)⟩)
        clear H1 H2 H3 H4 p0 pf pz q0 qf qz
        generalize w3.setRow w.heap.size #[.string (⟨#[]⟩ : ByteArray),.slice none 0 0,.int .i64 0,.int .i64 0,.int .i64 0,.string (⟨#[]⟩ : ByteArray),.slice none 0 0,.int .i64 0,.int .i64 0,.int .i64 0,.string (⟨#[]⟩ : ByteArray),.slice none 0 0,.int .i64 0,.int .i64 0,.int .i64 0,.string (⟨#[]⟩ : ByteArray),.slice none 0 0,.int .i64 0,.int .i64 0,.int .i64 0,.string (⟨#[]⟩ : ByteArray),.slice none 0 0,.int .i64 0,.int .i64 0,.int .i64 0]=w4 at *
        obtain ⟨p0,pf,pz⟩:=G2.out.b1
        obtain ⟨q0,qf,qz⟩:=G3.out.b1
        go_wp2_with fail
        try simp only [QT]
        try (with_reducible refine And.intro (by first | exact trivial | exact fun _=>trivial) ?_)
        refine wpAnyT_next (i:=4) (by kernel_rfl) rfl ?_
        go_wp2_with fail
        try simp only [QT]
        try (with_reducible refine And.intro (by first | exact trivial | exact fun _=>trivial) ?_)
        refine wpAnyT_next (i:=5) (by kernel_rfl) rfl ?_
        go_wp2_with fail
        try simp only [QT]
        try (with_reducible refine And.intro (by first | exact trivial | exact fun _=>trivial) ?_)
        refine wpAnyT_done (by kernel_rfl) ?_ _
        go_wp2_with fail
        have R1 : Blk ((w4.setCell ⟨w.heap.size+1,0,none⟩ (.int .i64 p)).setCell ⟨w.heap.size+1+1,0,none⟩ (.int .i64 e)) w.heap.size 28 #[.string (⟨#[]⟩ : ByteArray),.slice none 0 0,.int .i64 0,.int .i64 0,.int .i64 0,.string (⟨#[]⟩ : ByteArray),.slice none 0 0,.int .i64 0,.int .i64 0,.int .i64 0,.string (⟨#[]⟩ : ByteArray),.slice none 0 0,.int .i64 0,.int .i64 0,.int .i64 0,.string (⟨#[]⟩ : ByteArray),.slice none 0 0,.int .i64 0,.int .i64 0,.int .i64 0,.string (⟨#[]⟩ : ByteArray),.slice none 0 0,.int .i64 0,.int .i64 0,.int .i64 0]:=(G1.out.far (Ne.symm hn1) _).far (Ne.symm hn2) _
        have R2 : Blk ((w4.setCell ⟨w.heap.size+1,0,none⟩ (.int .i64 p)).setCell ⟨w.heap.size+1+1,0,none⟩ (.int .i64 e)) (w.heap.size+1) 3 #[.int .i64 p]:=by simpa using ((G2.out.set_ 0 (.int .i64 p)).far (p:=⟨w.heap.size+1+1,0,none⟩) (by simp only; omega) (.int .i64 e))
        have R3 : Blk ((w4.setCell ⟨w.heap.size+1,0,none⟩ (.int .i64 p)).setCell ⟨w.heap.size+1+1,0,none⟩ (.int .i64 e)) (w.heap.size+1+1) 33 #[.int .i64 e]:=by simpa using ((G3.out.far (p:=⟨w.heap.size+1,0,none⟩) (by simp only; omega) (.int .i64 p)).set_ 0 (.int .i64 e))
        have R4 : Below w.heap.size w ((w4.setCell ⟨w.heap.size+1,0,none⟩ (.int .i64 p)).setCell ⟨w.heap.size+1+1,0,none⟩ (.int .i64 e)):=(G4.out.setCell (by simp only; omega) _).setCell (by simp only; omega) _
        show ∃ v,_∧_
        refine ⟨_,parse_results _ _ w.heap.size _ _ #[.string (⟨#[]⟩ : ByteArray),.slice none 0 0,.int .i64 0,.int .i64 0,.int .i64 0,.string (⟨#[]⟩ : ByteArray),.slice none 0 0,.int .i64 0,.int .i64 0,.int .i64 0,.string (⟨#[]⟩ : ByteArray),.slice none 0 0,.int .i64 0,.int .i64 0,.int .i64 0,.string (⟨#[]⟩ : ByteArray),.slice none 0 0,.int .i64 0,.int .i64 0,.int .i64 0,.string (⟨#[]⟩ : ByteArray),.slice none 0 0,.int .i64 0,.int .i64 0,.int .i64 0] _ _ (by kernel_rfl) rfl rfl rfl R1 R2 R3, ?_⟩
        rw [HPE.out]
        exact ⟨R4,rfl⟩
end Go.Proofs.YtpbdjpfbhicmdaaGreatDoor
