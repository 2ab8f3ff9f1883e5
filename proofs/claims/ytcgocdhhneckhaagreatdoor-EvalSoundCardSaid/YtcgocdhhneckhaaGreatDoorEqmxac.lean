/- Walk: units.Of. -/
import Derived.Test.YtcgocdhhneckhaaGreatDoorEqmxab
import Derived.Test.YtcgocdhhneckhaaGreatDoorEvbxay
set_option linter.unusedSimpArgs false
set_option linter.unusedVariables false
set_option maxRecDepth 100000
set_option maxHeartbeats 6400000
namespace Go.Proofs.YtcgocdhhneckhaaGreatDoor
open Go.RowKit
def ofU (L : List LT) (e : PT) : Int × Int :=
  if rexp e=true∧(L.length : Int)≤20∧L.all (fun x=>rexp x.b)=true then (if (unU L (scU L) 12 e).2=0 then (unU L (scU L) 12 e).1 else 0,(unU L (scU L) 12 e).2) else (0,1)
theorem ofU_arg {L : List LT} {e : PT} (h : ¬ (rexp e=true∧(L.length : Int)≤20∧L.all (fun x=>rexp x.b)=true)) : ofU L e=(0,1):=by unfold ofU; rw [if_neg h]
theorem ofU_ok {L : List LT} {e : PT} (h : rexp e=true∧(L.length : Int)≤20∧L.all (fun x=>rexp x.b)=true) : ofU L e=(if (unU L (scU L) 12 e).2=0 then (unU L (scU L) 12 e).1 else 0,(unU L (scU L) 12 e).2):=by unfold ofU; rw [if_pos h]
def OfP (w w' : World) (x : Int × Int) (e : Ending) : Prop:=(∃ (A : Option Addr) (n c : Nat),e = .returned (.tuple #[.int .i64 x.1,.slice A n c,.int .i64 x.2]))∧Below w.heap.size w w'
theorem OfP.cast {w w' : World} {x y : Int × Int} {e : Ending} (h : x=y) (k : OfP w w' y e) : OfP w w' x e:=by rw [h]; exact k
theorem xes_of {w W : World} {xo xm xu : Int} {xs : ByteArray} {xA : Option Addr} {xc n : Nat} (h : Blk W w.heap.size 25 #[.int .i64 xo,.int .i64 xm,.int .i64 xu,.string xs,.slice xA n xc]) : W.cell? ⟨w.heap.size,0,none⟩=some (.int .i64 xo)∧W.cell? ⟨w.heap.size,1,none⟩=some (.int .i64 xm)∧W.cell? ⟨w.heap.size,2,none⟩=some (.int .i64 xu)∧W.cell? ⟨w.heap.size,3,none⟩=some (.string xs)∧W.cell? ⟨w.heap.size,4,none⟩=some (.slice xA n xc) :=
 ⟨h.cell 0,h.cell 1,h.cell 2,h.cell 3,h.cell 4⟩
theorem un_unitV (L : List LT) (ls : Sl LT) (us : Sl Int) (e : PT) (w : World) (V : Int × Int) (hk : rexp e=true) (he : PT.At (· < w.heap.size) w e) (hls : ls.l=L) (hus : us.l=scU L) (hla : LetsAt (· < w.heap.size) w ls) (hur : Rd (· < w.heap.size) 1 ienc w us) (hV : (if (unU L (scU L) 12 e).2=0 then (unU L (scU L) 12 e).1 else 0,(unU L (scU L) 12 e).2)=V) : Calls Tryz.prog 56 #[ScV ls us,e.v] w fun r w'=>(∃ (A : Option Addr) (n c : Nat),r = .returned (.tuple #[.int .i64 V.1,.agg #[.slice A n c,.int .i64 V.2]]))∧Below w.heap.size w w':=by
 have h:=un_unit ls us e w hk he hla hur (by rw [hls,hus]; exact scN_len L _ Zl);rw [hls,hus] at h;subst hV;exact h
theorem un_Of (L : Sl LT) (e : PT) (w : World) (hL : LetsAt (· < w.heap.size) w L) (he : PT.At (· < w.heap.size) w e) : Calls Tryz.prog 24 #[.slice L.A L.l.length L.c,e.v] w fun r w'=>OfP w w' (ofU L.l e) r:=by
 have HL:=Zh hL;have HE:=Zh he;have hln:=hL.rd.len;clear hL he;obtain ⟨V,hV⟩ : ∃ V,ofU L.l e=V:=⟨_,rfl⟩;have HV:=Zh hV;rw [hV];clear hV;obtain ⟨xo,xm,xu,xs,xA,xc,xl⟩:=e;simp only [PT.v];go_enter Tryz.func24,Tryz.ntmps24;go_wp2_with fail;have HB1 : Hid (Below w.heap.size w (w.alloc (.cells #[.int .i64 xo,.int .i64 xm,.int .i64 xu,.string xs,.slice xA xl.length xc] 25))):=Zh qbl;have HX1:=Zh (Blk.new w 25 #[.int .i64 xo,.int .i64 xm,.int .i64 xu,.string xs,.slice xA xl.length xc]);generalize w.alloc (.cells _ 25)=w1 at *;refine (syn_rexp ⟨xo,xm,xu,xs,xA,xc,xl⟩ _ (HE.out.later HB1.out)).mono ?_;rintro e w2 ⟨rfl,hb2⟩;have HB2:=Zt HB1 hb2;have HX2:=Zh (HX1.out.later hb2);clear hb2 HX1 HB1;obtain ⟨t1,ht1⟩ : ∃ t,rexp ⟨xo,xm,xu,xs,xA,xc,xl⟩=t:=⟨_,rfl⟩;rw [ht1];rcases t1
 ·have HFF:=Zh ((ofU_arg (e:=⟨xo,xm,xu,xs,xA,xc,xl⟩) (L:=L.l) (fun h=>by simp_all)).symm.trans HV.out);go_wp2_with fail;refine bodyPost_ret (v:=.tuple #[.int .i64 0,.slice none 0 0,.int .i64 1]) ?_ rfl (OfP.cast HFF.out.symm ⟨⟨none,0,0,rfl⟩,HB2.out⟩);simp [results,Tryz.results24,go_sem,]
 ·have HT1:=Zh ht1;clear ht1;by_cases h20 : (L.l.length : Int)≤20
  ·have HLL:=Zh (HL.out.later HB2.out);go_wp2_with fail;refine (hasL_of L (fun x=>!rexp x.b) 0 w2 HLL.out.rd (fun W x hx hW=>un_bad_of x W ((HLL.out.later hW).all x hx))).mono ?_;rintro e w3 ⟨rfl,hb3⟩;have HB3:=Zt HB2 hb3;have HX3:=Zh (HX2.out.later hb3);clear hb3 HLL HX2;obtain ⟨t2,ht2⟩ : ∃ t,L.l.any (fun x=>!rexp x.b)=t:=⟨_,rfl⟩;rw [ht2];have HAL:=Zh (any_not (fun x : LT=>rexp x.b) L.l);rw [ht2] at HAL;clear ht2;rcases t2
   ·have HT2 : Hid (L.l.all (fun x=>rexp x.b)=true):=Zh (by rw [← HAL.out]; rfl);have HFF:=Zh ((ofU_ok ⟨HT1.out,h20,HT2.out⟩).symm.trans HV.out);(have h20n : L.l.length≤20:=by omega);have HKK : Hid (∀ x,x ∈ L.l→rexp x.b=true):=Zh (fun x hx=>by have:=HT2.out; rw [List.all_eq_true] at this; exact this x hx);clear HAL h20;go_wp2_with fail;refine wp_region_T (fun W=>W.cell? ⟨w.heap.size,0,none⟩=some (.int .i64 xo)∧W.cell? ⟨w.heap.size,1,none⟩=some (.int .i64 xm)∧W.cell? ⟨w.heap.size,2,none⟩=some (.int .i64 xu)∧W.cell? ⟨w.heap.size,3,none⟩=some (.string xs)∧W.cell? ⟨w.heap.size,4,none⟩=some (.slice xA xl.length xc)) (fun _=>false) Zy (xes_of HX3.out.drew) (fun hHeld=>?_);refine Zr 0 ?_;refine Zr 2 ?_;clear hHeld;have HX4:=Zh HX3.out.drew;have HB4 : Hid (Below w.heap.size w w3.drew):=Zh (HB3.out.drew);clear HX3 HB3;generalize w3.drew=w4 at *;apply cutT
    ·intro fin0;have FIN:=Zh fin0;clear fin0;refine wpAnyT_two (i:=1) (j:=7) Zy rfl rfl ?_ ?_
     ·skip;go_wp2_with fail;refine (un_scoped L _ (HL.out.later HB4.out) HKK.out h20n).mono ?_;rintro e w5 ⟨⟨lA,lc,ll⟩,⟨uA,uc,ul⟩,rfl,hls,hus,hla,hur,hb5⟩;have HB5:=Zt HB4 hb5;have HX5:=Zh (HX4.out.later hb5);have HLS:=Zh hls;have HUS:=Zh hus;have HLA:=Zh hla;have HUR:=Zh hur;clear hls hus hla hur hb5;go_wp2_with fail;refine Zi ((xes_of HX5.out)) ?_;refine wpAnyT_two (i:=3) (j:=7) Zy rfl rfl ?_ ?_
      ·skip;have hcall:=un_unitV L.l ⟨lA,lc,ll⟩ ⟨uA,uc,ul⟩ ⟨xo,xm,xu,xs,xA,xc,xl⟩ w5 V HT1.out (HE.out.later HB5.out) HLS.out HUS.out HLA.out HUR.out HFF.out;simp only [ScV,PT.v] at hcall;go_wp2_with fail;refine hcall.mono ?_;clear hcall;rintro e w6 ⟨⟨RA,rn,rc,rfl⟩,hb6⟩;have HB6:=Zt HB5 hb6;have HX6:=Zh (HX5.out.later hb6);go_wp2_with fail;refine Zi ((xes_of HX6.out)) ?_;have hHeld:=xes_of HX6.out;refine Zr 4 ?_;refine Zr 5 ?_;refine Zr 6 ?_;clear hHeld;refine Zn 7 ?_;go_wp2_with fail;refine Zi ((xes_of (HX6.out.alloc _))) ?_;have HG9:=Zh (Blk.new w6 99 #[.slice none 0 0,.int .i64 0]);have HB9 : Hid (Below w.heap.size w (w6.alloc (.cells #[.slice none 0 0,.int .i64 0] 99))):=Zh (HB6.out.alloc HB6.out.size _);have HX9 : Hid (Blk (w6.alloc (.cells #[.slice none 0 0,.int .i64 0] 99)) w.heap.size 25 #[.int .i64 xo,.int .i64 xm,.int .i64 xu,.string xs,.slice xA xl.length xc]):=Zh (HX6.out.alloc _);have HN9 : Hid (w.heap.size<w6.heap.size):=Zh HX6.out.lt;clear HX5 HLS HUS HLA HUR HB5 hb6 HB6 HX6;generalize w6.alloc (.cells _ 99)=w9 at *;generalize w6.heap.size=g9 at *;revert HN9;revert HX9;revert HB9;revert HG9;revert w9;revert g9;revert rc;revert rn;revert RA;clear w6 w5;revert ul;revert uc;revert uA;revert ll;revert lc;revert lA;exact FIN.out
      ·skip;go_wp2_with fail;refine Zi ((xes_of (HX5.out.alloc _))) ?_;have HG7:=Zh (Blk.new w5 99 #[.slice none 0 0,.int .i64 0]);have HB7 : Hid (Below w.heap.size w (w5.alloc (.cells #[.slice none 0 0,.int .i64 0] 99))):=Zh (HB5.out.alloc HB5.out.size _);have HX7 : Hid (Blk (w5.alloc (.cells #[.slice none 0 0,.int .i64 0] 99)) w.heap.size 25 #[.int .i64 xo,.int .i64 xm,.int .i64 xu,.string xs,.slice xA xl.length xc]):=Zh (HX5.out.alloc _);have HN9 : Hid (w.heap.size<w5.heap.size):=Zh HX5.out.lt;have HLA7:=Zh (HLA.out.later (show Below w5.heap.size w5 (w5.alloc (.cells #[.slice none 0 0,.int .i64 0] 99)) from qbl));have HUR7:=Zh (HUR.out.later (show Below w5.heap.size w5 (w5.alloc (.cells #[.slice none 0 0,.int .i64 0] 99)) from qbl));clear HX5 HB5 HLA HUR;generalize w5.alloc (.cells _ 99)=w7 at *;generalize w5.heap.size=g9 at *;refine Zn 3 ?_;have hcall:=un_unitV L.l ⟨lA,lc,ll⟩ ⟨uA,uc,ul⟩ ⟨xo,xm,xu,xs,xA,xc,xl⟩ w7 V HT1.out (HE.out.later HB7.out) HLS.out HUS.out HLA7.out HUR7.out HFF.out;simp only [ScV,PT.v] at hcall;go_wp2_with fail;refine hcall.mono ?_;clear hcall;rintro e w6 ⟨⟨RA,rn,rc,rfl⟩,hb6⟩;have HB6:=Zt HB7 hb6;have HX6:=Zh (HX7.out.later hb6);go_wp2_with fail;refine Zi ((xes_of HX6.out)) ?_;have hHeld:=xes_of HX6.out;refine Zr 4 ?_;refine Zr 5 ?_;refine Zr 6 ?_;clear hHeld;have HG9:=Zh (HG7.out.later hb6);exact wpAnyT_listed Zy (FIN.out _ _ _ _ _ _ _ _ _ _ _ HG9 HB6 HX6 HN9)
     ·skip;go_wp2_with fail;refine Zi ((xes_of (HX4.out.alloc _))) ?_;have HG7:=Zh (Blk.new w4 99 #[.slice none 0 0,.int .i64 0]);have HB7 : Hid (Below w.heap.size w (w4.alloc (.cells #[.slice none 0 0,.int .i64 0] 99))):=Zh (HB4.out.alloc HB4.out.size _);have HX7 : Hid (Blk (w4.alloc (.cells #[.slice none 0 0,.int .i64 0] 99)) w.heap.size 25 #[.int .i64 xo,.int .i64 xm,.int .i64 xu,.string xs,.slice xA xl.length xc]):=Zh (HX4.out.alloc _);have HN9 : Hid (w.heap.size<w4.heap.size):=Zh HX4.out.lt;clear HX4 HB4;generalize w4.alloc (.cells _ 99)=w7 at *;generalize w4.heap.size=g9 at *;refine Zn 1 ?_;go_wp2_with fail;refine (un_scoped L _ (HL.out.later HB7.out) HKK.out h20n).mono ?_;rintro e w5 ⟨⟨lA,lc,ll⟩,⟨uA,uc,ul⟩,rfl,hls,hus,hla,hur,hb5⟩;have HB5:=Zt HB7 hb5;have HX5:=Zh (HX7.out.later hb5);have HLS:=Zh hls;have HUS:=Zh hus;have HLA:=Zh hla;have HUR:=Zh hur;have HG5:=Zh (HG7.out.later hb5);clear hls hus hla hur hb5 HG7;go_wp2_with fail;refine Zi ((xes_of HX5.out)) ?_;refine Zn 3 ?_;have hcall:=un_unitV L.l ⟨lA,lc,ll⟩ ⟨uA,uc,ul⟩ ⟨xo,xm,xu,xs,xA,xc,xl⟩ w5 V HT1.out (HE.out.later HB5.out) HLS.out HUS.out HLA.out HUR.out HFF.out;simp only [ScV,PT.v] at hcall;go_wp2_with fail;refine hcall.mono ?_;clear hcall;rintro e w6 ⟨⟨RA,rn,rc,rfl⟩,hb6⟩;have HB6:=Zt HB5 hb6;have HX6:=Zh (HX5.out.later hb6);go_wp2_with fail;refine Zi ((xes_of HX6.out)) ?_;have hHeld:=xes_of HX6.out;refine Zr 4 ?_;refine Zr 5 ?_;refine Zr 6 ?_;clear hHeld;have HG9:=Zh (HG5.out.later hb6);exact wpAnyT_listed Zy (FIN.out _ _ _ _ _ _ _ _ _ _ _ HG9 HB6 HX6 HN9)
    ·intro lA lc ll uA uc ul RA rn rc g9 w9 HG9 HB9 HX9 HN9;have hHeld:=xes_of HX9.out;refine Zr 8 ?_;clear hHeld;obtain ⟨s0,s1,sf,sz⟩:=HG9.out.b2;have hn9 : w.heap.size≠g9:=Nat.ne_of_lt HN9.out;have hle9 : w.heap.size≤g9:=Nat.le_of_lt HN9.out;refine Zn 9 ?_;go_wp2_with fail;refine Zi ((xes_of ((HX9.out.far hn9 _).far hn9 _))) ?_;have HG10 : Hid (Blk ((w9.setCell ⟨g9,0,none⟩ (.slice RA rn rc)).setCell ⟨g9,1,none⟩ (.int .i64 V.2)) g9 99 #[.slice RA rn rc,.int .i64 V.2]):=Zh (by simpa using (HG9.out.set_ 0 (.slice RA rn rc)).set_ 1 (.int .i64 V.2));have HB10 : Hid (Below w.heap.size w ((w9.setCell ⟨g9,0,none⟩ (.slice RA rn rc)).setCell ⟨g9,1,none⟩ (.int .i64 V.2))):=Zh ((HB9.out.setCell hle9 _).setCell hle9 _);clear HG9 HB9 HX9 s0 s1 sf sz;generalize (w9.setCell ⟨g9,0,none⟩ (.slice RA rn rc)).setCell ⟨g9,1,none⟩ (.int .i64 V.2)=w10 at *;refine Ze ?_;go_wp2_with fail;obtain ⟨s0,s1,sf,sz⟩:=HG10.out.b2;refine wp_region_T (fun W=>W.cell? ⟨g9,0,none⟩=some (.slice RA rn rc)∧W.cell? ⟨g9,1,none⟩=some (.int .i64 V.2)) (fun _=>false) Zy ⟨s0,s1⟩ (fun hHeld=>?_);refine Zr 0 ?_;refine Zr 1 ?_;refine Zr 2 ?_;refine Zr 3 ?_;refine Zr 4 ?_;refine Zr 5 ?_;refine Zr 6 ?_;refine Zr 7 ?_;refine Ze ?_;clear hHeld;go_wp2_with fail;refine bodyPost_ret (v:=.tuple #[.int .i64 V.1,.slice RA rn rc,.int .i64 V.2]) ?_ rfl ⟨⟨RA,rn,rc,rfl⟩,HB10.out.drew⟩;simp [results,Tryz.results24,go_sem,]
   ·(have hno : L.l.all (fun x=>rexp x.b)=false:=by rw [← HAL.out]; rfl);have HFF:=Zh ((ofU_arg (e:=⟨xo,xm,xu,xs,xA,xc,xl⟩) (L:=L.l) (fun h=>by simp_all)).symm.trans HV.out);go_wp2_with fail;refine bodyPost_ret (v:=.tuple #[.int .i64 0,.slice none 0 0,.int .i64 1]) ?_ rfl (OfP.cast HFF.out.symm ⟨⟨none,0,0,rfl⟩,HB3.out⟩);simp [results,Tryz.results24,go_sem,]
  ·have HFF:=Zh ((ofU_arg (e:=⟨xo,xm,xu,xs,xA,xc,xl⟩) (L:=L.l) (fun h=>h20 h.2.1)).symm.trans HV.out);go_wp2_with fail;refine bodyPost_ret (v:=.tuple #[.int .i64 0,.slice none 0 0,.int .i64 1]) ?_ rfl (OfP.cast HFF.out.symm ⟨⟨none,0,0,rfl⟩,HB2.out⟩);simp [results,Tryz.results24,go_sem,]
structure Snd (x : FrR) : Prop where
  err : x.e=0∨x.e=6∨x.e=15
  yes : x.e=0→FracOK x.p x.q
theorem FrR.OK.snd {x : FrR} (h : x.OK) : Snd x:=⟨h.err,h.yes⟩
theorem snd_whole {n : Int} (h0 : -9223372036854775808≤n) (h1 : n≤9223372036854775807) : Snd (wholeF n):=⟨.inl rfl,fun _=>ok_whole h0 h1⟩
theorem snd_tru (b : Bool) : Snd (truF b):=by
 cases b
 ·exact snd_whole Zo Zo
 ·exact snd_whole Zo Zo
theorem Snd.bad {x : FrR} (h : Snd x) (h0 : x.e≠0) : Snd (FrR.bad x.e):=⟨h.err,fun h1=>absurd h1 h0⟩
theorem Snd.app {op : Int} {a b : FrR} (ha : Snd a) (hb : Snd b) (ha0 : a.e=0) (hb0 : b.e=0) : Snd (appF op a b):=by
 have h1:=ha.yes ha0;have h2:=hb.yes hb0;unfold appF;split
 ·exact (addF_OK h1 h2).snd
 split
 ·exact (subF_OK h1 h2).snd
 split
 ·exact (mulF_OK h1 h2).snd
 split
 ·exact (divF_OK h1 h2).snd
 split
 ·exact snd_tru _
 split
 ·exact snd_tru _
 split
 ·exact hb
 ·exact ha
theorem Snd.two {op : Int} {a b : FrR} (ha : Snd a) (hb : Snd b) : Snd (twoF op a b):=by
 unfold twoF;split
 ·rename_i h; exact ha.bad h
 split
 ·rename_i h; exact hb.bad h
 ·rename_i h1 h2;exact ha.app hb (Classical.byContradiction h1) (Classical.byContradiction h2)
theorem Snd.not_ {a : FrR} (ha : Snd a) : Snd (notF a):=by
 unfold notF;split
 ·rename_i h; exact ha.bad h
 ·exact snd_tru _
theorem Snd.and_ {a b : FrR} (ha : Snd a) (hb : Snd b) : Snd (andF a b):=by
 unfold andF;split
 ·rename_i h; exact ha.bad h
 split
 ·exact snd_tru _
 split
 ·rename_i h; exact hb.bad h
 ·exact snd_tru _
theorem Snd.or_ {a b : FrR} (ha : Snd a) (hb : Snd b) : Snd (orF a b):=by
 unfold orF;split
 ·rename_i h; exact ha.bad h
 split
 ·exact snd_tru _
 split
 ·rename_i h; exact hb.bad h
 ·exact snd_tru _
theorem Snd.ite_ {a b c : FrR} (ha : Snd a) (hb : Snd b) (hc : Snd c) : Snd (iteF a b c):=by
 unfold iteF;split
 ·rename_i h; exact ha.bad h
 split
 ·exact hb
 ·exact hc
theorem seqU_all {α : Type} {f : α→Int × Int} : ∀ {l : List α},(seqU (l.map f)).2=0→∀ x,x ∈ l→(f x).2=0
 | [],_,x,hx=>by cases hx
 | y :: l,h,x,hx=>by
  rw [List.map_cons] at h;by_cases hy : (f y).2=0
  ·have h2 : (seqU (l.map f)).2=0:=by
    have : (seqU ((f y) :: l.map f)).2=(seqU (l.map f)).2:=by
     generalize f y=z at hy;obtain ⟨a,b⟩:=z;have hy : b=0:=hy;simp [seqU,hy]
    rw [← this]; exact h
   rcases List.mem_cons.1 hx with rfl | hx
   ·exact hy
   ·exact seqU_all h2 x hx
  ·exfalso
   have : (seqU ((f y) :: l.map f)).2=(f y).2:=by
    generalize f y=z at hy;obtain ⟨a,b⟩:=z;have hy : ¬ b=0:=hy;simp [seqU,hy]
   rw [this] at h;exact hy h
theorem evE_sound {lk : ByteArray→FrR} {T M : List FT} {L : List LT} {U : List Int} (hlk : ∀ s,nameU s L U≠-1→Snd (lk s)) (hT : ∀ s,(triU s).isSome=true→Snd (factF s T)) (hM : ∀ s,(memU s).isSome=true→Snd (factF s M)) : ∀ k e,okE k e=true→(unU L U k e).2=0→Snd (evE lk T M k e)
 | 0,e,hk,_=>by unfold okE at hk; cases hk
 | k+1,⟨o,a,u,s,A,c,l⟩,hk,hu=>by
  have ih:=fun x h1 h2=>evE_sound (T:=T) (M:=M) hlk hT hM k x h1 h2;by_cases h0 : o=0
  ·subst h0;unfold evE;rw [if_pos rfl];exact snd_whole (okE_numb hk).1 (okE_numb hk).2
  by_cases h1 : o=1
  ·subst h1;unfold evE;rw [if_neg (by decide),if_pos rfl];refine hlk s fun hn=>?_;unfold unU at hu;rw [if_neg (by decide),if_neg (by decide),if_neg (by decide),if_pos rfl,if_pos hn] at hu;simp at hu
  by_cases h2 : o=2
  ·subst h2;unfold evE;rw [if_neg (by decide),if_neg (by decide),if_pos rfl];refine hT s ?_;unfold unU at hu;rw [if_neg (by decide),if_pos rfl] at hu;cases ht : (triU s).isSome with
   | true=>rfl
   | false=>unfold knU at hu; simp [ht] at hu
  by_cases h3 : o=3
  ·subst h3;unfold evE;rw [if_neg (by decide),if_neg (by decide),if_neg (by decide),if_pos rfl];refine hM s ?_;unfold unU at hu;rw [if_neg (by decide),if_neg (by decide),if_pos rfl] at hu;cases ht : (memU s).isSome with
   | true=>rfl
   | false=>unfold knU at hu; simp [ht] at hu
  have hall:=okE_all hk h0 h1 h2 h3;have hlen:=okE_is hk
  have hsq : (seqU (l.map (unU L U k))).2=0:=by
   rw [unU_op h0 h1 h2 h3] at hu;exact Classical.byContradiction fun hn=>by rw [if_pos hn] at hu; exact hn hu
  have hun:=seqU_all hsq;unfold evE;rw [if_neg h0,if_neg h1,if_neg h2,if_neg h3];by_cases h12 : o=12
  ·subst h12;obtain ⟨x,rfl⟩:=len_one (l:=l) (by have h : opsN 12=1:=(by decide); omega);exact (ih x (hall x Zs) (hun x Zs)).not_
  by_cases h15 : o=15
  ·subst h15;obtain ⟨x,y,z,rfl⟩:=len_three (l:=l) (by have h : opsN 15=3:=(by decide); omega);exact (ih x (hall x Zs) (hun x Zs)).ite_ (ih y (hall y Zs) (hun y Zs)) (ih z (hall z Zs) (hun z Zs))
  obtain ⟨x,y,rfl⟩:=len_two (l:=l) (opsN_two hlen h0 h1 h2 h3 h12 h15);have hx:=ih x (hall x Zs) (hun x Zs);have hy:=ih y (hall y Zs) (hun y Zs);simp only [List.map_cons,List.map_nil,opF];split
  ·exact hx.and_ hy
  split
  ·exact hx.or_ hy
  ·exact hx.two hy
theorem scN_at {L : List LT} {k : Nat} {x : LT} (hx : L[k]? = some x) : ∀ n,k<n→n≤L.length→(scN L n)[k]? = some (uo (unU (L.take k) (scN L k) 12 x.b))
 | 0,h,_=>absurd h Zo
 | n+1,h,hn=>by
  have hy : L[n]? = some L[n]:=List.getElem?_eq_getElem Zo;rw [scN_succ hy];by_cases hk : k=n
  ·subst hk;rw [hy] at hx;injection hx with hx;rw [List.getElem?_append_right (by rw [scN_len L k Zo]; exact Nat.le_refl _),scN_len L k Zo,Nat.sub_self,hx];rfl
  ·rw [List.getElem?_append_left (by rw [scN_len L n Zo]; omega)];exact scN_at hx n Zo Zo
theorem evN_sound {T M : List FT} {L : List LT} (hok : ∀ x,x ∈ L→okE 12 x.b=true) (hT : ∀ s,(triU s).isSome=true→Snd (factF s T)) (hM : ∀ s,(memU s).isSome=true→Snd (factF s M)) : ∀ n,n≤L.length→∀ k e,okE k e=true→(unU (L.take n) (scN L n) k e).2=0→Snd (evN T M L n k e):=by
 intro n
 induction n using Nat.strongRecOn with
 | ind n ih =>
  intro hn k e hk hu;refine evE_sound (L:=L.take n) (U:=scN L n) (fun s hs=>?_) hT hM k e hk hu;rcases idxP_ge (fun x : LT=>sameB x.nm s) (L.take n) 0 with ⟨_,h2⟩ | ⟨j,x,_,h2,h3,h4⟩
  ·exact absurd (nameU_none h2) hs
  ·have hjn : j<n:=by
    have:=(List.getElem?_eq_some_iff.1 h2).1;rw [List.length_take] at this;omega
   (have hxj : L[j]? = some x:=by rw [List.getElem?_take,if_pos hjn] at h2; exact h2);have hsc:=scN_at hxj n hjn hn;rw [nameU_at h2 hsc h3 h4] at hs;show Snd (lkF s (L.take n) (lvN T M L n));rw [lk_let T M hn h2 h3 h4];refine ih j hjn Zo 12 x.b (hok x (List.mem_of_getElem? hxj)) ?_;exact Classical.byContradiction fun hc=>hs (by unfold uo; rw [if_neg hc])
theorem factF_snd {s : ByteArray} {l : List FT} {x : FT} (hx : x ∈ l) (hs : sameB x.nm s=true) (hv : ∀ y,y ∈ l→-9223372036854775808≤y.v∧y.v≤9223372036854775807) : Snd (factF s l):=by
 rcases idxP_ge (fun x : FT=>sameB x.nm s) l 0 with ⟨_,h2⟩ | ⟨j,y,_,h2,h3,h4⟩
 ·have:=h2 x hx
  (try simp only at this)
  rw [hs] at this;cases this
 ·rw [factF_at h2 h3 h4];have:=hv y (List.mem_of_getElem? h2);exact snd_whole this.1 this.2
end Go.Proofs.YtcgocdhhneckhaaGreatDoor
