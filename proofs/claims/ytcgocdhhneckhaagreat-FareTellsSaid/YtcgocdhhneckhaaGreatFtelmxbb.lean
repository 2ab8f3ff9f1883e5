/- Walks of tonneauref33: Trip, Rider. -/
import Derived.Test.YtcgocdhhneckhaaGreatFtelmxba
import Derived.Test.YtcgocdhhneckhaaGreatFtelmxar
import Derived.Test.YtcgocdhhneckhaaGreatFtelmxac
import Derived.Test.YtcgocdhhneckhaaGreatFtelmxal
import Derived.Test.YtcgocdhhneckhaaGreatFtelmxai
set_option maxRecDepth 100000
set_option maxHeartbeats 6400000
namespace Go.Proofs.YtcgocdhhneckhaaGreat
open Go.RowKit
theorem infoFactR : Info Tryz.prog 54 (.agg #[.string ByteArray.empty,.int .i64 0]) 2 24:=info_mk Zy rfl
theorem rd_factR {W : World} {g : Nat} {xn : ByteArray} {xv : Int} (h : Blk W g 54 #[.string xn,.int .i64 xv]) : Rd (· < W.heap.size) 2 FT.enc W ⟨some ⟨g,0,none⟩,1,[⟨xn,xv⟩]⟩ :=
 ⟨Nat.le_refl _,by unfold maxLen; simp,fun h=>by simp at h,fun i y hy=>by
  have hi : i=0:=by
   rcases i with _ | i
   ·rfl
   ·simp at hy
  subst hi;(have hxy : (⟨xn,xv⟩ : FT)=y:=by simpa using hy);subst hxy;exact ⟨g,0,rfl,h.lt,fun j u hu=>by rw [h.cell,Nat.zero_mul,Nat.zero_add]; simpa [FT.enc] using hu⟩⟩
def nmsV (l : List FT) : Array Value:=(l.map (fun x=>Value.string x.nm)).toArray
def numsV (l : List FT) : Array Value:=(l.map (fun x=>Value.int .i64 x.v)).toArray
theorem nmsV_at {l : List FT} {k : Nat} {x : FT} (h : l[k]? = some x) : (nmsV l)[k]? = some (.string x.nm):=by unfold nmsV; simp [h]
theorem numsV_at {l : List FT} {k : Nat} {x : FT} (h : l[k]? = some x) : (numsV l)[k]? = some (.int .i64 x.v):=by unfold numsV; simp [h]
theorem r33_Trip (mb fr to ea la du ri se ch ba d r de no rd : Int) (w : World) : Calls Tryz.prog 12 #[.agg #[.int .i64 mb,.int .i64 fr,.int .i64 to,.int .i64 ea,.int .i64 la,.int .i64 du,.int .i64 ri,.int .i64 se,.int .i64 ch,.int .i64 ba],.int .i64 d,.int .i64 r,.int .i64 de,.int .i64 no,.int .i64 rd] w fun e w'=>FcP w w' (tripL d r de no se ch ba rd) e:=by
 obtain ⟨F,hF⟩ : ∃ F,F=tripL d r de no se ch ba rd:=⟨_,rfl⟩;have HFF:=Zh hF;have HFL : Hid (F.length=8):=Zh (by rw [hF]; rfl);have HNM : Hid (∀ x,x ∈ F→x.nm.size≤9223372036854775807):=Zh (by rw [hF]; exact tripL_nm d r de no se ch ba rd);(have hnm : nmsV F = #[.string (⟨#[100,105,114,101,99,116]⟩ : ByteArray),.string (⟨#[114,105,100,101]⟩ : ByteArray),.string (⟨#[100,101,108,97,121]⟩ : ByteArray),.string (⟨#[110,111,116,105,99,101]⟩ : ByteArray),.string (⟨#[115,101,97,116,115]⟩ : ByteArray),.string (⟨#[99,104,97,105,114,115]⟩ : ByteArray),.string (⟨#[98,97,103,115]⟩ : ByteArray),.string (⟨#[114,105,100,101,114,115]⟩ : ByteArray)]:=by rw [hF]; rfl);(have hnu : numsV F = #[.int .i64 d,.int .i64 r,.int .i64 de,.int .i64 no,.int .i64 se,.int .i64 ch,.int .i64 ba,.int .i64 rd]:=by rw [hF]; rfl);have HNS:=Zh hnm;have HNU:=Zh hnu;clear hF hnm hnu;go_enter Tryz.func12,Tryz.ntmps12;go_wp2_with fail;have HB1 : Hid (Below w.heap.size w (((w.alloc (.cells #[.int .i64 mb,.int .i64 fr,.int .i64 to,.int .i64 ea,.int .i64 la,.int .i64 du,.int .i64 ri,.int .i64 se,.int .i64 ch,.int .i64 ba] 36)).alloc (.cells (nmsV F) 9)).alloc (.cells (numsV F) 3))):=Zh qbl;have HN : Hid (Blk (((w.alloc (.cells #[.int .i64 mb,.int .i64 fr,.int .i64 to,.int .i64 ea,.int .i64 la,.int .i64 du,.int .i64 ri,.int .i64 se,.int .i64 ch,.int .i64 ba] 36)).alloc (.cells (nmsV F) 9)).alloc (.cells (numsV F) 3)) (w.heap.size+1) 9 (nmsV F)):=Zh ((Blk.new' Zs).alloc _);have HI : Hid (Blk (((w.alloc (.cells #[.int .i64 mb,.int .i64 fr,.int .i64 to,.int .i64 ea,.int .i64 la,.int .i64 du,.int .i64 ri,.int .i64 se,.int .i64 ch,.int .i64 ba] 36)).alloc (.cells (nmsV F) 9)).alloc (.cells (numsV F) 3)) (w.heap.size+1+1) 3 (numsV F)):=Zh (Blk.new' Zs);rw [← HNS.out,← HNU.out];generalize ((w.alloc (.cells #[.int .i64 mb,.int .i64 fr,.int .i64 to,.int .i64 ea,.int .i64 la,.int .i64 du,.int .i64 ri,.int .i64 se,.int .i64 ch,.int .i64 ba] 36)).alloc (.cells (nmsV F) 9)).alloc (.cells (numsV F) 3)=w1 at *;generalize w.heap.size+1+1=gi at *;generalize w.heap.size+1=gn at *;clear HNS HNU;go_loopw [15,16] (fun t i wr=>∃ (k : Nat) (A : Option Addr) (c : Nat) (m : List FT),k≤8∧m.length=k∧i = .int .i64 k∧t = .slice A m.length c∧Hid (Own w1.heap.size 54 2 FT.enc wr ⟨A,c,m⟩)∧Below w1.heap.size w1 wr∧Hid (m=F.take k)) (fun _ i _=>8 - (intOf i).toNat)
 case atStart=>exact ⟨0,none,0,[],by omega,rfl,rfl,rfl,Zh (Own.nil _ _ _ _ _),Below.refl _ _,Zh rfl⟩
 case round =>
  obtain ⟨k,A,c,m,hk,hm,rfl,rfl,HO,hbel,HM⟩:=hrel;have HBEL:=Zh hbel;by_cases hlt : k<8
  ·obtain ⟨x,hx⟩ : ∃ x,F[k]? = some x:=⟨_,List.getElem?_eq_getElem (by rw [HFL.out]; exact hlt)⟩;have hn0:=((HN.out.later hbel).cell k).trans (nmsV_at hx);have hv0:=((HI.out.later hbel).cell k).trans (numsV_at hx);have HT : Hid (F.take (k+1)=F.take k ++ [x]):=Zh (by rw [List.take_add_one,hx]; rfl);obtain ⟨xn,xv⟩:=x;simp only at hn0 hv0;(have hki : (k : Int)<8:=by omega);have HML:=Zh hm;(have hmb : m.length+1≤9:=by omega);clear hx hm;go_wp2_with fail;refine wp_region_T (fun W=>W.cell? ⟨gn,k,none⟩=some (.string xn)∧W.cell? ⟨gi,k,none⟩=some (.int .i64 xv)) (fun _=>false) Zy ⟨hn0,hv0⟩ (fun hHeld=>?_);refine Zr 0 ?_;refine Zr 1 ?_;refine Zr 2 ?_;refine Zr 3 ?_;refine Zr 4 ?_;refine Zr 5 ?_;refine Zr 6 ?_;refine Zr 7 ?_;refine Zr 8 ?_;refine Zr 9 ?_;clear hHeld;have HB5 : Hid (Below w1.heap.size w1 (wr.drew.alloc (.cells #[.string xn,.int .i64 xv] 54))):=Zh ((Below.drew hbel).alloc hbel.size _);have HG5 : Hid (Blk (wr.drew.alloc (.cells #[.string xn,.int .i64 xv] 54)) wr.heap.size 54 #[.string xn,.int .i64 xv]):=Zh (Blk.new _ _ _);have HO5:=Zh (HO.out.drew.alloc (.cells #[.string xn,.int .i64 xv] 54));have hs5 : (wr.drew.alloc (.cells #[.string xn,.int .i64 xv] 54)).cell? ⟨gn,k,none⟩=some (.string xn)∧(wr.drew.alloc (.cells #[.string xn,.int .i64 xv] 54)).cell? ⟨gi,k,none⟩=some (.int .i64 xv):=⟨kal _ hn0,kal _ hv0⟩;have HS5:=Zh hs5;clear hs5;refine Zn 10 ?_;go_wp2_with fail;(try simp only [QT]);have halloc : (wr.alloc (.cells #[.string xn,.int .i64 xv] 54)).drew=wr.drew.alloc (.cells #[.string xn,.int .i64 xv] 54):=rfl;(try rw [halloc]);clear halloc;generalize wr.drew.alloc (.cells #[.string xn,.int .i64 xv] 54)=w5 at *;generalize wr.heap.size=g5 at *;refine Zi (HS5.out) ?_;refine Zn 11 ?_;refine wpl_append_sl _ rfl (.tmp 36) (.tmp 46) _ rfl Tryz.underlying34 infoFactR Zo FT.enc_k FT.enc_one ⟨A,c,m⟩ ⟨some ⟨g5,0,none⟩,1,[⟨xn,xv⟩]⟩ rfl rfl HO5.out (rd_factR HG5.out) (by simp [maxLen]; omega) (by simp; omega) HB5.out.size ?_;intro A6 c6 w6 hown6 hg6 _;have hrow:=own_row_ge HO5.out;(have hn1 : some gn≠(Value.slice A m.length c).ownBlock:=fun hc=>by have:=hrow _ hc.symm; have:=HN.out.lt; omega);(have hn2 : some gi≠(Value.slice A m.length c).ownBlock:=fun hc=>by have:=hrow _ hc.symm; have:=HI.out.lt; omega);have HS6:=Zh (And.intro (cell_grown HS5.out.1 hg6 hn1) (cell_grown HS5.out.2 hg6 hn2));have HB6 : Hid (Below w1.heap.size w1 w6):=Zh (HB5.out.grown hg6 HB5.out.size (fun k hk=>(hrow k hk).1));have HO6:=Zh hown6;have HM6 : Hid (m ++ [⟨xn,xv⟩]=F.take (k+1)):=Zh (by rw [HT.out,HM.out]);clear hg6 hown6 hrow hn1 hn2;refine Zi (HS6.out) ?_;have hHeld:=HS6.out;(try simp only [Act.put,List.getElem_toArray,List.getElem_cons_succ,List.getElem_cons_zero,List.setIfInBounds_toArray,List.set_cons_zero,List.set_cons_succ]);refine Zr 12 ?_;refine Ze ?_;clear hHeld HS6 hn0 hv0 HBEL hbel;go_wp2_with fail;go_roundw
   case measure=>simp [intOf]; omega
   case rel=>exact ⟨k+1,A6,c6,m ++ [⟨xn,xv⟩],by omega,by rw [List.length_append,HML.out]; rfl,by first | go_num | rfl | trivial,by first | (simp; done) | rfl | trivial,HO6,HB6.out,HM6⟩
  ·(have hk8 : k=8:=by omega);have HMF : Hid (m=F):=Zh (by rw [HM.out,List.take_of_length_le (by rw [HFL.out]; omega)]);clear hm;go_wp2_with fail;go_ret;exact ⟨⟨A,c,m⟩,rfl,by rw [← HFF.out]; exact HMF.out,⟨(HO.out.rd FT.enc_k).mono (fun b hb=>hb.2),fun y hy=>HNM.out y (by rw [← HMF.out]; exact hy)⟩,HB1.out.trans (hbel.mono HB1.out.size)⟩
theorem r33_Rider (f b t n : Int) (w : World) : Calls Tryz.prog 14 #[.int .i64 f,.int .i64 b,.int .i64 t,.int .i64 n] w fun e w'=>FcP w w' (riderL f b t n) e:=by
 obtain ⟨F,hF⟩ : ∃ F,F=riderL f b t n:=⟨_,rfl⟩;have HFF:=Zh hF;have HFL : Hid (F.length=4):=Zh (by rw [hF]; rfl);have HNM : Hid (∀ x,x ∈ F→x.nm.size≤9223372036854775807):=Zh (by rw [hF]; exact riderL_nm f b t n);(have hnm : nmsV F = #[.string (⟨#[102,97,118,111,117,114]⟩ : ByteArray),.string (⟨#[98,97,108,97,110,99,101]⟩ : ByteArray),.string (⟨#[116,114,105,112,115]⟩ : ByteArray),.string (⟨#[110,111,115,104,111,119,115]⟩ : ByteArray)]:=by rw [hF]; rfl);(have hnu : numsV F = #[.int .i64 f,.int .i64 b,.int .i64 t,.int .i64 n]:=by rw [hF]; rfl);have HNS:=Zh hnm;have HNU:=Zh hnu;clear hF hnm hnu;go_enter Tryz.func14,Tryz.ntmps14;go_wp2_with fail;have HB1 : Hid (Below w.heap.size w ((w.alloc (.cells (nmsV F) 9)).alloc (.cells (numsV F) 3))):=Zh qbl;have HN : Hid (Blk ((w.alloc (.cells (nmsV F) 9)).alloc (.cells (numsV F) 3)) w.heap.size 9 (nmsV F)):=Zh ((Blk.new _ _ _).alloc _);have HI : Hid (Blk ((w.alloc (.cells (nmsV F) 9)).alloc (.cells (numsV F) 3)) (w.heap.size+1) 3 (numsV F)):=Zh (Blk.new' Zs);rw [← HNS.out,← HNU.out];generalize (w.alloc (.cells (nmsV F) 9)).alloc (.cells (numsV F) 3)=w1 at *;obtain ⟨gi,hgi⟩ : ∃ g,g=w.heap.size+1:=⟨_,rfl⟩;obtain ⟨gn,hgn⟩ : ∃ g,g=w.heap.size:=⟨_,rfl⟩;rw [← hgi] at HI ⊢;rw [← hgn] at HN ⊢;clear HNS HNU hgi hgn;go_loopw [11,12] (fun t i wr=>∃ (k : Nat) (A : Option Addr) (c : Nat) (m : List FT),k≤4∧m.length=k∧i = .int .i64 k∧t = .slice A m.length c∧Hid (Own w1.heap.size 54 2 FT.enc wr ⟨A,c,m⟩)∧Below w1.heap.size w1 wr∧Hid (m=F.take k)) (fun _ i _=>4 - (intOf i).toNat)
 case atStart=>exact ⟨0,none,0,[],by omega,rfl,rfl,rfl,Zh (Own.nil _ _ _ _ _),Below.refl _ _,Zh rfl⟩
 case round =>
  obtain ⟨k,A,c,m,hk,hm,rfl,rfl,HO,hbel,HM⟩:=hrel;have HBEL:=Zh hbel;by_cases hlt : k<4
  ·obtain ⟨x,hx⟩ : ∃ x,F[k]? = some x:=⟨_,List.getElem?_eq_getElem (by rw [HFL.out]; exact hlt)⟩;have hn0:=((HN.out.later hbel).cell k).trans (nmsV_at hx);have hv0:=((HI.out.later hbel).cell k).trans (numsV_at hx);have HT : Hid (F.take (k+1)=F.take k ++ [x]):=Zh (by rw [List.take_add_one,hx]; rfl);obtain ⟨xn,xv⟩:=x;simp only at hn0 hv0;(have hki : (k : Int)<4:=by omega);have HML:=Zh hm;(have hmb : m.length+1≤9:=by omega);clear hx hm;go_wp2_with fail;refine wp_region_T (fun W=>W.cell? ⟨gn,k,none⟩=some (.string xn)∧W.cell? ⟨gi,k,none⟩=some (.int .i64 xv)) (fun _=>false) Zy ⟨hn0,hv0⟩ (fun hHeld=>?_);refine Zr 0 ?_;refine Zr 1 ?_;refine Zr 2 ?_;refine Zr 3 ?_;refine Zr 4 ?_;refine Zr 5 ?_;refine Zr 6 ?_;refine Zr 7 ?_;refine Zr 8 ?_;refine Zr 9 ?_;clear hHeld;have HB5 : Hid (Below w1.heap.size w1 (wr.drew.alloc (.cells #[.string xn,.int .i64 xv] 54))):=Zh ((Below.drew hbel).alloc hbel.size _);have HG5 : Hid (Blk (wr.drew.alloc (.cells #[.string xn,.int .i64 xv] 54)) wr.heap.size 54 #[.string xn,.int .i64 xv]):=Zh (Blk.new _ _ _);have HO5:=Zh (HO.out.drew.alloc (.cells #[.string xn,.int .i64 xv] 54));have hs5 : (wr.drew.alloc (.cells #[.string xn,.int .i64 xv] 54)).cell? ⟨gn,k,none⟩=some (.string xn)∧(wr.drew.alloc (.cells #[.string xn,.int .i64 xv] 54)).cell? ⟨gi,k,none⟩=some (.int .i64 xv):=⟨kal _ hn0,kal _ hv0⟩;have HS5:=Zh hs5;clear hs5;refine Zn 10 ?_;go_wp2_with fail;(try simp only [QT]);have halloc : (wr.alloc (.cells #[.string xn,.int .i64 xv] 54)).drew=wr.drew.alloc (.cells #[.string xn,.int .i64 xv] 54):=rfl;(try rw [halloc]);clear halloc;generalize wr.drew.alloc (.cells #[.string xn,.int .i64 xv] 54)=w5 at *;generalize wr.heap.size=g5 at *;refine Zi (HS5.out) ?_;refine Zn 11 ?_;refine wpl_append_sl _ rfl (.tmp 25) (.tmp 35) _ rfl Tryz.underlying34 infoFactR Zo FT.enc_k FT.enc_one ⟨A,c,m⟩ ⟨some ⟨g5,0,none⟩,1,[⟨xn,xv⟩]⟩ rfl rfl HO5.out (rd_factR HG5.out) (by simp [maxLen]; omega) (by simp; omega) HB5.out.size ?_;intro A6 c6 w6 hown6 hg6 _;have hrow:=own_row_ge HO5.out;(have hn1 : some gn≠(Value.slice A m.length c).ownBlock:=fun hc=>by have:=hrow _ hc.symm; have:=HN.out.lt; omega);(have hn2 : some gi≠(Value.slice A m.length c).ownBlock:=fun hc=>by have:=hrow _ hc.symm; have:=HI.out.lt; omega);have HS6:=Zh (And.intro (cell_grown HS5.out.1 hg6 hn1) (cell_grown HS5.out.2 hg6 hn2));have HB6 : Hid (Below w1.heap.size w1 w6):=Zh (HB5.out.grown hg6 HB5.out.size (fun k hk=>(hrow k hk).1));have HO6:=Zh hown6;have HM6 : Hid (m ++ [⟨xn,xv⟩]=F.take (k+1)):=Zh (by rw [HT.out,HM.out]);clear hg6 hown6 hrow hn1 hn2;refine Zi (HS6.out) ?_;have hHeld:=HS6.out;(try simp only [Act.put,List.getElem_toArray,List.getElem_cons_succ,List.getElem_cons_zero,List.setIfInBounds_toArray,List.set_cons_zero,List.set_cons_succ]);refine Zr 12 ?_;refine Ze ?_;clear hHeld HS6 hn0 hv0 HBEL hbel;go_wp2_with fail;go_roundw
   case measure=>simp [intOf]; omega
   case rel=>exact ⟨k+1,A6,c6,m ++ [⟨xn,xv⟩],by omega,by rw [List.length_append,HML.out]; rfl,by first | go_num | rfl | trivial,by first | (simp; done) | rfl | trivial,HO6,HB6.out,HM6⟩
  ·(have hk8 : k=4:=by omega);have HMF : Hid (m=F):=Zh (by rw [HM.out,List.take_of_length_le (by rw [HFL.out]; omega)]);clear hm;go_wp2_with fail;go_ret;exact ⟨⟨A,c,m⟩,rfl,by rw [← HFF.out]; exact HMF.out,⟨(HO.out.rd FT.enc_k).mono (fun b hb=>hb.2),fun y hy=>HNM.out y (by rw [← HMF.out]; exact hy)⟩,HB1.out.trans (hbel.mono HB1.out.size)⟩
theorem val_one (d : Int) : val [d]=d:=by simp only [val]; omega
theorem val_snoc (l : List Int) (d : Int) : val (l ++ [d])=val l+pw l.length * d:=by rw [val_app,val_one]
theorem val_nil : val []=0:=rfl
theorem val_headD (b : List Int) (i : Nat) : val (b.drop i)=(b.drop i).headD 0+1048576 * val (b.drop (i+1)):=by
 rw [headD_tail (b.drop i),List.tail_drop]
theorem pw_succ (n : Nat) : pw (n+1)=1048576 * pw n:=rfl
theorem digOK_snoc {l : List Int} {d : Int} (h : DigOK l) (h0 : 0≤d) (h1 : d<1048576) : DigOK (l ++ [d]):=digOK_app.2 ⟨h,digOK_cons.2 ⟨⟨h0,h1⟩,DigOK.nil⟩⟩
theorem digOK_dropR {l : List Int} (h : DigOK l) (i : Nat) : DigOK (l.drop i):=fun d hd=>h d (List.mem_of_mem_drop hd)
theorem digOK_headR {l : List Int} (h : DigOK l) (i : Nat) : 0≤(l.drop i).headD 0∧(l.drop i).headD 0<1048576:=digOK_head (digOK_dropR h i)
structure SumR (a b : List Int) (i : Nat) (c : Int) (o : List Int) : Prop where
  len : o.length=i
  ok : DigOK o
  eq : val o+pw i * (c+val (a.drop i)+val (b.drop i))=val a+val b
  c0 : 0≤c
  c1 : c≤1
theorem SumR.start (a b : List Int) : SumR a b 0 0 []:=⟨rfl,DigOK.nil,by simp [val,pw],by omega,by omega⟩
theorem SumR.next {a b o : List Int} {i : Nat} {c n : Int} (h : SumR a b i c o) (ha : DigOK a) (hb : DigOK b) (hn : n=(a.drop i).headD 0+(b.drop i).headD 0+c) : SumR a b (i+1) (n / 1048576) (o ++ [n % 1048576])∧0≤n∧n<2097152:=by
 have h1:=digOK_headR ha i;have h2:=digOK_headR hb i;have h3:=h.c0;have h4:=h.c1;have he:=h.eq;refine ⟨⟨by rw [List.length_append,h.len]; rfl,digOK_snoc h.ok Zo Zo, ?_,by omega,by omega⟩,by omega,by omega⟩;rw [val_snoc,h.len,pw_succ,← he,val_headD a i,val_headD b i,Int.add_assoc (val o),Int.mul_comm 1048576,Int.mul_assoc,← Int.mul_add];congr 2;omega
theorem SumR.done {a b o : List Int} {i : Nat} (h : SumR a b i 0 o) (ha : a.length≤i) (hb : b.length≤i) : val o=val a+val b:=by
 have he:=h.eq;rw [List.drop_eq_nil_of_le ha,List.drop_eq_nil_of_le hb,val_nil] at he;simpa using he
theorem SumR.trim {a b o : List Int} {i n : Nat} (h : SumR a b i 0 o) (ha : a.length≤i) (hb : b.length≤i) (hn : val a+val b=n) : trimL o=digs n:=by
 rw [trimL_is h.ok,h.done ha hb,hn,Int.toNat_natCast]
structure DifR (a b : List Int) (i : Nat) (c : Int) (o : List Int) : Prop where
  len : o.length=i
  ok : DigOK o
  eq : val o+pw i * (val (a.drop i) - val (b.drop i) - c)=val a - val b
  c0 : 0≤c
  c1 : c≤1
theorem DifR.start (a b : List Int) : DifR a b 0 0 []:=⟨rfl,DigOK.nil,by simp [val,pw],by omega,by omega⟩
theorem DifR.step {a b o : List Int} {i : Nat} {c n d e : Int} (h : DifR a b i c o) (hn : n=(a.drop i).headD 0 - (b.drop i).headD 0 - c) (hd : d=n+1048576 * e) (h0 : 0≤d) (h1 : d<1048576) (he0 : 0≤e) (he1 : e≤1) : DifR a b (i+1) e (o ++ [d]):=by
 have he:=h.eq;refine ⟨by rw [List.length_append,h.len]; rfl,digOK_snoc h.ok h0 h1, ?_,he0,he1⟩;rw [val_snoc,h.len,pw_succ,← he,val_headD a i,val_headD b i,Int.add_assoc (val o),Int.mul_comm 1048576,Int.mul_assoc,← Int.mul_add];congr 2;omega
theorem DifR.bounds {a b o : List Int} {i : Nat} {c n : Int} (h : DifR a b i c o) (ha : DigOK a) (hb : DigOK b) (hn : n=(a.drop i).headD 0 - (b.drop i).headD 0 - c) : -1048576≤n∧n<1048576:=by
 have h1:=digOK_headR ha i;have h2:=digOK_headR hb i;have h3:=h.c0;have h4:=h.c1;omega
theorem DifR.yes {a b o : List Int} {i : Nat} {c n : Int} (h : DifR a b i c o) (ha : DigOK a) (hb : DigOK b) (hn : n=(a.drop i).headD 0 - (b.drop i).headD 0 - c) (hs : 0≤n) : DifR a b (i+1) 0 (o ++ [n]):=by
 have hb:=h.bounds ha hb hn;exact h.step hn Zo hs hb.2 Zo Zo
theorem DifR.no {a b o : List Int} {i : Nat} {c n : Int} (h : DifR a b i c o) (ha : DigOK a) (hb : DigOK b) (hn : n=(a.drop i).headD 0 - (b.drop i).headD 0 - c) (hs : n<0) : DifR a b (i+1) 1 (o ++ [n+1048576]):=by
 have hb:=h.bounds ha hb hn;exact h.step hn Zo Zo Zo Zo Zo
theorem DifR.done {a b o : List Int} {i : Nat} {c : Int} (h : DifR a b i c o) (hb : DigOK b) (ha : a.length≤i) (hle : val b≤val a) : val o=val a - val b:=by
 have he:=h.eq;rw [List.drop_eq_nil_of_le ha,val_nil] at he;have h1:=val_lt h.ok;rw [h.len] at h1;have h2:=val_nn (digOK_dropR hb i);have h3:=h.c0;have h4:=pw_pos i;generalize val (b.drop i)=x at *;by_cases hx : x+c=0
 ·rw [show 0 - x - c=0 by omega,Int.mul_zero] at he;omega
 ·have : pw i * (0 - x - c)≤pw i * (-1):=Int.mul_le_mul_of_nonneg_left Zo Zo;omega
theorem DifR.trim {a b o : List Int} {i n : Nat} {c : Int} (h : DifR a b i c o) (hb : DigOK b) (ha : a.length≤i) (hn : val a - val b=n) : trimL o=digs n:=by
 rw [trimL_is h.ok,h.done hb ha Zo,hn,Int.toNat_natCast]
theorem val_setD : ∀ (l : List Int) (j : Nat) (x y : Int),l[j]? = some x→val (l.set j y)=val l+pw j * (y - x)
 | [],_,_,_,h=>by simp at h
 | d :: l,0,x,y,h=>by
  (obtain rfl : d=x:=by simpa using h);simp only [List.set_cons_zero,val,pw]; omega
 | d :: l,j+1,x,y,h=>by
  have ih:=val_setD l j x y (by simpa using h);simp only [List.set_cons_succ,val,pw];rw [ih,Int.mul_assoc]; omega
theorem digOK_set {l : List Int} (h : DigOK l) (j : Nat) {x : Int} (h0 : 0≤x) (h1 : x<1048576) : DigOK (l.set j x):=fun d hd=>by
 rcases List.mem_or_eq_of_mem_set hd with h2 | rfl
 ·exact h d h2
 ·exact ⟨h0,h1⟩
structure RowR (x : Int) (b o0 : List Int) (k q : Nat) (c : Int) (o : List Int) : Prop where
  ok : DigOK o
  len : o.length=o0.length
  zero : ∀ j,k+b.length≤j→k+q≤j→j<o.length→o[j]? = some 0
  eq : val o+pw (k+q) * (c+x * val (b.drop q))=val o0+pw k * (x * val b)
  c0 : 0≤c
  c1 : c<1048576
  most : q≤b.length+1
  last : q=b.length+1→c=0
theorem RowR.start {a b o : List Int} {k : Nat} (x : Int) (h : MulS a b k o) : RowR x b o k 0 0 o where
 ok:=h.ok
 len:=rfl
 zero j h1 _ h2:=h.zero j h1 h2
 eq:=by simp
 c0:=by omega
 c1:=by omega
 most:=by omega
 last h:=by omega
theorem RowR.next {x c n z : Int} {b o0 o : List Int} {k q : Nat} (h : RowR x b o0 k q c o) (hx : 0≤x∧x<1048576) (hb : DigOK b) (hq : q<b.length∨0<c) (hz : o[k+q]? = some z) (hn : n=z+x * (b.drop q).headD 0+c) : RowR x b o0 k (q+1) (n / 1048576) (o.set (k+q) (n % 1048576))∧0≤n∧n<1099511627776:=by
 obtain ⟨hl,hzg⟩:=List.getElem?_eq_some_iff.1 hz;have hz1 : 0≤z∧z<1048576:=h.ok z (List.mem_of_getElem? hz);have hy:=digOK_headR hb q;have h3:=h.c0;have h4:=h.c1;have he:=h.eq;have hm:=h.most;have hlast:=h.last;have hp0 : 0≤x * (b.drop q).headD 0:=Int.mul_nonneg hx.1 hy.1;have hp1 : x * (b.drop q).headD 0≤1048575 * 1048575:=Int.mul_le_mul Zo Zo hy.1 Zo;have hq2 : q<b.length∨q=b.length:=by omega
 have hnl : q=b.length→n<1048576:=fun hqe=>by
  have h0:=h.zero (k+q) Zo Zo hl;rw [hz] at h0;injection h0 with h0;rw [hqe,List.drop_length] at hn;simp only [List.headD_nil,Int.mul_zero] at hn;omega
 have hzero:=h.zero;have hvb:=val_headD b q;generalize (b.drop q).headD 0=y at *;generalize hvc : val (b.drop (q+1))=V at *;refine ⟨⟨digOK_set h.ok _ Zo Zo,by rw [List.length_set,h.len],fun j h5 h6 h7=>?_, ?_,by omega,by omega,by omega,fun hql=>?_⟩,by omega,by omega⟩
 ·rw [List.length_set] at h7;rw [List.getElem?_set_ne Zo];exact hzero j h5 Zo h7
 ·rw [val_setD _ _ _ _ hz,show k+(q+1)=(k+q)+1 by omega,pw_succ,← he,hvb,hvc];rw [Int.add_assoc (val o),Int.mul_comm 1048576,Int.mul_assoc,← Int.mul_add];congr 2;(have e1 : x * (y+1048576 * V)=x * y+1048576 * (x * V):=by rw [Int.mul_add,Int.mul_left_comm]);rw [e1];omega
 ·have:=hnl Zo;omega
theorem RowR.done {x : Int} {a b o0 o : List Int} {k q : Nat} (h : RowR x b o0 k q 0 o) (hm : MulS a b k o0) (hk : a[k]? = some x) (hq : b.length≤q) : MulS a b (k+1) o where
 ok:=h.ok
 len:=by rw [h.len,hm.len]
 zero j h1 h2:=h.zero j Zo (by have:=h.most; omega) h2
 sum:=by
  have he:=h.eq;rw [List.drop_eq_nil_of_le hq,val_nil] at he;obtain ⟨hl,hx⟩:=List.getElem?_eq_some_iff.1 hk;rw [List.take_succ_eq_append_getElem hl,hx,val_snoc,List.length_take,Nat.min_eq_left Zo,Int.add_mul,← hm.sum,Int.mul_assoc,← he];simp
theorem RowR.fits {x c : Int} {a b o0 o : List Int} {k q : Nat} (h : RowR x b o0 k q c o) (hm : MulS a b k o0) (hk : k<a.length) (hq : q<b.length∨0<c) : k+q<o.length:=by
 rw [h.len,hm.len];have h1:=h.most;have h2:=h.last;omega
theorem MulS.trim {a b o : List Int} {n : Nat} (h : MulS a b a.length o) (hn : val a * val b=n) : trimL o=digs n:=by
 rw [trimL_is h.ok,h.done,hn,Int.toNat_natCast]
structure OverR (a b : List Int) (i : Nat) (q : List Int) (r : Nat) : Prop where
  len : q.length=a.length
  ok : DigOK q
  eq : val (a.drop i)=val (q.drop i) * val b+r
  lt : (r : Int)<val b
theorem OverR.start {a b : List Int} (hb : 0<val b) : OverR a b a.length (List.replicate a.length 0) 0 where
 len:=by simp
 ok d hd:=by rw [List.eq_of_mem_replicate hd]; omega
 eq:=by rw [List.drop_length,List.drop_eq_nil_of_le Zs]; simp [val]
 lt:=by simpa using hb
theorem OverR.next {a b q : List Int} {i r lo : Nat} {x : Int} (h : OverR a b (i+1) q r) (hx : a[i]? = some x) (hlo : lo<1048576) (h1 : (lo : Int) * val b≤x+1048576 * r) (h2 : x+1048576 * r<((lo : Int)+1) * val b) : OverR a b i (q.set i lo) (x+1048576 * r - (lo : Int) * val b).toNat:=by
 obtain ⟨hl,hxg⟩:=List.getElem?_eq_some_iff.1 hx;have he:=h.eq;(have hql : i<(q.set i (lo : Int)).length:=by rw [List.length_set,h.len]; exact hl);refine ⟨by rw [List.length_set,h.len],digOK_set h.ok i Zo Zo, ?_, ?_⟩
 ·rw [List.drop_eq_getElem_cons hl,hxg,List.drop_eq_getElem_cons hql,List.getElem_set_self,List.drop_set_of_lt Zo];simp only [val];rw [he,Int.toNat_of_nonneg Zo,Int.add_mul,Int.mul_add,Int.mul_assoc 1048576];omega
 ·rw [Int.toNat_of_nonneg Zo];rw [Int.add_mul,Int.one_mul] at h2;omega
theorem OverR.done {a b q : List Int} {r : Nat} {x y : Nat} (h : OverR a b 0 q r) (ha : val a=x) (hb : val b=y) (hy : 0<y) : trimL q=digs (x / y)∧r=x % y:=by
 have he:=h.eq;have hl:=h.lt;have hq:=val_nn h.ok;rw [List.drop_zero,List.drop_zero,ha,hb] at he;rw [hb] at hl;rw [trimL_is h.ok];obtain ⟨v,hv⟩ : ∃ v : Nat,val q=v:=⟨(val q).toNat,by omega⟩;rw [hv] at he ⊢;(have he' : x=v * y+r:=by exact_mod_cast he);(have hr : r<y:=by omega);rw [Int.toNat_natCast,he'];constructor
 ·rw [Nat.add_comm,Nat.mul_comm,Nat.add_mul_div_left _ _ hy,Nat.div_eq_of_lt hr,Nat.zero_add]
 ·rw [Nat.add_comm,Nat.mul_comm,Nat.add_mul_mod_self_left,Nat.mod_eq_of_lt hr]
theorem r04_digit (s : Sl Int) (i : Nat) {F : Nat→Prop} (w : World) (hr : Rd F 1 ienc w s) : Calls Tryz.prog 170 #[.slice s.A s.l.length s.c,.int .i64 i] w fun e w'=>e = .returned (.int .i64 ((s.l.drop i).headD 0))∧w=w':=by
 obtain ⟨A,c,l⟩:=s;have hml : l.length≤9223372036854775807:=hr.len;simp only;by_cases hi : i<l.length
 ·obtain ⟨b,o,hA,hF,c0⟩:=hr.geti hi;simp only at hA c0;subst hA;(have hv : (l.drop i).headD 0=l[i]:=by rw [List.drop_eq_getElem_cons hi]; rfl);rw [hv];clear hv;generalize l[i]=x at *;go_enter Tryz.func170,Tryz.ntmps170;go_wp2_with fail;go_ret;exact ⟨rfl,rfl⟩
 ·(have hv : (l.drop i).headD 0=0:=by rw [List.drop_eq_nil_of_le Zo]; rfl);rw [hv];clear hv;go_enter Tryz.func170,Tryz.ntmps170;go_wp2_with fail;go_ret;exact ⟨rfl,rfl⟩
theorem r04_trim (s : Sl Int) {F : Nat→Prop} (w : World) (hr : Rd F 1 ienc w s) (hF : ∀ b,F b→b<w.heap.size) (h1000 : s.l.length≤1000) : Calls Tryz.prog 171 #[.slice s.A s.l.length s.c] w fun e w'=>SlP w w' (trimL s.l) e:=by
 obtain ⟨A,c,l⟩:=s;have hml : l.length≤9223372036854775807:=hr.len;have hcap : l.length≤c:=hr.1;have hcm : c≤9223372036854775807:=hr.cap;have HR:=Zh hr;have HF:=Zh hF;clear hr hF;simp only at h1000 ⊢;go_enter Tryz.func171,Tryz.ntmps171;go_wp2_with fail;go_loopw [3] (fun v wr=>∃ (k : Nat),k≤l.length∧v = .int .i64 k∧Hid (trimL l=trimL (l.take k))∧w=wr) (fun v _=>(intOf v).toNat)
 case atStart=>exact ⟨l.length,Nat.le_refl _,rfl,Zh (by rw [List.take_length]),rfl⟩
 case round =>
  obtain ⟨k,hk,rfl,HT,rfl⟩:=hrel;by_cases hgo : ∃ j,k=j+1∧l[j]? = some 0
  ·obtain ⟨j,rfl,hj⟩:=hgo;obtain ⟨hjl,hj0⟩:=List.getElem?_eq_some_iff.1 hj;obtain ⟨b,o,hA,hF,c0⟩:=HR.out.geti hjl;simp only at hA c0;subst hA;have HT2:=Zh (HT.out.trans (take_zero_step hjl hj0));rw [hj0] at c0;clear HT hj hj0;go_wp2_with fail;go_roundw
   case rel=>exact ⟨j,by omega,by go_num,HT2,trivial⟩
   case measure=>simp [intOf]
  ·have hT : trimL l=l.take k:=by
    rw [HT.out];rcases k with _ | j
    ·simp [trimL]
    ·(have hjl : j<l.length:=by omega);exact take_top_step hjl (fun h0=>hgo ⟨j,rfl,by rw [List.getElem?_eq_getElem hjl,h0]⟩)
   have HTL:=Zh hT;have HTK:=Zh (HR.out.takeN k);(have hkl : (l.take k).length=k:=by rw [List.length_take]; omega);have HKL:=Zh hkl;clear HT hT hkl;rcases k with _ | j
   ·go_wp2_with (at_builtin;go_must (refine wpl_append_sl _ rfl (.tmp 18) (.tmp 21) _ rfl Tryz.underlying60 infoInt Zo ienc_k ienc_one ⟨some ⟨w.heap.size,0,none⟩,0,[]⟩ ⟨A,c,[]⟩ rfl rfl (Own.lit w #[] [] Zl (Nat.zero_le _) rfl ienc_k) ((HTK.out.mono HF.out).lt_alloc _) (by simp [maxLen]) Zs Zs ?_);intro A' c' w1 hown hg _);go_ret;exact ⟨⟨A',c',[]⟩,rfl,by rw [HTL.out]; rfl,hown,(Zz.alloc Zl _).grown hg Zs (by simp [Value.ownBlock])⟩
   ·(have hjl : j<l.length:=by omega);obtain ⟨b,o,hA,hF,c0⟩:=HR.out.geti hjl;simp only at hA c0;subst hA;have hx : ¬ l[j]=0:=fun h0=>hgo ⟨j,rfl,by rw [List.getElem?_eq_getElem hjl,h0]⟩;generalize l[j]=x at *;clear hgo;have h8:=HKL.out;generalize l.take (j+1)=lt at *;go_wp2_with (at_builtin;go_must (refine wpl_append_sl _ rfl (.tmp 18) (.tmp 21) _ rfl Tryz.underlying60 infoInt Zo ienc_k ienc_one ⟨some ⟨w.heap.size,0,none⟩,0,[]⟩ ⟨some ⟨b,o,none⟩,c,lt⟩ rfl (by simp only [h8]; rfl) (Own.lit w #[] [] Zl (Nat.zero_le _) rfl ienc_k) ((HTK.out.mono HF.out).lt_alloc _) (by simp [maxLen]; omega) (by simp; omega) Zs ?_);intro A' c' w1 hown hg _);go_ret;exact ⟨⟨A',c',lt⟩,by simp only [Sl.v,h8]; rfl,HTL.out.symm,hown,(Zz.alloc Zl _).grown hg Zs (by simp [Value.ownBlock])⟩
theorem r04_made (g : Int) (s : Sl Int) {F : Nat→Prop} (w : World) (hr : Rd F 1 ienc w s) (hF : ∀ b,F b→b<w.heap.size) (h1000 : s.l.length≤1000) : Calls Tryz.prog 127 #[.int .i64 g,.slice s.A s.l.length s.c] w fun e w'=>BigP w w' (signedD g s.l) e:=by
 obtain ⟨A,c,l⟩:=s;have HT:=r04_trim ⟨A,c,l⟩ (w.alloc (.cells Zg 69)) (hr.up hF qbl) (fun b hb=>by have:=hF b hb; simp; omega) h1000;have hml : (trimL l).length≤9223372036854775807:=Nat.le_trans (trimL_le l) hr.len;clear hr hF;simp only at HT ⊢;go_enter Tryz.func127,Tryz.ntmps127;go_wp2_with fail;refine HT.mono ?_;rintro e w1 ⟨⟨A',c',l'⟩,rfl,hl',hown,hb1⟩;simp only at hl';subst hl';obtain ⟨B_a,a0,a1,af,az⟩:=Zb2 (Zk1 (g:=w.heap.size) (t:=69) (cs:=Zg) hb1);have hB1 : Below w.heap.size w w1:=qbv;have HOW : Hid (Rd (Nw (w.heap.size+1) w1) 1 ienc w1 ⟨A',c',trimL l⟩):=Zh ((hown.rd ienc_k).mono fun b hb=>⟨by have:=hb.1; simp at this; omega,hb.2⟩);have hsz:=hb1.size;simp only [World.alloc,Array.size_push] at hsz;simp only [Sl.v];clear hown hb1 HT;by_cases hz : (trimL l).length=0
 ·(have hd : signedD g l=⟨0,[]⟩:=by unfold signedD; rw [if_pos (List.eq_nil_of_length_eq_zero hz)]);have HD:=Zh hd;clear hd;go_wp2_with fail;refine bodyPost_ret (v:=.agg Zg) ?_ rfl (BigP.cast HD.out ⟨⟨0,⟨none,0,[]⟩⟩,rfl,rfl,Rd.nil _ _ _ _,qbh⟩);simp [results,Tryz.results127,go_sem,a0,a1]
 ·(have hd : signedD g l=⟨g,trimL l⟩:=by unfold signedD; rw [if_neg (fun h=>hz (by rw [h]; rfl))]);have HD:=Zh hd;clear hd;(have hne : ∀ b,Nw (w.heap.size+1) w1 b→b≠w.heap.size:=fun b hb=>by have:=hb.1; omega);have hnw : ∀ b,Nw (w.heap.size+1) w1 b→w.heap.size≤b∧b<w1.heap.size:=fun b hb=>⟨by have:=hb.1; omega,hb.2⟩;go_wp2_with fail;refine bodyPost_ret (v:=.agg #[.int .i64 g,.slice A' (trimL l).length c']) ?_ rfl (BigP.cast HD.out ⟨⟨g,⟨A',c',trimL l⟩⟩,rfl,rfl,((HOW.out.far (fun b hb=>hne b hb) _).far (fun b hb=>hne b hb) _).mono (fun b hb=>Nw.of (hnw b hb)),qbh⟩);simp [results,Tryz.results127,go_sem,a0,a1]
end Go.Proofs.YtcgocdhhneckhaaGreat
