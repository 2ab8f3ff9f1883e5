/- Walk: law 32's known. -/
import Derived.Test.YtcgocdhhneckhaaGreatDoorEqmxad
set_option linter.unusedSimpArgs false
set_option linter.unusedVariables false
set_option maxRecDepth 100000
set_option maxHeartbeats 6400000
namespace Go.Proofs.YtcgocdhhneckhaaGreatDoor
open Go.RowKit
def knownN (trip : Bool) : List ByteArray:=if trip then [(⟨#[100,105,114,101,99,116]⟩ : ByteArray),(⟨#[114,105,100,101]⟩ : ByteArray),(⟨#[100,101,108,97,121]⟩ : ByteArray),(⟨#[110,111,116,105,99,101]⟩ : ByteArray),(⟨#[115,101,97,116,115]⟩ : ByteArray),(⟨#[99,104,97,105,114,115]⟩ : ByteArray),(⟨#[98,97,103,115]⟩ : ByteArray),(⟨#[114,105,100,101,114,115]⟩ : ByteArray)] else [(⟨#[102,97,118,111,117,114]⟩ : ByteArray),(⟨#[98,97,108,97,110,99,101]⟩ : ByteArray),(⟨#[116,114,105,112,115]⟩ : ByteArray),(⟨#[110,111,115,104,111,119,115]⟩ : ByteArray)]
def KnP (w w' : World) (N : List ByteArray) (e : Ending) : Prop:=∃ m : Sl FT,e = .returned (.slice m.A m.l.length m.c)∧m.l.map FT.nm=N∧(∀ x,x ∈ m.l→-1000000<x.v∧x.v<1000000)∧FactsAt (· < w'.heap.size) w' m∧Below w.heap.size w w'
theorem infoFactK : Info Tryz.prog 52 (.agg #[.string ByteArray.empty,.int .i64 0]) 2 24:=info_mk Zy rfl
theorem rd_factK {W : World} {g : Nat} {xn : ByteArray} {xv : Int} (h : Blk W g 52 #[.string xn,.int .i64 xv]) : Rd (· < W.heap.size) 2 FT.enc W ⟨some ⟨g,0,none⟩,1,[⟨xn,xv⟩]⟩ :=
 ⟨Nat.le_refl _,by unfold maxLen; simp,fun h=>by simp at h,fun i y hy=>by
  have hi : i=0:=by
   rcases i with _ | i
   ·rfl
   ·simp at hy
  subst hi;(have hxy : (⟨xn,xv⟩ : FT)=y:=by simpa using hy);subst hxy;exact ⟨g,0,rfl,h.lt,fun j u hu=>by rw [h.cell,Nat.zero_mul,Nat.zero_add]; simpa [FT.enc] using hu⟩⟩
def strsV (N : List ByteArray) : Array Value:=(N.map Value.string).toArray
theorem strsV_at {N : List ByteArray} {k : Nat} {x : ByteArray} (h : N[k]? = some x) : (strsV N)[k]? = some (.string x):=by unfold strsV; simp [h]
theorem knownN_sz : ∀ t x,x ∈ knownN t→x.size≤9223372036854775807
 | true,x,h=>by
  simp only [knownN,if_true,List.mem_cons,List.not_mem_nil,or_false] at h;rcases h with rfl | rfl | rfl | rfl | rfl | rfl | rfl | rfl <;> (show (ByteArray.size _)≤_; decide)
 | false,x,h=>by
  simp only [knownN,Bool.false_eq_true,if_false,List.mem_cons,List.not_mem_nil,or_false] at h;rcases h with rfl | rfl | rfl | rfl <;> (show (ByteArray.size _)≤_; decide)
theorem zero_small : -1000000<(0 : Int)∧(0 : Int)<1000000:=by decide
theorem tmod_small (x : Int) : -1000000<Int.tmod x 1000000∧Int.tmod x 1000000<1000000:=by
 have h1:=Int.tmod_lt_of_pos x (by decide : (0 : Int)<1000000);have h2:=Int.tmod_lt_of_pos (-x) (by decide : (0 : Int)<1000000);rw [Int.neg_tmod] at h2;exact ⟨by omega,h1⟩
theorem law_known (V : Sl Int) (trip : Bool) (w : World) (hV : Rd (· < w.heap.size) 1 ienc w V) : Calls Tryz.prog 25 #[.slice V.A V.l.length V.c,.bool trip] w fun e w'=>KnP w w' (knownN trip) e:=by
 have HV:=Zh hV;have hln:=hV.len;clear hV;obtain ⟨VA,Vc,V⟩:=V;simp only at hln;go_enter Tryz.func25,Tryz.ntmps25;rcases trip
 ·go_wp2_with fail;(have hcs : strsV (knownN false) = #[.string (⟨#[102,97,118,111,117,114]⟩ : ByteArray),.string (⟨#[98,97,108,97,110,99,101]⟩ : ByteArray),.string (⟨#[116,114,105,112,115]⟩ : ByteArray),.string (⟨#[110,111,115,104,111,119,115]⟩ : ByteArray)]:=by kernel_rfl);have HB1 : Hid (Below w.heap.size w (w.alloc (.cells (strsV (knownN false)) 9))):=Zh qbl;have HN : Hid (Blk (w.alloc (.cells (strsV (knownN false)) 9)) w.heap.size 9 (strsV (knownN false))):=Zh (Blk.new _ _ _);have HNS:=Zh (knownN_sz false);rw [← hcs];clear hcs;generalize w.alloc (.cells (strsV (knownN false)) 9)=w1 at *;obtain ⟨N,hN⟩ : ∃ N,knownN false=N:=⟨_,rfl⟩;have HNE:=Zh hN;have HNL : Hid (N.length=4):=Zh (by rw [← hN]; rfl);rw [hN] at HN HNS;clear hN;go_loopw [6,7] (fun t i wr=>∃ (k : Nat) (A : Option Addr) (c : Nat) (m : List FT),k≤4∧i = .int .i64 k∧t = .slice A m.length c∧m.length=k∧Hid (Own w1.heap.size 52 2 FT.enc wr ⟨A,c,m⟩)∧Below w1.heap.size w1 wr∧Hid (m.map FT.nm=N.take k∧∀ x,x ∈ m→-1000000<x.v∧x.v<1000000)) (fun _ i _=>4 - (intOf i).toNat)
  case atStart=>exact ⟨0,none,0,[],by omega,rfl,rfl,rfl,Zh (Own.nil _ _ _ _ _),Below.refl _ _,Zh ⟨rfl,fun x hx=>by cases hx⟩⟩
  case round =>
   obtain ⟨k,A,c,m,hk,rfl,rfl,hm,HO,hbel,HM⟩:=hrel;have HBEL:=Zh hbel;have HML:=Zh hm;by_cases hlt : k<4
   ·obtain ⟨xn,hx⟩ : ∃ x,N[k]? = some x:=⟨_,List.getElem?_eq_getElem (by rw [HNL.out]; exact hlt)⟩;have hn0:=((HN.out.later hbel).cell k).trans (strsV_at hx);(have hki : (k : Int)<4:=by omega);have HX:=Zh hx;by_cases hv : k<V.length
    ·obtain ⟨b,o,hA,hbF,hc0⟩:=(HV.out.later (HB1.out.trans (hbel.mono HB1.out.size))).geti hv;simp only at hA hc0;subst hA;(have hkv : (k : Int)<V.length:=by omega);(have hml : m.length+1≤9:=by omega);clear hm hx;go_wp2_with (at_builtin; apply Hid.out);have HB5 : Hid (Below w1.heap.size w1 (wr.alloc (.cells #[.string xn,.int .i64 (Int.tmod V[k] 1000000)] 52))):=Zh (HBEL.out.alloc HBEL.out.size _);have HG5:=Zh (Blk.new wr 52 #[.string xn,.int .i64 (Int.tmod V[k] 1000000)]);have HO5:=Zh (HO.out.alloc (.cells #[.string xn,.int .i64 (Int.tmod V[k] 1000000)] 52));refine Zh ?_;generalize wr.alloc (.cells _ 52)=w5 at *;refine wpl_append_sl _ rfl (.tmp 27) (.tmp 34) _ rfl Tryz.underlying26 infoFactK Zo FT.enc_k FT.enc_one ⟨A,c,m⟩ ⟨some ⟨wr.heap.size,0,none⟩,1,[⟨xn,Int.tmod V[k] 1000000⟩]⟩ rfl rfl HO5.out (rd_factK HG5.out) (by simp [maxLen]; omega) (by simp; omega) HB5.out.size ?_;intro A6 c6 w6 hown6 hg6 _;have hrow:=own_row_ge HO5.out;have HB6 : Hid (Below w1.heap.size w1 w6):=Zh (HB5.out.grown hg6 HB5.out.size (fun k hk=>(hrow k hk).1));have HO6:=Zh hown6
     have HM6 : Hid ((m ++ [(⟨xn,Int.tmod V[k] 1000000⟩ : FT)]).map FT.nm=N.take (k+1)∧∀ x,x ∈ m ++ [(⟨xn,Int.tmod V[k] 1000000⟩ : FT)]→-1000000<x.v∧x.v<1000000):=Zh ⟨by rw [List.map_append,HM.out.1,List.take_add_one,HX.out]; rfl,fun x hx=>by
      rcases List.mem_append.1 hx with h | h
      ·exact HM.out.2 x h
      ·rw [List.mem_singleton.1 h]; exact tmod_small _⟩
     clear hg6 hown6 hrow hn0 HBEL hbel;go_wp2_with fail;go_roundw
     case measure=>simp [intOf]; omega
     case rel=>exact ⟨k+1,A6,c6,m ++ [⟨xn,Int.tmod V[k] 1000000⟩],by omega,by first | go_num | rfl | trivial,by first | (simp; done) | rfl | trivial,by rw [List.length_append,HML.out]; rfl,HO6,HB6.out,HM6⟩
    ·(have hkv : ¬ (k : Int)<V.length:=by omega);(have hml : m.length+1≤9:=by omega);clear hm hx;go_wp2_with (at_builtin; apply Hid.out);have HB5 : Hid (Below w1.heap.size w1 (wr.alloc (.cells #[.string xn,.int .i64 (0)] 52))):=Zh (HBEL.out.alloc HBEL.out.size _);have HG5:=Zh (Blk.new wr 52 #[.string xn,.int .i64 (0)]);have HO5:=Zh (HO.out.alloc (.cells #[.string xn,.int .i64 (0)] 52));refine Zh ?_;generalize wr.alloc (.cells _ 52)=w5 at *;refine wpl_append_sl _ rfl (.tmp 27) (.tmp 34) _ rfl Tryz.underlying26 infoFactK Zo FT.enc_k FT.enc_one ⟨A,c,m⟩ ⟨some ⟨wr.heap.size,0,none⟩,1,[⟨xn,0⟩]⟩ rfl rfl HO5.out (rd_factK HG5.out) (by simp [maxLen]; omega) (by simp; omega) HB5.out.size ?_;intro A6 c6 w6 hown6 hg6 _;have hrow:=own_row_ge HO5.out;have HB6 : Hid (Below w1.heap.size w1 w6):=Zh (HB5.out.grown hg6 HB5.out.size (fun k hk=>(hrow k hk).1));have HO6:=Zh hown6
     have HM6 : Hid ((m ++ [(⟨xn,0⟩ : FT)]).map FT.nm=N.take (k+1)∧∀ x,x ∈ m ++ [(⟨xn,0⟩ : FT)]→-1000000<x.v∧x.v<1000000):=Zh ⟨by rw [List.map_append,HM.out.1,List.take_add_one,HX.out]; rfl,fun x hx=>by
      rcases List.mem_append.1 hx with h | h
      ·exact HM.out.2 x h
      ·rw [List.mem_singleton.1 h]; exact zero_small⟩
     clear hg6 hown6 hrow hn0 HBEL hbel;go_wp2_with fail;go_roundw
     case measure=>simp [intOf]; omega
     case rel=>exact ⟨k+1,A6,c6,m ++ [⟨xn,0⟩],by omega,by first | go_num | rfl | trivial,by first | (simp; done) | rfl | trivial,by rw [List.length_append,HML.out]; rfl,HO6,HB6.out,HM6⟩
   ·(have hk8 : k=4:=by omega);subst hk8;(have hmn : m.map FT.nm=knownN false:=by rw [HM.out.1,HNE.out,List.take_of_length_le (by rw [HNL.out]; omega)]);have HMN:=Zh hmn;clear hmn hm;go_wp2_with fail;go_ret;exact ⟨⟨A,c,m⟩,rfl,HMN.out,HM.out.2,⟨(HO.out.rd FT.enc_k).mono (fun b hb=>hb.2),fun y hy=>HNS.out y.nm (by rw [← HNE.out,← HMN.out]; exact List.mem_map_of_mem hy)⟩,HB1.out.trans (hbel.mono HB1.out.size)⟩
 ·go_wp2_with fail;(have hcs : strsV (knownN true) = #[.string (⟨#[100,105,114,101,99,116]⟩ : ByteArray),.string (⟨#[114,105,100,101]⟩ : ByteArray),.string (⟨#[100,101,108,97,121]⟩ : ByteArray),.string (⟨#[110,111,116,105,99,101]⟩ : ByteArray),.string (⟨#[115,101,97,116,115]⟩ : ByteArray),.string (⟨#[99,104,97,105,114,115]⟩ : ByteArray),.string (⟨#[98,97,103,115]⟩ : ByteArray),.string (⟨#[114,105,100,101,114,115]⟩ : ByteArray)]:=by kernel_rfl);have HB1 : Hid (Below w.heap.size w ((w.alloc (.cells #[.string (⟨#[102,97,118,111,117,114]⟩ : ByteArray),.string (⟨#[98,97,108,97,110,99,101]⟩ : ByteArray),.string (⟨#[116,114,105,112,115]⟩ : ByteArray),.string (⟨#[110,111,115,104,111,119,115]⟩ : ByteArray)] 9)).alloc (.cells (strsV (knownN true)) 9))):=Zh qbl;have HN : Hid (Blk ((w.alloc (.cells #[.string (⟨#[102,97,118,111,117,114]⟩ : ByteArray),.string (⟨#[98,97,108,97,110,99,101]⟩ : ByteArray),.string (⟨#[116,114,105,112,115]⟩ : ByteArray),.string (⟨#[110,111,115,104,111,119,115]⟩ : ByteArray)] 9)).alloc (.cells (strsV (knownN true)) 9)) (w.heap.size+1) 9 (strsV (knownN true))):=Zh (Blk.new' Zs);have HNS:=Zh (knownN_sz true);rw [← hcs];clear hcs;generalize (w.alloc (.cells #[.string (⟨#[102,97,118,111,117,114]⟩ : ByteArray),.string (⟨#[98,97,108,97,110,99,101]⟩ : ByteArray),.string (⟨#[116,114,105,112,115]⟩ : ByteArray),.string (⟨#[110,111,115,104,111,119,115]⟩ : ByteArray)] 9)).alloc (.cells (strsV (knownN true)) 9)=w1 at *;obtain ⟨N,hN⟩ : ∃ N,knownN true=N:=⟨_,rfl⟩;have HNE:=Zh hN;have HNL : Hid (N.length=8):=Zh (by rw [← hN]; rfl);rw [hN] at HN HNS;clear hN;go_loopw [6,7] (fun t i wr=>∃ (k : Nat) (A : Option Addr) (c : Nat) (m : List FT),k≤8∧i = .int .i64 k∧t = .slice A m.length c∧m.length=k∧Hid (Own w1.heap.size 52 2 FT.enc wr ⟨A,c,m⟩)∧Below w1.heap.size w1 wr∧Hid (m.map FT.nm=N.take k∧∀ x,x ∈ m→-1000000<x.v∧x.v<1000000)) (fun _ i _=>8 - (intOf i).toNat)
  case atStart=>exact ⟨0,none,0,[],by omega,rfl,rfl,rfl,Zh (Own.nil _ _ _ _ _),Below.refl _ _,Zh ⟨rfl,fun x hx=>by cases hx⟩⟩
  case round =>
   obtain ⟨k,A,c,m,hk,rfl,rfl,hm,HO,hbel,HM⟩:=hrel;have HBEL:=Zh hbel;have HML:=Zh hm;by_cases hlt : k<8
   ·obtain ⟨xn,hx⟩ : ∃ x,N[k]? = some x:=⟨_,List.getElem?_eq_getElem (by rw [HNL.out]; exact hlt)⟩;have hn0:=((HN.out.later hbel).cell k).trans (strsV_at hx);(have hki : (k : Int)<8:=by omega);have HX:=Zh hx;by_cases hv : k<V.length
    ·obtain ⟨b,o,hA,hbF,hc0⟩:=(HV.out.later (HB1.out.trans (hbel.mono HB1.out.size))).geti hv;simp only at hA hc0;subst hA;(have hkv : (k : Int)<V.length:=by omega);(have hml : m.length+1≤9:=by omega);clear hm hx;go_wp2_with (at_builtin; apply Hid.out);have HB5 : Hid (Below w1.heap.size w1 (wr.alloc (.cells #[.string xn,.int .i64 (Int.tmod V[k] 1000000)] 52))):=Zh (HBEL.out.alloc HBEL.out.size _);have HG5:=Zh (Blk.new wr 52 #[.string xn,.int .i64 (Int.tmod V[k] 1000000)]);have HO5:=Zh (HO.out.alloc (.cells #[.string xn,.int .i64 (Int.tmod V[k] 1000000)] 52));refine Zh ?_;generalize wr.alloc (.cells _ 52)=w5 at *;refine wpl_append_sl _ rfl (.tmp 27) (.tmp 34) _ rfl Tryz.underlying26 infoFactK Zo FT.enc_k FT.enc_one ⟨A,c,m⟩ ⟨some ⟨wr.heap.size,0,none⟩,1,[⟨xn,Int.tmod V[k] 1000000⟩]⟩ rfl rfl HO5.out (rd_factK HG5.out) (by simp [maxLen]; omega) (by simp; omega) HB5.out.size ?_;intro A6 c6 w6 hown6 hg6 _;have hrow:=own_row_ge HO5.out;have HB6 : Hid (Below w1.heap.size w1 w6):=Zh (HB5.out.grown hg6 HB5.out.size (fun k hk=>(hrow k hk).1));have HO6:=Zh hown6
     have HM6 : Hid ((m ++ [(⟨xn,Int.tmod V[k] 1000000⟩ : FT)]).map FT.nm=N.take (k+1)∧∀ x,x ∈ m ++ [(⟨xn,Int.tmod V[k] 1000000⟩ : FT)]→-1000000<x.v∧x.v<1000000):=Zh ⟨by rw [List.map_append,HM.out.1,List.take_add_one,HX.out]; rfl,fun x hx=>by
      rcases List.mem_append.1 hx with h | h
      ·exact HM.out.2 x h
      ·rw [List.mem_singleton.1 h]; exact tmod_small _⟩
     clear hg6 hown6 hrow hn0 HBEL hbel;go_wp2_with fail;go_roundw
     case measure=>simp [intOf]; omega
     case rel=>exact ⟨k+1,A6,c6,m ++ [⟨xn,Int.tmod V[k] 1000000⟩],by omega,by first | go_num | rfl | trivial,by first | (simp; done) | rfl | trivial,by rw [List.length_append,HML.out]; rfl,HO6,HB6.out,HM6⟩
    ·(have hkv : ¬ (k : Int)<V.length:=by omega);(have hml : m.length+1≤9:=by omega);clear hm hx;go_wp2_with (at_builtin; apply Hid.out);have HB5 : Hid (Below w1.heap.size w1 (wr.alloc (.cells #[.string xn,.int .i64 (0)] 52))):=Zh (HBEL.out.alloc HBEL.out.size _);have HG5:=Zh (Blk.new wr 52 #[.string xn,.int .i64 (0)]);have HO5:=Zh (HO.out.alloc (.cells #[.string xn,.int .i64 (0)] 52));refine Zh ?_;generalize wr.alloc (.cells _ 52)=w5 at *;refine wpl_append_sl _ rfl (.tmp 27) (.tmp 34) _ rfl Tryz.underlying26 infoFactK Zo FT.enc_k FT.enc_one ⟨A,c,m⟩ ⟨some ⟨wr.heap.size,0,none⟩,1,[⟨xn,0⟩]⟩ rfl rfl HO5.out (rd_factK HG5.out) (by simp [maxLen]; omega) (by simp; omega) HB5.out.size ?_;intro A6 c6 w6 hown6 hg6 _;have hrow:=own_row_ge HO5.out;have HB6 : Hid (Below w1.heap.size w1 w6):=Zh (HB5.out.grown hg6 HB5.out.size (fun k hk=>(hrow k hk).1));have HO6:=Zh hown6
     have HM6 : Hid ((m ++ [(⟨xn,0⟩ : FT)]).map FT.nm=N.take (k+1)∧∀ x,x ∈ m ++ [(⟨xn,0⟩ : FT)]→-1000000<x.v∧x.v<1000000):=Zh ⟨by rw [List.map_append,HM.out.1,List.take_add_one,HX.out]; rfl,fun x hx=>by
      rcases List.mem_append.1 hx with h | h
      ·exact HM.out.2 x h
      ·rw [List.mem_singleton.1 h]; exact zero_small⟩
     clear hg6 hown6 hrow hn0 HBEL hbel;go_wp2_with fail;go_roundw
     case measure=>simp [intOf]; omega
     case rel=>exact ⟨k+1,A6,c6,m ++ [⟨xn,0⟩],by omega,by first | go_num | rfl | trivial,by first | (simp; done) | rfl | trivial,by rw [List.length_append,HML.out]; rfl,HO6,HB6.out,HM6⟩
   ·(have hk8 : k=8:=by omega);subst hk8;(have hmn : m.map FT.nm=knownN true:=by rw [HM.out.1,HNE.out,List.take_of_length_le (by rw [HNL.out]; omega)]);have HMN:=Zh hmn;clear hmn hm;go_wp2_with fail;go_ret;exact ⟨⟨A,c,m⟩,rfl,HMN.out,HM.out.2,⟨(HO.out.rd FT.enc_k).mono (fun b hb=>hb.2),fun y hy=>HNS.out y.nm (by rw [← HNE.out,← HMN.out]; exact List.mem_map_of_mem hy)⟩,HB1.out.trans (hbel.mono HB1.out.size)⟩
end Go.Proofs.YtcgocdhhneckhaaGreatDoor
