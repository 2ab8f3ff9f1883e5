/- Walk: the reference's Table. -/
import Derived.Test.YtlbihfbeamlacaaHbxbn
set_option linter.unusedSimpArgs false
set_option linter.unusedVariables false
set_option maxRecDepth 100000
set_option maxHeartbeats 6400000
namespace Go.Proofs.Ytlbihfbeamlacaa
open Go.RowKit
theorem rd_gen1 {W : World} {g gr n : Nat} (h : Blk W g 23 #[.slice (some ⟨gr,0,none⟩) n n]) : Rd (· < W.heap.size) 1 (genc n) W ⟨some ⟨g,0,none⟩,1,[gr]⟩ :=
  ⟨Nat.le_refl _,by unfold maxLen; simp,fun h=>by simp at h,fun i y hy=>by
    have hi : i=0:=by
      rcases i with _ | i
      · rfl
      · simp at hy
    subst hi
    have hxy : gr=y:=by simpa using hy
    subst hxy
    exact ⟨g,0,rfl,h.lt,fun j u hu=>by rw [h.cell,Nat.zero_mul,Nat.zero_add]; simpa [genc] using hu⟩⟩
theorem r13_Table (n : Nat) (es : Sl ED) (w : World) (hr : Rd (· < w.heap.size) 4 ED.enc w es) (hg : GrD n es.l) (h9 : n≤9) (hl : es.l.length≤20000) :
    Calls Try.prog 17 #[.int .i64 (n : Int),.slice es.A es.l.length es.c] w fun r w'=>∃ (A : Option Addr) (c : Nat),r = .returned (.slice A n c)∧(∃ (G : List Nat),TabM n n w.heap.size w' A c G (tabK es.l n))∧Below w.heap.size w w':=by
  obtain ⟨EA,Ec,es⟩:=es
  simp only at hg hl ⊢
  have HE:=Lib.hid hr
  have HG:=Lib.hid hg
  clear hr hg
  obtain ⟨B,hB⟩ : ∃ x,x=w.heap.size:=⟨_,rfl⟩
  have HBE : Hid (B=w.heap.size):=Lib.hid hB
  have hmk:=fun w=>make_ints n (by omega) w
  rw [rowA_zero] at hmk
  go_enter Try.func17,Try.ntmps17
  rw [← hB]
  clear hB
  go_wp2_with fail
  go_loopw [5,6] (fun X Y wr=>∃ (i : Nat) (A : Option Addr) (c : Nat) (G : List Nat),i≤n∧X = .slice A G.length c∧Y = .int .i64 i∧Hid (TabM n i B wr A c G idD)∧Hid (Below B w wr)) (fun _ Y _=>n - (intOf Y).toNat)
  case atStart=>exact ⟨0,none,0,[],by omega,rfl,rfl,Lib.hid (TabM.nil n B w idD),Lib.hid (Below.refl _ _)⟩
  case round =>
    obtain ⟨i,A,c,G,hi,rfl,rfl,HT,HU⟩:=hrel
    have hbz : B≤wr.heap.size:=by rw [HBE.out]; have:=HU.out.size; rw [HBE.out] at *; exact this
    by_cases hin : i<n
    · have hin' : (i : Int)<(n : Int):=by omega
      go_wp2_with fail
      have hal : Below wr.heap.size wr (wr.alloc (.cells (rowA n (fun _=>0)) 3)):=(Below.refl _ _).alloc (Nat.le_refl _) _
      have HR1 : Hid (Blk (wr.alloc (.cells (rowA n (fun _=>0)) 3)) wr.heap.size 3 (rowA n (fun _=>0))):=Lib.hid (Blk.new _ _ _)
      have HAL:=Lib.hid hal
      obtain ⟨wo,hwo⟩ : ∃ x,x=wr:=⟨_,rfl⟩
      subst hwo
      clear hal
      generalize wo.alloc (.cells (rowA n (fun _=>0)) 3)=w1 at *
      obtain ⟨gr,hgr⟩ : ∃ x,x=wo.heap.size:=⟨_,rfl⟩
      have HGR : Hid (gr ∉ G):=Lib.hid (fun hc=>by
        obtain ⟨q,hq,he⟩:=List.mem_iff_getElem.1 hc
        have:=(HT.out.row q _ (List.getElem?_eq_getElem hq)).1.lt
        omega)
      have HGB : Hid (B≤gr):=Lib.hid (by omega)
      have HGL : Hid (G.length=i):=Lib.hid HT.out.len
      rw [← hgr] at HR1 HAL ⊢
      have HGE:=Lib.hid hgr
      clear hmk hgr hbz
      go_loopw [8] (fun Z wr=>∃ (j : Nat),j≤n∧Z = .int .i64 j∧Hid (Blk wr gr 3 (rowA n (fun x=>if x<(j : Int) then -1 else 0)))∧Hid (Below gr w1 wr)) (fun Z _=>n - (intOf Z).toNat)
      case atStart=>exact ⟨0,by omega,rfl,Lib.hid (by rw [rowA_congr (g:=fun _=>0) (fun k _=>by rw [if_neg (by omega)])]; exact HR1.out),Lib.hid (Below.refl _ _)⟩
      case round =>
        clear HR1
        obtain ⟨j,hj,rfl,HR1,HW1⟩:=hrel
        have hfz:=HR1.out.frozen
        have hrl : gr<wr.heap.size:=HR1.out.lt
        by_cases hjn : j<n
        · have hjn' : (j : Int)<(n : Int):=by omega
          have g0:=HR1.out.cell j
          rw [rowA_at hjn] at g0
          go_wp2_with fail
          clear g0
          have HR2 : Hid (Blk (wr.setCell ⟨gr,j,none⟩ (.int .i64 (-1))) gr 3 (rowA n (fun x=>if x<((j+1 : Nat) : Int) then -1 else 0))):=Lib.hid (by
            have:=HR1.out.set_ j (.int .i64 (-1))
            rw [rowA_set] at this
            rw [rowA_congr (g:=fun x=>if x=(j : Int) then -1 else if x<(j : Int) then -1 else 0) (fun k _=>by
              by_cases h1 : (k : Int)<(j : Int)
              · rw [if_pos (by omega),if_neg (by omega),if_pos h1]
              · by_cases h2 : (k : Int)=(j : Int)
                · rw [if_pos (by omega),if_pos h2]
                · rw [if_neg (by omega),if_neg h2,if_neg h1])]
            exact this)
          have HW2 : Hid (Below gr w1 (wr.setCell ⟨gr,j,none⟩ (.int .i64 (-1)))):=Lib.hid (HW1.out.setCell (p:=⟨gr,j,none⟩) (Nat.le_refl _) _)
          go_roundw
          case rel=>exact ⟨j+1,by omega,by go_num,HR2,HW2⟩
          case measure=>simp [intOf]; omega
        · have hje : n=j:=by omega
          subst hje
          have hjn' : ¬ (n : Int)<(n : Int):=by omega
          have HR3 : Hid (Blk (wr.setCell ⟨gr,i,none⟩ (.int .i64 0)) gr 3 (rowA n (idD (i : Int)))):=Lib.hid (by
            have:=HR1.out.set_ i (.int .i64 0)
            rw [rowA_set] at this
            rw [rowA_congr (g:=fun x=>if x=(i : Int) then 0 else if x<(n : Int) then -1 else 0) (fun k hk=>by
              unfold idD
              by_cases h2 : (i : Int)=(k : Int)
              · rw [if_pos h2,if_pos h2.symm]
              · rw [if_neg h2,if_neg (fun h=>h2 h.symm),if_pos (by omega)])]
            exact this)
          have g0:=HR1.out.cell i
          rw [rowA_at hin] at g0
          have HW3 : Hid (Below gr w1 (wr.setCell ⟨gr,i,none⟩ (.int .i64 0))):=Lib.hid (HW1.out.setCell (p:=⟨gr,i,none⟩) (Nat.le_refl _) _)
          go_wp2_with (at_builtin; apply Hid.out)
          refine Lib.hid ?_
          clear g0 hfz hrl
          have hz3 : (wr.setCell ⟨gr,i,none⟩ (.int .i64 0)).heap.size=wr.heap.size:=by simp
          generalize wr.setCell ⟨gr,i,none⟩ (.int .i64 0)=w3 at *
          have HT3:=Lib.hid (HT.out.later (w':=w3) (by rw [← HGE.out]; exact HAL.out.trans HW3.out))
          have HU3:=Lib.hid (HU.out.trans ((HAL.out.trans HW3.out).mono HGB.out))
          have hal : Below w3.heap.size w3 (w3.alloc (.cells #[.slice (some ⟨gr,0,none⟩) n n] 23)):=(Below.refl _ _).alloc (Nat.le_refl _) _
          have HEb : Hid (Blk (w3.alloc (.cells #[.slice (some ⟨gr,0,none⟩) n n] 23)) w3.heap.size 23 #[.slice (some ⟨gr,0,none⟩) n n]):=Lib.hid (Blk.new _ _ _)
          have HT4:=Lib.hid (HT3.out.later hal)
          have hbz3 : B≤w3.heap.size:=Nat.le_trans HGB.out (Nat.le_of_lt HR3.out.lt)
          have HU4:=Lib.hid (HU3.out.trans (hal.mono hbz3))
          have HR4:=Lib.hid (HR3.out.later hal)
          have hbz4 : B≤(w3.alloc (.cells #[.slice (some ⟨gr,0,none⟩) n n] 23)).heap.size:=Nat.le_trans hbz3 hal.size
          have hgl:=HGL.out
          clear hal HT3 HU3 HR3 HR1 HW1 HW3 HT HU HAL hbz3
          rw [hz3] at HEb
          generalize w3.alloc (.cells #[.slice (some ⟨gr,0,none⟩) n n] 23)=w4 at *
          refine wpl_append_sl _ rfl (.tmp 32) (.tmp 34) _ rfl Try.underlying36 infoInts (by omega) (genc_k n) (genc_one n) ⟨A,c,G⟩ ⟨some ⟨wr.heap.size,0,none⟩,1,[gr]⟩ rfl rfl HT4.out.own (rd_gen1 HEb.out) (by simp [maxLen]; omega) (by simp; omega) hbz4 ?_
          intro A2 c2 w5 hown hg hAA
          clear hAA
          simp only at hown hg
          have HT5:=Lib.hid (HT4.out.push HR4.out HGB.out HGR.out hown hg)
          have HU5:=Lib.hid (HU4.out.trans (below_of_grown hg hbz4 (fun q hq=>(own_row HT4.out.own q hq).2.1)))
          obtain ⟨G2,hG2⟩ : ∃ x,G ++ [gr]=x:=⟨_,rfl⟩
          rw [hG2] at HT5 ⊢
          clear hown hg HT4 HU4 HR4 HEb hbz4 hgl hG2
          go_wp2_with fail
          go_roundw
          case rel=>exact ⟨i+1,A2,c2,G2,by omega,rfl,by go_num,HT5,HU5⟩
          case measure=>simp [intOf]; omega
    · have hie : n=i:=by omega
      subst hie
      have hin' : ¬ (n : Int)<(n : Int):=by omega
      have HGL:=HT.out.len
      clear hmk
      rw [HGL]
      have HGL:=Lib.hid HGL
      go_wp2_with fail
      go_loopw [9] (fun Y wr=>∃ (k : Nat),k≤es.length∧Y = .int .i64 k∧Hid (TabM n n B wr A c G ((es.take k).foldl edD idD))∧Hid (Below B w wr)) (fun Y _=>es.length - (intOf Y).toNat)
      case atStart=>exact ⟨0,by omega,rfl,HT,HU⟩
      case round =>
        clear HT HU hbz
        obtain ⟨k,hk,rfl,HT,HU⟩:=hrel
        have hbz : B≤wr.heap.size:=by rw [HBE.out]; have:=HU.out.size; rw [HBE.out] at *; exact this
        by_cases hlt : k<es.length
        · have hlt' : (k : Int)<(es.length : Int):=by omega
          obtain ⟨b,o,hA,hb,hcl⟩:=(HE.out.later (show Below w.heap.size w wr by rw [← HBE.out]; exact HU.out) (Nat.le_refl _)).at1 hlt
          simp only at hA hcl
          subst hA
          have HXE : Hid (es[k]? = some es[k]):=Lib.hid (List.getElem?_eq_getElem hlt)
          have htk : (es.take (k+1)).foldl edD idD=edD ((es.take k).foldl edD idD) es[k]:=by
            rw [List.take_add_one,HXE.out,List.foldl_append]
            rfl
          have hrf:=HG.out.gr.rf _ (List.getElem_mem hlt)
          have hrt:=HG.out.gr.rt _ (List.getElem_mem hlt)
          generalize es[k]=e at *
          obtain ⟨xf,xt,en,xv⟩:=e
          simp only at hrf hrt
          obtain ⟨fm,rfl⟩:=Int.eq_ofNat_of_zero_le hrf.1
          obtain ⟨tm,rfl⟩:=Int.eq_ofNat_of_zero_le hrt.1
          have hfm : fm<n:=by unfold Ir at hrf; omega
          have htm : tm<n:=by unfold Ir at hrt; omega
          have HTK:=Lib.hid htk
          obtain ⟨c0,c1,c2,c3⟩:=Cells.c4 hcl
          clear hcl hb hrf hrt htk HXE
          obtain ⟨D,hD⟩ : ∃ x,(es.take k).foldl edD idD=x:=⟨_,rfl⟩
          rw [hD] at HT HTK
          clear hD
          go_wp2_with fail
          have hal : Below wr.heap.size wr (wr.alloc (.cells #[.int .i64 (fm : Nat),.int .i64 (tm : Nat),.int .i64 en,.int .i64 xv] 44)):=(Below.refl _ _).alloc (Nat.le_refl _) _
          have HX1 : Hid (Blk (wr.alloc (.cells #[.int .i64 (fm : Nat),.int .i64 (tm : Nat),.int .i64 en,.int .i64 xv] 44)) wr.heap.size 44 #[.int .i64 (fm : Nat),.int .i64 (tm : Nat),.int .i64 en,.int .i64 xv]):=Lib.hid (Blk.new _ _ _)
          have HT1:=Lib.hid (HT.out.later hal)
          have HU1:=Lib.hid (HU.out.trans (hal.mono hbz))
          clear hal HT HU c0 c1 c2 c3
          generalize wr.alloc (.cells #[.int .i64 (fm : Nat),.int .i64 (tm : Nat),.int .i64 en,.int .i64 xv] 44)=w1 at *
          obtain ⟨ge,hge⟩ : ∃ x,x=wr.heap.size:=⟨_,rfl⟩
          rw [← hge] at HX1 hbz ⊢
          clear hge
          obtain ⟨gf,hgf⟩ : ∃ g,G[fm]? = some g:=⟨_,List.getElem?_eq_getElem (by have:=HT1.out.len; omega)⟩
          have HGF:=Lib.hid hgf
          obtain ⟨a,hA,o0⟩:=HT1.out.cell hgf
          have r0:=HT1.out.at_ hgf htm
          subst hA
          obtain ⟨y0,y1,y2,y3,yf,yz⟩:=HX1.out.b4
          obtain ⟨dv,hdv⟩ : ∃ x,D ((fm : Nat) : Int) ((tm : Nat) : Int)=x:=⟨_,rfl⟩
          rw [hdv] at r0
          have HDV:=Lib.hid hdv
          have HDR:=Lib.hid (Below.drew HU1.out)
          have HTD:=Lib.hid (HT1.out.later (Below.drew (Below.refl _ _)))
          have HBG : Hid (B≤gf):=Lib.hid (HT1.out.row _ _ hgf).2
          have HFZ : Hid (∀ o,w1.frozen? ⟨gf,o,none⟩=false):=Lib.hid (HT1.out.row _ _ hgf).1.frozen
          clear hgf hdv
          have hfm' : (fm : Int)<(G.length : Int):=by have:=HGL.out; omega
          by_cases hcond : dv<0∨en<dv
          · have HTE : Hid (∀ x y,edD D ⟨((fm : Nat) : Int),((tm : Nat) : Int),en,xv⟩ x y=if x=((fm : Nat) : Int)∧y=((tm : Nat) : Int) then en else D x y):=Lib.hid (fun x y=>by
              unfold edD
              simp only
              by_cases h : x=(fm : Int)∧y=(tm : Int)
              · obtain ⟨h1,h2⟩:=h
                subst h1 h2
                rw [HDV.out,if_pos ⟨rfl,rfl,hcond⟩,if_pos ⟨rfl,rfl⟩]
              · rw [if_neg (fun hc=>h ⟨hc.1,hc.2.1⟩),if_neg h])
            by_cases hd0 : dv<0
            · go_wp2_with fail
              refine wp_region_T (fun W=>W.cell? ⟨ge,0,none⟩=some (.int .i64 (fm : Nat))∧W.cell? ⟨ge,1,none⟩=some (.int .i64 (tm : Nat))∧W.cell? ⟨ge,2,none⟩=some (.int .i64 en)∧W.cell? ⟨a,fm,none⟩=some (.slice (some ⟨gf,0,none⟩) n n)∧W.cell? ⟨gf,tm,none⟩=some (.int .i64 dv)) (fun _=>false) (by kernel_rfl) ⟨y0,y1,y2,o0,r0⟩ (fun hHeld=>?_)
              refine wpAnyT_take2 (i:=0) (v:=?_) rfl rfl (by kernel_rfl) (by kernel_rfl) (by kernel_rfl) (by kernel_rfl) (fun _ _ _ h=>h) (Or.inl ⟨by rfl, ?_⟩) (by first | assumption | trivial) ?_
              rotate_left
              · (intro w hSw; (try dsimp only at hSw); go_simp) <;> (with_reducible rfl)
              simp only [List.setIfInBounds_toArray,List.set_cons_zero,List.set_cons_succ]
              refine wpAnyT_take2 (i:=1) (v:=?_) rfl rfl (by kernel_rfl) (by kernel_rfl) (by kernel_rfl) (by kernel_rfl) (fun _ _ _ h=>h) (Or.inl ⟨by rfl, ?_⟩) (by first | assumption | trivial) ?_
              rotate_left
              · (intro w hSw; (try dsimp only at hSw); go_simp) <;> (with_reducible rfl)
              simp only [List.setIfInBounds_toArray,List.set_cons_zero,List.set_cons_succ]
              refine wpAnyT_take2 (i:=2) (v:=?_) rfl rfl (by kernel_rfl) (by kernel_rfl) (by kernel_rfl) (by kernel_rfl) (fun _ _ _ h=>h) (Or.inl ⟨by rfl, ?_⟩) (by first | assumption | trivial) ?_
              rotate_left
              · (intro w hSw; (try dsimp only at hSw); go_simp) <;> (with_reducible rfl)
              simp only [List.setIfInBounds_toArray,List.set_cons_zero,List.set_cons_succ]
              refine wpAnyT_take2 (i:=3) (v:=?_) rfl rfl (by kernel_rfl) (by kernel_rfl) (by kernel_rfl) (by kernel_rfl) (fun _ _ _ h=>h) (Or.inl ⟨by rfl, ?_⟩) (by first | assumption | trivial) ?_
              rotate_left
              · (intro w hSw; (try dsimp only at hSw); go_simp) <;> (with_reducible rfl)
              simp only [List.setIfInBounds_toArray,List.set_cons_zero,List.set_cons_succ]
              refine wpAnyT_take2 (i:=4) (v:=?_) rfl rfl (by kernel_rfl) (by kernel_rfl) (by kernel_rfl) (by kernel_rfl) (fun _ _ _ h=>h) (Or.inl ⟨by rfl, ?_⟩) (by first | assumption | trivial) ?_
              rotate_left
              · (intro w hSw; (try dsimp only at hSw); go_simp) <;> (with_reducible rfl)
              simp only [List.setIfInBounds_toArray,List.set_cons_zero,List.set_cons_succ]
              refine wpAnyT_take2 (i:=5) (v:=?_) rfl rfl (by kernel_rfl) (by kernel_rfl) (by kernel_rfl) (by kernel_rfl) (fun _ _ _ h=>h) (Or.inl ⟨by rfl, ?_⟩) (by first | assumption | trivial) ?_
              rotate_left
              · (intro w hSw; (try dsimp only at hSw); go_simp) <;> (with_reducible rfl)
              simp only [List.setIfInBounds_toArray,List.set_cons_zero,List.set_cons_succ]
              refine wpAnyT_take2 (i:=6) (v:=?_) rfl rfl (by kernel_rfl) (by kernel_rfl) (by kernel_rfl) (by kernel_rfl) (fun _ _ _ h=>h) (Or.inl ⟨by rfl, ?_⟩) (by first | assumption | trivial) ?_
              rotate_left
              · (intro w hSw; (try dsimp only at hSw); go_simp) <;> (with_reducible rfl)
              simp only [List.setIfInBounds_toArray,List.set_cons_zero,List.set_cons_succ]
              refine wpAnyT_take2 (i:=7) (v:=?_) rfl rfl (by kernel_rfl) (by kernel_rfl) (by kernel_rfl) (by kernel_rfl) (fun _ _ _ h=>h) (Or.inl ⟨by rfl, ?_⟩) (by first | assumption | trivial) ?_
              rotate_left
              · (intro w hSw; (try dsimp only at hSw); go_simp) <;> (with_reducible rfl)
              simp only [List.setIfInBounds_toArray,List.set_cons_zero,List.set_cons_succ]
              refine wpAnyT_take2 (i:=8) (v:=?_) rfl rfl (by kernel_rfl) (by kernel_rfl) (by kernel_rfl) (by kernel_rfl) (fun _ _ _ h=>h) (Or.inl ⟨by rfl, ?_⟩) (by first | assumption | trivial) ?_
              rotate_left
              · (intro w hSw; (try dsimp only at hSw); go_simp) <;> (with_reducible rfl)
              simp only [List.setIfInBounds_toArray,List.set_cons_zero,List.set_cons_succ]
              refine wpAnyT_take2 (i:=9) (v:=.bool true) rfl rfl (by kernel_rfl) (by kernel_rfl) (by kernel_rfl) (by kernel_rfl) (fun _ _ _ h=>h) (Or.inl ⟨by rfl, ?_⟩) (by first | assumption | trivial) ?_
              · (intro w hSw; (try dsimp only at hSw); go_simp) <;> (first | (with_reducible rfl) | assumption | (simp; done) | (simp [*]; done) | (simp; omega))
              simp only [List.setIfInBounds_toArray,List.set_cons_zero,List.set_cons_succ]
              refine wpAnyT_take2 (i:=10) (v:=?_) rfl rfl (by kernel_rfl) (by kernel_rfl) (by kernel_rfl) (by kernel_rfl) (fun _ _ _ h=>h) (Or.inl ⟨by rfl, ?_⟩) (by first | assumption | trivial) ?_
              rotate_left
              · (intro w hSw; (try dsimp only at hSw); go_simp) <;> (with_reducible rfl)
              simp only [List.setIfInBounds_toArray,List.set_cons_zero,List.set_cons_succ]
              refine wpAnyT_take2 (i:=11) (v:=undef) rfl rfl (by kernel_rfl) (by kernel_rfl) (by kernel_rfl) (by kernel_rfl) (fun _ _ _ h=>h) (Or.inr ⟨by rfl,rfl⟩) (by first | assumption | trivial) ?_
              simp only [List.setIfInBounds_toArray,List.set_cons_zero,List.set_cons_succ]
              refine wpAnyT_take2 (i:=12) (v:=undef) rfl rfl (by kernel_rfl) (by kernel_rfl) (by kernel_rfl) (by kernel_rfl) (fun _ _ _ h=>h) (Or.inr ⟨by rfl,rfl⟩) (by first | assumption | trivial) ?_
              simp only [List.setIfInBounds_toArray,List.set_cons_zero,List.set_cons_succ]
              refine wpAnyT_take2 (i:=13) (v:=undef) rfl rfl (by kernel_rfl) (by kernel_rfl) (by kernel_rfl) (by kernel_rfl) (fun _ _ _ h=>h) (Or.inr ⟨by rfl,rfl⟩) (by first | assumption | trivial) ?_
              simp only [List.setIfInBounds_toArray,List.set_cons_zero,List.set_cons_succ]
              refine wpAnyT_take2 (i:=14) (v:=undef) rfl rfl (by kernel_rfl) (by kernel_rfl) (by kernel_rfl) (by kernel_rfl) (fun _ _ _ h=>h) (Or.inr ⟨by rfl,rfl⟩) (by first | assumption | trivial) ?_
              simp only [List.setIfInBounds_toArray,List.set_cons_zero,List.set_cons_succ]
              refine wpAnyT_take2 (i:=15) (v:=undef) rfl rfl (by kernel_rfl) (by kernel_rfl) (by kernel_rfl) (by kernel_rfl) (fun _ _ _ h=>h) (Or.inr ⟨by rfl,rfl⟩) (by first | assumption | trivial) ?_
              simp only [List.setIfInBounds_toArray,List.set_cons_zero,List.set_cons_succ]
              refine wpAnyT_take2 (i:=16) (v:=undef) rfl rfl (by kernel_rfl) (by kernel_rfl) (by kernel_rfl) (by kernel_rfl) (fun _ _ _ h=>h) (Or.inr ⟨by rfl,rfl⟩) (by first | assumption | trivial) ?_
              simp only [List.setIfInBounds_toArray,List.set_cons_zero,List.set_cons_succ]
              refine wpAnyT_take2 (i:=17) (v:=undef) rfl rfl (by kernel_rfl) (by kernel_rfl) (by kernel_rfl) (by kernel_rfl) (fun _ _ _ h=>h) (Or.inr ⟨by rfl,rfl⟩) (by first | assumption | trivial) ?_
              simp only [List.setIfInBounds_toArray,List.set_cons_zero,List.set_cons_succ]
              refine wpAnyT_take2 (i:=18) (v:=undef) rfl rfl (by kernel_rfl) (by kernel_rfl) (by kernel_rfl) (by kernel_rfl) (fun _ _ _ h=>h) (Or.inr ⟨by rfl,rfl⟩) (by first | assumption | trivial) ?_
              simp only [List.setIfInBounds_toArray,List.set_cons_zero,List.set_cons_succ]
              refine wpAnyT_take2 (i:=19) (v:=undef) rfl rfl (by kernel_rfl) (by kernel_rfl) (by kernel_rfl) (by kernel_rfl) (fun _ _ _ h=>h) (Or.inr ⟨by rfl,rfl⟩) (by first | assumption | trivial) ?_
              simp only [List.setIfInBounds_toArray,List.set_cons_zero,List.set_cons_succ]
              refine wpAnyT_take2 (i:=20) (v:=undef) rfl rfl (by kernel_rfl) (by kernel_rfl) (by kernel_rfl) (by kernel_rfl) (fun _ _ _ h=>h) (Or.inr ⟨by rfl,rfl⟩) (by first | assumption | trivial) ?_
              simp only [List.setIfInBounds_toArray,List.set_cons_zero,List.set_cons_succ]
              refine wpAnyT_take2 (i:=21) (v:=undef) rfl rfl (by kernel_rfl) (by kernel_rfl) (by kernel_rfl) (by kernel_rfl) (fun _ _ _ h=>h) (Or.inr ⟨by rfl,rfl⟩) (by first | assumption | trivial) ?_
              simp only [List.setIfInBounds_toArray,List.set_cons_zero,List.set_cons_succ]
              refine wpAnyT_take2 (i:=22) (v:=undef) rfl rfl (by kernel_rfl) (by kernel_rfl) (by kernel_rfl) (by kernel_rfl) (fun _ _ _ h=>h) (Or.inr ⟨by rfl,rfl⟩) (by first | assumption | trivial) ?_
              simp only [List.setIfInBounds_toArray,List.set_cons_zero,List.set_cons_succ]
              refine wpAnyT_take2 (i:=23) (v:=?_) rfl rfl (by kernel_rfl) (by kernel_rfl) (by kernel_rfl) (by kernel_rfl) (fun _ _ _ h=>h) (Or.inl ⟨by rfl, ?_⟩) (by first | assumption | trivial) ?_
              rotate_left
              · (intro w hSw; (try dsimp only at hSw); go_simp) <;> (with_reducible rfl)
              simp only [List.setIfInBounds_toArray,List.set_cons_zero,List.set_cons_succ]
              refine wpAnyT_done (by kernel_rfl) ?_ _
              clear hHeld
              go_wp2_with fail
              refine wp_region_T (fun W=>W.cell? ⟨ge,0,none⟩=some (.int .i64 (fm : Nat))∧W.cell? ⟨ge,1,none⟩=some (.int .i64 (tm : Nat))∧W.cell? ⟨ge,2,none⟩=some (.int .i64 en)∧W.cell? ⟨a,fm,none⟩=some (.slice (some ⟨gf,0,none⟩) n n)) (fun i=>10≤i) (by kernel_rfl) ⟨y0,y1,y2,o0⟩ (fun hHeld=>?_)
              refine wpAnyT_take2 (i:=0) (v:=?_) rfl rfl (by kernel_rfl) (by kernel_rfl) (by kernel_rfl) (by kernel_rfl) (fun _ _ _ h=>h) (Or.inl ⟨by rfl, ?_⟩) (by first | assumption | trivial) ?_
              rotate_left
              · (intro w hSw; (try dsimp only at hSw); go_simp) <;> (with_reducible rfl)
              simp only [List.setIfInBounds_toArray,List.set_cons_zero,List.set_cons_succ]
              refine wpAnyT_take2 (i:=1) (v:=?_) rfl rfl (by kernel_rfl) (by kernel_rfl) (by kernel_rfl) (by kernel_rfl) (fun _ _ _ h=>h) (Or.inl ⟨by rfl, ?_⟩) (by first | assumption | trivial) ?_
              rotate_left
              · (intro w hSw; (try dsimp only at hSw); go_simp) <;> (with_reducible rfl)
              simp only [List.setIfInBounds_toArray,List.set_cons_zero,List.set_cons_succ]
              refine wpAnyT_take2 (i:=2) (v:=?_) rfl rfl (by kernel_rfl) (by kernel_rfl) (by kernel_rfl) (by kernel_rfl) (fun _ _ _ h=>h) (Or.inl ⟨by rfl, ?_⟩) (by first | assumption | trivial) ?_
              rotate_left
              · (intro w hSw; (try dsimp only at hSw); go_simp) <;> (with_reducible rfl)
              simp only [List.setIfInBounds_toArray,List.set_cons_zero,List.set_cons_succ]
              refine wpAnyT_take2 (i:=3) (v:=?_) rfl rfl (by kernel_rfl) (by kernel_rfl) (by kernel_rfl) (by kernel_rfl) (fun _ _ _ h=>h) (Or.inl ⟨by rfl, ?_⟩) (by first | assumption | trivial) ?_
              rotate_left
              · (intro w hSw; (try dsimp only at hSw); go_simp) <;> (with_reducible rfl)
              simp only [List.setIfInBounds_toArray,List.set_cons_zero,List.set_cons_succ]
              refine wpAnyT_take2 (i:=4) (v:=?_) rfl rfl (by kernel_rfl) (by kernel_rfl) (by kernel_rfl) (by kernel_rfl) (fun _ _ _ h=>h) (Or.inl ⟨by rfl, ?_⟩) (by first | assumption | trivial) ?_
              rotate_left
              · (intro w hSw; (try dsimp only at hSw); go_simp) <;> (with_reducible rfl)
              simp only [List.setIfInBounds_toArray,List.set_cons_zero,List.set_cons_succ]
              refine wpAnyT_take2 (i:=5) (v:=?_) rfl rfl (by kernel_rfl) (by kernel_rfl) (by kernel_rfl) (by kernel_rfl) (fun _ _ _ h=>h) (Or.inl ⟨by rfl, ?_⟩) (by first | assumption | trivial) ?_
              rotate_left
              · (intro w hSw; (try dsimp only at hSw); go_simp) <;> (with_reducible rfl)
              simp only [List.setIfInBounds_toArray,List.set_cons_zero,List.set_cons_succ]
              refine wpAnyT_take2 (i:=6) (v:=?_) rfl rfl (by kernel_rfl) (by kernel_rfl) (by kernel_rfl) (by kernel_rfl) (fun _ _ _ h=>h) (Or.inl ⟨by rfl, ?_⟩) (by first | assumption | trivial) ?_
              rotate_left
              · (intro w hSw; (try dsimp only at hSw); go_simp) <;> (with_reducible rfl)
              simp only [List.setIfInBounds_toArray,List.set_cons_zero,List.set_cons_succ]
              refine wpAnyT_take2 (i:=7) (v:=?_) rfl rfl (by kernel_rfl) (by kernel_rfl) (by kernel_rfl) (by kernel_rfl) (fun _ _ _ h=>h) (Or.inl ⟨by rfl, ?_⟩) (by first | assumption | trivial) ?_
              rotate_left
              · (intro w hSw; (try dsimp only at hSw); go_simp) <;> (with_reducible rfl)
              simp only [List.setIfInBounds_toArray,List.set_cons_zero,List.set_cons_succ]
              refine wpAnyT_take2 (i:=8) (v:=?_) rfl rfl (by kernel_rfl) (by kernel_rfl) (by kernel_rfl) (by kernel_rfl) (fun _ _ _ h=>h) (Or.inl ⟨by rfl, ?_⟩) (by first | assumption | trivial) ?_
              rotate_left
              · (intro w hSw; (try dsimp only at hSw); go_simp) <;> (with_reducible rfl)
              simp only [List.setIfInBounds_toArray,List.set_cons_zero,List.set_cons_succ]
              refine wpAnyT_take2 (i:=9) (v:=?_) rfl rfl (by kernel_rfl) (by kernel_rfl) (by kernel_rfl) (by kernel_rfl) (fun _ _ _ h=>h) (Or.inl ⟨by rfl, ?_⟩) (by first | assumption | trivial) ?_
              rotate_left
              · (intro w hSw; (try dsimp only at hSw); go_simp) <;> (with_reducible rfl)
              simp only [List.setIfInBounds_toArray,List.set_cons_zero,List.set_cons_succ]
              clear hHeld
              have g4 : w1.drew.drew.cell? ⟨gf,tm,none⟩=some (.int .i64 dv):=r0
              have hfz : ∀ o,w1.drew.drew.frozen? ⟨gf,o,none⟩=false:=HFZ.out
              refine wpAnyT_next (i:=10) (by kernel_rfl) rfl ?_
              go_wp2_with fail
              try simp only [QT]
              try (with_reducible refine And.intro (fun h=>by simp at h) ?_)
              refine wpAnyT_done (by kernel_rfl) ?_ _
              clear g4 hfz y0 y1 y2 y3 yf yz o0 r0
              go_wp2_with fail
              have HTS:=Lib.hid ((HTD.out.later (w':=w1.drew.drew) (Below.drew (Below.refl _ _))).set HGF.out tm en)
              have HUS : Hid (Below B w (w1.drew.drew.setCell ⟨gf,tm,none⟩ (.int .i64 en))):=Lib.hid (HDR.out.drew.setCell (p:=⟨gf,tm,none⟩) HBG.out _)
              go_roundw
              case rel=>exact ⟨k+1,by omega,by go_num,Lib.hid (by rw [HTK.out]; exact HTS.out.congr (fun x y _ _=>(HTE.out x y).symm)),HUS⟩
              case measure=>simp [intOf]; omega
            · have hde : en<dv:=by omega
              go_wp2_with fail
              refine wp_region_T (fun W=>W.cell? ⟨ge,0,none⟩=some (.int .i64 (fm : Nat))∧W.cell? ⟨ge,1,none⟩=some (.int .i64 (tm : Nat))∧W.cell? ⟨ge,2,none⟩=some (.int .i64 en)∧W.cell? ⟨a,fm,none⟩=some (.slice (some ⟨gf,0,none⟩) n n)∧W.cell? ⟨gf,tm,none⟩=some (.int .i64 dv)) (fun _=>false) (by kernel_rfl) ⟨y0,y1,y2,o0,r0⟩ (fun hHeld=>?_)
              refine wpAnyT_take2 (i:=0) (v:=?_) rfl rfl (by kernel_rfl) (by kernel_rfl) (by kernel_rfl) (by kernel_rfl) (fun _ _ _ h=>h) (Or.inl ⟨by rfl, ?_⟩) (by first | assumption | trivial) ?_
              rotate_left
              · (intro w hSw; (try dsimp only at hSw); go_simp) <;> (with_reducible rfl)
              simp only [List.setIfInBounds_toArray,List.set_cons_zero,List.set_cons_succ]
              refine wpAnyT_take2 (i:=1) (v:=?_) rfl rfl (by kernel_rfl) (by kernel_rfl) (by kernel_rfl) (by kernel_rfl) (fun _ _ _ h=>h) (Or.inl ⟨by rfl, ?_⟩) (by first | assumption | trivial) ?_
              rotate_left
              · (intro w hSw; (try dsimp only at hSw); go_simp) <;> (with_reducible rfl)
              simp only [List.setIfInBounds_toArray,List.set_cons_zero,List.set_cons_succ]
              refine wpAnyT_take2 (i:=2) (v:=?_) rfl rfl (by kernel_rfl) (by kernel_rfl) (by kernel_rfl) (by kernel_rfl) (fun _ _ _ h=>h) (Or.inl ⟨by rfl, ?_⟩) (by first | assumption | trivial) ?_
              rotate_left
              · (intro w hSw; (try dsimp only at hSw); go_simp) <;> (with_reducible rfl)
              simp only [List.setIfInBounds_toArray,List.set_cons_zero,List.set_cons_succ]
              refine wpAnyT_take2 (i:=3) (v:=?_) rfl rfl (by kernel_rfl) (by kernel_rfl) (by kernel_rfl) (by kernel_rfl) (fun _ _ _ h=>h) (Or.inl ⟨by rfl, ?_⟩) (by first | assumption | trivial) ?_
              rotate_left
              · (intro w hSw; (try dsimp only at hSw); go_simp) <;> (with_reducible rfl)
              simp only [List.setIfInBounds_toArray,List.set_cons_zero,List.set_cons_succ]
              refine wpAnyT_take2 (i:=4) (v:=?_) rfl rfl (by kernel_rfl) (by kernel_rfl) (by kernel_rfl) (by kernel_rfl) (fun _ _ _ h=>h) (Or.inl ⟨by rfl, ?_⟩) (by first | assumption | trivial) ?_
              rotate_left
              · (intro w hSw; (try dsimp only at hSw); go_simp) <;> (with_reducible rfl)
              simp only [List.setIfInBounds_toArray,List.set_cons_zero,List.set_cons_succ]
              refine wpAnyT_take2 (i:=5) (v:=?_) rfl rfl (by kernel_rfl) (by kernel_rfl) (by kernel_rfl) (by kernel_rfl) (fun _ _ _ h=>h) (Or.inl ⟨by rfl, ?_⟩) (by first | assumption | trivial) ?_
              rotate_left
              · (intro w hSw; (try dsimp only at hSw); go_simp) <;> (with_reducible rfl)
              simp only [List.setIfInBounds_toArray,List.set_cons_zero,List.set_cons_succ]
              refine wpAnyT_take2 (i:=6) (v:=?_) rfl rfl (by kernel_rfl) (by kernel_rfl) (by kernel_rfl) (by kernel_rfl) (fun _ _ _ h=>h) (Or.inl ⟨by rfl, ?_⟩) (by first | assumption | trivial) ?_
              rotate_left
              · (intro w hSw; (try dsimp only at hSw); go_simp) <;> (with_reducible rfl)
              simp only [List.setIfInBounds_toArray,List.set_cons_zero,List.set_cons_succ]
              refine wpAnyT_take2 (i:=7) (v:=?_) rfl rfl (by kernel_rfl) (by kernel_rfl) (by kernel_rfl) (by kernel_rfl) (fun _ _ _ h=>h) (Or.inl ⟨by rfl, ?_⟩) (by first | assumption | trivial) ?_
              rotate_left
              · (intro w hSw; (try dsimp only at hSw); go_simp) <;> (with_reducible rfl)
              simp only [List.setIfInBounds_toArray,List.set_cons_zero,List.set_cons_succ]
              refine wpAnyT_take2 (i:=8) (v:=?_) rfl rfl (by kernel_rfl) (by kernel_rfl) (by kernel_rfl) (by kernel_rfl) (fun _ _ _ h=>h) (Or.inl ⟨by rfl, ?_⟩) (by first | assumption | trivial) ?_
              rotate_left
              · (intro w hSw; (try dsimp only at hSw); go_simp) <;> (with_reducible rfl)
              simp only [List.setIfInBounds_toArray,List.set_cons_zero,List.set_cons_succ]
              refine wpAnyT_take2 (i:=9) (v:=.bool false) rfl rfl (by kernel_rfl) (by kernel_rfl) (by kernel_rfl) (by kernel_rfl) (fun _ _ _ h=>h) (Or.inl ⟨by rfl, ?_⟩) (by first | assumption | trivial) ?_
              · (intro w hSw; (try dsimp only at hSw); go_simp) <;> (first | (with_reducible rfl) | assumption | (simp; done) | (simp [*]; done) | (simp; omega))
              simp only [List.setIfInBounds_toArray,List.set_cons_zero,List.set_cons_succ]
              refine wpAnyT_take2 (i:=10) (v:=?_) rfl rfl (by kernel_rfl) (by kernel_rfl) (by kernel_rfl) (by kernel_rfl) (fun _ _ _ h=>h) (Or.inl ⟨by rfl, ?_⟩) (by first | assumption | trivial) ?_
              rotate_left
              · (intro w hSw; (try dsimp only at hSw); go_simp) <;> (with_reducible rfl)
              simp only [List.setIfInBounds_toArray,List.set_cons_zero,List.set_cons_succ]
              refine wpAnyT_take2 (i:=11) (v:=?_) rfl rfl (by kernel_rfl) (by kernel_rfl) (by kernel_rfl) (by kernel_rfl) (fun _ _ _ h=>h) (Or.inl ⟨by rfl, ?_⟩) (by first | assumption | trivial) ?_
              rotate_left
              · (intro w hSw; (try dsimp only at hSw); go_simp) <;> (with_reducible rfl)
              simp only [List.setIfInBounds_toArray,List.set_cons_zero,List.set_cons_succ]
              refine wpAnyT_take2 (i:=12) (v:=?_) rfl rfl (by kernel_rfl) (by kernel_rfl) (by kernel_rfl) (by kernel_rfl) (fun _ _ _ h=>h) (Or.inl ⟨by rfl, ?_⟩) (by first | assumption | trivial) ?_
              rotate_left
              · (intro w hSw; (try dsimp only at hSw); go_simp) <;> (with_reducible rfl)
              simp only [List.setIfInBounds_toArray,List.set_cons_zero,List.set_cons_succ]
              refine wpAnyT_take2 (i:=13) (v:=?_) rfl rfl (by kernel_rfl) (by kernel_rfl) (by kernel_rfl) (by kernel_rfl) (fun _ _ _ h=>h) (Or.inl ⟨by rfl, ?_⟩) (by first | assumption | trivial) ?_
              rotate_left
              · (intro w hSw; (try dsimp only at hSw); go_simp) <;> (with_reducible rfl)
              simp only [List.setIfInBounds_toArray,List.set_cons_zero,List.set_cons_succ]
              refine wpAnyT_take2 (i:=14) (v:=?_) rfl rfl (by kernel_rfl) (by kernel_rfl) (by kernel_rfl) (by kernel_rfl) (fun _ _ _ h=>h) (Or.inl ⟨by rfl, ?_⟩) (by first | assumption | trivial) ?_
              rotate_left
              · (intro w hSw; (try dsimp only at hSw); go_simp) <;> (with_reducible rfl)
              simp only [List.setIfInBounds_toArray,List.set_cons_zero,List.set_cons_succ]
              refine wpAnyT_take2 (i:=15) (v:=?_) rfl rfl (by kernel_rfl) (by kernel_rfl) (by kernel_rfl) (by kernel_rfl) (fun _ _ _ h=>h) (Or.inl ⟨by rfl, ?_⟩) (by first | assumption | trivial) ?_
              rotate_left
              · (intro w hSw; (try dsimp only at hSw); go_simp) <;> (with_reducible rfl)
              simp only [List.setIfInBounds_toArray,List.set_cons_zero,List.set_cons_succ]
              refine wpAnyT_take2 (i:=16) (v:=?_) rfl rfl (by kernel_rfl) (by kernel_rfl) (by kernel_rfl) (by kernel_rfl) (fun _ _ _ h=>h) (Or.inl ⟨by rfl, ?_⟩) (by first | assumption | trivial) ?_
              rotate_left
              · (intro w hSw; (try dsimp only at hSw); go_simp) <;> (with_reducible rfl)
              simp only [List.setIfInBounds_toArray,List.set_cons_zero,List.set_cons_succ]
              refine wpAnyT_take2 (i:=17) (v:=?_) rfl rfl (by kernel_rfl) (by kernel_rfl) (by kernel_rfl) (by kernel_rfl) (fun _ _ _ h=>h) (Or.inl ⟨by rfl, ?_⟩) (by first | assumption | trivial) ?_
              rotate_left
              · (intro w hSw; (try dsimp only at hSw); go_simp) <;> (with_reducible rfl)
              simp only [List.setIfInBounds_toArray,List.set_cons_zero,List.set_cons_succ]
              refine wpAnyT_take2 (i:=18) (v:=?_) rfl rfl (by kernel_rfl) (by kernel_rfl) (by kernel_rfl) (by kernel_rfl) (fun _ _ _ h=>h) (Or.inl ⟨by rfl, ?_⟩) (by first | assumption | trivial) ?_
              rotate_left
              · (intro w hSw; (try dsimp only at hSw); go_simp) <;> (with_reducible rfl)
              simp only [List.setIfInBounds_toArray,List.set_cons_zero,List.set_cons_succ]
              refine wpAnyT_take2 (i:=19) (v:=?_) rfl rfl (by kernel_rfl) (by kernel_rfl) (by kernel_rfl) (by kernel_rfl) (fun _ _ _ h=>h) (Or.inl ⟨by rfl, ?_⟩) (by first | assumption | trivial) ?_
              rotate_left
              · (intro w hSw; (try dsimp only at hSw); go_simp) <;> (with_reducible rfl)
              simp only [List.setIfInBounds_toArray,List.set_cons_zero,List.set_cons_succ]
              refine wpAnyT_take2 (i:=20) (v:=?_) rfl rfl (by kernel_rfl) (by kernel_rfl) (by kernel_rfl) (by kernel_rfl) (fun _ _ _ h=>h) (Or.inl ⟨by rfl, ?_⟩) (by first | assumption | trivial) ?_
              rotate_left
              · (intro w hSw; (try dsimp only at hSw); go_simp) <;> (with_reducible rfl)
              simp only [List.setIfInBounds_toArray,List.set_cons_zero,List.set_cons_succ]
              refine wpAnyT_take2 (i:=21) (v:=?_) rfl rfl (by kernel_rfl) (by kernel_rfl) (by kernel_rfl) (by kernel_rfl) (fun _ _ _ h=>h) (Or.inl ⟨by rfl, ?_⟩) (by first | assumption | trivial) ?_
              rotate_left
              · (intro w hSw; (try dsimp only at hSw); go_simp) <;> (with_reducible rfl)
              simp only [List.setIfInBounds_toArray,List.set_cons_zero,List.set_cons_succ]
              refine wpAnyT_take2 (i:=22) (v:=.bool true) rfl rfl (by kernel_rfl) (by kernel_rfl) (by kernel_rfl) (by kernel_rfl) (fun _ _ _ h=>h) (Or.inl ⟨by rfl, ?_⟩) (by first | assumption | trivial) ?_
              · (intro w hSw; (try dsimp only at hSw); go_simp) <;> (first | (with_reducible rfl) | assumption | (simp; done) | (simp [*]; done) | (simp; omega))
              simp only [List.setIfInBounds_toArray,List.set_cons_zero,List.set_cons_succ]
              refine wpAnyT_take2 (i:=23) (v:=?_) rfl rfl (by kernel_rfl) (by kernel_rfl) (by kernel_rfl) (by kernel_rfl) (fun _ _ _ h=>h) (Or.inl ⟨by rfl, ?_⟩) (by first | assumption | trivial) ?_
              rotate_left
              · (intro w hSw; (try dsimp only at hSw); go_simp) <;> (with_reducible rfl)
              simp only [List.setIfInBounds_toArray,List.set_cons_zero,List.set_cons_succ]
              refine wpAnyT_done (by kernel_rfl) ?_ _
              clear hHeld
              go_wp2_with fail
              refine wp_region_T (fun W=>W.cell? ⟨ge,0,none⟩=some (.int .i64 (fm : Nat))∧W.cell? ⟨ge,1,none⟩=some (.int .i64 (tm : Nat))∧W.cell? ⟨ge,2,none⟩=some (.int .i64 en)∧W.cell? ⟨a,fm,none⟩=some (.slice (some ⟨gf,0,none⟩) n n)) (fun i=>10≤i) (by kernel_rfl) ⟨y0,y1,y2,o0⟩ (fun hHeld=>?_)
              refine wpAnyT_take2 (i:=0) (v:=?_) rfl rfl (by kernel_rfl) (by kernel_rfl) (by kernel_rfl) (by kernel_rfl) (fun _ _ _ h=>h) (Or.inl ⟨by rfl, ?_⟩) (by first | assumption | trivial) ?_
              rotate_left
              · (intro w hSw; (try dsimp only at hSw); go_simp) <;> (with_reducible rfl)
              simp only [List.setIfInBounds_toArray,List.set_cons_zero,List.set_cons_succ]
              refine wpAnyT_take2 (i:=1) (v:=?_) rfl rfl (by kernel_rfl) (by kernel_rfl) (by kernel_rfl) (by kernel_rfl) (fun _ _ _ h=>h) (Or.inl ⟨by rfl, ?_⟩) (by first | assumption | trivial) ?_
              rotate_left
              · (intro w hSw; (try dsimp only at hSw); go_simp) <;> (with_reducible rfl)
              simp only [List.setIfInBounds_toArray,List.set_cons_zero,List.set_cons_succ]
              refine wpAnyT_take2 (i:=2) (v:=?_) rfl rfl (by kernel_rfl) (by kernel_rfl) (by kernel_rfl) (by kernel_rfl) (fun _ _ _ h=>h) (Or.inl ⟨by rfl, ?_⟩) (by first | assumption | trivial) ?_
              rotate_left
              · (intro w hSw; (try dsimp only at hSw); go_simp) <;> (with_reducible rfl)
              simp only [List.setIfInBounds_toArray,List.set_cons_zero,List.set_cons_succ]
              refine wpAnyT_take2 (i:=3) (v:=?_) rfl rfl (by kernel_rfl) (by kernel_rfl) (by kernel_rfl) (by kernel_rfl) (fun _ _ _ h=>h) (Or.inl ⟨by rfl, ?_⟩) (by first | assumption | trivial) ?_
              rotate_left
              · (intro w hSw; (try dsimp only at hSw); go_simp) <;> (with_reducible rfl)
              simp only [List.setIfInBounds_toArray,List.set_cons_zero,List.set_cons_succ]
              refine wpAnyT_take2 (i:=4) (v:=?_) rfl rfl (by kernel_rfl) (by kernel_rfl) (by kernel_rfl) (by kernel_rfl) (fun _ _ _ h=>h) (Or.inl ⟨by rfl, ?_⟩) (by first | assumption | trivial) ?_
              rotate_left
              · (intro w hSw; (try dsimp only at hSw); go_simp) <;> (with_reducible rfl)
              simp only [List.setIfInBounds_toArray,List.set_cons_zero,List.set_cons_succ]
              refine wpAnyT_take2 (i:=5) (v:=?_) rfl rfl (by kernel_rfl) (by kernel_rfl) (by kernel_rfl) (by kernel_rfl) (fun _ _ _ h=>h) (Or.inl ⟨by rfl, ?_⟩) (by first | assumption | trivial) ?_
              rotate_left
              · (intro w hSw; (try dsimp only at hSw); go_simp) <;> (with_reducible rfl)
              simp only [List.setIfInBounds_toArray,List.set_cons_zero,List.set_cons_succ]
              refine wpAnyT_take2 (i:=6) (v:=?_) rfl rfl (by kernel_rfl) (by kernel_rfl) (by kernel_rfl) (by kernel_rfl) (fun _ _ _ h=>h) (Or.inl ⟨by rfl, ?_⟩) (by first | assumption | trivial) ?_
              rotate_left
              · (intro w hSw; (try dsimp only at hSw); go_simp) <;> (with_reducible rfl)
              simp only [List.setIfInBounds_toArray,List.set_cons_zero,List.set_cons_succ]
              refine wpAnyT_take2 (i:=7) (v:=?_) rfl rfl (by kernel_rfl) (by kernel_rfl) (by kernel_rfl) (by kernel_rfl) (fun _ _ _ h=>h) (Or.inl ⟨by rfl, ?_⟩) (by first | assumption | trivial) ?_
              rotate_left
              · (intro w hSw; (try dsimp only at hSw); go_simp) <;> (with_reducible rfl)
              simp only [List.setIfInBounds_toArray,List.set_cons_zero,List.set_cons_succ]
              refine wpAnyT_take2 (i:=8) (v:=?_) rfl rfl (by kernel_rfl) (by kernel_rfl) (by kernel_rfl) (by kernel_rfl) (fun _ _ _ h=>h) (Or.inl ⟨by rfl, ?_⟩) (by first | assumption | trivial) ?_
              rotate_left
              · (intro w hSw; (try dsimp only at hSw); go_simp) <;> (with_reducible rfl)
              simp only [List.setIfInBounds_toArray,List.set_cons_zero,List.set_cons_succ]
              refine wpAnyT_take2 (i:=9) (v:=?_) rfl rfl (by kernel_rfl) (by kernel_rfl) (by kernel_rfl) (by kernel_rfl) (fun _ _ _ h=>h) (Or.inl ⟨by rfl, ?_⟩) (by first | assumption | trivial) ?_
              rotate_left
              · (intro w hSw; (try dsimp only at hSw); go_simp) <;> (with_reducible rfl)
              simp only [List.setIfInBounds_toArray,List.set_cons_zero,List.set_cons_succ]
              clear hHeld
              have g4 : w1.drew.drew.cell? ⟨gf,tm,none⟩=some (.int .i64 dv):=r0
              have hfz : ∀ o,w1.drew.drew.frozen? ⟨gf,o,none⟩=false:=HFZ.out
              refine wpAnyT_next (i:=10) (by kernel_rfl) rfl ?_
              go_wp2_with fail
              try simp only [QT]
              try (with_reducible refine And.intro (fun h=>by simp at h) ?_)
              refine wpAnyT_done (by kernel_rfl) ?_ _
              clear g4 hfz y0 y1 y2 y3 yf yz o0 r0
              go_wp2_with fail
              have HTS:=Lib.hid ((HTD.out.later (w':=w1.drew.drew) (Below.drew (Below.refl _ _))).set HGF.out tm en)
              have HUS : Hid (Below B w (w1.drew.drew.setCell ⟨gf,tm,none⟩ (.int .i64 en))):=Lib.hid (HDR.out.drew.setCell (p:=⟨gf,tm,none⟩) HBG.out _)
              go_roundw
              case rel=>exact ⟨k+1,by omega,by go_num,Lib.hid (by rw [HTK.out]; exact HTS.out.congr (fun x y _ _=>(HTE.out x y).symm)),HUS⟩
              case measure=>simp [intOf]; omega
          · have hd0 : ¬ dv<0:=fun h=>hcond (.inl h)
            have hde : ¬ en<dv:=fun h=>hcond (.inr h)
            have HTE : Hid (∀ x y,edD D ⟨((fm : Nat) : Int),((tm : Nat) : Int),en,xv⟩ x y=D x y):=Lib.hid (fun x y=>by
              unfold edD
              simp only
              by_cases h : x=(fm : Int)∧y=(tm : Int)
              · obtain ⟨h1,h2⟩:=h
                subst h1 h2
                rw [HDV.out,if_neg (fun h=>hcond h.2.2)]
              · rw [if_neg (fun hc=>h ⟨hc.1,hc.2.1⟩)])
            go_wp2_with fail
            refine wp_region_T (fun W=>W.cell? ⟨ge,0,none⟩=some (.int .i64 (fm : Nat))∧W.cell? ⟨ge,1,none⟩=some (.int .i64 (tm : Nat))∧W.cell? ⟨ge,2,none⟩=some (.int .i64 en)∧W.cell? ⟨a,fm,none⟩=some (.slice (some ⟨gf,0,none⟩) n n)∧W.cell? ⟨gf,tm,none⟩=some (.int .i64 dv)) (fun _=>false) (by kernel_rfl) ⟨y0,y1,y2,o0,r0⟩ (fun hHeld=>?_)
            refine wpAnyT_take2 (i:=0) (v:=?_) rfl rfl (by kernel_rfl) (by kernel_rfl) (by kernel_rfl) (by kernel_rfl) (fun _ _ _ h=>h) (Or.inl ⟨by rfl, ?_⟩) (by first | assumption | trivial) ?_
            rotate_left
            · (intro w hSw; (try dsimp only at hSw); go_simp) <;> (with_reducible rfl)
            simp only [List.setIfInBounds_toArray,List.set_cons_zero,List.set_cons_succ]
            refine wpAnyT_take2 (i:=1) (v:=?_) rfl rfl (by kernel_rfl) (by kernel_rfl) (by kernel_rfl) (by kernel_rfl) (fun _ _ _ h=>h) (Or.inl ⟨by rfl, ?_⟩) (by first | assumption | trivial) ?_
            rotate_left
            · (intro w hSw; (try dsimp only at hSw); go_simp) <;> (with_reducible rfl)
            simp only [List.setIfInBounds_toArray,List.set_cons_zero,List.set_cons_succ]
            refine wpAnyT_take2 (i:=2) (v:=?_) rfl rfl (by kernel_rfl) (by kernel_rfl) (by kernel_rfl) (by kernel_rfl) (fun _ _ _ h=>h) (Or.inl ⟨by rfl, ?_⟩) (by first | assumption | trivial) ?_
            rotate_left
            · (intro w hSw; (try dsimp only at hSw); go_simp) <;> (with_reducible rfl)
            simp only [List.setIfInBounds_toArray,List.set_cons_zero,List.set_cons_succ]
            refine wpAnyT_take2 (i:=3) (v:=?_) rfl rfl (by kernel_rfl) (by kernel_rfl) (by kernel_rfl) (by kernel_rfl) (fun _ _ _ h=>h) (Or.inl ⟨by rfl, ?_⟩) (by first | assumption | trivial) ?_
            rotate_left
            · (intro w hSw; (try dsimp only at hSw); go_simp) <;> (with_reducible rfl)
            simp only [List.setIfInBounds_toArray,List.set_cons_zero,List.set_cons_succ]
            refine wpAnyT_take2 (i:=4) (v:=?_) rfl rfl (by kernel_rfl) (by kernel_rfl) (by kernel_rfl) (by kernel_rfl) (fun _ _ _ h=>h) (Or.inl ⟨by rfl, ?_⟩) (by first | assumption | trivial) ?_
            rotate_left
            · (intro w hSw; (try dsimp only at hSw); go_simp) <;> (with_reducible rfl)
            simp only [List.setIfInBounds_toArray,List.set_cons_zero,List.set_cons_succ]
            refine wpAnyT_take2 (i:=5) (v:=?_) rfl rfl (by kernel_rfl) (by kernel_rfl) (by kernel_rfl) (by kernel_rfl) (fun _ _ _ h=>h) (Or.inl ⟨by rfl, ?_⟩) (by first | assumption | trivial) ?_
            rotate_left
            · (intro w hSw; (try dsimp only at hSw); go_simp) <;> (with_reducible rfl)
            simp only [List.setIfInBounds_toArray,List.set_cons_zero,List.set_cons_succ]
            refine wpAnyT_take2 (i:=6) (v:=?_) rfl rfl (by kernel_rfl) (by kernel_rfl) (by kernel_rfl) (by kernel_rfl) (fun _ _ _ h=>h) (Or.inl ⟨by rfl, ?_⟩) (by first | assumption | trivial) ?_
            rotate_left
            · (intro w hSw; (try dsimp only at hSw); go_simp) <;> (with_reducible rfl)
            simp only [List.setIfInBounds_toArray,List.set_cons_zero,List.set_cons_succ]
            refine wpAnyT_take2 (i:=7) (v:=?_) rfl rfl (by kernel_rfl) (by kernel_rfl) (by kernel_rfl) (by kernel_rfl) (fun _ _ _ h=>h) (Or.inl ⟨by rfl, ?_⟩) (by first | assumption | trivial) ?_
            rotate_left
            · (intro w hSw; (try dsimp only at hSw); go_simp) <;> (with_reducible rfl)
            simp only [List.setIfInBounds_toArray,List.set_cons_zero,List.set_cons_succ]
            refine wpAnyT_take2 (i:=8) (v:=?_) rfl rfl (by kernel_rfl) (by kernel_rfl) (by kernel_rfl) (by kernel_rfl) (fun _ _ _ h=>h) (Or.inl ⟨by rfl, ?_⟩) (by first | assumption | trivial) ?_
            rotate_left
            · (intro w hSw; (try dsimp only at hSw); go_simp) <;> (with_reducible rfl)
            simp only [List.setIfInBounds_toArray,List.set_cons_zero,List.set_cons_succ]
            refine wpAnyT_take2 (i:=9) (v:=.bool false) rfl rfl (by kernel_rfl) (by kernel_rfl) (by kernel_rfl) (by kernel_rfl) (fun _ _ _ h=>h) (Or.inl ⟨by rfl, ?_⟩) (by first | assumption | trivial) ?_
            · (intro w hSw; (try dsimp only at hSw); go_simp) <;> (first | (with_reducible rfl) | assumption | (simp; done) | (simp [*]; done) | (simp; omega))
            simp only [List.setIfInBounds_toArray,List.set_cons_zero,List.set_cons_succ]
            refine wpAnyT_take2 (i:=10) (v:=?_) rfl rfl (by kernel_rfl) (by kernel_rfl) (by kernel_rfl) (by kernel_rfl) (fun _ _ _ h=>h) (Or.inl ⟨by rfl, ?_⟩) (by first | assumption | trivial) ?_
            rotate_left
            · (intro w hSw; (try dsimp only at hSw); go_simp) <;> (with_reducible rfl)
            simp only [List.setIfInBounds_toArray,List.set_cons_zero,List.set_cons_succ]
            refine wpAnyT_take2 (i:=11) (v:=?_) rfl rfl (by kernel_rfl) (by kernel_rfl) (by kernel_rfl) (by kernel_rfl) (fun _ _ _ h=>h) (Or.inl ⟨by rfl, ?_⟩) (by first | assumption | trivial) ?_
            rotate_left
            · (intro w hSw; (try dsimp only at hSw); go_simp) <;> (with_reducible rfl)
            simp only [List.setIfInBounds_toArray,List.set_cons_zero,List.set_cons_succ]
            refine wpAnyT_take2 (i:=12) (v:=?_) rfl rfl (by kernel_rfl) (by kernel_rfl) (by kernel_rfl) (by kernel_rfl) (fun _ _ _ h=>h) (Or.inl ⟨by rfl, ?_⟩) (by first | assumption | trivial) ?_
            rotate_left
            · (intro w hSw; (try dsimp only at hSw); go_simp) <;> (with_reducible rfl)
            simp only [List.setIfInBounds_toArray,List.set_cons_zero,List.set_cons_succ]
            refine wpAnyT_take2 (i:=13) (v:=?_) rfl rfl (by kernel_rfl) (by kernel_rfl) (by kernel_rfl) (by kernel_rfl) (fun _ _ _ h=>h) (Or.inl ⟨by rfl, ?_⟩) (by first | assumption | trivial) ?_
            rotate_left
            · (intro w hSw; (try dsimp only at hSw); go_simp) <;> (with_reducible rfl)
            simp only [List.setIfInBounds_toArray,List.set_cons_zero,List.set_cons_succ]
            refine wpAnyT_take2 (i:=14) (v:=?_) rfl rfl (by kernel_rfl) (by kernel_rfl) (by kernel_rfl) (by kernel_rfl) (fun _ _ _ h=>h) (Or.inl ⟨by rfl, ?_⟩) (by first | assumption | trivial) ?_
            rotate_left
            · (intro w hSw; (try dsimp only at hSw); go_simp) <;> (with_reducible rfl)
            simp only [List.setIfInBounds_toArray,List.set_cons_zero,List.set_cons_succ]
            refine wpAnyT_take2 (i:=15) (v:=?_) rfl rfl (by kernel_rfl) (by kernel_rfl) (by kernel_rfl) (by kernel_rfl) (fun _ _ _ h=>h) (Or.inl ⟨by rfl, ?_⟩) (by first | assumption | trivial) ?_
            rotate_left
            · (intro w hSw; (try dsimp only at hSw); go_simp) <;> (with_reducible rfl)
            simp only [List.setIfInBounds_toArray,List.set_cons_zero,List.set_cons_succ]
            refine wpAnyT_take2 (i:=16) (v:=?_) rfl rfl (by kernel_rfl) (by kernel_rfl) (by kernel_rfl) (by kernel_rfl) (fun _ _ _ h=>h) (Or.inl ⟨by rfl, ?_⟩) (by first | assumption | trivial) ?_
            rotate_left
            · (intro w hSw; (try dsimp only at hSw); go_simp) <;> (with_reducible rfl)
            simp only [List.setIfInBounds_toArray,List.set_cons_zero,List.set_cons_succ]
            refine wpAnyT_take2 (i:=17) (v:=?_) rfl rfl (by kernel_rfl) (by kernel_rfl) (by kernel_rfl) (by kernel_rfl) (fun _ _ _ h=>h) (Or.inl ⟨by rfl, ?_⟩) (by first | assumption | trivial) ?_
            rotate_left
            · (intro w hSw; (try dsimp only at hSw); go_simp) <;> (with_reducible rfl)
            simp only [List.setIfInBounds_toArray,List.set_cons_zero,List.set_cons_succ]
            refine wpAnyT_take2 (i:=18) (v:=?_) rfl rfl (by kernel_rfl) (by kernel_rfl) (by kernel_rfl) (by kernel_rfl) (fun _ _ _ h=>h) (Or.inl ⟨by rfl, ?_⟩) (by first | assumption | trivial) ?_
            rotate_left
            · (intro w hSw; (try dsimp only at hSw); go_simp) <;> (with_reducible rfl)
            simp only [List.setIfInBounds_toArray,List.set_cons_zero,List.set_cons_succ]
            refine wpAnyT_take2 (i:=19) (v:=?_) rfl rfl (by kernel_rfl) (by kernel_rfl) (by kernel_rfl) (by kernel_rfl) (fun _ _ _ h=>h) (Or.inl ⟨by rfl, ?_⟩) (by first | assumption | trivial) ?_
            rotate_left
            · (intro w hSw; (try dsimp only at hSw); go_simp) <;> (with_reducible rfl)
            simp only [List.setIfInBounds_toArray,List.set_cons_zero,List.set_cons_succ]
            refine wpAnyT_take2 (i:=20) (v:=?_) rfl rfl (by kernel_rfl) (by kernel_rfl) (by kernel_rfl) (by kernel_rfl) (fun _ _ _ h=>h) (Or.inl ⟨by rfl, ?_⟩) (by first | assumption | trivial) ?_
            rotate_left
            · (intro w hSw; (try dsimp only at hSw); go_simp) <;> (with_reducible rfl)
            simp only [List.setIfInBounds_toArray,List.set_cons_zero,List.set_cons_succ]
            refine wpAnyT_take2 (i:=21) (v:=?_) rfl rfl (by kernel_rfl) (by kernel_rfl) (by kernel_rfl) (by kernel_rfl) (fun _ _ _ h=>h) (Or.inl ⟨by rfl, ?_⟩) (by first | assumption | trivial) ?_
            rotate_left
            · (intro w hSw; (try dsimp only at hSw); go_simp) <;> (with_reducible rfl)
            simp only [List.setIfInBounds_toArray,List.set_cons_zero,List.set_cons_succ]
            refine wpAnyT_take2 (i:=22) (v:=.bool false) rfl rfl (by kernel_rfl) (by kernel_rfl) (by kernel_rfl) (by kernel_rfl) (fun _ _ _ h=>h) (Or.inl ⟨by rfl, ?_⟩) (by first | assumption | trivial) ?_
            · (intro w hSw; (try dsimp only at hSw); go_simp) <;> (first | (with_reducible rfl) | assumption | (simp; done) | (simp [*]; done) | (simp; omega))
            simp only [List.setIfInBounds_toArray,List.set_cons_zero,List.set_cons_succ]
            refine wpAnyT_take2 (i:=23) (v:=?_) rfl rfl (by kernel_rfl) (by kernel_rfl) (by kernel_rfl) (by kernel_rfl) (fun _ _ _ h=>h) (Or.inl ⟨by rfl, ?_⟩) (by first | assumption | trivial) ?_
            rotate_left
            · (intro w hSw; (try dsimp only at hSw); go_simp) <;> (with_reducible rfl)
            simp only [List.setIfInBounds_toArray,List.set_cons_zero,List.set_cons_succ]
            refine wpAnyT_done (by kernel_rfl) ?_ _
            clear hHeld
            go_wp2_with fail
            go_roundw
            case rel=>exact ⟨k+1,by omega,by go_num,Lib.hid (by rw [HTK.out]; exact HTD.out.congr (fun x y _ _=>(HTE.out x y).symm)),HDR⟩
            case measure=>simp [intOf]; omega
        · have hke : es.length=k:=by omega
          subst hke
          have hlt' : ¬ (es.length : Int)<(es.length : Int):=by omega
          have HT0 : Hid (TabM n n B wr A c G (tabK es 0)):=Lib.hid (by
            have:=HT.out
            rw [List.take_length] at this
            exact this)
          clear HT hk hlt hbz
          go_wp2_with fail
          go_loopw [11] (fun Y wr=>∃ (v : Nat),v≤n∧Y = .int .i64 v∧Hid (TabM n n B wr A c G (tabK es v))∧Hid (Below B w wr)) (fun Y _=>n - (intOf Y).toNat)
          case atStart=>exact ⟨0,by omega,rfl,HT0,HU⟩
          case round =>
            clear HT0 HU
            obtain ⟨v,hv,rfl,HT,HU⟩:=hrel
            by_cases hvn : v<n
            · have hvn' : (v : Int)<(n : Int):=by omega
              have HIT:=Lib.hid (tabK_T (n:=n) HG.out.gr.n0 v (by omega))
              have HTP:=Lib.hid (tabK_top HG.out.top v)
              have h512 : (1000000 : Int) * 2 ^ v≤512000000:=by
                have h4 : ∀ j : Fin 10,(1000000 : Int) * 2 ^ (j : Nat)≤512000000:=by decide
                have h6:=h4 ⟨v,by omega⟩
                simpa using h6
              have H512:=Lib.hid h512
              have HTN : Hid (∀ D',(∀ a b : Nat,a<n→b<n→D' (a : Int) (b : Int)=fwS (tabK es v) (v : Int) (a : Int) (b : Int))→∀ w' A c,TabM n n B w' A c G D'→TabM n n B w' A c G (tabK es (v+1))):=Lib.hid (fun D' hD w' A c h=>h.congr (fun a b ha hb=>by rw [tabK_succ]; exact hD a b ha hb))
              obtain ⟨D,hD⟩ : ∃ x,tabK es v=x:=⟨_,rfl⟩
              rw [hD] at HT HIT HTP HTN
              clear hD h512
              go_wp2_with fail
              go_loopw [12] (fun Y wr=>∃ (u : Nat),u≤n∧Y = .int .i64 u∧Hid (TabM n n B wr A c G (midD D (v : Nat) u 0))∧Hid (Below B w wr)) (fun Y _=>n - (intOf Y).toNat)
              case atStart=>exact ⟨0,by omega,rfl,Lib.hid (HT.out.congr (fun x y _ _=>midD_start x y)),HU⟩
              case round =>
                clear HT HU
                obtain ⟨u,hu,rfl,HT,HU⟩:=hrel
                by_cases hun : u<n
                · have hun' : (u : Int)<(n : Int):=by omega
                  go_wp2_with fail
                  go_loopw [13] (fun Y wr=>∃ (k : Nat),k≤n∧Y = .int .i64 k∧Hid (TabM n n B wr A c G (midD D (v : Nat) u k))∧Hid (Below B w wr)) (fun Y _=>n - (intOf Y).toNat)
                  case atStart=>exact ⟨0,by omega,rfl,HT,HU⟩
                  case round =>
                    clear HT HU
                    obtain ⟨k,hk,rfl,HT,HU⟩:=hrel
                    by_cases hkm : k<n
                    · have hkm' : (k : Int)<(n : Int):=by omega
                      have h00:=HIT.out.refl (v : Nat) ⟨by omega,by omega⟩
                      obtain ⟨gu,hgu⟩ : ∃ g,G[u]? = some g:=⟨_,List.getElem?_eq_getElem (by have:=HT.out.len; omega)⟩
                      obtain ⟨gv,hgv⟩ : ∃ g,G[v]? = some g:=⟨_,List.getElem?_eq_getElem (by have:=HT.out.len; omega)⟩
                      have HGU:=Lib.hid hgu
                      obtain ⟨a,hA,c0⟩:=HT.out.cell hgu
                      obtain ⟨a',hA',c1⟩:=HT.out.cell hgv
                      have e1 : a=a':=by rw [hA] at hA'; simpa using hA'
                      subst e1
                      have c2:=HT.out.at_ hgu hvn
                      have c3:=HT.out.at_ hgv hkm
                      have c4:=HT.out.at_ hgu hkm
                      rw [midD_col h00] at c2
                      rw [midD_row h00] at c3
                      rw [midD_here] at c4
                      have HGL2 : Hid (G.length=n):=Lib.hid HT.out.len
                      have hun2 : (u : Int)<(G.length : Int):=by have:=HGL2.out; omega
                      have hvn2 : (v : Int)<(G.length : Int):=by have:=HGL2.out; omega
                      have HBG : Hid (B≤gu):=Lib.hid (HT.out.row _ _ hgu).2
                      have HFZ : Hid (∀ o,wr.frozen? ⟨gu,o,none⟩=false):=Lib.hid (HT.out.row _ _ hgu).1.frozen
                      have HTD:=Lib.hid (HT.out.later (w':=wr.drew) (Below.drew (Below.refl _ _)))
                      have HDR:=Lib.hid HU.out.drew
                      have HFW : Hid (fwS D (v : Nat) (u : Nat) (k : Nat)=if 0≤D (u : Nat) (v : Nat)∧0≤D (v : Nat) (k : Nat)∧(D (u : Nat) (k : Nat)<0∨D (u : Nat) (v : Nat)+D (v : Nat) (k : Nat)<D (u : Nat) (k : Nat)) then D (u : Nat) (v : Nat)+D (v : Nat) (k : Nat) else D (u : Nat) (k : Nat)):=Lib.hid rfl
                      have hda:=HIT.out.low (u : Nat) (v : Nat)
                      have hdb:=HIT.out.low (v : Nat) (k : Nat)
                      have hda2:=HTP.out (u : Nat) (v : Nat)
                      have hdb2:=HTP.out (v : Nat) (k : Nat)
                      have HHE : Hid (∀ dc,D (u : Nat) (k : Nat)=dc→midD D (v : Nat) u k (u : Nat) (k : Nat)=dc):=Lib.hid (fun dc h=>by rw [midD_here]; exact h)
                      obtain ⟨dc,hdc⟩ : ∃ x,D ((u : Nat) : Int) ((k : Nat) : Int)=x:=⟨_,rfl⟩
                      replace HHE:=Lib.hid (HHE.out dc hdc)
                      obtain ⟨da,hdae⟩ : ∃ x,D ((u : Nat) : Int) ((v : Nat) : Int)=x:=⟨_,rfl⟩
                      obtain ⟨db,hdbe⟩ : ∃ x,D ((v : Nat) : Int) ((k : Nat) : Int)=x:=⟨_,rfl⟩
                      have H512':=H512.out
                      rw [hdae] at c2 HFW hda hda2
                      rw [hdbe] at c3 HFW hdb hdb2
                      rw [hdc] at c4 HFW
                      have hwr : IntKind.i64.wrap (da+db)=da+db:=by rw [IntKind.wrap_i64]; omega
                      have HDC:=Lib.hid hdc
                      clear hdc hdae hdbe hA' hgu hgv hda hda2 hdb hdb2 H512' h00 HT HU
                      subst hA
                      have HST : Hid (fwS D (v : Nat) (u : Nat) (k : Nat)=dc→∀ x y : Nat,midD D (v : Nat) u k (x : Int) (y : Int)=midD D (v : Nat) u (k+1) (x : Int) (y : Int)):=Lib.hid (fun hf x y=>by
                        rw [midD_next,hf]
                        by_cases h : (x : Int)=(u : Int)∧(y : Int)=(k : Int)
                        · rw [if_pos h,h.1,h.2]; exact HHE.out
                        · rw [if_neg h])
                      by_cases ha0 : 0≤da
                      · by_cases hb0 : 0≤db
                        · by_cases hc0 : dc<0
                          · have HNW : Hid (fwS D (v : Nat) (u : Nat) (k : Nat)=da+db):=Lib.hid (by rw [HFW.out,if_pos ⟨ha0,hb0,.inl hc0⟩])
                            go_wp2_with fail
                            refine wp_region_T (fun W=>W.cell? ⟨a,u,none⟩=some (.slice (some ⟨gu,0,none⟩) n n)∧W.cell? ⟨a,v,none⟩=some (.slice (some ⟨gv,0,none⟩) n n)∧W.cell? ⟨gu,v,none⟩=some (.int .i64 da)∧W.cell? ⟨gv,k,none⟩=some (.int .i64 db)∧W.cell? ⟨gu,k,none⟩=some (.int .i64 dc)) (fun _=>false) (by kernel_rfl) ⟨c0,c1,c2,c3,c4⟩ (fun hHeld=>?_)
                            refine wpAnyT_take2 (i:=0) (v:=?_) rfl rfl (by kernel_rfl) (by kernel_rfl) (by kernel_rfl) (by kernel_rfl) (fun _ _ _ h=>h) (Or.inl ⟨by rfl, ?_⟩) (by first | assumption | trivial) ?_
                            rotate_left
                            · (intro w hSw; (try dsimp only at hSw); go_simp) <;> (with_reducible rfl)
                            simp only [List.setIfInBounds_toArray,List.set_cons_zero,List.set_cons_succ]
                            refine wpAnyT_take2 (i:=1) (v:=?_) rfl rfl (by kernel_rfl) (by kernel_rfl) (by kernel_rfl) (by kernel_rfl) (fun _ _ _ h=>h) (Or.inl ⟨by rfl, ?_⟩) (by first | assumption | trivial) ?_
                            rotate_left
                            · (intro w hSw; (try dsimp only at hSw); go_simp) <;> (with_reducible rfl)
                            simp only [List.setIfInBounds_toArray,List.set_cons_zero,List.set_cons_succ]
                            refine wpAnyT_take2 (i:=2) (v:=?_) rfl rfl (by kernel_rfl) (by kernel_rfl) (by kernel_rfl) (by kernel_rfl) (fun _ _ _ h=>h) (Or.inl ⟨by rfl, ?_⟩) (by first | assumption | trivial) ?_
                            rotate_left
                            · (intro w hSw; (try dsimp only at hSw); go_simp) <;> (with_reducible rfl)
                            simp only [List.setIfInBounds_toArray,List.set_cons_zero,List.set_cons_succ]
                            refine wpAnyT_take2 (i:=3) (v:=?_) rfl rfl (by kernel_rfl) (by kernel_rfl) (by kernel_rfl) (by kernel_rfl) (fun _ _ _ h=>h) (Or.inl ⟨by rfl, ?_⟩) (by first | assumption | trivial) ?_
                            rotate_left
                            · (intro w hSw; (try dsimp only at hSw); go_simp) <;> (with_reducible rfl)
                            simp only [List.setIfInBounds_toArray,List.set_cons_zero,List.set_cons_succ]
                            refine wpAnyT_take2 (i:=4) (v:=?_) rfl rfl (by kernel_rfl) (by kernel_rfl) (by kernel_rfl) (by kernel_rfl) (fun _ _ _ h=>h) (Or.inl ⟨by rfl, ?_⟩) (by first | assumption | trivial) ?_
                            rotate_left
                            · (intro w hSw; (try dsimp only at hSw); go_simp) <;> (with_reducible rfl)
                            simp only [List.setIfInBounds_toArray,List.set_cons_zero,List.set_cons_succ]
                            refine wpAnyT_take2 (i:=5) (v:=?_) rfl rfl (by kernel_rfl) (by kernel_rfl) (by kernel_rfl) (by kernel_rfl) (fun _ _ _ h=>h) (Or.inl ⟨by rfl, ?_⟩) (by first | assumption | trivial) ?_
                            rotate_left
                            · (intro w hSw; (try dsimp only at hSw); go_simp) <;> (with_reducible rfl)
                            simp only [List.setIfInBounds_toArray,List.set_cons_zero,List.set_cons_succ]
                            refine wpAnyT_take2 (i:=6) (v:=?_) rfl rfl (by kernel_rfl) (by kernel_rfl) (by kernel_rfl) (by kernel_rfl) (fun _ _ _ h=>h) (Or.inl ⟨by rfl, ?_⟩) (by first | assumption | trivial) ?_
                            rotate_left
                            · (intro w hSw; (try dsimp only at hSw); go_simp) <;> (with_reducible rfl)
                            simp only [List.setIfInBounds_toArray,List.set_cons_zero,List.set_cons_succ]
                            refine wpAnyT_take2 (i:=7) (v:=.bool true) rfl rfl (by kernel_rfl) (by kernel_rfl) (by kernel_rfl) (by kernel_rfl) (fun _ _ _ h=>h) (Or.inl ⟨by rfl, ?_⟩) (by first | assumption | trivial) ?_
                            · (intro w hSw; (try dsimp only at hSw); go_simp) <;> (first | (with_reducible rfl) | assumption | (simp; done) | (simp [*]; done) | (simp; omega))
                            simp only [List.setIfInBounds_toArray,List.set_cons_zero,List.set_cons_succ]
                            refine wpAnyT_take2 (i:=8) (v:=?_) rfl rfl (by kernel_rfl) (by kernel_rfl) (by kernel_rfl) (by kernel_rfl) (fun _ _ _ h=>h) (Or.inl ⟨by rfl, ?_⟩) (by first | assumption | trivial) ?_
                            rotate_left
                            · (intro w hSw; (try dsimp only at hSw); go_simp) <;> (with_reducible rfl)
                            simp only [List.setIfInBounds_toArray,List.set_cons_zero,List.set_cons_succ]
                            refine wpAnyT_take2 (i:=9) (v:=?_) rfl rfl (by kernel_rfl) (by kernel_rfl) (by kernel_rfl) (by kernel_rfl) (fun _ _ _ h=>h) (Or.inl ⟨by rfl, ?_⟩) (by first | assumption | trivial) ?_
                            rotate_left
                            · (intro w hSw; (try dsimp only at hSw); go_simp) <;> (with_reducible rfl)
                            simp only [List.setIfInBounds_toArray,List.set_cons_zero,List.set_cons_succ]
                            refine wpAnyT_take2 (i:=10) (v:=?_) rfl rfl (by kernel_rfl) (by kernel_rfl) (by kernel_rfl) (by kernel_rfl) (fun _ _ _ h=>h) (Or.inl ⟨by rfl, ?_⟩) (by first | assumption | trivial) ?_
                            rotate_left
                            · (intro w hSw; (try dsimp only at hSw); go_simp) <;> (with_reducible rfl)
                            simp only [List.setIfInBounds_toArray,List.set_cons_zero,List.set_cons_succ]
                            refine wpAnyT_take2 (i:=11) (v:=?_) rfl rfl (by kernel_rfl) (by kernel_rfl) (by kernel_rfl) (by kernel_rfl) (fun _ _ _ h=>h) (Or.inl ⟨by rfl, ?_⟩) (by first | assumption | trivial) ?_
                            rotate_left
                            · (intro w hSw; (try dsimp only at hSw); go_simp) <;> (with_reducible rfl)
                            simp only [List.setIfInBounds_toArray,List.set_cons_zero,List.set_cons_succ]
                            refine wpAnyT_take2 (i:=12) (v:=?_) rfl rfl (by kernel_rfl) (by kernel_rfl) (by kernel_rfl) (by kernel_rfl) (fun _ _ _ h=>h) (Or.inl ⟨by rfl, ?_⟩) (by first | assumption | trivial) ?_
                            rotate_left
                            · (intro w hSw; (try dsimp only at hSw); go_simp) <;> (with_reducible rfl)
                            simp only [List.setIfInBounds_toArray,List.set_cons_zero,List.set_cons_succ]
                            refine wpAnyT_take2 (i:=13) (v:=?_) rfl rfl (by kernel_rfl) (by kernel_rfl) (by kernel_rfl) (by kernel_rfl) (fun _ _ _ h=>h) (Or.inl ⟨by rfl, ?_⟩) (by first | assumption | trivial) ?_
                            rotate_left
                            · (intro w hSw; (try dsimp only at hSw); go_simp) <;> (with_reducible rfl)
                            simp only [List.setIfInBounds_toArray,List.set_cons_zero,List.set_cons_succ]
                            refine wpAnyT_take2 (i:=14) (v:=?_) rfl rfl (by kernel_rfl) (by kernel_rfl) (by kernel_rfl) (by kernel_rfl) (fun _ _ _ h=>h) (Or.inl ⟨by rfl, ?_⟩) (by first | assumption | trivial) ?_
                            rotate_left
                            · (intro w hSw; (try dsimp only at hSw); go_simp) <;> (with_reducible rfl)
                            simp only [List.setIfInBounds_toArray,List.set_cons_zero,List.set_cons_succ]
                            refine wpAnyT_take2 (i:=15) (v:=?_) rfl rfl (by kernel_rfl) (by kernel_rfl) (by kernel_rfl) (by kernel_rfl) (fun _ _ _ h=>h) (Or.inl ⟨by rfl, ?_⟩) (by first | assumption | trivial) ?_
                            rotate_left
                            · (intro w hSw; (try dsimp only at hSw); go_simp) <;> (with_reducible rfl)
                            simp only [List.setIfInBounds_toArray,List.set_cons_zero,List.set_cons_succ]
                            refine wpAnyT_take2 (i:=16) (v:=.bool true) rfl rfl (by kernel_rfl) (by kernel_rfl) (by kernel_rfl) (by kernel_rfl) (fun _ _ _ h=>h) (Or.inl ⟨by rfl, ?_⟩) (by first | assumption | trivial) ?_
                            · (intro w hSw; (try dsimp only at hSw); go_simp) <;> (first | (with_reducible rfl) | assumption | (simp; done) | (simp [*]; done) | (simp; omega))
                            simp only [List.setIfInBounds_toArray,List.set_cons_zero,List.set_cons_succ]
                            refine wpAnyT_take2 (i:=17) (v:=?_) rfl rfl (by kernel_rfl) (by kernel_rfl) (by kernel_rfl) (by kernel_rfl) (fun _ _ _ h=>h) (Or.inl ⟨by rfl, ?_⟩) (by first | assumption | trivial) ?_
                            rotate_left
                            · (intro w hSw; (try dsimp only at hSw); go_simp) <;> (with_reducible rfl)
                            simp only [List.setIfInBounds_toArray,List.set_cons_zero,List.set_cons_succ]
                            refine wpAnyT_take2 (i:=18) (v:=?_) rfl rfl (by kernel_rfl) (by kernel_rfl) (by kernel_rfl) (by kernel_rfl) (fun _ _ _ h=>h) (Or.inl ⟨by rfl, ?_⟩) (by first | assumption | trivial) ?_
                            rotate_left
                            · (intro w hSw; (try dsimp only at hSw); go_simp) <;> (with_reducible rfl)
                            simp only [List.setIfInBounds_toArray,List.set_cons_zero,List.set_cons_succ]
                            refine wpAnyT_take2 (i:=19) (v:=?_) rfl rfl (by kernel_rfl) (by kernel_rfl) (by kernel_rfl) (by kernel_rfl) (fun _ _ _ h=>h) (Or.inl ⟨by rfl, ?_⟩) (by first | assumption | trivial) ?_
                            rotate_left
                            · (intro w hSw; (try dsimp only at hSw); go_simp) <;> (with_reducible rfl)
                            simp only [List.setIfInBounds_toArray,List.set_cons_zero,List.set_cons_succ]
                            refine wpAnyT_take2 (i:=20) (v:=?_) rfl rfl (by kernel_rfl) (by kernel_rfl) (by kernel_rfl) (by kernel_rfl) (fun _ _ _ h=>h) (Or.inl ⟨by rfl, ?_⟩) (by first | assumption | trivial) ?_
                            rotate_left
                            · (intro w hSw; (try dsimp only at hSw); go_simp) <;> (with_reducible rfl)
                            simp only [List.setIfInBounds_toArray,List.set_cons_zero,List.set_cons_succ]
                            refine wpAnyT_take2 (i:=21) (v:=?_) rfl rfl (by kernel_rfl) (by kernel_rfl) (by kernel_rfl) (by kernel_rfl) (fun _ _ _ h=>h) (Or.inl ⟨by rfl, ?_⟩) (by first | assumption | trivial) ?_
                            rotate_left
                            · (intro w hSw; (try dsimp only at hSw); go_simp) <;> (with_reducible rfl)
                            simp only [List.setIfInBounds_toArray,List.set_cons_zero,List.set_cons_succ]
                            refine wpAnyT_take2 (i:=22) (v:=?_) rfl rfl (by kernel_rfl) (by kernel_rfl) (by kernel_rfl) (by kernel_rfl) (fun _ _ _ h=>h) (Or.inl ⟨by rfl, ?_⟩) (by first | assumption | trivial) ?_
                            rotate_left
                            · (intro w hSw; (try dsimp only at hSw); go_simp) <;> (with_reducible rfl)
                            simp only [List.setIfInBounds_toArray,List.set_cons_zero,List.set_cons_succ]
                            refine wpAnyT_take2 (i:=23) (v:=?_) rfl rfl (by kernel_rfl) (by kernel_rfl) (by kernel_rfl) (by kernel_rfl) (fun _ _ _ h=>h) (Or.inl ⟨by rfl, ?_⟩) (by first | assumption | trivial) ?_
                            rotate_left
                            · (intro w hSw; (try dsimp only at hSw); go_simp) <;> (with_reducible rfl)
                            simp only [List.setIfInBounds_toArray,List.set_cons_zero,List.set_cons_succ]
                            refine wpAnyT_take2 (i:=24) (v:=?_) rfl rfl (by kernel_rfl) (by kernel_rfl) (by kernel_rfl) (by kernel_rfl) (fun _ _ _ h=>h) (Or.inl ⟨by rfl, ?_⟩) (by first | assumption | trivial) ?_
                            rotate_left
                            · (intro w hSw; (try dsimp only at hSw); go_simp) <;> (with_reducible rfl)
                            simp only [List.setIfInBounds_toArray,List.set_cons_zero,List.set_cons_succ]
                            refine wpAnyT_take2 (i:=25) (v:=?_) rfl rfl (by kernel_rfl) (by kernel_rfl) (by kernel_rfl) (by kernel_rfl) (fun _ _ _ h=>h) (Or.inl ⟨by rfl, ?_⟩) (by first | assumption | trivial) ?_
                            rotate_left
                            · (intro w hSw; (try dsimp only at hSw); go_simp) <;> (with_reducible rfl)
                            simp only [List.setIfInBounds_toArray,List.set_cons_zero,List.set_cons_succ]
                            refine wpAnyT_take2 (i:=26) (v:=.bool true) rfl rfl (by kernel_rfl) (by kernel_rfl) (by kernel_rfl) (by kernel_rfl) (fun _ _ _ h=>h) (Or.inl ⟨by rfl, ?_⟩) (by first | assumption | trivial) ?_
                            · (intro w hSw; (try dsimp only at hSw); go_simp) <;> (first | (with_reducible rfl) | assumption | (simp; done) | (simp [*]; done) | (simp; omega))
                            simp only [List.setIfInBounds_toArray,List.set_cons_zero,List.set_cons_succ]
                            refine wpAnyT_take2 (i:=27) (v:=?_) rfl rfl (by kernel_rfl) (by kernel_rfl) (by kernel_rfl) (by kernel_rfl) (fun _ _ _ h=>h) (Or.inl ⟨by rfl, ?_⟩) (by first | assumption | trivial) ?_
                            rotate_left
                            · (intro w hSw; (try dsimp only at hSw); go_simp) <;> (with_reducible rfl)
                            simp only [List.setIfInBounds_toArray,List.set_cons_zero,List.set_cons_succ]
                            refine wpAnyT_take2 (i:=28) (v:=undef) rfl rfl (by kernel_rfl) (by kernel_rfl) (by kernel_rfl) (by kernel_rfl) (fun _ _ _ h=>h) (Or.inr ⟨by rfl,rfl⟩) (by first | assumption | trivial) ?_
                            simp only [List.setIfInBounds_toArray,List.set_cons_zero,List.set_cons_succ]
                            refine wpAnyT_take2 (i:=29) (v:=undef) rfl rfl (by kernel_rfl) (by kernel_rfl) (by kernel_rfl) (by kernel_rfl) (fun _ _ _ h=>h) (Or.inr ⟨by rfl,rfl⟩) (by first | assumption | trivial) ?_
                            simp only [List.setIfInBounds_toArray,List.set_cons_zero,List.set_cons_succ]
                            refine wpAnyT_take2 (i:=30) (v:=undef) rfl rfl (by kernel_rfl) (by kernel_rfl) (by kernel_rfl) (by kernel_rfl) (fun _ _ _ h=>h) (Or.inr ⟨by rfl,rfl⟩) (by first | assumption | trivial) ?_
                            simp only [List.setIfInBounds_toArray,List.set_cons_zero,List.set_cons_succ]
                            refine wpAnyT_take2 (i:=31) (v:=undef) rfl rfl (by kernel_rfl) (by kernel_rfl) (by kernel_rfl) (by kernel_rfl) (fun _ _ _ h=>h) (Or.inr ⟨by rfl,rfl⟩) (by first | assumption | trivial) ?_
                            simp only [List.setIfInBounds_toArray,List.set_cons_zero,List.set_cons_succ]
                            refine wpAnyT_take2 (i:=32) (v:=undef) rfl rfl (by kernel_rfl) (by kernel_rfl) (by kernel_rfl) (by kernel_rfl) (fun _ _ _ h=>h) (Or.inr ⟨by rfl,rfl⟩) (by first | assumption | trivial) ?_
                            simp only [List.setIfInBounds_toArray,List.set_cons_zero,List.set_cons_succ]
                            refine wpAnyT_take2 (i:=33) (v:=undef) rfl rfl (by kernel_rfl) (by kernel_rfl) (by kernel_rfl) (by kernel_rfl) (fun _ _ _ h=>h) (Or.inr ⟨by rfl,rfl⟩) (by first | assumption | trivial) ?_
                            simp only [List.setIfInBounds_toArray,List.set_cons_zero,List.set_cons_succ]
                            refine wpAnyT_take2 (i:=34) (v:=undef) rfl rfl (by kernel_rfl) (by kernel_rfl) (by kernel_rfl) (by kernel_rfl) (fun _ _ _ h=>h) (Or.inr ⟨by rfl,rfl⟩) (by first | assumption | trivial) ?_
                            simp only [List.setIfInBounds_toArray,List.set_cons_zero,List.set_cons_succ]
                            refine wpAnyT_take2 (i:=35) (v:=undef) rfl rfl (by kernel_rfl) (by kernel_rfl) (by kernel_rfl) (by kernel_rfl) (fun _ _ _ h=>h) (Or.inr ⟨by rfl,rfl⟩) (by first | assumption | trivial) ?_
                            simp only [List.setIfInBounds_toArray,List.set_cons_zero,List.set_cons_succ]
                            refine wpAnyT_take2 (i:=36) (v:=undef) rfl rfl (by kernel_rfl) (by kernel_rfl) (by kernel_rfl) (by kernel_rfl) (fun _ _ _ h=>h) (Or.inr ⟨by rfl,rfl⟩) (by first | assumption | trivial) ?_
                            simp only [List.setIfInBounds_toArray,List.set_cons_zero,List.set_cons_succ]
                            refine wpAnyT_take2 (i:=37) (v:=undef) rfl rfl (by kernel_rfl) (by kernel_rfl) (by kernel_rfl) (by kernel_rfl) (fun _ _ _ h=>h) (Or.inr ⟨by rfl,rfl⟩) (by first | assumption | trivial) ?_
                            simp only [List.setIfInBounds_toArray,List.set_cons_zero,List.set_cons_succ]
                            refine wpAnyT_take2 (i:=38) (v:=undef) rfl rfl (by kernel_rfl) (by kernel_rfl) (by kernel_rfl) (by kernel_rfl) (fun _ _ _ h=>h) (Or.inr ⟨by rfl,rfl⟩) (by first | assumption | trivial) ?_
                            simp only [List.setIfInBounds_toArray,List.set_cons_zero,List.set_cons_succ]
                            refine wpAnyT_take2 (i:=39) (v:=undef) rfl rfl (by kernel_rfl) (by kernel_rfl) (by kernel_rfl) (by kernel_rfl) (fun _ _ _ h=>h) (Or.inr ⟨by rfl,rfl⟩) (by first | assumption | trivial) ?_
                            simp only [List.setIfInBounds_toArray,List.set_cons_zero,List.set_cons_succ]
                            refine wpAnyT_take2 (i:=40) (v:=undef) rfl rfl (by kernel_rfl) (by kernel_rfl) (by kernel_rfl) (by kernel_rfl) (fun _ _ _ h=>h) (Or.inr ⟨by rfl,rfl⟩) (by first | assumption | trivial) ?_
                            simp only [List.setIfInBounds_toArray,List.set_cons_zero,List.set_cons_succ]
                            refine wpAnyT_take2 (i:=41) (v:=undef) rfl rfl (by kernel_rfl) (by kernel_rfl) (by kernel_rfl) (by kernel_rfl) (fun _ _ _ h=>h) (Or.inr ⟨by rfl,rfl⟩) (by first | assumption | trivial) ?_
                            simp only [List.setIfInBounds_toArray,List.set_cons_zero,List.set_cons_succ]
                            refine wpAnyT_take2 (i:=42) (v:=undef) rfl rfl (by kernel_rfl) (by kernel_rfl) (by kernel_rfl) (by kernel_rfl) (fun _ _ _ h=>h) (Or.inr ⟨by rfl,rfl⟩) (by first | assumption | trivial) ?_
                            simp only [List.setIfInBounds_toArray,List.set_cons_zero,List.set_cons_succ]
                            refine wpAnyT_take2 (i:=43) (v:=undef) rfl rfl (by kernel_rfl) (by kernel_rfl) (by kernel_rfl) (by kernel_rfl) (fun _ _ _ h=>h) (Or.inr ⟨by rfl,rfl⟩) (by first | assumption | trivial) ?_
                            simp only [List.setIfInBounds_toArray,List.set_cons_zero,List.set_cons_succ]
                            refine wpAnyT_take2 (i:=44) (v:=undef) rfl rfl (by kernel_rfl) (by kernel_rfl) (by kernel_rfl) (by kernel_rfl) (fun _ _ _ h=>h) (Or.inr ⟨by rfl,rfl⟩) (by first | assumption | trivial) ?_
                            simp only [List.setIfInBounds_toArray,List.set_cons_zero,List.set_cons_succ]
                            refine wpAnyT_take2 (i:=45) (v:=undef) rfl rfl (by kernel_rfl) (by kernel_rfl) (by kernel_rfl) (by kernel_rfl) (fun _ _ _ h=>h) (Or.inr ⟨by rfl,rfl⟩) (by first | assumption | trivial) ?_
                            simp only [List.setIfInBounds_toArray,List.set_cons_zero,List.set_cons_succ]
                            refine wpAnyT_take2 (i:=46) (v:=undef) rfl rfl (by kernel_rfl) (by kernel_rfl) (by kernel_rfl) (by kernel_rfl) (fun _ _ _ h=>h) (Or.inr ⟨by rfl,rfl⟩) (by first | assumption | trivial) ?_
                            simp only [List.setIfInBounds_toArray,List.set_cons_zero,List.set_cons_succ]
                            refine wpAnyT_take2 (i:=47) (v:=undef) rfl rfl (by kernel_rfl) (by kernel_rfl) (by kernel_rfl) (by kernel_rfl) (fun _ _ _ h=>h) (Or.inr ⟨by rfl,rfl⟩) (by first | assumption | trivial) ?_
                            simp only [List.setIfInBounds_toArray,List.set_cons_zero,List.set_cons_succ]
                            refine wpAnyT_take2 (i:=48) (v:=undef) rfl rfl (by kernel_rfl) (by kernel_rfl) (by kernel_rfl) (by kernel_rfl) (fun _ _ _ h=>h) (Or.inr ⟨by rfl,rfl⟩) (by first | assumption | trivial) ?_
                            simp only [List.setIfInBounds_toArray,List.set_cons_zero,List.set_cons_succ]
                            refine wpAnyT_take2 (i:=49) (v:=undef) rfl rfl (by kernel_rfl) (by kernel_rfl) (by kernel_rfl) (by kernel_rfl) (fun _ _ _ h=>h) (Or.inr ⟨by rfl,rfl⟩) (by first | assumption | trivial) ?_
                            simp only [List.setIfInBounds_toArray,List.set_cons_zero,List.set_cons_succ]
                            refine wpAnyT_take2 (i:=50) (v:=undef) rfl rfl (by kernel_rfl) (by kernel_rfl) (by kernel_rfl) (by kernel_rfl) (fun _ _ _ h=>h) (Or.inr ⟨by rfl,rfl⟩) (by first | assumption | trivial) ?_
                            simp only [List.setIfInBounds_toArray,List.set_cons_zero,List.set_cons_succ]
                            refine wpAnyT_take2 (i:=51) (v:=?_) rfl rfl (by kernel_rfl) (by kernel_rfl) (by kernel_rfl) (by kernel_rfl) (fun _ _ _ h=>h) (Or.inl ⟨by rfl, ?_⟩) (by first | assumption | trivial) ?_
                            rotate_left
                            · (intro w hSw; (try dsimp only at hSw); go_simp) <;> (with_reducible rfl)
                            simp only [List.setIfInBounds_toArray,List.set_cons_zero,List.set_cons_succ]
                            refine wpAnyT_take2 (i:=52) (v:=?_) rfl rfl (by kernel_rfl) (by kernel_rfl) (by kernel_rfl) (by kernel_rfl) (fun _ _ _ h=>h) (Or.inl ⟨by rfl, ?_⟩) (by first | assumption | trivial) ?_
                            rotate_left
                            · (intro w hSw; (try dsimp only at hSw); go_simp) <;> (with_reducible rfl)
                            simp only [List.setIfInBounds_toArray,List.set_cons_zero,List.set_cons_succ]
                            refine wpAnyT_done (by kernel_rfl) ?_ _
                            clear hHeld
                            go_wp2_with fail
                            refine wp_region_T (fun W=>W.cell? ⟨a,u,none⟩=some (.slice (some ⟨gu,0,none⟩) n n)∧W.cell? ⟨a,v,none⟩=some (.slice (some ⟨gv,0,none⟩) n n)∧W.cell? ⟨gu,v,none⟩=some (.int .i64 da)∧W.cell? ⟨gv,k,none⟩=some (.int .i64 db)) (fun i=>21≤i) (by kernel_rfl) ⟨c0,c1,c2,c3⟩ (fun hHeld=>?_)
                            refine wpAnyT_take2 (i:=0) (v:=?_) rfl rfl (by kernel_rfl) (by kernel_rfl) (by kernel_rfl) (by kernel_rfl) (fun _ _ _ h=>h) (Or.inl ⟨by rfl, ?_⟩) (by first | assumption | trivial) ?_
                            rotate_left
                            · (intro w hSw; (try dsimp only at hSw); go_simp) <;> (with_reducible rfl)
                            simp only [List.setIfInBounds_toArray,List.set_cons_zero,List.set_cons_succ]
                            refine wpAnyT_take2 (i:=1) (v:=?_) rfl rfl (by kernel_rfl) (by kernel_rfl) (by kernel_rfl) (by kernel_rfl) (fun _ _ _ h=>h) (Or.inl ⟨by rfl, ?_⟩) (by first | assumption | trivial) ?_
                            rotate_left
                            · (intro w hSw; (try dsimp only at hSw); go_simp) <;> (with_reducible rfl)
                            simp only [List.setIfInBounds_toArray,List.set_cons_zero,List.set_cons_succ]
                            refine wpAnyT_take2 (i:=2) (v:=?_) rfl rfl (by kernel_rfl) (by kernel_rfl) (by kernel_rfl) (by kernel_rfl) (fun _ _ _ h=>h) (Or.inl ⟨by rfl, ?_⟩) (by first | assumption | trivial) ?_
                            rotate_left
                            · (intro w hSw; (try dsimp only at hSw); go_simp) <;> (with_reducible rfl)
                            simp only [List.setIfInBounds_toArray,List.set_cons_zero,List.set_cons_succ]
                            refine wpAnyT_take2 (i:=3) (v:=?_) rfl rfl (by kernel_rfl) (by kernel_rfl) (by kernel_rfl) (by kernel_rfl) (fun _ _ _ h=>h) (Or.inl ⟨by rfl, ?_⟩) (by first | assumption | trivial) ?_
                            rotate_left
                            · (intro w hSw; (try dsimp only at hSw); go_simp) <;> (with_reducible rfl)
                            simp only [List.setIfInBounds_toArray,List.set_cons_zero,List.set_cons_succ]
                            refine wpAnyT_take2 (i:=4) (v:=?_) rfl rfl (by kernel_rfl) (by kernel_rfl) (by kernel_rfl) (by kernel_rfl) (fun _ _ _ h=>h) (Or.inl ⟨by rfl, ?_⟩) (by first | assumption | trivial) ?_
                            rotate_left
                            · (intro w hSw; (try dsimp only at hSw); go_simp) <;> (with_reducible rfl)
                            simp only [List.setIfInBounds_toArray,List.set_cons_zero,List.set_cons_succ]
                            refine wpAnyT_take2 (i:=5) (v:=?_) rfl rfl (by kernel_rfl) (by kernel_rfl) (by kernel_rfl) (by kernel_rfl) (fun _ _ _ h=>h) (Or.inl ⟨by rfl, ?_⟩) (by first | assumption | trivial) ?_
                            rotate_left
                            · (intro w hSw; (try dsimp only at hSw); go_simp) <;> (with_reducible rfl)
                            simp only [List.setIfInBounds_toArray,List.set_cons_zero,List.set_cons_succ]
                            refine wpAnyT_take2 (i:=6) (v:=?_) rfl rfl (by kernel_rfl) (by kernel_rfl) (by kernel_rfl) (by kernel_rfl) (fun _ _ _ h=>h) (Or.inl ⟨by rfl, ?_⟩) (by first | assumption | trivial) ?_
                            rotate_left
                            · (intro w hSw; (try dsimp only at hSw); go_simp) <;> (with_reducible rfl)
                            simp only [List.setIfInBounds_toArray,List.set_cons_zero,List.set_cons_succ]
                            refine wpAnyT_take2 (i:=7) (v:=?_) rfl rfl (by kernel_rfl) (by kernel_rfl) (by kernel_rfl) (by kernel_rfl) (fun _ _ _ h=>h) (Or.inl ⟨by rfl, ?_⟩) (by first | assumption | trivial) ?_
                            rotate_left
                            · (intro w hSw; (try dsimp only at hSw); go_simp) <;> (with_reducible rfl)
                            simp only [List.setIfInBounds_toArray,List.set_cons_zero,List.set_cons_succ]
                            refine wpAnyT_take2 (i:=8) (v:=?_) rfl rfl (by kernel_rfl) (by kernel_rfl) (by kernel_rfl) (by kernel_rfl) (fun _ _ _ h=>h) (Or.inl ⟨by rfl, ?_⟩) (by first | assumption | trivial) ?_
                            rotate_left
                            · (intro w hSw; (try dsimp only at hSw); go_simp) <;> (with_reducible rfl)
                            simp only [List.setIfInBounds_toArray,List.set_cons_zero,List.set_cons_succ]
                            refine wpAnyT_take2 (i:=9) (v:=?_) rfl rfl (by kernel_rfl) (by kernel_rfl) (by kernel_rfl) (by kernel_rfl) (fun _ _ _ h=>h) (Or.inl ⟨by rfl, ?_⟩) (by first | assumption | trivial) ?_
                            rotate_left
                            · (intro w hSw; (try dsimp only at hSw); go_simp) <;> (with_reducible rfl)
                            simp only [List.setIfInBounds_toArray,List.set_cons_zero,List.set_cons_succ]
                            refine wpAnyT_take2 (i:=10) (v:=?_) rfl rfl (by kernel_rfl) (by kernel_rfl) (by kernel_rfl) (by kernel_rfl) (fun _ _ _ h=>h) (Or.inl ⟨by rfl, ?_⟩) (by first | assumption | trivial) ?_
                            rotate_left
                            · (intro w hSw; (try dsimp only at hSw); go_simp) <;> (with_reducible rfl)
                            simp only [List.setIfInBounds_toArray,List.set_cons_zero,List.set_cons_succ]
                            refine wpAnyT_take2 (i:=11) (v:=?_) rfl rfl (by kernel_rfl) (by kernel_rfl) (by kernel_rfl) (by kernel_rfl) (fun _ _ _ h=>h) (Or.inl ⟨by rfl, ?_⟩) (by first | assumption | trivial) ?_
                            rotate_left
                            · (intro w hSw; (try dsimp only at hSw); go_simp) <;> (with_reducible rfl)
                            simp only [List.setIfInBounds_toArray,List.set_cons_zero,List.set_cons_succ]
                            refine wpAnyT_take2 (i:=12) (v:=?_) rfl rfl (by kernel_rfl) (by kernel_rfl) (by kernel_rfl) (by kernel_rfl) (fun _ _ _ h=>h) (Or.inl ⟨by rfl, ?_⟩) (by first | assumption | trivial) ?_
                            rotate_left
                            · (intro w hSw; (try dsimp only at hSw); go_simp) <;> (with_reducible rfl)
                            simp only [List.setIfInBounds_toArray,List.set_cons_zero,List.set_cons_succ]
                            refine wpAnyT_take2 (i:=13) (v:=?_) rfl rfl (by kernel_rfl) (by kernel_rfl) (by kernel_rfl) (by kernel_rfl) (fun _ _ _ h=>h) (Or.inl ⟨by rfl, ?_⟩) (by first | assumption | trivial) ?_
                            rotate_left
                            · (intro w hSw; (try dsimp only at hSw); go_simp) <;> (with_reducible rfl)
                            simp only [List.setIfInBounds_toArray,List.set_cons_zero,List.set_cons_succ]
                            refine wpAnyT_take2 (i:=14) (v:=?_) rfl rfl (by kernel_rfl) (by kernel_rfl) (by kernel_rfl) (by kernel_rfl) (fun _ _ _ h=>h) (Or.inl ⟨by rfl, ?_⟩) (by first | assumption | trivial) ?_
                            rotate_left
                            · (intro w hSw; (try dsimp only at hSw); go_simp) <;> (with_reducible rfl)
                            simp only [List.setIfInBounds_toArray,List.set_cons_zero,List.set_cons_succ]
                            refine wpAnyT_take2 (i:=15) (v:=?_) rfl rfl (by kernel_rfl) (by kernel_rfl) (by kernel_rfl) (by kernel_rfl) (fun _ _ _ h=>h) (Or.inl ⟨by rfl, ?_⟩) (by first | assumption | trivial) ?_
                            rotate_left
                            · (intro w hSw; (try dsimp only at hSw); go_simp) <;> (with_reducible rfl)
                            simp only [List.setIfInBounds_toArray,List.set_cons_zero,List.set_cons_succ]
                            refine wpAnyT_take2 (i:=16) (v:=?_) rfl rfl (by kernel_rfl) (by kernel_rfl) (by kernel_rfl) (by kernel_rfl) (fun _ _ _ h=>h) (Or.inl ⟨by rfl, ?_⟩) (by first | assumption | trivial) ?_
                            rotate_left
                            · (intro w hSw; (try dsimp only at hSw); go_simp) <;> (with_reducible rfl)
                            simp only [List.setIfInBounds_toArray,List.set_cons_zero,List.set_cons_succ]
                            refine wpAnyT_take2 (i:=17) (v:=?_) rfl rfl (by kernel_rfl) (by kernel_rfl) (by kernel_rfl) (by kernel_rfl) (fun _ _ _ h=>h) (Or.inl ⟨by rfl, ?_⟩) (by first | assumption | trivial) ?_
                            rotate_left
                            · (intro w hSw; (try dsimp only at hSw); go_simp) <;> (with_reducible rfl)
                            simp only [List.setIfInBounds_toArray,List.set_cons_zero,List.set_cons_succ]
                            refine wpAnyT_take2 (i:=18) (v:=?_) rfl rfl (by kernel_rfl) (by kernel_rfl) (by kernel_rfl) (by kernel_rfl) (fun _ _ _ h=>h) (Or.inl ⟨by rfl, ?_⟩) (by first | assumption | trivial) ?_
                            rotate_left
                            · (intro w hSw; (try dsimp only at hSw); go_simp) <;> (with_reducible rfl)
                            simp only [List.setIfInBounds_toArray,List.set_cons_zero,List.set_cons_succ]
                            refine wpAnyT_take2 (i:=19) (v:=.int .i64 (da+db)) rfl rfl (by kernel_rfl) (by kernel_rfl) (by kernel_rfl) (by kernel_rfl) (fun _ _ _ h=>h) (Or.inl ⟨by rfl, ?_⟩) (by first | assumption | trivial) ?_
                            · (intro w hSw; (try dsimp only at hSw); go_simp) <;> (first | (with_reducible rfl) | assumption | (simp; done) | (simp [*]; done) | (simp; omega))
                            simp only [List.setIfInBounds_toArray,List.set_cons_zero,List.set_cons_succ]
                            refine wpAnyT_take2 (i:=20) (v:=?_) rfl rfl (by kernel_rfl) (by kernel_rfl) (by kernel_rfl) (by kernel_rfl) (fun _ _ _ h=>h) (Or.inl ⟨by rfl, ?_⟩) (by first | assumption | trivial) ?_
                            rotate_left
                            · (intro w hSw; (try dsimp only at hSw); go_simp) <;> (with_reducible rfl)
                            simp only [List.setIfInBounds_toArray,List.set_cons_zero,List.set_cons_succ]
                            clear hHeld
                            have g4 : wr.drew.drew.cell? ⟨gu,k,none⟩=some (.int .i64 dc):=c4
                            have hfz : ∀ o,wr.drew.drew.frozen? ⟨gu,o,none⟩=false:=HFZ.out
                            refine wpAnyT_next (i:=21) (by kernel_rfl) rfl ?_
                            go_wp2_with fail
                            try simp only [QT]
                            try (with_reducible refine And.intro (fun h=>by simp at h) ?_)
                            refine wpAnyT_done (by kernel_rfl) ?_ _
                            clear g4 hfz c0 c1 c2 c3 c4
                            go_wp2_with fail
                            have HTS:=Lib.hid ((HTD.out.later (w':=wr.drew.drew) (Below.drew (Below.refl _ _))).set HGU.out k (da+db))
                            have HUS : Hid (Below B w (wr.drew.drew.setCell ⟨gu,k,none⟩ (.int .i64 (da+db)))):=Lib.hid (HDR.out.drew.setCell (p:=⟨gu,k,none⟩) HBG.out _)
                            go_roundw
                            case rel=>exact ⟨k+1,by omega,by go_num,Lib.hid (HTS.out.congr (fun x y _ _=>by rw [midD_next,HNW.out])),HUS⟩
                            case measure=>simp [intOf]; omega
                          · by_cases hs0 : da+db<dc
                            · have HNW : Hid (fwS D (v : Nat) (u : Nat) (k : Nat)=da+db):=Lib.hid (by rw [HFW.out,if_pos ⟨ha0,hb0,.inr hs0⟩])
                              go_wp2_with fail
                              refine wp_region_T (fun W=>W.cell? ⟨a,u,none⟩=some (.slice (some ⟨gu,0,none⟩) n n)∧W.cell? ⟨a,v,none⟩=some (.slice (some ⟨gv,0,none⟩) n n)∧W.cell? ⟨gu,v,none⟩=some (.int .i64 da)∧W.cell? ⟨gv,k,none⟩=some (.int .i64 db)∧W.cell? ⟨gu,k,none⟩=some (.int .i64 dc)) (fun _=>false) (by kernel_rfl) ⟨c0,c1,c2,c3,c4⟩ (fun hHeld=>?_)
                              refine wpAnyT_take2 (i:=0) (v:=?_) rfl rfl (by kernel_rfl) (by kernel_rfl) (by kernel_rfl) (by kernel_rfl) (fun _ _ _ h=>h) (Or.inl ⟨by rfl, ?_⟩) (by first | assumption | trivial) ?_
                              rotate_left
                              · (intro w hSw; (try dsimp only at hSw); go_simp) <;> (with_reducible rfl)
                              simp only [List.setIfInBounds_toArray,List.set_cons_zero,List.set_cons_succ]
                              refine wpAnyT_take2 (i:=1) (v:=?_) rfl rfl (by kernel_rfl) (by kernel_rfl) (by kernel_rfl) (by kernel_rfl) (fun _ _ _ h=>h) (Or.inl ⟨by rfl, ?_⟩) (by first | assumption | trivial) ?_
                              rotate_left
                              · (intro w hSw; (try dsimp only at hSw); go_simp) <;> (with_reducible rfl)
                              simp only [List.setIfInBounds_toArray,List.set_cons_zero,List.set_cons_succ]
                              refine wpAnyT_take2 (i:=2) (v:=?_) rfl rfl (by kernel_rfl) (by kernel_rfl) (by kernel_rfl) (by kernel_rfl) (fun _ _ _ h=>h) (Or.inl ⟨by rfl, ?_⟩) (by first | assumption | trivial) ?_
                              rotate_left
                              · (intro w hSw; (try dsimp only at hSw); go_simp) <;> (with_reducible rfl)
                              simp only [List.setIfInBounds_toArray,List.set_cons_zero,List.set_cons_succ]
                              refine wpAnyT_take2 (i:=3) (v:=?_) rfl rfl (by kernel_rfl) (by kernel_rfl) (by kernel_rfl) (by kernel_rfl) (fun _ _ _ h=>h) (Or.inl ⟨by rfl, ?_⟩) (by first | assumption | trivial) ?_
                              rotate_left
                              · (intro w hSw; (try dsimp only at hSw); go_simp) <;> (with_reducible rfl)
                              simp only [List.setIfInBounds_toArray,List.set_cons_zero,List.set_cons_succ]
                              refine wpAnyT_take2 (i:=4) (v:=?_) rfl rfl (by kernel_rfl) (by kernel_rfl) (by kernel_rfl) (by kernel_rfl) (fun _ _ _ h=>h) (Or.inl ⟨by rfl, ?_⟩) (by first | assumption | trivial) ?_
                              rotate_left
                              · (intro w hSw; (try dsimp only at hSw); go_simp) <;> (with_reducible rfl)
                              simp only [List.setIfInBounds_toArray,List.set_cons_zero,List.set_cons_succ]
                              refine wpAnyT_take2 (i:=5) (v:=?_) rfl rfl (by kernel_rfl) (by kernel_rfl) (by kernel_rfl) (by kernel_rfl) (fun _ _ _ h=>h) (Or.inl ⟨by rfl, ?_⟩) (by first | assumption | trivial) ?_
                              rotate_left
                              · (intro w hSw; (try dsimp only at hSw); go_simp) <;> (with_reducible rfl)
                              simp only [List.setIfInBounds_toArray,List.set_cons_zero,List.set_cons_succ]
                              refine wpAnyT_take2 (i:=6) (v:=?_) rfl rfl (by kernel_rfl) (by kernel_rfl) (by kernel_rfl) (by kernel_rfl) (fun _ _ _ h=>h) (Or.inl ⟨by rfl, ?_⟩) (by first | assumption | trivial) ?_
                              rotate_left
                              · (intro w hSw; (try dsimp only at hSw); go_simp) <;> (with_reducible rfl)
                              simp only [List.setIfInBounds_toArray,List.set_cons_zero,List.set_cons_succ]
                              refine wpAnyT_take2 (i:=7) (v:=.bool true) rfl rfl (by kernel_rfl) (by kernel_rfl) (by kernel_rfl) (by kernel_rfl) (fun _ _ _ h=>h) (Or.inl ⟨by rfl, ?_⟩) (by first | assumption | trivial) ?_
                              · (intro w hSw; (try dsimp only at hSw); go_simp) <;> (first | (with_reducible rfl) | assumption | (simp; done) | (simp [*]; done) | (simp; omega))
                              simp only [List.setIfInBounds_toArray,List.set_cons_zero,List.set_cons_succ]
                              refine wpAnyT_take2 (i:=8) (v:=?_) rfl rfl (by kernel_rfl) (by kernel_rfl) (by kernel_rfl) (by kernel_rfl) (fun _ _ _ h=>h) (Or.inl ⟨by rfl, ?_⟩) (by first | assumption | trivial) ?_
                              rotate_left
                              · (intro w hSw; (try dsimp only at hSw); go_simp) <;> (with_reducible rfl)
                              simp only [List.setIfInBounds_toArray,List.set_cons_zero,List.set_cons_succ]
                              refine wpAnyT_take2 (i:=9) (v:=?_) rfl rfl (by kernel_rfl) (by kernel_rfl) (by kernel_rfl) (by kernel_rfl) (fun _ _ _ h=>h) (Or.inl ⟨by rfl, ?_⟩) (by first | assumption | trivial) ?_
                              rotate_left
                              · (intro w hSw; (try dsimp only at hSw); go_simp) <;> (with_reducible rfl)
                              simp only [List.setIfInBounds_toArray,List.set_cons_zero,List.set_cons_succ]
                              refine wpAnyT_take2 (i:=10) (v:=?_) rfl rfl (by kernel_rfl) (by kernel_rfl) (by kernel_rfl) (by kernel_rfl) (fun _ _ _ h=>h) (Or.inl ⟨by rfl, ?_⟩) (by first | assumption | trivial) ?_
                              rotate_left
                              · (intro w hSw; (try dsimp only at hSw); go_simp) <;> (with_reducible rfl)
                              simp only [List.setIfInBounds_toArray,List.set_cons_zero,List.set_cons_succ]
                              refine wpAnyT_take2 (i:=11) (v:=?_) rfl rfl (by kernel_rfl) (by kernel_rfl) (by kernel_rfl) (by kernel_rfl) (fun _ _ _ h=>h) (Or.inl ⟨by rfl, ?_⟩) (by first | assumption | trivial) ?_
                              rotate_left
                              · (intro w hSw; (try dsimp only at hSw); go_simp) <;> (with_reducible rfl)
                              simp only [List.setIfInBounds_toArray,List.set_cons_zero,List.set_cons_succ]
                              refine wpAnyT_take2 (i:=12) (v:=?_) rfl rfl (by kernel_rfl) (by kernel_rfl) (by kernel_rfl) (by kernel_rfl) (fun _ _ _ h=>h) (Or.inl ⟨by rfl, ?_⟩) (by first | assumption | trivial) ?_
                              rotate_left
                              · (intro w hSw; (try dsimp only at hSw); go_simp) <;> (with_reducible rfl)
                              simp only [List.setIfInBounds_toArray,List.set_cons_zero,List.set_cons_succ]
                              refine wpAnyT_take2 (i:=13) (v:=?_) rfl rfl (by kernel_rfl) (by kernel_rfl) (by kernel_rfl) (by kernel_rfl) (fun _ _ _ h=>h) (Or.inl ⟨by rfl, ?_⟩) (by first | assumption | trivial) ?_
                              rotate_left
                              · (intro w hSw; (try dsimp only at hSw); go_simp) <;> (with_reducible rfl)
                              simp only [List.setIfInBounds_toArray,List.set_cons_zero,List.set_cons_succ]
                              refine wpAnyT_take2 (i:=14) (v:=?_) rfl rfl (by kernel_rfl) (by kernel_rfl) (by kernel_rfl) (by kernel_rfl) (fun _ _ _ h=>h) (Or.inl ⟨by rfl, ?_⟩) (by first | assumption | trivial) ?_
                              rotate_left
                              · (intro w hSw; (try dsimp only at hSw); go_simp) <;> (with_reducible rfl)
                              simp only [List.setIfInBounds_toArray,List.set_cons_zero,List.set_cons_succ]
                              refine wpAnyT_take2 (i:=15) (v:=?_) rfl rfl (by kernel_rfl) (by kernel_rfl) (by kernel_rfl) (by kernel_rfl) (fun _ _ _ h=>h) (Or.inl ⟨by rfl, ?_⟩) (by first | assumption | trivial) ?_
                              rotate_left
                              · (intro w hSw; (try dsimp only at hSw); go_simp) <;> (with_reducible rfl)
                              simp only [List.setIfInBounds_toArray,List.set_cons_zero,List.set_cons_succ]
                              refine wpAnyT_take2 (i:=16) (v:=.bool true) rfl rfl (by kernel_rfl) (by kernel_rfl) (by kernel_rfl) (by kernel_rfl) (fun _ _ _ h=>h) (Or.inl ⟨by rfl, ?_⟩) (by first | assumption | trivial) ?_
                              · (intro w hSw; (try dsimp only at hSw); go_simp) <;> (first | (with_reducible rfl) | assumption | (simp; done) | (simp [*]; done) | (simp; omega))
                              simp only [List.setIfInBounds_toArray,List.set_cons_zero,List.set_cons_succ]
                              refine wpAnyT_take2 (i:=17) (v:=?_) rfl rfl (by kernel_rfl) (by kernel_rfl) (by kernel_rfl) (by kernel_rfl) (fun _ _ _ h=>h) (Or.inl ⟨by rfl, ?_⟩) (by first | assumption | trivial) ?_
                              rotate_left
                              · (intro w hSw; (try dsimp only at hSw); go_simp) <;> (with_reducible rfl)
                              simp only [List.setIfInBounds_toArray,List.set_cons_zero,List.set_cons_succ]
                              refine wpAnyT_take2 (i:=18) (v:=?_) rfl rfl (by kernel_rfl) (by kernel_rfl) (by kernel_rfl) (by kernel_rfl) (fun _ _ _ h=>h) (Or.inl ⟨by rfl, ?_⟩) (by first | assumption | trivial) ?_
                              rotate_left
                              · (intro w hSw; (try dsimp only at hSw); go_simp) <;> (with_reducible rfl)
                              simp only [List.setIfInBounds_toArray,List.set_cons_zero,List.set_cons_succ]
                              refine wpAnyT_take2 (i:=19) (v:=?_) rfl rfl (by kernel_rfl) (by kernel_rfl) (by kernel_rfl) (by kernel_rfl) (fun _ _ _ h=>h) (Or.inl ⟨by rfl, ?_⟩) (by first | assumption | trivial) ?_
                              rotate_left
                              · (intro w hSw; (try dsimp only at hSw); go_simp) <;> (with_reducible rfl)
                              simp only [List.setIfInBounds_toArray,List.set_cons_zero,List.set_cons_succ]
                              refine wpAnyT_take2 (i:=20) (v:=?_) rfl rfl (by kernel_rfl) (by kernel_rfl) (by kernel_rfl) (by kernel_rfl) (fun _ _ _ h=>h) (Or.inl ⟨by rfl, ?_⟩) (by first | assumption | trivial) ?_
                              rotate_left
                              · (intro w hSw; (try dsimp only at hSw); go_simp) <;> (with_reducible rfl)
                              simp only [List.setIfInBounds_toArray,List.set_cons_zero,List.set_cons_succ]
                              refine wpAnyT_take2 (i:=21) (v:=?_) rfl rfl (by kernel_rfl) (by kernel_rfl) (by kernel_rfl) (by kernel_rfl) (fun _ _ _ h=>h) (Or.inl ⟨by rfl, ?_⟩) (by first | assumption | trivial) ?_
                              rotate_left
                              · (intro w hSw; (try dsimp only at hSw); go_simp) <;> (with_reducible rfl)
                              simp only [List.setIfInBounds_toArray,List.set_cons_zero,List.set_cons_succ]
                              refine wpAnyT_take2 (i:=22) (v:=?_) rfl rfl (by kernel_rfl) (by kernel_rfl) (by kernel_rfl) (by kernel_rfl) (fun _ _ _ h=>h) (Or.inl ⟨by rfl, ?_⟩) (by first | assumption | trivial) ?_
                              rotate_left
                              · (intro w hSw; (try dsimp only at hSw); go_simp) <;> (with_reducible rfl)
                              simp only [List.setIfInBounds_toArray,List.set_cons_zero,List.set_cons_succ]
                              refine wpAnyT_take2 (i:=23) (v:=?_) rfl rfl (by kernel_rfl) (by kernel_rfl) (by kernel_rfl) (by kernel_rfl) (fun _ _ _ h=>h) (Or.inl ⟨by rfl, ?_⟩) (by first | assumption | trivial) ?_
                              rotate_left
                              · (intro w hSw; (try dsimp only at hSw); go_simp) <;> (with_reducible rfl)
                              simp only [List.setIfInBounds_toArray,List.set_cons_zero,List.set_cons_succ]
                              refine wpAnyT_take2 (i:=24) (v:=?_) rfl rfl (by kernel_rfl) (by kernel_rfl) (by kernel_rfl) (by kernel_rfl) (fun _ _ _ h=>h) (Or.inl ⟨by rfl, ?_⟩) (by first | assumption | trivial) ?_
                              rotate_left
                              · (intro w hSw; (try dsimp only at hSw); go_simp) <;> (with_reducible rfl)
                              simp only [List.setIfInBounds_toArray,List.set_cons_zero,List.set_cons_succ]
                              refine wpAnyT_take2 (i:=25) (v:=?_) rfl rfl (by kernel_rfl) (by kernel_rfl) (by kernel_rfl) (by kernel_rfl) (fun _ _ _ h=>h) (Or.inl ⟨by rfl, ?_⟩) (by first | assumption | trivial) ?_
                              rotate_left
                              · (intro w hSw; (try dsimp only at hSw); go_simp) <;> (with_reducible rfl)
                              simp only [List.setIfInBounds_toArray,List.set_cons_zero,List.set_cons_succ]
                              refine wpAnyT_take2 (i:=26) (v:=.bool false) rfl rfl (by kernel_rfl) (by kernel_rfl) (by kernel_rfl) (by kernel_rfl) (fun _ _ _ h=>h) (Or.inl ⟨by rfl, ?_⟩) (by first | assumption | trivial) ?_
                              · (intro w hSw; (try dsimp only at hSw); go_simp) <;> (first | (with_reducible rfl) | assumption | (simp; done) | (simp [*]; done) | (simp; omega))
                              simp only [List.setIfInBounds_toArray,List.set_cons_zero,List.set_cons_succ]
                              refine wpAnyT_take2 (i:=27) (v:=?_) rfl rfl (by kernel_rfl) (by kernel_rfl) (by kernel_rfl) (by kernel_rfl) (fun _ _ _ h=>h) (Or.inl ⟨by rfl, ?_⟩) (by first | assumption | trivial) ?_
                              rotate_left
                              · (intro w hSw; (try dsimp only at hSw); go_simp) <;> (with_reducible rfl)
                              simp only [List.setIfInBounds_toArray,List.set_cons_zero,List.set_cons_succ]
                              refine wpAnyT_take2 (i:=28) (v:=?_) rfl rfl (by kernel_rfl) (by kernel_rfl) (by kernel_rfl) (by kernel_rfl) (fun _ _ _ h=>h) (Or.inl ⟨by rfl, ?_⟩) (by first | assumption | trivial) ?_
                              rotate_left
                              · (intro w hSw; (try dsimp only at hSw); go_simp) <;> (with_reducible rfl)
                              simp only [List.setIfInBounds_toArray,List.set_cons_zero,List.set_cons_succ]
                              refine wpAnyT_take2 (i:=29) (v:=?_) rfl rfl (by kernel_rfl) (by kernel_rfl) (by kernel_rfl) (by kernel_rfl) (fun _ _ _ h=>h) (Or.inl ⟨by rfl, ?_⟩) (by first | assumption | trivial) ?_
                              rotate_left
                              · (intro w hSw; (try dsimp only at hSw); go_simp) <;> (with_reducible rfl)
                              simp only [List.setIfInBounds_toArray,List.set_cons_zero,List.set_cons_succ]
                              refine wpAnyT_take2 (i:=30) (v:=?_) rfl rfl (by kernel_rfl) (by kernel_rfl) (by kernel_rfl) (by kernel_rfl) (fun _ _ _ h=>h) (Or.inl ⟨by rfl, ?_⟩) (by first | assumption | trivial) ?_
                              rotate_left
                              · (intro w hSw; (try dsimp only at hSw); go_simp) <;> (with_reducible rfl)
                              simp only [List.setIfInBounds_toArray,List.set_cons_zero,List.set_cons_succ]
                              refine wpAnyT_take2 (i:=31) (v:=?_) rfl rfl (by kernel_rfl) (by kernel_rfl) (by kernel_rfl) (by kernel_rfl) (fun _ _ _ h=>h) (Or.inl ⟨by rfl, ?_⟩) (by first | assumption | trivial) ?_
                              rotate_left
                              · (intro w hSw; (try dsimp only at hSw); go_simp) <;> (with_reducible rfl)
                              simp only [List.setIfInBounds_toArray,List.set_cons_zero,List.set_cons_succ]
                              refine wpAnyT_take2 (i:=32) (v:=?_) rfl rfl (by kernel_rfl) (by kernel_rfl) (by kernel_rfl) (by kernel_rfl) (fun _ _ _ h=>h) (Or.inl ⟨by rfl, ?_⟩) (by first | assumption | trivial) ?_
                              rotate_left
                              · (intro w hSw; (try dsimp only at hSw); go_simp) <;> (with_reducible rfl)
                              simp only [List.setIfInBounds_toArray,List.set_cons_zero,List.set_cons_succ]
                              refine wpAnyT_take2 (i:=33) (v:=?_) rfl rfl (by kernel_rfl) (by kernel_rfl) (by kernel_rfl) (by kernel_rfl) (fun _ _ _ h=>h) (Or.inl ⟨by rfl, ?_⟩) (by first | assumption | trivial) ?_
                              rotate_left
                              · (intro w hSw; (try dsimp only at hSw); go_simp) <;> (with_reducible rfl)
                              simp only [List.setIfInBounds_toArray,List.set_cons_zero,List.set_cons_succ]
                              refine wpAnyT_take2 (i:=34) (v:=?_) rfl rfl (by kernel_rfl) (by kernel_rfl) (by kernel_rfl) (by kernel_rfl) (fun _ _ _ h=>h) (Or.inl ⟨by rfl, ?_⟩) (by first | assumption | trivial) ?_
                              rotate_left
                              · (intro w hSw; (try dsimp only at hSw); go_simp) <;> (with_reducible rfl)
                              simp only [List.setIfInBounds_toArray,List.set_cons_zero,List.set_cons_succ]
                              refine wpAnyT_take2 (i:=35) (v:=?_) rfl rfl (by kernel_rfl) (by kernel_rfl) (by kernel_rfl) (by kernel_rfl) (fun _ _ _ h=>h) (Or.inl ⟨by rfl, ?_⟩) (by first | assumption | trivial) ?_
                              rotate_left
                              · (intro w hSw; (try dsimp only at hSw); go_simp) <;> (with_reducible rfl)
                              simp only [List.setIfInBounds_toArray,List.set_cons_zero,List.set_cons_succ]
                              refine wpAnyT_take2 (i:=36) (v:=?_) rfl rfl (by kernel_rfl) (by kernel_rfl) (by kernel_rfl) (by kernel_rfl) (fun _ _ _ h=>h) (Or.inl ⟨by rfl, ?_⟩) (by first | assumption | trivial) ?_
                              rotate_left
                              · (intro w hSw; (try dsimp only at hSw); go_simp) <;> (with_reducible rfl)
                              simp only [List.setIfInBounds_toArray,List.set_cons_zero,List.set_cons_succ]
                              refine wpAnyT_take2 (i:=37) (v:=?_) rfl rfl (by kernel_rfl) (by kernel_rfl) (by kernel_rfl) (by kernel_rfl) (fun _ _ _ h=>h) (Or.inl ⟨by rfl, ?_⟩) (by first | assumption | trivial) ?_
                              rotate_left
                              · (intro w hSw; (try dsimp only at hSw); go_simp) <;> (with_reducible rfl)
                              simp only [List.setIfInBounds_toArray,List.set_cons_zero,List.set_cons_succ]
                              refine wpAnyT_take2 (i:=38) (v:=?_) rfl rfl (by kernel_rfl) (by kernel_rfl) (by kernel_rfl) (by kernel_rfl) (fun _ _ _ h=>h) (Or.inl ⟨by rfl, ?_⟩) (by first | assumption | trivial) ?_
                              rotate_left
                              · (intro w hSw; (try dsimp only at hSw); go_simp) <;> (with_reducible rfl)
                              simp only [List.setIfInBounds_toArray,List.set_cons_zero,List.set_cons_succ]
                              refine wpAnyT_take2 (i:=39) (v:=?_) rfl rfl (by kernel_rfl) (by kernel_rfl) (by kernel_rfl) (by kernel_rfl) (fun _ _ _ h=>h) (Or.inl ⟨by rfl, ?_⟩) (by first | assumption | trivial) ?_
                              rotate_left
                              · (intro w hSw; (try dsimp only at hSw); go_simp) <;> (with_reducible rfl)
                              simp only [List.setIfInBounds_toArray,List.set_cons_zero,List.set_cons_succ]
                              refine wpAnyT_take2 (i:=40) (v:=?_) rfl rfl (by kernel_rfl) (by kernel_rfl) (by kernel_rfl) (by kernel_rfl) (fun _ _ _ h=>h) (Or.inl ⟨by rfl, ?_⟩) (by first | assumption | trivial) ?_
                              rotate_left
                              · (intro w hSw; (try dsimp only at hSw); go_simp) <;> (with_reducible rfl)
                              simp only [List.setIfInBounds_toArray,List.set_cons_zero,List.set_cons_succ]
                              refine wpAnyT_take2 (i:=41) (v:=?_) rfl rfl (by kernel_rfl) (by kernel_rfl) (by kernel_rfl) (by kernel_rfl) (fun _ _ _ h=>h) (Or.inl ⟨by rfl, ?_⟩) (by first | assumption | trivial) ?_
                              rotate_left
                              · (intro w hSw; (try dsimp only at hSw); go_simp) <;> (with_reducible rfl)
                              simp only [List.setIfInBounds_toArray,List.set_cons_zero,List.set_cons_succ]
                              refine wpAnyT_take2 (i:=42) (v:=.int .i64 (da+db)) rfl rfl (by kernel_rfl) (by kernel_rfl) (by kernel_rfl) (by kernel_rfl) (fun _ _ _ h=>h) (Or.inl ⟨by rfl, ?_⟩) (by first | assumption | trivial) ?_
                              · (intro w hSw; (try dsimp only at hSw); go_simp) <;> (first | (with_reducible rfl) | assumption | (simp; done) | (simp [*]; done) | (simp; omega))
                              simp only [List.setIfInBounds_toArray,List.set_cons_zero,List.set_cons_succ]
                              refine wpAnyT_take2 (i:=43) (v:=?_) rfl rfl (by kernel_rfl) (by kernel_rfl) (by kernel_rfl) (by kernel_rfl) (fun _ _ _ h=>h) (Or.inl ⟨by rfl, ?_⟩) (by first | assumption | trivial) ?_
                              rotate_left
                              · (intro w hSw; (try dsimp only at hSw); go_simp) <;> (with_reducible rfl)
                              simp only [List.setIfInBounds_toArray,List.set_cons_zero,List.set_cons_succ]
                              refine wpAnyT_take2 (i:=44) (v:=?_) rfl rfl (by kernel_rfl) (by kernel_rfl) (by kernel_rfl) (by kernel_rfl) (fun _ _ _ h=>h) (Or.inl ⟨by rfl, ?_⟩) (by first | assumption | trivial) ?_
                              rotate_left
                              · (intro w hSw; (try dsimp only at hSw); go_simp) <;> (with_reducible rfl)
                              simp only [List.setIfInBounds_toArray,List.set_cons_zero,List.set_cons_succ]
                              refine wpAnyT_take2 (i:=45) (v:=?_) rfl rfl (by kernel_rfl) (by kernel_rfl) (by kernel_rfl) (by kernel_rfl) (fun _ _ _ h=>h) (Or.inl ⟨by rfl, ?_⟩) (by first | assumption | trivial) ?_
                              rotate_left
                              · (intro w hSw; (try dsimp only at hSw); go_simp) <;> (with_reducible rfl)
                              simp only [List.setIfInBounds_toArray,List.set_cons_zero,List.set_cons_succ]
                              refine wpAnyT_take2 (i:=46) (v:=?_) rfl rfl (by kernel_rfl) (by kernel_rfl) (by kernel_rfl) (by kernel_rfl) (fun _ _ _ h=>h) (Or.inl ⟨by rfl, ?_⟩) (by first | assumption | trivial) ?_
                              rotate_left
                              · (intro w hSw; (try dsimp only at hSw); go_simp) <;> (with_reducible rfl)
                              simp only [List.setIfInBounds_toArray,List.set_cons_zero,List.set_cons_succ]
                              refine wpAnyT_take2 (i:=47) (v:=?_) rfl rfl (by kernel_rfl) (by kernel_rfl) (by kernel_rfl) (by kernel_rfl) (fun _ _ _ h=>h) (Or.inl ⟨by rfl, ?_⟩) (by first | assumption | trivial) ?_
                              rotate_left
                              · (intro w hSw; (try dsimp only at hSw); go_simp) <;> (with_reducible rfl)
                              simp only [List.setIfInBounds_toArray,List.set_cons_zero,List.set_cons_succ]
                              refine wpAnyT_take2 (i:=48) (v:=?_) rfl rfl (by kernel_rfl) (by kernel_rfl) (by kernel_rfl) (by kernel_rfl) (fun _ _ _ h=>h) (Or.inl ⟨by rfl, ?_⟩) (by first | assumption | trivial) ?_
                              rotate_left
                              · (intro w hSw; (try dsimp only at hSw); go_simp) <;> (with_reducible rfl)
                              simp only [List.setIfInBounds_toArray,List.set_cons_zero,List.set_cons_succ]
                              refine wpAnyT_take2 (i:=49) (v:=?_) rfl rfl (by kernel_rfl) (by kernel_rfl) (by kernel_rfl) (by kernel_rfl) (fun _ _ _ h=>h) (Or.inl ⟨by rfl, ?_⟩) (by first | assumption | trivial) ?_
                              rotate_left
                              · (intro w hSw; (try dsimp only at hSw); go_simp) <;> (with_reducible rfl)
                              simp only [List.setIfInBounds_toArray,List.set_cons_zero,List.set_cons_succ]
                              refine wpAnyT_take2 (i:=50) (v:=.bool true) rfl rfl (by kernel_rfl) (by kernel_rfl) (by kernel_rfl) (by kernel_rfl) (fun _ _ _ h=>h) (Or.inl ⟨by rfl, ?_⟩) (by first | assumption | trivial) ?_
                              · (intro w hSw; (try dsimp only at hSw); go_simp) <;> (first | (with_reducible rfl) | assumption | (simp; done) | (simp [*]; done) | (simp; omega))
                              simp only [List.setIfInBounds_toArray,List.set_cons_zero,List.set_cons_succ]
                              refine wpAnyT_take2 (i:=51) (v:=?_) rfl rfl (by kernel_rfl) (by kernel_rfl) (by kernel_rfl) (by kernel_rfl) (fun _ _ _ h=>h) (Or.inl ⟨by rfl, ?_⟩) (by first | assumption | trivial) ?_
                              rotate_left
                              · (intro w hSw; (try dsimp only at hSw); go_simp) <;> (with_reducible rfl)
                              simp only [List.setIfInBounds_toArray,List.set_cons_zero,List.set_cons_succ]
                              refine wpAnyT_take2 (i:=52) (v:=?_) rfl rfl (by kernel_rfl) (by kernel_rfl) (by kernel_rfl) (by kernel_rfl) (fun _ _ _ h=>h) (Or.inl ⟨by rfl, ?_⟩) (by first | assumption | trivial) ?_
                              rotate_left
                              · (intro w hSw; (try dsimp only at hSw); go_simp) <;> (with_reducible rfl)
                              simp only [List.setIfInBounds_toArray,List.set_cons_zero,List.set_cons_succ]
                              refine wpAnyT_done (by kernel_rfl) ?_ _
                              clear hHeld
                              go_wp2_with fail
                              refine wp_region_T (fun W=>W.cell? ⟨a,u,none⟩=some (.slice (some ⟨gu,0,none⟩) n n)∧W.cell? ⟨a,v,none⟩=some (.slice (some ⟨gv,0,none⟩) n n)∧W.cell? ⟨gu,v,none⟩=some (.int .i64 da)∧W.cell? ⟨gv,k,none⟩=some (.int .i64 db)) (fun i=>21≤i) (by kernel_rfl) ⟨c0,c1,c2,c3⟩ (fun hHeld=>?_)
                              refine wpAnyT_take2 (i:=0) (v:=?_) rfl rfl (by kernel_rfl) (by kernel_rfl) (by kernel_rfl) (by kernel_rfl) (fun _ _ _ h=>h) (Or.inl ⟨by rfl, ?_⟩) (by first | assumption | trivial) ?_
                              rotate_left
                              · (intro w hSw; (try dsimp only at hSw); go_simp) <;> (with_reducible rfl)
                              simp only [List.setIfInBounds_toArray,List.set_cons_zero,List.set_cons_succ]
                              refine wpAnyT_take2 (i:=1) (v:=?_) rfl rfl (by kernel_rfl) (by kernel_rfl) (by kernel_rfl) (by kernel_rfl) (fun _ _ _ h=>h) (Or.inl ⟨by rfl, ?_⟩) (by first | assumption | trivial) ?_
                              rotate_left
                              · (intro w hSw; (try dsimp only at hSw); go_simp) <;> (with_reducible rfl)
                              simp only [List.setIfInBounds_toArray,List.set_cons_zero,List.set_cons_succ]
                              refine wpAnyT_take2 (i:=2) (v:=?_) rfl rfl (by kernel_rfl) (by kernel_rfl) (by kernel_rfl) (by kernel_rfl) (fun _ _ _ h=>h) (Or.inl ⟨by rfl, ?_⟩) (by first | assumption | trivial) ?_
                              rotate_left
                              · (intro w hSw; (try dsimp only at hSw); go_simp) <;> (with_reducible rfl)
                              simp only [List.setIfInBounds_toArray,List.set_cons_zero,List.set_cons_succ]
                              refine wpAnyT_take2 (i:=3) (v:=?_) rfl rfl (by kernel_rfl) (by kernel_rfl) (by kernel_rfl) (by kernel_rfl) (fun _ _ _ h=>h) (Or.inl ⟨by rfl, ?_⟩) (by first | assumption | trivial) ?_
                              rotate_left
                              · (intro w hSw; (try dsimp only at hSw); go_simp) <;> (with_reducible rfl)
                              simp only [List.setIfInBounds_toArray,List.set_cons_zero,List.set_cons_succ]
                              refine wpAnyT_take2 (i:=4) (v:=?_) rfl rfl (by kernel_rfl) (by kernel_rfl) (by kernel_rfl) (by kernel_rfl) (fun _ _ _ h=>h) (Or.inl ⟨by rfl, ?_⟩) (by first | assumption | trivial) ?_
                              rotate_left
                              · (intro w hSw; (try dsimp only at hSw); go_simp) <;> (with_reducible rfl)
                              simp only [List.setIfInBounds_toArray,List.set_cons_zero,List.set_cons_succ]
                              refine wpAnyT_take2 (i:=5) (v:=?_) rfl rfl (by kernel_rfl) (by kernel_rfl) (by kernel_rfl) (by kernel_rfl) (fun _ _ _ h=>h) (Or.inl ⟨by rfl, ?_⟩) (by first | assumption | trivial) ?_
                              rotate_left
                              · (intro w hSw; (try dsimp only at hSw); go_simp) <;> (with_reducible rfl)
                              simp only [List.setIfInBounds_toArray,List.set_cons_zero,List.set_cons_succ]
                              refine wpAnyT_take2 (i:=6) (v:=?_) rfl rfl (by kernel_rfl) (by kernel_rfl) (by kernel_rfl) (by kernel_rfl) (fun _ _ _ h=>h) (Or.inl ⟨by rfl, ?_⟩) (by first | assumption | trivial) ?_
                              rotate_left
                              · (intro w hSw; (try dsimp only at hSw); go_simp) <;> (with_reducible rfl)
                              simp only [List.setIfInBounds_toArray,List.set_cons_zero,List.set_cons_succ]
                              refine wpAnyT_take2 (i:=7) (v:=?_) rfl rfl (by kernel_rfl) (by kernel_rfl) (by kernel_rfl) (by kernel_rfl) (fun _ _ _ h=>h) (Or.inl ⟨by rfl, ?_⟩) (by first | assumption | trivial) ?_
                              rotate_left
                              · (intro w hSw; (try dsimp only at hSw); go_simp) <;> (with_reducible rfl)
                              simp only [List.setIfInBounds_toArray,List.set_cons_zero,List.set_cons_succ]
                              refine wpAnyT_take2 (i:=8) (v:=?_) rfl rfl (by kernel_rfl) (by kernel_rfl) (by kernel_rfl) (by kernel_rfl) (fun _ _ _ h=>h) (Or.inl ⟨by rfl, ?_⟩) (by first | assumption | trivial) ?_
                              rotate_left
                              · (intro w hSw; (try dsimp only at hSw); go_simp) <;> (with_reducible rfl)
                              simp only [List.setIfInBounds_toArray,List.set_cons_zero,List.set_cons_succ]
                              refine wpAnyT_take2 (i:=9) (v:=?_) rfl rfl (by kernel_rfl) (by kernel_rfl) (by kernel_rfl) (by kernel_rfl) (fun _ _ _ h=>h) (Or.inl ⟨by rfl, ?_⟩) (by first | assumption | trivial) ?_
                              rotate_left
                              · (intro w hSw; (try dsimp only at hSw); go_simp) <;> (with_reducible rfl)
                              simp only [List.setIfInBounds_toArray,List.set_cons_zero,List.set_cons_succ]
                              refine wpAnyT_take2 (i:=10) (v:=?_) rfl rfl (by kernel_rfl) (by kernel_rfl) (by kernel_rfl) (by kernel_rfl) (fun _ _ _ h=>h) (Or.inl ⟨by rfl, ?_⟩) (by first | assumption | trivial) ?_
                              rotate_left
                              · (intro w hSw; (try dsimp only at hSw); go_simp) <;> (with_reducible rfl)
                              simp only [List.setIfInBounds_toArray,List.set_cons_zero,List.set_cons_succ]
                              refine wpAnyT_take2 (i:=11) (v:=?_) rfl rfl (by kernel_rfl) (by kernel_rfl) (by kernel_rfl) (by kernel_rfl) (fun _ _ _ h=>h) (Or.inl ⟨by rfl, ?_⟩) (by first | assumption | trivial) ?_
                              rotate_left
                              · (intro w hSw; (try dsimp only at hSw); go_simp) <;> (with_reducible rfl)
                              simp only [List.setIfInBounds_toArray,List.set_cons_zero,List.set_cons_succ]
                              refine wpAnyT_take2 (i:=12) (v:=?_) rfl rfl (by kernel_rfl) (by kernel_rfl) (by kernel_rfl) (by kernel_rfl) (fun _ _ _ h=>h) (Or.inl ⟨by rfl, ?_⟩) (by first | assumption | trivial) ?_
                              rotate_left
                              · (intro w hSw; (try dsimp only at hSw); go_simp) <;> (with_reducible rfl)
                              simp only [List.setIfInBounds_toArray,List.set_cons_zero,List.set_cons_succ]
                              refine wpAnyT_take2 (i:=13) (v:=?_) rfl rfl (by kernel_rfl) (by kernel_rfl) (by kernel_rfl) (by kernel_rfl) (fun _ _ _ h=>h) (Or.inl ⟨by rfl, ?_⟩) (by first | assumption | trivial) ?_
                              rotate_left
                              · (intro w hSw; (try dsimp only at hSw); go_simp) <;> (with_reducible rfl)
                              simp only [List.setIfInBounds_toArray,List.set_cons_zero,List.set_cons_succ]
                              refine wpAnyT_take2 (i:=14) (v:=?_) rfl rfl (by kernel_rfl) (by kernel_rfl) (by kernel_rfl) (by kernel_rfl) (fun _ _ _ h=>h) (Or.inl ⟨by rfl, ?_⟩) (by first | assumption | trivial) ?_
                              rotate_left
                              · (intro w hSw; (try dsimp only at hSw); go_simp) <;> (with_reducible rfl)
                              simp only [List.setIfInBounds_toArray,List.set_cons_zero,List.set_cons_succ]
                              refine wpAnyT_take2 (i:=15) (v:=?_) rfl rfl (by kernel_rfl) (by kernel_rfl) (by kernel_rfl) (by kernel_rfl) (fun _ _ _ h=>h) (Or.inl ⟨by rfl, ?_⟩) (by first | assumption | trivial) ?_
                              rotate_left
                              · (intro w hSw; (try dsimp only at hSw); go_simp) <;> (with_reducible rfl)
                              simp only [List.setIfInBounds_toArray,List.set_cons_zero,List.set_cons_succ]
                              refine wpAnyT_take2 (i:=16) (v:=?_) rfl rfl (by kernel_rfl) (by kernel_rfl) (by kernel_rfl) (by kernel_rfl) (fun _ _ _ h=>h) (Or.inl ⟨by rfl, ?_⟩) (by first | assumption | trivial) ?_
                              rotate_left
                              · (intro w hSw; (try dsimp only at hSw); go_simp) <;> (with_reducible rfl)
                              simp only [List.setIfInBounds_toArray,List.set_cons_zero,List.set_cons_succ]
                              refine wpAnyT_take2 (i:=17) (v:=?_) rfl rfl (by kernel_rfl) (by kernel_rfl) (by kernel_rfl) (by kernel_rfl) (fun _ _ _ h=>h) (Or.inl ⟨by rfl, ?_⟩) (by first | assumption | trivial) ?_
                              rotate_left
                              · (intro w hSw; (try dsimp only at hSw); go_simp) <;> (with_reducible rfl)
                              simp only [List.setIfInBounds_toArray,List.set_cons_zero,List.set_cons_succ]
                              refine wpAnyT_take2 (i:=18) (v:=?_) rfl rfl (by kernel_rfl) (by kernel_rfl) (by kernel_rfl) (by kernel_rfl) (fun _ _ _ h=>h) (Or.inl ⟨by rfl, ?_⟩) (by first | assumption | trivial) ?_
                              rotate_left
                              · (intro w hSw; (try dsimp only at hSw); go_simp) <;> (with_reducible rfl)
                              simp only [List.setIfInBounds_toArray,List.set_cons_zero,List.set_cons_succ]
                              refine wpAnyT_take2 (i:=19) (v:=.int .i64 (da+db)) rfl rfl (by kernel_rfl) (by kernel_rfl) (by kernel_rfl) (by kernel_rfl) (fun _ _ _ h=>h) (Or.inl ⟨by rfl, ?_⟩) (by first | assumption | trivial) ?_
                              · (intro w hSw; (try dsimp only at hSw); go_simp) <;> (first | (with_reducible rfl) | assumption | (simp; done) | (simp [*]; done) | (simp; omega))
                              simp only [List.setIfInBounds_toArray,List.set_cons_zero,List.set_cons_succ]
                              refine wpAnyT_take2 (i:=20) (v:=?_) rfl rfl (by kernel_rfl) (by kernel_rfl) (by kernel_rfl) (by kernel_rfl) (fun _ _ _ h=>h) (Or.inl ⟨by rfl, ?_⟩) (by first | assumption | trivial) ?_
                              rotate_left
                              · (intro w hSw; (try dsimp only at hSw); go_simp) <;> (with_reducible rfl)
                              simp only [List.setIfInBounds_toArray,List.set_cons_zero,List.set_cons_succ]
                              clear hHeld
                              have g4 : wr.drew.drew.cell? ⟨gu,k,none⟩=some (.int .i64 dc):=c4
                              have hfz : ∀ o,wr.drew.drew.frozen? ⟨gu,o,none⟩=false:=HFZ.out
                              refine wpAnyT_next (i:=21) (by kernel_rfl) rfl ?_
                              go_wp2_with fail
                              try simp only [QT]
                              try (with_reducible refine And.intro (fun h=>by simp at h) ?_)
                              refine wpAnyT_done (by kernel_rfl) ?_ _
                              clear g4 hfz c0 c1 c2 c3 c4
                              go_wp2_with fail
                              have HTS:=Lib.hid ((HTD.out.later (w':=wr.drew.drew) (Below.drew (Below.refl _ _))).set HGU.out k (da+db))
                              have HUS : Hid (Below B w (wr.drew.drew.setCell ⟨gu,k,none⟩ (.int .i64 (da+db)))):=Lib.hid (HDR.out.drew.setCell (p:=⟨gu,k,none⟩) HBG.out _)
                              go_roundw
                              case rel=>exact ⟨k+1,by omega,by go_num,Lib.hid (HTS.out.congr (fun x y _ _=>by rw [midD_next,HNW.out])),HUS⟩
                              case measure=>simp [intOf]; omega
                            · have HTS:=Lib.hid (HTD.out.congr (fun x y _ _=>HST.out (by rw [HFW.out,if_neg (fun h=>h.2.2.elim hc0 hs0)]) x y))
                              go_wp2_with fail
                              refine wp_region_T (fun W=>W.cell? ⟨a,u,none⟩=some (.slice (some ⟨gu,0,none⟩) n n)∧W.cell? ⟨a,v,none⟩=some (.slice (some ⟨gv,0,none⟩) n n)∧W.cell? ⟨gu,v,none⟩=some (.int .i64 da)∧W.cell? ⟨gv,k,none⟩=some (.int .i64 db)∧W.cell? ⟨gu,k,none⟩=some (.int .i64 dc)) (fun _=>false) (by kernel_rfl) ⟨c0,c1,c2,c3,c4⟩ (fun hHeld=>?_)
                              refine wpAnyT_take2 (i:=0) (v:=?_) rfl rfl (by kernel_rfl) (by kernel_rfl) (by kernel_rfl) (by kernel_rfl) (fun _ _ _ h=>h) (Or.inl ⟨by rfl, ?_⟩) (by first | assumption | trivial) ?_
                              rotate_left
                              · (intro w hSw; (try dsimp only at hSw); go_simp) <;> (with_reducible rfl)
                              simp only [List.setIfInBounds_toArray,List.set_cons_zero,List.set_cons_succ]
                              refine wpAnyT_take2 (i:=1) (v:=?_) rfl rfl (by kernel_rfl) (by kernel_rfl) (by kernel_rfl) (by kernel_rfl) (fun _ _ _ h=>h) (Or.inl ⟨by rfl, ?_⟩) (by first | assumption | trivial) ?_
                              rotate_left
                              · (intro w hSw; (try dsimp only at hSw); go_simp) <;> (with_reducible rfl)
                              simp only [List.setIfInBounds_toArray,List.set_cons_zero,List.set_cons_succ]
                              refine wpAnyT_take2 (i:=2) (v:=?_) rfl rfl (by kernel_rfl) (by kernel_rfl) (by kernel_rfl) (by kernel_rfl) (fun _ _ _ h=>h) (Or.inl ⟨by rfl, ?_⟩) (by first | assumption | trivial) ?_
                              rotate_left
                              · (intro w hSw; (try dsimp only at hSw); go_simp) <;> (with_reducible rfl)
                              simp only [List.setIfInBounds_toArray,List.set_cons_zero,List.set_cons_succ]
                              refine wpAnyT_take2 (i:=3) (v:=?_) rfl rfl (by kernel_rfl) (by kernel_rfl) (by kernel_rfl) (by kernel_rfl) (fun _ _ _ h=>h) (Or.inl ⟨by rfl, ?_⟩) (by first | assumption | trivial) ?_
                              rotate_left
                              · (intro w hSw; (try dsimp only at hSw); go_simp) <;> (with_reducible rfl)
                              simp only [List.setIfInBounds_toArray,List.set_cons_zero,List.set_cons_succ]
                              refine wpAnyT_take2 (i:=4) (v:=?_) rfl rfl (by kernel_rfl) (by kernel_rfl) (by kernel_rfl) (by kernel_rfl) (fun _ _ _ h=>h) (Or.inl ⟨by rfl, ?_⟩) (by first | assumption | trivial) ?_
                              rotate_left
                              · (intro w hSw; (try dsimp only at hSw); go_simp) <;> (with_reducible rfl)
                              simp only [List.setIfInBounds_toArray,List.set_cons_zero,List.set_cons_succ]
                              refine wpAnyT_take2 (i:=5) (v:=?_) rfl rfl (by kernel_rfl) (by kernel_rfl) (by kernel_rfl) (by kernel_rfl) (fun _ _ _ h=>h) (Or.inl ⟨by rfl, ?_⟩) (by first | assumption | trivial) ?_
                              rotate_left
                              · (intro w hSw; (try dsimp only at hSw); go_simp) <;> (with_reducible rfl)
                              simp only [List.setIfInBounds_toArray,List.set_cons_zero,List.set_cons_succ]
                              refine wpAnyT_take2 (i:=6) (v:=?_) rfl rfl (by kernel_rfl) (by kernel_rfl) (by kernel_rfl) (by kernel_rfl) (fun _ _ _ h=>h) (Or.inl ⟨by rfl, ?_⟩) (by first | assumption | trivial) ?_
                              rotate_left
                              · (intro w hSw; (try dsimp only at hSw); go_simp) <;> (with_reducible rfl)
                              simp only [List.setIfInBounds_toArray,List.set_cons_zero,List.set_cons_succ]
                              refine wpAnyT_take2 (i:=7) (v:=.bool true) rfl rfl (by kernel_rfl) (by kernel_rfl) (by kernel_rfl) (by kernel_rfl) (fun _ _ _ h=>h) (Or.inl ⟨by rfl, ?_⟩) (by first | assumption | trivial) ?_
                              · (intro w hSw; (try dsimp only at hSw); go_simp) <;> (first | (with_reducible rfl) | assumption | (simp; done) | (simp [*]; done) | (simp; omega))
                              simp only [List.setIfInBounds_toArray,List.set_cons_zero,List.set_cons_succ]
                              refine wpAnyT_take2 (i:=8) (v:=?_) rfl rfl (by kernel_rfl) (by kernel_rfl) (by kernel_rfl) (by kernel_rfl) (fun _ _ _ h=>h) (Or.inl ⟨by rfl, ?_⟩) (by first | assumption | trivial) ?_
                              rotate_left
                              · (intro w hSw; (try dsimp only at hSw); go_simp) <;> (with_reducible rfl)
                              simp only [List.setIfInBounds_toArray,List.set_cons_zero,List.set_cons_succ]
                              refine wpAnyT_take2 (i:=9) (v:=?_) rfl rfl (by kernel_rfl) (by kernel_rfl) (by kernel_rfl) (by kernel_rfl) (fun _ _ _ h=>h) (Or.inl ⟨by rfl, ?_⟩) (by first | assumption | trivial) ?_
                              rotate_left
                              · (intro w hSw; (try dsimp only at hSw); go_simp) <;> (with_reducible rfl)
                              simp only [List.setIfInBounds_toArray,List.set_cons_zero,List.set_cons_succ]
                              refine wpAnyT_take2 (i:=10) (v:=?_) rfl rfl (by kernel_rfl) (by kernel_rfl) (by kernel_rfl) (by kernel_rfl) (fun _ _ _ h=>h) (Or.inl ⟨by rfl, ?_⟩) (by first | assumption | trivial) ?_
                              rotate_left
                              · (intro w hSw; (try dsimp only at hSw); go_simp) <;> (with_reducible rfl)
                              simp only [List.setIfInBounds_toArray,List.set_cons_zero,List.set_cons_succ]
                              refine wpAnyT_take2 (i:=11) (v:=?_) rfl rfl (by kernel_rfl) (by kernel_rfl) (by kernel_rfl) (by kernel_rfl) (fun _ _ _ h=>h) (Or.inl ⟨by rfl, ?_⟩) (by first | assumption | trivial) ?_
                              rotate_left
                              · (intro w hSw; (try dsimp only at hSw); go_simp) <;> (with_reducible rfl)
                              simp only [List.setIfInBounds_toArray,List.set_cons_zero,List.set_cons_succ]
                              refine wpAnyT_take2 (i:=12) (v:=?_) rfl rfl (by kernel_rfl) (by kernel_rfl) (by kernel_rfl) (by kernel_rfl) (fun _ _ _ h=>h) (Or.inl ⟨by rfl, ?_⟩) (by first | assumption | trivial) ?_
                              rotate_left
                              · (intro w hSw; (try dsimp only at hSw); go_simp) <;> (with_reducible rfl)
                              simp only [List.setIfInBounds_toArray,List.set_cons_zero,List.set_cons_succ]
                              refine wpAnyT_take2 (i:=13) (v:=?_) rfl rfl (by kernel_rfl) (by kernel_rfl) (by kernel_rfl) (by kernel_rfl) (fun _ _ _ h=>h) (Or.inl ⟨by rfl, ?_⟩) (by first | assumption | trivial) ?_
                              rotate_left
                              · (intro w hSw; (try dsimp only at hSw); go_simp) <;> (with_reducible rfl)
                              simp only [List.setIfInBounds_toArray,List.set_cons_zero,List.set_cons_succ]
                              refine wpAnyT_take2 (i:=14) (v:=?_) rfl rfl (by kernel_rfl) (by kernel_rfl) (by kernel_rfl) (by kernel_rfl) (fun _ _ _ h=>h) (Or.inl ⟨by rfl, ?_⟩) (by first | assumption | trivial) ?_
                              rotate_left
                              · (intro w hSw; (try dsimp only at hSw); go_simp) <;> (with_reducible rfl)
                              simp only [List.setIfInBounds_toArray,List.set_cons_zero,List.set_cons_succ]
                              refine wpAnyT_take2 (i:=15) (v:=?_) rfl rfl (by kernel_rfl) (by kernel_rfl) (by kernel_rfl) (by kernel_rfl) (fun _ _ _ h=>h) (Or.inl ⟨by rfl, ?_⟩) (by first | assumption | trivial) ?_
                              rotate_left
                              · (intro w hSw; (try dsimp only at hSw); go_simp) <;> (with_reducible rfl)
                              simp only [List.setIfInBounds_toArray,List.set_cons_zero,List.set_cons_succ]
                              refine wpAnyT_take2 (i:=16) (v:=.bool true) rfl rfl (by kernel_rfl) (by kernel_rfl) (by kernel_rfl) (by kernel_rfl) (fun _ _ _ h=>h) (Or.inl ⟨by rfl, ?_⟩) (by first | assumption | trivial) ?_
                              · (intro w hSw; (try dsimp only at hSw); go_simp) <;> (first | (with_reducible rfl) | assumption | (simp; done) | (simp [*]; done) | (simp; omega))
                              simp only [List.setIfInBounds_toArray,List.set_cons_zero,List.set_cons_succ]
                              refine wpAnyT_take2 (i:=17) (v:=?_) rfl rfl (by kernel_rfl) (by kernel_rfl) (by kernel_rfl) (by kernel_rfl) (fun _ _ _ h=>h) (Or.inl ⟨by rfl, ?_⟩) (by first | assumption | trivial) ?_
                              rotate_left
                              · (intro w hSw; (try dsimp only at hSw); go_simp) <;> (with_reducible rfl)
                              simp only [List.setIfInBounds_toArray,List.set_cons_zero,List.set_cons_succ]
                              refine wpAnyT_take2 (i:=18) (v:=?_) rfl rfl (by kernel_rfl) (by kernel_rfl) (by kernel_rfl) (by kernel_rfl) (fun _ _ _ h=>h) (Or.inl ⟨by rfl, ?_⟩) (by first | assumption | trivial) ?_
                              rotate_left
                              · (intro w hSw; (try dsimp only at hSw); go_simp) <;> (with_reducible rfl)
                              simp only [List.setIfInBounds_toArray,List.set_cons_zero,List.set_cons_succ]
                              refine wpAnyT_take2 (i:=19) (v:=?_) rfl rfl (by kernel_rfl) (by kernel_rfl) (by kernel_rfl) (by kernel_rfl) (fun _ _ _ h=>h) (Or.inl ⟨by rfl, ?_⟩) (by first | assumption | trivial) ?_
                              rotate_left
                              · (intro w hSw; (try dsimp only at hSw); go_simp) <;> (with_reducible rfl)
                              simp only [List.setIfInBounds_toArray,List.set_cons_zero,List.set_cons_succ]
                              refine wpAnyT_take2 (i:=20) (v:=?_) rfl rfl (by kernel_rfl) (by kernel_rfl) (by kernel_rfl) (by kernel_rfl) (fun _ _ _ h=>h) (Or.inl ⟨by rfl, ?_⟩) (by first | assumption | trivial) ?_
                              rotate_left
                              · (intro w hSw; (try dsimp only at hSw); go_simp) <;> (with_reducible rfl)
                              simp only [List.setIfInBounds_toArray,List.set_cons_zero,List.set_cons_succ]
                              refine wpAnyT_take2 (i:=21) (v:=?_) rfl rfl (by kernel_rfl) (by kernel_rfl) (by kernel_rfl) (by kernel_rfl) (fun _ _ _ h=>h) (Or.inl ⟨by rfl, ?_⟩) (by first | assumption | trivial) ?_
                              rotate_left
                              · (intro w hSw; (try dsimp only at hSw); go_simp) <;> (with_reducible rfl)
                              simp only [List.setIfInBounds_toArray,List.set_cons_zero,List.set_cons_succ]
                              refine wpAnyT_take2 (i:=22) (v:=?_) rfl rfl (by kernel_rfl) (by kernel_rfl) (by kernel_rfl) (by kernel_rfl) (fun _ _ _ h=>h) (Or.inl ⟨by rfl, ?_⟩) (by first | assumption | trivial) ?_
                              rotate_left
                              · (intro w hSw; (try dsimp only at hSw); go_simp) <;> (with_reducible rfl)
                              simp only [List.setIfInBounds_toArray,List.set_cons_zero,List.set_cons_succ]
                              refine wpAnyT_take2 (i:=23) (v:=?_) rfl rfl (by kernel_rfl) (by kernel_rfl) (by kernel_rfl) (by kernel_rfl) (fun _ _ _ h=>h) (Or.inl ⟨by rfl, ?_⟩) (by first | assumption | trivial) ?_
                              rotate_left
                              · (intro w hSw; (try dsimp only at hSw); go_simp) <;> (with_reducible rfl)
                              simp only [List.setIfInBounds_toArray,List.set_cons_zero,List.set_cons_succ]
                              refine wpAnyT_take2 (i:=24) (v:=?_) rfl rfl (by kernel_rfl) (by kernel_rfl) (by kernel_rfl) (by kernel_rfl) (fun _ _ _ h=>h) (Or.inl ⟨by rfl, ?_⟩) (by first | assumption | trivial) ?_
                              rotate_left
                              · (intro w hSw; (try dsimp only at hSw); go_simp) <;> (with_reducible rfl)
                              simp only [List.setIfInBounds_toArray,List.set_cons_zero,List.set_cons_succ]
                              refine wpAnyT_take2 (i:=25) (v:=?_) rfl rfl (by kernel_rfl) (by kernel_rfl) (by kernel_rfl) (by kernel_rfl) (fun _ _ _ h=>h) (Or.inl ⟨by rfl, ?_⟩) (by first | assumption | trivial) ?_
                              rotate_left
                              · (intro w hSw; (try dsimp only at hSw); go_simp) <;> (with_reducible rfl)
                              simp only [List.setIfInBounds_toArray,List.set_cons_zero,List.set_cons_succ]
                              refine wpAnyT_take2 (i:=26) (v:=.bool false) rfl rfl (by kernel_rfl) (by kernel_rfl) (by kernel_rfl) (by kernel_rfl) (fun _ _ _ h=>h) (Or.inl ⟨by rfl, ?_⟩) (by first | assumption | trivial) ?_
                              · (intro w hSw; (try dsimp only at hSw); go_simp) <;> (first | (with_reducible rfl) | assumption | (simp; done) | (simp [*]; done) | (simp; omega))
                              simp only [List.setIfInBounds_toArray,List.set_cons_zero,List.set_cons_succ]
                              refine wpAnyT_take2 (i:=27) (v:=?_) rfl rfl (by kernel_rfl) (by kernel_rfl) (by kernel_rfl) (by kernel_rfl) (fun _ _ _ h=>h) (Or.inl ⟨by rfl, ?_⟩) (by first | assumption | trivial) ?_
                              rotate_left
                              · (intro w hSw; (try dsimp only at hSw); go_simp) <;> (with_reducible rfl)
                              simp only [List.setIfInBounds_toArray,List.set_cons_zero,List.set_cons_succ]
                              refine wpAnyT_take2 (i:=28) (v:=?_) rfl rfl (by kernel_rfl) (by kernel_rfl) (by kernel_rfl) (by kernel_rfl) (fun _ _ _ h=>h) (Or.inl ⟨by rfl, ?_⟩) (by first | assumption | trivial) ?_
                              rotate_left
                              · (intro w hSw; (try dsimp only at hSw); go_simp) <;> (with_reducible rfl)
                              simp only [List.setIfInBounds_toArray,List.set_cons_zero,List.set_cons_succ]
                              refine wpAnyT_take2 (i:=29) (v:=?_) rfl rfl (by kernel_rfl) (by kernel_rfl) (by kernel_rfl) (by kernel_rfl) (fun _ _ _ h=>h) (Or.inl ⟨by rfl, ?_⟩) (by first | assumption | trivial) ?_
                              rotate_left
                              · (intro w hSw; (try dsimp only at hSw); go_simp) <;> (with_reducible rfl)
                              simp only [List.setIfInBounds_toArray,List.set_cons_zero,List.set_cons_succ]
                              refine wpAnyT_take2 (i:=30) (v:=?_) rfl rfl (by kernel_rfl) (by kernel_rfl) (by kernel_rfl) (by kernel_rfl) (fun _ _ _ h=>h) (Or.inl ⟨by rfl, ?_⟩) (by first | assumption | trivial) ?_
                              rotate_left
                              · (intro w hSw; (try dsimp only at hSw); go_simp) <;> (with_reducible rfl)
                              simp only [List.setIfInBounds_toArray,List.set_cons_zero,List.set_cons_succ]
                              refine wpAnyT_take2 (i:=31) (v:=?_) rfl rfl (by kernel_rfl) (by kernel_rfl) (by kernel_rfl) (by kernel_rfl) (fun _ _ _ h=>h) (Or.inl ⟨by rfl, ?_⟩) (by first | assumption | trivial) ?_
                              rotate_left
                              · (intro w hSw; (try dsimp only at hSw); go_simp) <;> (with_reducible rfl)
                              simp only [List.setIfInBounds_toArray,List.set_cons_zero,List.set_cons_succ]
                              refine wpAnyT_take2 (i:=32) (v:=?_) rfl rfl (by kernel_rfl) (by kernel_rfl) (by kernel_rfl) (by kernel_rfl) (fun _ _ _ h=>h) (Or.inl ⟨by rfl, ?_⟩) (by first | assumption | trivial) ?_
                              rotate_left
                              · (intro w hSw; (try dsimp only at hSw); go_simp) <;> (with_reducible rfl)
                              simp only [List.setIfInBounds_toArray,List.set_cons_zero,List.set_cons_succ]
                              refine wpAnyT_take2 (i:=33) (v:=?_) rfl rfl (by kernel_rfl) (by kernel_rfl) (by kernel_rfl) (by kernel_rfl) (fun _ _ _ h=>h) (Or.inl ⟨by rfl, ?_⟩) (by first | assumption | trivial) ?_
                              rotate_left
                              · (intro w hSw; (try dsimp only at hSw); go_simp) <;> (with_reducible rfl)
                              simp only [List.setIfInBounds_toArray,List.set_cons_zero,List.set_cons_succ]
                              refine wpAnyT_take2 (i:=34) (v:=?_) rfl rfl (by kernel_rfl) (by kernel_rfl) (by kernel_rfl) (by kernel_rfl) (fun _ _ _ h=>h) (Or.inl ⟨by rfl, ?_⟩) (by first | assumption | trivial) ?_
                              rotate_left
                              · (intro w hSw; (try dsimp only at hSw); go_simp) <;> (with_reducible rfl)
                              simp only [List.setIfInBounds_toArray,List.set_cons_zero,List.set_cons_succ]
                              refine wpAnyT_take2 (i:=35) (v:=?_) rfl rfl (by kernel_rfl) (by kernel_rfl) (by kernel_rfl) (by kernel_rfl) (fun _ _ _ h=>h) (Or.inl ⟨by rfl, ?_⟩) (by first | assumption | trivial) ?_
                              rotate_left
                              · (intro w hSw; (try dsimp only at hSw); go_simp) <;> (with_reducible rfl)
                              simp only [List.setIfInBounds_toArray,List.set_cons_zero,List.set_cons_succ]
                              refine wpAnyT_take2 (i:=36) (v:=?_) rfl rfl (by kernel_rfl) (by kernel_rfl) (by kernel_rfl) (by kernel_rfl) (fun _ _ _ h=>h) (Or.inl ⟨by rfl, ?_⟩) (by first | assumption | trivial) ?_
                              rotate_left
                              · (intro w hSw; (try dsimp only at hSw); go_simp) <;> (with_reducible rfl)
                              simp only [List.setIfInBounds_toArray,List.set_cons_zero,List.set_cons_succ]
                              refine wpAnyT_take2 (i:=37) (v:=?_) rfl rfl (by kernel_rfl) (by kernel_rfl) (by kernel_rfl) (by kernel_rfl) (fun _ _ _ h=>h) (Or.inl ⟨by rfl, ?_⟩) (by first | assumption | trivial) ?_
                              rotate_left
                              · (intro w hSw; (try dsimp only at hSw); go_simp) <;> (with_reducible rfl)
                              simp only [List.setIfInBounds_toArray,List.set_cons_zero,List.set_cons_succ]
                              refine wpAnyT_take2 (i:=38) (v:=?_) rfl rfl (by kernel_rfl) (by kernel_rfl) (by kernel_rfl) (by kernel_rfl) (fun _ _ _ h=>h) (Or.inl ⟨by rfl, ?_⟩) (by first | assumption | trivial) ?_
                              rotate_left
                              · (intro w hSw; (try dsimp only at hSw); go_simp) <;> (with_reducible rfl)
                              simp only [List.setIfInBounds_toArray,List.set_cons_zero,List.set_cons_succ]
                              refine wpAnyT_take2 (i:=39) (v:=?_) rfl rfl (by kernel_rfl) (by kernel_rfl) (by kernel_rfl) (by kernel_rfl) (fun _ _ _ h=>h) (Or.inl ⟨by rfl, ?_⟩) (by first | assumption | trivial) ?_
                              rotate_left
                              · (intro w hSw; (try dsimp only at hSw); go_simp) <;> (with_reducible rfl)
                              simp only [List.setIfInBounds_toArray,List.set_cons_zero,List.set_cons_succ]
                              refine wpAnyT_take2 (i:=40) (v:=?_) rfl rfl (by kernel_rfl) (by kernel_rfl) (by kernel_rfl) (by kernel_rfl) (fun _ _ _ h=>h) (Or.inl ⟨by rfl, ?_⟩) (by first | assumption | trivial) ?_
                              rotate_left
                              · (intro w hSw; (try dsimp only at hSw); go_simp) <;> (with_reducible rfl)
                              simp only [List.setIfInBounds_toArray,List.set_cons_zero,List.set_cons_succ]
                              refine wpAnyT_take2 (i:=41) (v:=?_) rfl rfl (by kernel_rfl) (by kernel_rfl) (by kernel_rfl) (by kernel_rfl) (fun _ _ _ h=>h) (Or.inl ⟨by rfl, ?_⟩) (by first | assumption | trivial) ?_
                              rotate_left
                              · (intro w hSw; (try dsimp only at hSw); go_simp) <;> (with_reducible rfl)
                              simp only [List.setIfInBounds_toArray,List.set_cons_zero,List.set_cons_succ]
                              refine wpAnyT_take2 (i:=42) (v:=.int .i64 (da+db)) rfl rfl (by kernel_rfl) (by kernel_rfl) (by kernel_rfl) (by kernel_rfl) (fun _ _ _ h=>h) (Or.inl ⟨by rfl, ?_⟩) (by first | assumption | trivial) ?_
                              · (intro w hSw; (try dsimp only at hSw); go_simp) <;> (first | (with_reducible rfl) | assumption | (simp; done) | (simp [*]; done) | (simp; omega))
                              simp only [List.setIfInBounds_toArray,List.set_cons_zero,List.set_cons_succ]
                              refine wpAnyT_take2 (i:=43) (v:=?_) rfl rfl (by kernel_rfl) (by kernel_rfl) (by kernel_rfl) (by kernel_rfl) (fun _ _ _ h=>h) (Or.inl ⟨by rfl, ?_⟩) (by first | assumption | trivial) ?_
                              rotate_left
                              · (intro w hSw; (try dsimp only at hSw); go_simp) <;> (with_reducible rfl)
                              simp only [List.setIfInBounds_toArray,List.set_cons_zero,List.set_cons_succ]
                              refine wpAnyT_take2 (i:=44) (v:=?_) rfl rfl (by kernel_rfl) (by kernel_rfl) (by kernel_rfl) (by kernel_rfl) (fun _ _ _ h=>h) (Or.inl ⟨by rfl, ?_⟩) (by first | assumption | trivial) ?_
                              rotate_left
                              · (intro w hSw; (try dsimp only at hSw); go_simp) <;> (with_reducible rfl)
                              simp only [List.setIfInBounds_toArray,List.set_cons_zero,List.set_cons_succ]
                              refine wpAnyT_take2 (i:=45) (v:=?_) rfl rfl (by kernel_rfl) (by kernel_rfl) (by kernel_rfl) (by kernel_rfl) (fun _ _ _ h=>h) (Or.inl ⟨by rfl, ?_⟩) (by first | assumption | trivial) ?_
                              rotate_left
                              · (intro w hSw; (try dsimp only at hSw); go_simp) <;> (with_reducible rfl)
                              simp only [List.setIfInBounds_toArray,List.set_cons_zero,List.set_cons_succ]
                              refine wpAnyT_take2 (i:=46) (v:=?_) rfl rfl (by kernel_rfl) (by kernel_rfl) (by kernel_rfl) (by kernel_rfl) (fun _ _ _ h=>h) (Or.inl ⟨by rfl, ?_⟩) (by first | assumption | trivial) ?_
                              rotate_left
                              · (intro w hSw; (try dsimp only at hSw); go_simp) <;> (with_reducible rfl)
                              simp only [List.setIfInBounds_toArray,List.set_cons_zero,List.set_cons_succ]
                              refine wpAnyT_take2 (i:=47) (v:=?_) rfl rfl (by kernel_rfl) (by kernel_rfl) (by kernel_rfl) (by kernel_rfl) (fun _ _ _ h=>h) (Or.inl ⟨by rfl, ?_⟩) (by first | assumption | trivial) ?_
                              rotate_left
                              · (intro w hSw; (try dsimp only at hSw); go_simp) <;> (with_reducible rfl)
                              simp only [List.setIfInBounds_toArray,List.set_cons_zero,List.set_cons_succ]
                              refine wpAnyT_take2 (i:=48) (v:=?_) rfl rfl (by kernel_rfl) (by kernel_rfl) (by kernel_rfl) (by kernel_rfl) (fun _ _ _ h=>h) (Or.inl ⟨by rfl, ?_⟩) (by first | assumption | trivial) ?_
                              rotate_left
                              · (intro w hSw; (try dsimp only at hSw); go_simp) <;> (with_reducible rfl)
                              simp only [List.setIfInBounds_toArray,List.set_cons_zero,List.set_cons_succ]
                              refine wpAnyT_take2 (i:=49) (v:=?_) rfl rfl (by kernel_rfl) (by kernel_rfl) (by kernel_rfl) (by kernel_rfl) (fun _ _ _ h=>h) (Or.inl ⟨by rfl, ?_⟩) (by first | assumption | trivial) ?_
                              rotate_left
                              · (intro w hSw; (try dsimp only at hSw); go_simp) <;> (with_reducible rfl)
                              simp only [List.setIfInBounds_toArray,List.set_cons_zero,List.set_cons_succ]
                              refine wpAnyT_take2 (i:=50) (v:=.bool false) rfl rfl (by kernel_rfl) (by kernel_rfl) (by kernel_rfl) (by kernel_rfl) (fun _ _ _ h=>h) (Or.inl ⟨by rfl, ?_⟩) (by first | assumption | trivial) ?_
                              · (intro w hSw; (try dsimp only at hSw); go_simp) <;> (first | (with_reducible rfl) | assumption | (simp; done) | (simp [*]; done) | (simp; omega))
                              simp only [List.setIfInBounds_toArray,List.set_cons_zero,List.set_cons_succ]
                              refine wpAnyT_take2 (i:=51) (v:=?_) rfl rfl (by kernel_rfl) (by kernel_rfl) (by kernel_rfl) (by kernel_rfl) (fun _ _ _ h=>h) (Or.inl ⟨by rfl, ?_⟩) (by first | assumption | trivial) ?_
                              rotate_left
                              · (intro w hSw; (try dsimp only at hSw); go_simp) <;> (with_reducible rfl)
                              simp only [List.setIfInBounds_toArray,List.set_cons_zero,List.set_cons_succ]
                              refine wpAnyT_take2 (i:=52) (v:=?_) rfl rfl (by kernel_rfl) (by kernel_rfl) (by kernel_rfl) (by kernel_rfl) (fun _ _ _ h=>h) (Or.inl ⟨by rfl, ?_⟩) (by first | assumption | trivial) ?_
                              rotate_left
                              · (intro w hSw; (try dsimp only at hSw); go_simp) <;> (with_reducible rfl)
                              simp only [List.setIfInBounds_toArray,List.set_cons_zero,List.set_cons_succ]
                              refine wpAnyT_done (by kernel_rfl) ?_ _
                              clear hHeld
                              go_wp2_with fail
                              go_roundw
                              case rel=>exact ⟨k+1,by omega,by go_num,HTS,HDR⟩
                              case measure=>simp [intOf]; omega
                        · have HTS:=Lib.hid (HTD.out.congr (fun x y _ _=>HST.out (by rw [HFW.out,if_neg (fun h=>hb0 h.2.1)]) x y))
                          go_wp2_with fail
                          refine wp_region_T (fun W=>W.cell? ⟨a,u,none⟩=some (.slice (some ⟨gu,0,none⟩) n n)∧W.cell? ⟨a,v,none⟩=some (.slice (some ⟨gv,0,none⟩) n n)∧W.cell? ⟨gu,v,none⟩=some (.int .i64 da)∧W.cell? ⟨gv,k,none⟩=some (.int .i64 db)∧W.cell? ⟨gu,k,none⟩=some (.int .i64 dc)) (fun _=>false) (by kernel_rfl) ⟨c0,c1,c2,c3,c4⟩ (fun hHeld=>?_)
                          refine wpAnyT_take2 (i:=0) (v:=?_) rfl rfl (by kernel_rfl) (by kernel_rfl) (by kernel_rfl) (by kernel_rfl) (fun _ _ _ h=>h) (Or.inl ⟨by rfl, ?_⟩) (by first | assumption | trivial) ?_
                          rotate_left
                          · (intro w hSw; (try dsimp only at hSw); go_simp) <;> (with_reducible rfl)
                          simp only [List.setIfInBounds_toArray,List.set_cons_zero,List.set_cons_succ]
                          refine wpAnyT_take2 (i:=1) (v:=?_) rfl rfl (by kernel_rfl) (by kernel_rfl) (by kernel_rfl) (by kernel_rfl) (fun _ _ _ h=>h) (Or.inl ⟨by rfl, ?_⟩) (by first | assumption | trivial) ?_
                          rotate_left
                          · (intro w hSw; (try dsimp only at hSw); go_simp) <;> (with_reducible rfl)
                          simp only [List.setIfInBounds_toArray,List.set_cons_zero,List.set_cons_succ]
                          refine wpAnyT_take2 (i:=2) (v:=?_) rfl rfl (by kernel_rfl) (by kernel_rfl) (by kernel_rfl) (by kernel_rfl) (fun _ _ _ h=>h) (Or.inl ⟨by rfl, ?_⟩) (by first | assumption | trivial) ?_
                          rotate_left
                          · (intro w hSw; (try dsimp only at hSw); go_simp) <;> (with_reducible rfl)
                          simp only [List.setIfInBounds_toArray,List.set_cons_zero,List.set_cons_succ]
                          refine wpAnyT_take2 (i:=3) (v:=?_) rfl rfl (by kernel_rfl) (by kernel_rfl) (by kernel_rfl) (by kernel_rfl) (fun _ _ _ h=>h) (Or.inl ⟨by rfl, ?_⟩) (by first | assumption | trivial) ?_
                          rotate_left
                          · (intro w hSw; (try dsimp only at hSw); go_simp) <;> (with_reducible rfl)
                          simp only [List.setIfInBounds_toArray,List.set_cons_zero,List.set_cons_succ]
                          refine wpAnyT_take2 (i:=4) (v:=?_) rfl rfl (by kernel_rfl) (by kernel_rfl) (by kernel_rfl) (by kernel_rfl) (fun _ _ _ h=>h) (Or.inl ⟨by rfl, ?_⟩) (by first | assumption | trivial) ?_
                          rotate_left
                          · (intro w hSw; (try dsimp only at hSw); go_simp) <;> (with_reducible rfl)
                          simp only [List.setIfInBounds_toArray,List.set_cons_zero,List.set_cons_succ]
                          refine wpAnyT_take2 (i:=5) (v:=?_) rfl rfl (by kernel_rfl) (by kernel_rfl) (by kernel_rfl) (by kernel_rfl) (fun _ _ _ h=>h) (Or.inl ⟨by rfl, ?_⟩) (by first | assumption | trivial) ?_
                          rotate_left
                          · (intro w hSw; (try dsimp only at hSw); go_simp) <;> (with_reducible rfl)
                          simp only [List.setIfInBounds_toArray,List.set_cons_zero,List.set_cons_succ]
                          refine wpAnyT_take2 (i:=6) (v:=?_) rfl rfl (by kernel_rfl) (by kernel_rfl) (by kernel_rfl) (by kernel_rfl) (fun _ _ _ h=>h) (Or.inl ⟨by rfl, ?_⟩) (by first | assumption | trivial) ?_
                          rotate_left
                          · (intro w hSw; (try dsimp only at hSw); go_simp) <;> (with_reducible rfl)
                          simp only [List.setIfInBounds_toArray,List.set_cons_zero,List.set_cons_succ]
                          refine wpAnyT_take2 (i:=7) (v:=.bool true) rfl rfl (by kernel_rfl) (by kernel_rfl) (by kernel_rfl) (by kernel_rfl) (fun _ _ _ h=>h) (Or.inl ⟨by rfl, ?_⟩) (by first | assumption | trivial) ?_
                          · (intro w hSw; (try dsimp only at hSw); go_simp) <;> (first | (with_reducible rfl) | assumption | (simp; done) | (simp [*]; done) | (simp; omega))
                          simp only [List.setIfInBounds_toArray,List.set_cons_zero,List.set_cons_succ]
                          refine wpAnyT_take2 (i:=8) (v:=?_) rfl rfl (by kernel_rfl) (by kernel_rfl) (by kernel_rfl) (by kernel_rfl) (fun _ _ _ h=>h) (Or.inl ⟨by rfl, ?_⟩) (by first | assumption | trivial) ?_
                          rotate_left
                          · (intro w hSw; (try dsimp only at hSw); go_simp) <;> (with_reducible rfl)
                          simp only [List.setIfInBounds_toArray,List.set_cons_zero,List.set_cons_succ]
                          refine wpAnyT_take2 (i:=9) (v:=?_) rfl rfl (by kernel_rfl) (by kernel_rfl) (by kernel_rfl) (by kernel_rfl) (fun _ _ _ h=>h) (Or.inl ⟨by rfl, ?_⟩) (by first | assumption | trivial) ?_
                          rotate_left
                          · (intro w hSw; (try dsimp only at hSw); go_simp) <;> (with_reducible rfl)
                          simp only [List.setIfInBounds_toArray,List.set_cons_zero,List.set_cons_succ]
                          refine wpAnyT_take2 (i:=10) (v:=?_) rfl rfl (by kernel_rfl) (by kernel_rfl) (by kernel_rfl) (by kernel_rfl) (fun _ _ _ h=>h) (Or.inl ⟨by rfl, ?_⟩) (by first | assumption | trivial) ?_
                          rotate_left
                          · (intro w hSw; (try dsimp only at hSw); go_simp) <;> (with_reducible rfl)
                          simp only [List.setIfInBounds_toArray,List.set_cons_zero,List.set_cons_succ]
                          refine wpAnyT_take2 (i:=11) (v:=?_) rfl rfl (by kernel_rfl) (by kernel_rfl) (by kernel_rfl) (by kernel_rfl) (fun _ _ _ h=>h) (Or.inl ⟨by rfl, ?_⟩) (by first | assumption | trivial) ?_
                          rotate_left
                          · (intro w hSw; (try dsimp only at hSw); go_simp) <;> (with_reducible rfl)
                          simp only [List.setIfInBounds_toArray,List.set_cons_zero,List.set_cons_succ]
                          refine wpAnyT_take2 (i:=12) (v:=?_) rfl rfl (by kernel_rfl) (by kernel_rfl) (by kernel_rfl) (by kernel_rfl) (fun _ _ _ h=>h) (Or.inl ⟨by rfl, ?_⟩) (by first | assumption | trivial) ?_
                          rotate_left
                          · (intro w hSw; (try dsimp only at hSw); go_simp) <;> (with_reducible rfl)
                          simp only [List.setIfInBounds_toArray,List.set_cons_zero,List.set_cons_succ]
                          refine wpAnyT_take2 (i:=13) (v:=?_) rfl rfl (by kernel_rfl) (by kernel_rfl) (by kernel_rfl) (by kernel_rfl) (fun _ _ _ h=>h) (Or.inl ⟨by rfl, ?_⟩) (by first | assumption | trivial) ?_
                          rotate_left
                          · (intro w hSw; (try dsimp only at hSw); go_simp) <;> (with_reducible rfl)
                          simp only [List.setIfInBounds_toArray,List.set_cons_zero,List.set_cons_succ]
                          refine wpAnyT_take2 (i:=14) (v:=?_) rfl rfl (by kernel_rfl) (by kernel_rfl) (by kernel_rfl) (by kernel_rfl) (fun _ _ _ h=>h) (Or.inl ⟨by rfl, ?_⟩) (by first | assumption | trivial) ?_
                          rotate_left
                          · (intro w hSw; (try dsimp only at hSw); go_simp) <;> (with_reducible rfl)
                          simp only [List.setIfInBounds_toArray,List.set_cons_zero,List.set_cons_succ]
                          refine wpAnyT_take2 (i:=15) (v:=?_) rfl rfl (by kernel_rfl) (by kernel_rfl) (by kernel_rfl) (by kernel_rfl) (fun _ _ _ h=>h) (Or.inl ⟨by rfl, ?_⟩) (by first | assumption | trivial) ?_
                          rotate_left
                          · (intro w hSw; (try dsimp only at hSw); go_simp) <;> (with_reducible rfl)
                          simp only [List.setIfInBounds_toArray,List.set_cons_zero,List.set_cons_succ]
                          refine wpAnyT_take2 (i:=16) (v:=.bool false) rfl rfl (by kernel_rfl) (by kernel_rfl) (by kernel_rfl) (by kernel_rfl) (fun _ _ _ h=>h) (Or.inl ⟨by rfl, ?_⟩) (by first | assumption | trivial) ?_
                          · (intro w hSw; (try dsimp only at hSw); go_simp) <;> (first | (with_reducible rfl) | assumption | (simp; done) | (simp [*]; done) | (simp; omega))
                          simp only [List.setIfInBounds_toArray,List.set_cons_zero,List.set_cons_succ]
                          refine wpAnyT_take2 (i:=17) (v:=?_) rfl rfl (by kernel_rfl) (by kernel_rfl) (by kernel_rfl) (by kernel_rfl) (fun _ _ _ h=>h) (Or.inl ⟨by rfl, ?_⟩) (by first | assumption | trivial) ?_
                          rotate_left
                          · (intro w hSw; (try dsimp only at hSw); go_simp) <;> (with_reducible rfl)
                          simp only [List.setIfInBounds_toArray,List.set_cons_zero,List.set_cons_succ]
                          refine wpAnyT_take2 (i:=18) (v:=?_) rfl rfl (by kernel_rfl) (by kernel_rfl) (by kernel_rfl) (by kernel_rfl) (fun _ _ _ h=>h) (Or.inl ⟨by rfl, ?_⟩) (by first | assumption | trivial) ?_
                          rotate_left
                          · (intro w hSw; (try dsimp only at hSw); go_simp) <;> (with_reducible rfl)
                          simp only [List.setIfInBounds_toArray,List.set_cons_zero,List.set_cons_succ]
                          refine wpAnyT_take2 (i:=19) (v:=undef) rfl rfl (by kernel_rfl) (by kernel_rfl) (by kernel_rfl) (by kernel_rfl) (fun _ _ _ h=>h) (Or.inr ⟨by rfl,rfl⟩) (by first | assumption | trivial) ?_
                          simp only [List.setIfInBounds_toArray,List.set_cons_zero,List.set_cons_succ]
                          refine wpAnyT_take2 (i:=20) (v:=undef) rfl rfl (by kernel_rfl) (by kernel_rfl) (by kernel_rfl) (by kernel_rfl) (fun _ _ _ h=>h) (Or.inr ⟨by rfl,rfl⟩) (by first | assumption | trivial) ?_
                          simp only [List.setIfInBounds_toArray,List.set_cons_zero,List.set_cons_succ]
                          refine wpAnyT_take2 (i:=21) (v:=undef) rfl rfl (by kernel_rfl) (by kernel_rfl) (by kernel_rfl) (by kernel_rfl) (fun _ _ _ h=>h) (Or.inr ⟨by rfl,rfl⟩) (by first | assumption | trivial) ?_
                          simp only [List.setIfInBounds_toArray,List.set_cons_zero,List.set_cons_succ]
                          refine wpAnyT_take2 (i:=22) (v:=undef) rfl rfl (by kernel_rfl) (by kernel_rfl) (by kernel_rfl) (by kernel_rfl) (fun _ _ _ h=>h) (Or.inr ⟨by rfl,rfl⟩) (by first | assumption | trivial) ?_
                          simp only [List.setIfInBounds_toArray,List.set_cons_zero,List.set_cons_succ]
                          refine wpAnyT_take2 (i:=23) (v:=undef) rfl rfl (by kernel_rfl) (by kernel_rfl) (by kernel_rfl) (by kernel_rfl) (fun _ _ _ h=>h) (Or.inr ⟨by rfl,rfl⟩) (by first | assumption | trivial) ?_
                          simp only [List.setIfInBounds_toArray,List.set_cons_zero,List.set_cons_succ]
                          refine wpAnyT_take2 (i:=24) (v:=undef) rfl rfl (by kernel_rfl) (by kernel_rfl) (by kernel_rfl) (by kernel_rfl) (fun _ _ _ h=>h) (Or.inr ⟨by rfl,rfl⟩) (by first | assumption | trivial) ?_
                          simp only [List.setIfInBounds_toArray,List.set_cons_zero,List.set_cons_succ]
                          refine wpAnyT_take2 (i:=25) (v:=undef) rfl rfl (by kernel_rfl) (by kernel_rfl) (by kernel_rfl) (by kernel_rfl) (fun _ _ _ h=>h) (Or.inr ⟨by rfl,rfl⟩) (by first | assumption | trivial) ?_
                          simp only [List.setIfInBounds_toArray,List.set_cons_zero,List.set_cons_succ]
                          refine wpAnyT_take2 (i:=26) (v:=undef) rfl rfl (by kernel_rfl) (by kernel_rfl) (by kernel_rfl) (by kernel_rfl) (fun _ _ _ h=>h) (Or.inr ⟨by rfl,rfl⟩) (by first | assumption | trivial) ?_
                          simp only [List.setIfInBounds_toArray,List.set_cons_zero,List.set_cons_succ]
                          refine wpAnyT_take2 (i:=27) (v:=undef) rfl rfl (by kernel_rfl) (by kernel_rfl) (by kernel_rfl) (by kernel_rfl) (fun _ _ _ h=>h) (Or.inr ⟨by rfl,rfl⟩) (by first | assumption | trivial) ?_
                          simp only [List.setIfInBounds_toArray,List.set_cons_zero,List.set_cons_succ]
                          refine wpAnyT_take2 (i:=28) (v:=undef) rfl rfl (by kernel_rfl) (by kernel_rfl) (by kernel_rfl) (by kernel_rfl) (fun _ _ _ h=>h) (Or.inr ⟨by rfl,rfl⟩) (by first | assumption | trivial) ?_
                          simp only [List.setIfInBounds_toArray,List.set_cons_zero,List.set_cons_succ]
                          refine wpAnyT_take2 (i:=29) (v:=undef) rfl rfl (by kernel_rfl) (by kernel_rfl) (by kernel_rfl) (by kernel_rfl) (fun _ _ _ h=>h) (Or.inr ⟨by rfl,rfl⟩) (by first | assumption | trivial) ?_
                          simp only [List.setIfInBounds_toArray,List.set_cons_zero,List.set_cons_succ]
                          refine wpAnyT_take2 (i:=30) (v:=undef) rfl rfl (by kernel_rfl) (by kernel_rfl) (by kernel_rfl) (by kernel_rfl) (fun _ _ _ h=>h) (Or.inr ⟨by rfl,rfl⟩) (by first | assumption | trivial) ?_
                          simp only [List.setIfInBounds_toArray,List.set_cons_zero,List.set_cons_succ]
                          refine wpAnyT_take2 (i:=31) (v:=undef) rfl rfl (by kernel_rfl) (by kernel_rfl) (by kernel_rfl) (by kernel_rfl) (fun _ _ _ h=>h) (Or.inr ⟨by rfl,rfl⟩) (by first | assumption | trivial) ?_
                          simp only [List.setIfInBounds_toArray,List.set_cons_zero,List.set_cons_succ]
                          refine wpAnyT_take2 (i:=32) (v:=undef) rfl rfl (by kernel_rfl) (by kernel_rfl) (by kernel_rfl) (by kernel_rfl) (fun _ _ _ h=>h) (Or.inr ⟨by rfl,rfl⟩) (by first | assumption | trivial) ?_
                          simp only [List.setIfInBounds_toArray,List.set_cons_zero,List.set_cons_succ]
                          refine wpAnyT_take2 (i:=33) (v:=undef) rfl rfl (by kernel_rfl) (by kernel_rfl) (by kernel_rfl) (by kernel_rfl) (fun _ _ _ h=>h) (Or.inr ⟨by rfl,rfl⟩) (by first | assumption | trivial) ?_
                          simp only [List.setIfInBounds_toArray,List.set_cons_zero,List.set_cons_succ]
                          refine wpAnyT_take2 (i:=34) (v:=undef) rfl rfl (by kernel_rfl) (by kernel_rfl) (by kernel_rfl) (by kernel_rfl) (fun _ _ _ h=>h) (Or.inr ⟨by rfl,rfl⟩) (by first | assumption | trivial) ?_
                          simp only [List.setIfInBounds_toArray,List.set_cons_zero,List.set_cons_succ]
                          refine wpAnyT_take2 (i:=35) (v:=undef) rfl rfl (by kernel_rfl) (by kernel_rfl) (by kernel_rfl) (by kernel_rfl) (fun _ _ _ h=>h) (Or.inr ⟨by rfl,rfl⟩) (by first | assumption | trivial) ?_
                          simp only [List.setIfInBounds_toArray,List.set_cons_zero,List.set_cons_succ]
                          refine wpAnyT_take2 (i:=36) (v:=undef) rfl rfl (by kernel_rfl) (by kernel_rfl) (by kernel_rfl) (by kernel_rfl) (fun _ _ _ h=>h) (Or.inr ⟨by rfl,rfl⟩) (by first | assumption | trivial) ?_
                          simp only [List.setIfInBounds_toArray,List.set_cons_zero,List.set_cons_succ]
                          refine wpAnyT_take2 (i:=37) (v:=undef) rfl rfl (by kernel_rfl) (by kernel_rfl) (by kernel_rfl) (by kernel_rfl) (fun _ _ _ h=>h) (Or.inr ⟨by rfl,rfl⟩) (by first | assumption | trivial) ?_
                          simp only [List.setIfInBounds_toArray,List.set_cons_zero,List.set_cons_succ]
                          refine wpAnyT_take2 (i:=38) (v:=undef) rfl rfl (by kernel_rfl) (by kernel_rfl) (by kernel_rfl) (by kernel_rfl) (fun _ _ _ h=>h) (Or.inr ⟨by rfl,rfl⟩) (by first | assumption | trivial) ?_
                          simp only [List.setIfInBounds_toArray,List.set_cons_zero,List.set_cons_succ]
                          refine wpAnyT_take2 (i:=39) (v:=undef) rfl rfl (by kernel_rfl) (by kernel_rfl) (by kernel_rfl) (by kernel_rfl) (fun _ _ _ h=>h) (Or.inr ⟨by rfl,rfl⟩) (by first | assumption | trivial) ?_
                          simp only [List.setIfInBounds_toArray,List.set_cons_zero,List.set_cons_succ]
                          refine wpAnyT_take2 (i:=40) (v:=undef) rfl rfl (by kernel_rfl) (by kernel_rfl) (by kernel_rfl) (by kernel_rfl) (fun _ _ _ h=>h) (Or.inr ⟨by rfl,rfl⟩) (by first | assumption | trivial) ?_
                          simp only [List.setIfInBounds_toArray,List.set_cons_zero,List.set_cons_succ]
                          refine wpAnyT_take2 (i:=41) (v:=undef) rfl rfl (by kernel_rfl) (by kernel_rfl) (by kernel_rfl) (by kernel_rfl) (fun _ _ _ h=>h) (Or.inr ⟨by rfl,rfl⟩) (by first | assumption | trivial) ?_
                          simp only [List.setIfInBounds_toArray,List.set_cons_zero,List.set_cons_succ]
                          refine wpAnyT_take2 (i:=42) (v:=undef) rfl rfl (by kernel_rfl) (by kernel_rfl) (by kernel_rfl) (by kernel_rfl) (fun _ _ _ h=>h) (Or.inr ⟨by rfl,rfl⟩) (by first | assumption | trivial) ?_
                          simp only [List.setIfInBounds_toArray,List.set_cons_zero,List.set_cons_succ]
                          refine wpAnyT_take2 (i:=43) (v:=undef) rfl rfl (by kernel_rfl) (by kernel_rfl) (by kernel_rfl) (by kernel_rfl) (fun _ _ _ h=>h) (Or.inr ⟨by rfl,rfl⟩) (by first | assumption | trivial) ?_
                          simp only [List.setIfInBounds_toArray,List.set_cons_zero,List.set_cons_succ]
                          refine wpAnyT_take2 (i:=44) (v:=undef) rfl rfl (by kernel_rfl) (by kernel_rfl) (by kernel_rfl) (by kernel_rfl) (fun _ _ _ h=>h) (Or.inr ⟨by rfl,rfl⟩) (by first | assumption | trivial) ?_
                          simp only [List.setIfInBounds_toArray,List.set_cons_zero,List.set_cons_succ]
                          refine wpAnyT_take2 (i:=45) (v:=undef) rfl rfl (by kernel_rfl) (by kernel_rfl) (by kernel_rfl) (by kernel_rfl) (fun _ _ _ h=>h) (Or.inr ⟨by rfl,rfl⟩) (by first | assumption | trivial) ?_
                          simp only [List.setIfInBounds_toArray,List.set_cons_zero,List.set_cons_succ]
                          refine wpAnyT_take2 (i:=46) (v:=undef) rfl rfl (by kernel_rfl) (by kernel_rfl) (by kernel_rfl) (by kernel_rfl) (fun _ _ _ h=>h) (Or.inr ⟨by rfl,rfl⟩) (by first | assumption | trivial) ?_
                          simp only [List.setIfInBounds_toArray,List.set_cons_zero,List.set_cons_succ]
                          refine wpAnyT_take2 (i:=47) (v:=undef) rfl rfl (by kernel_rfl) (by kernel_rfl) (by kernel_rfl) (by kernel_rfl) (fun _ _ _ h=>h) (Or.inr ⟨by rfl,rfl⟩) (by first | assumption | trivial) ?_
                          simp only [List.setIfInBounds_toArray,List.set_cons_zero,List.set_cons_succ]
                          refine wpAnyT_take2 (i:=48) (v:=undef) rfl rfl (by kernel_rfl) (by kernel_rfl) (by kernel_rfl) (by kernel_rfl) (fun _ _ _ h=>h) (Or.inr ⟨by rfl,rfl⟩) (by first | assumption | trivial) ?_
                          simp only [List.setIfInBounds_toArray,List.set_cons_zero,List.set_cons_succ]
                          refine wpAnyT_take2 (i:=49) (v:=undef) rfl rfl (by kernel_rfl) (by kernel_rfl) (by kernel_rfl) (by kernel_rfl) (fun _ _ _ h=>h) (Or.inr ⟨by rfl,rfl⟩) (by first | assumption | trivial) ?_
                          simp only [List.setIfInBounds_toArray,List.set_cons_zero,List.set_cons_succ]
                          refine wpAnyT_take2 (i:=50) (v:=undef) rfl rfl (by kernel_rfl) (by kernel_rfl) (by kernel_rfl) (by kernel_rfl) (fun _ _ _ h=>h) (Or.inr ⟨by rfl,rfl⟩) (by first | assumption | trivial) ?_
                          simp only [List.setIfInBounds_toArray,List.set_cons_zero,List.set_cons_succ]
                          refine wpAnyT_take2 (i:=51) (v:=undef) rfl rfl (by kernel_rfl) (by kernel_rfl) (by kernel_rfl) (by kernel_rfl) (fun _ _ _ h=>h) (Or.inr ⟨by rfl,rfl⟩) (by first | assumption | trivial) ?_
                          simp only [List.setIfInBounds_toArray,List.set_cons_zero,List.set_cons_succ]
                          refine wpAnyT_take2 (i:=52) (v:=?_) rfl rfl (by kernel_rfl) (by kernel_rfl) (by kernel_rfl) (by kernel_rfl) (fun _ _ _ h=>h) (Or.inl ⟨by rfl, ?_⟩) (by first | assumption | trivial) ?_
                          rotate_left
                          · (intro w hSw; (try dsimp only at hSw); go_simp) <;> (with_reducible rfl)
                          simp only [List.setIfInBounds_toArray,List.set_cons_zero,List.set_cons_succ]
                          refine wpAnyT_done (by kernel_rfl) ?_ _
                          clear hHeld
                          go_wp2_with fail
                          go_roundw
                          case rel=>exact ⟨k+1,by omega,by go_num,HTS,HDR⟩
                          case measure=>simp [intOf]; omega
                      · have HTS:=Lib.hid (HTD.out.congr (fun x y _ _=>HST.out (by rw [HFW.out,if_neg (fun h=>ha0 h.1)]) x y))
                        go_wp2_with fail
                        refine wp_region_T (fun W=>W.cell? ⟨a,u,none⟩=some (.slice (some ⟨gu,0,none⟩) n n)∧W.cell? ⟨a,v,none⟩=some (.slice (some ⟨gv,0,none⟩) n n)∧W.cell? ⟨gu,v,none⟩=some (.int .i64 da)∧W.cell? ⟨gv,k,none⟩=some (.int .i64 db)∧W.cell? ⟨gu,k,none⟩=some (.int .i64 dc)) (fun _=>false) (by kernel_rfl) ⟨c0,c1,c2,c3,c4⟩ (fun hHeld=>?_)
                        refine wpAnyT_take2 (i:=0) (v:=?_) rfl rfl (by kernel_rfl) (by kernel_rfl) (by kernel_rfl) (by kernel_rfl) (fun _ _ _ h=>h) (Or.inl ⟨by rfl, ?_⟩) (by first | assumption | trivial) ?_
                        rotate_left
                        · (intro w hSw; (try dsimp only at hSw); go_simp) <;> (with_reducible rfl)
                        simp only [List.setIfInBounds_toArray,List.set_cons_zero,List.set_cons_succ]
                        refine wpAnyT_take2 (i:=1) (v:=?_) rfl rfl (by kernel_rfl) (by kernel_rfl) (by kernel_rfl) (by kernel_rfl) (fun _ _ _ h=>h) (Or.inl ⟨by rfl, ?_⟩) (by first | assumption | trivial) ?_
                        rotate_left
                        · (intro w hSw; (try dsimp only at hSw); go_simp) <;> (with_reducible rfl)
                        simp only [List.setIfInBounds_toArray,List.set_cons_zero,List.set_cons_succ]
                        refine wpAnyT_take2 (i:=2) (v:=?_) rfl rfl (by kernel_rfl) (by kernel_rfl) (by kernel_rfl) (by kernel_rfl) (fun _ _ _ h=>h) (Or.inl ⟨by rfl, ?_⟩) (by first | assumption | trivial) ?_
                        rotate_left
                        · (intro w hSw; (try dsimp only at hSw); go_simp) <;> (with_reducible rfl)
                        simp only [List.setIfInBounds_toArray,List.set_cons_zero,List.set_cons_succ]
                        refine wpAnyT_take2 (i:=3) (v:=?_) rfl rfl (by kernel_rfl) (by kernel_rfl) (by kernel_rfl) (by kernel_rfl) (fun _ _ _ h=>h) (Or.inl ⟨by rfl, ?_⟩) (by first | assumption | trivial) ?_
                        rotate_left
                        · (intro w hSw; (try dsimp only at hSw); go_simp) <;> (with_reducible rfl)
                        simp only [List.setIfInBounds_toArray,List.set_cons_zero,List.set_cons_succ]
                        refine wpAnyT_take2 (i:=4) (v:=?_) rfl rfl (by kernel_rfl) (by kernel_rfl) (by kernel_rfl) (by kernel_rfl) (fun _ _ _ h=>h) (Or.inl ⟨by rfl, ?_⟩) (by first | assumption | trivial) ?_
                        rotate_left
                        · (intro w hSw; (try dsimp only at hSw); go_simp) <;> (with_reducible rfl)
                        simp only [List.setIfInBounds_toArray,List.set_cons_zero,List.set_cons_succ]
                        refine wpAnyT_take2 (i:=5) (v:=?_) rfl rfl (by kernel_rfl) (by kernel_rfl) (by kernel_rfl) (by kernel_rfl) (fun _ _ _ h=>h) (Or.inl ⟨by rfl, ?_⟩) (by first | assumption | trivial) ?_
                        rotate_left
                        · (intro w hSw; (try dsimp only at hSw); go_simp) <;> (with_reducible rfl)
                        simp only [List.setIfInBounds_toArray,List.set_cons_zero,List.set_cons_succ]
                        refine wpAnyT_take2 (i:=6) (v:=?_) rfl rfl (by kernel_rfl) (by kernel_rfl) (by kernel_rfl) (by kernel_rfl) (fun _ _ _ h=>h) (Or.inl ⟨by rfl, ?_⟩) (by first | assumption | trivial) ?_
                        rotate_left
                        · (intro w hSw; (try dsimp only at hSw); go_simp) <;> (with_reducible rfl)
                        simp only [List.setIfInBounds_toArray,List.set_cons_zero,List.set_cons_succ]
                        refine wpAnyT_take2 (i:=7) (v:=.bool false) rfl rfl (by kernel_rfl) (by kernel_rfl) (by kernel_rfl) (by kernel_rfl) (fun _ _ _ h=>h) (Or.inl ⟨by rfl, ?_⟩) (by first | assumption | trivial) ?_
                        · (intro w hSw; (try dsimp only at hSw); go_simp) <;> (first | (with_reducible rfl) | assumption | (simp; done) | (simp [*]; done) | (simp; omega))
                        simp only [List.setIfInBounds_toArray,List.set_cons_zero,List.set_cons_succ]
                        refine wpAnyT_take2 (i:=8) (v:=?_) rfl rfl (by kernel_rfl) (by kernel_rfl) (by kernel_rfl) (by kernel_rfl) (fun _ _ _ h=>h) (Or.inl ⟨by rfl, ?_⟩) (by first | assumption | trivial) ?_
                        rotate_left
                        · (intro w hSw; (try dsimp only at hSw); go_simp) <;> (with_reducible rfl)
                        simp only [List.setIfInBounds_toArray,List.set_cons_zero,List.set_cons_succ]
                        refine wpAnyT_take2 (i:=9) (v:=undef) rfl rfl (by kernel_rfl) (by kernel_rfl) (by kernel_rfl) (by kernel_rfl) (fun _ _ _ h=>h) (Or.inr ⟨by rfl,rfl⟩) (by first | assumption | trivial) ?_
                        simp only [List.setIfInBounds_toArray,List.set_cons_zero,List.set_cons_succ]
                        refine wpAnyT_take2 (i:=10) (v:=undef) rfl rfl (by kernel_rfl) (by kernel_rfl) (by kernel_rfl) (by kernel_rfl) (fun _ _ _ h=>h) (Or.inr ⟨by rfl,rfl⟩) (by first | assumption | trivial) ?_
                        simp only [List.setIfInBounds_toArray,List.set_cons_zero,List.set_cons_succ]
                        refine wpAnyT_take2 (i:=11) (v:=undef) rfl rfl (by kernel_rfl) (by kernel_rfl) (by kernel_rfl) (by kernel_rfl) (fun _ _ _ h=>h) (Or.inr ⟨by rfl,rfl⟩) (by first | assumption | trivial) ?_
                        simp only [List.setIfInBounds_toArray,List.set_cons_zero,List.set_cons_succ]
                        refine wpAnyT_take2 (i:=12) (v:=undef) rfl rfl (by kernel_rfl) (by kernel_rfl) (by kernel_rfl) (by kernel_rfl) (fun _ _ _ h=>h) (Or.inr ⟨by rfl,rfl⟩) (by first | assumption | trivial) ?_
                        simp only [List.setIfInBounds_toArray,List.set_cons_zero,List.set_cons_succ]
                        refine wpAnyT_take2 (i:=13) (v:=undef) rfl rfl (by kernel_rfl) (by kernel_rfl) (by kernel_rfl) (by kernel_rfl) (fun _ _ _ h=>h) (Or.inr ⟨by rfl,rfl⟩) (by first | assumption | trivial) ?_
                        simp only [List.setIfInBounds_toArray,List.set_cons_zero,List.set_cons_succ]
                        refine wpAnyT_take2 (i:=14) (v:=undef) rfl rfl (by kernel_rfl) (by kernel_rfl) (by kernel_rfl) (by kernel_rfl) (fun _ _ _ h=>h) (Or.inr ⟨by rfl,rfl⟩) (by first | assumption | trivial) ?_
                        simp only [List.setIfInBounds_toArray,List.set_cons_zero,List.set_cons_succ]
                        refine wpAnyT_take2 (i:=15) (v:=undef) rfl rfl (by kernel_rfl) (by kernel_rfl) (by kernel_rfl) (by kernel_rfl) (fun _ _ _ h=>h) (Or.inr ⟨by rfl,rfl⟩) (by first | assumption | trivial) ?_
                        simp only [List.setIfInBounds_toArray,List.set_cons_zero,List.set_cons_succ]
                        refine wpAnyT_take2 (i:=16) (v:=undef) rfl rfl (by kernel_rfl) (by kernel_rfl) (by kernel_rfl) (by kernel_rfl) (fun _ _ _ h=>h) (Or.inr ⟨by rfl,rfl⟩) (by first | assumption | trivial) ?_
                        simp only [List.setIfInBounds_toArray,List.set_cons_zero,List.set_cons_succ]
                        refine wpAnyT_take2 (i:=17) (v:=?_) rfl rfl (by kernel_rfl) (by kernel_rfl) (by kernel_rfl) (by kernel_rfl) (fun _ _ _ h=>h) (Or.inl ⟨by rfl, ?_⟩) (by first | assumption | trivial) ?_
                        rotate_left
                        · (intro w hSw; (try dsimp only at hSw); go_simp) <;> (with_reducible rfl)
                        simp only [List.setIfInBounds_toArray,List.set_cons_zero,List.set_cons_succ]
                        refine wpAnyT_take2 (i:=18) (v:=?_) rfl rfl (by kernel_rfl) (by kernel_rfl) (by kernel_rfl) (by kernel_rfl) (fun _ _ _ h=>h) (Or.inl ⟨by rfl, ?_⟩) (by first | assumption | trivial) ?_
                        rotate_left
                        · (intro w hSw; (try dsimp only at hSw); go_simp) <;> (with_reducible rfl)
                        simp only [List.setIfInBounds_toArray,List.set_cons_zero,List.set_cons_succ]
                        refine wpAnyT_take2 (i:=19) (v:=undef) rfl rfl (by kernel_rfl) (by kernel_rfl) (by kernel_rfl) (by kernel_rfl) (fun _ _ _ h=>h) (Or.inr ⟨by rfl,rfl⟩) (by first | assumption | trivial) ?_
                        simp only [List.setIfInBounds_toArray,List.set_cons_zero,List.set_cons_succ]
                        refine wpAnyT_take2 (i:=20) (v:=undef) rfl rfl (by kernel_rfl) (by kernel_rfl) (by kernel_rfl) (by kernel_rfl) (fun _ _ _ h=>h) (Or.inr ⟨by rfl,rfl⟩) (by first | assumption | trivial) ?_
                        simp only [List.setIfInBounds_toArray,List.set_cons_zero,List.set_cons_succ]
                        refine wpAnyT_take2 (i:=21) (v:=undef) rfl rfl (by kernel_rfl) (by kernel_rfl) (by kernel_rfl) (by kernel_rfl) (fun _ _ _ h=>h) (Or.inr ⟨by rfl,rfl⟩) (by first | assumption | trivial) ?_
                        simp only [List.setIfInBounds_toArray,List.set_cons_zero,List.set_cons_succ]
                        refine wpAnyT_take2 (i:=22) (v:=undef) rfl rfl (by kernel_rfl) (by kernel_rfl) (by kernel_rfl) (by kernel_rfl) (fun _ _ _ h=>h) (Or.inr ⟨by rfl,rfl⟩) (by first | assumption | trivial) ?_
                        simp only [List.setIfInBounds_toArray,List.set_cons_zero,List.set_cons_succ]
                        refine wpAnyT_take2 (i:=23) (v:=undef) rfl rfl (by kernel_rfl) (by kernel_rfl) (by kernel_rfl) (by kernel_rfl) (fun _ _ _ h=>h) (Or.inr ⟨by rfl,rfl⟩) (by first | assumption | trivial) ?_
                        simp only [List.setIfInBounds_toArray,List.set_cons_zero,List.set_cons_succ]
                        refine wpAnyT_take2 (i:=24) (v:=undef) rfl rfl (by kernel_rfl) (by kernel_rfl) (by kernel_rfl) (by kernel_rfl) (fun _ _ _ h=>h) (Or.inr ⟨by rfl,rfl⟩) (by first | assumption | trivial) ?_
                        simp only [List.setIfInBounds_toArray,List.set_cons_zero,List.set_cons_succ]
                        refine wpAnyT_take2 (i:=25) (v:=undef) rfl rfl (by kernel_rfl) (by kernel_rfl) (by kernel_rfl) (by kernel_rfl) (fun _ _ _ h=>h) (Or.inr ⟨by rfl,rfl⟩) (by first | assumption | trivial) ?_
                        simp only [List.setIfInBounds_toArray,List.set_cons_zero,List.set_cons_succ]
                        refine wpAnyT_take2 (i:=26) (v:=undef) rfl rfl (by kernel_rfl) (by kernel_rfl) (by kernel_rfl) (by kernel_rfl) (fun _ _ _ h=>h) (Or.inr ⟨by rfl,rfl⟩) (by first | assumption | trivial) ?_
                        simp only [List.setIfInBounds_toArray,List.set_cons_zero,List.set_cons_succ]
                        refine wpAnyT_take2 (i:=27) (v:=undef) rfl rfl (by kernel_rfl) (by kernel_rfl) (by kernel_rfl) (by kernel_rfl) (fun _ _ _ h=>h) (Or.inr ⟨by rfl,rfl⟩) (by first | assumption | trivial) ?_
                        simp only [List.setIfInBounds_toArray,List.set_cons_zero,List.set_cons_succ]
                        refine wpAnyT_take2 (i:=28) (v:=undef) rfl rfl (by kernel_rfl) (by kernel_rfl) (by kernel_rfl) (by kernel_rfl) (fun _ _ _ h=>h) (Or.inr ⟨by rfl,rfl⟩) (by first | assumption | trivial) ?_
                        simp only [List.setIfInBounds_toArray,List.set_cons_zero,List.set_cons_succ]
                        refine wpAnyT_take2 (i:=29) (v:=undef) rfl rfl (by kernel_rfl) (by kernel_rfl) (by kernel_rfl) (by kernel_rfl) (fun _ _ _ h=>h) (Or.inr ⟨by rfl,rfl⟩) (by first | assumption | trivial) ?_
                        simp only [List.setIfInBounds_toArray,List.set_cons_zero,List.set_cons_succ]
                        refine wpAnyT_take2 (i:=30) (v:=undef) rfl rfl (by kernel_rfl) (by kernel_rfl) (by kernel_rfl) (by kernel_rfl) (fun _ _ _ h=>h) (Or.inr ⟨by rfl,rfl⟩) (by first | assumption | trivial) ?_
                        simp only [List.setIfInBounds_toArray,List.set_cons_zero,List.set_cons_succ]
                        refine wpAnyT_take2 (i:=31) (v:=undef) rfl rfl (by kernel_rfl) (by kernel_rfl) (by kernel_rfl) (by kernel_rfl) (fun _ _ _ h=>h) (Or.inr ⟨by rfl,rfl⟩) (by first | assumption | trivial) ?_
                        simp only [List.setIfInBounds_toArray,List.set_cons_zero,List.set_cons_succ]
                        refine wpAnyT_take2 (i:=32) (v:=undef) rfl rfl (by kernel_rfl) (by kernel_rfl) (by kernel_rfl) (by kernel_rfl) (fun _ _ _ h=>h) (Or.inr ⟨by rfl,rfl⟩) (by first | assumption | trivial) ?_
                        simp only [List.setIfInBounds_toArray,List.set_cons_zero,List.set_cons_succ]
                        refine wpAnyT_take2 (i:=33) (v:=undef) rfl rfl (by kernel_rfl) (by kernel_rfl) (by kernel_rfl) (by kernel_rfl) (fun _ _ _ h=>h) (Or.inr ⟨by rfl,rfl⟩) (by first | assumption | trivial) ?_
                        simp only [List.setIfInBounds_toArray,List.set_cons_zero,List.set_cons_succ]
                        refine wpAnyT_take2 (i:=34) (v:=undef) rfl rfl (by kernel_rfl) (by kernel_rfl) (by kernel_rfl) (by kernel_rfl) (fun _ _ _ h=>h) (Or.inr ⟨by rfl,rfl⟩) (by first | assumption | trivial) ?_
                        simp only [List.setIfInBounds_toArray,List.set_cons_zero,List.set_cons_succ]
                        refine wpAnyT_take2 (i:=35) (v:=undef) rfl rfl (by kernel_rfl) (by kernel_rfl) (by kernel_rfl) (by kernel_rfl) (fun _ _ _ h=>h) (Or.inr ⟨by rfl,rfl⟩) (by first | assumption | trivial) ?_
                        simp only [List.setIfInBounds_toArray,List.set_cons_zero,List.set_cons_succ]
                        refine wpAnyT_take2 (i:=36) (v:=undef) rfl rfl (by kernel_rfl) (by kernel_rfl) (by kernel_rfl) (by kernel_rfl) (fun _ _ _ h=>h) (Or.inr ⟨by rfl,rfl⟩) (by first | assumption | trivial) ?_
                        simp only [List.setIfInBounds_toArray,List.set_cons_zero,List.set_cons_succ]
                        refine wpAnyT_take2 (i:=37) (v:=undef) rfl rfl (by kernel_rfl) (by kernel_rfl) (by kernel_rfl) (by kernel_rfl) (fun _ _ _ h=>h) (Or.inr ⟨by rfl,rfl⟩) (by first | assumption | trivial) ?_
                        simp only [List.setIfInBounds_toArray,List.set_cons_zero,List.set_cons_succ]
                        refine wpAnyT_take2 (i:=38) (v:=undef) rfl rfl (by kernel_rfl) (by kernel_rfl) (by kernel_rfl) (by kernel_rfl) (fun _ _ _ h=>h) (Or.inr ⟨by rfl,rfl⟩) (by first | assumption | trivial) ?_
                        simp only [List.setIfInBounds_toArray,List.set_cons_zero,List.set_cons_succ]
                        refine wpAnyT_take2 (i:=39) (v:=undef) rfl rfl (by kernel_rfl) (by kernel_rfl) (by kernel_rfl) (by kernel_rfl) (fun _ _ _ h=>h) (Or.inr ⟨by rfl,rfl⟩) (by first | assumption | trivial) ?_
                        simp only [List.setIfInBounds_toArray,List.set_cons_zero,List.set_cons_succ]
                        refine wpAnyT_take2 (i:=40) (v:=undef) rfl rfl (by kernel_rfl) (by kernel_rfl) (by kernel_rfl) (by kernel_rfl) (fun _ _ _ h=>h) (Or.inr ⟨by rfl,rfl⟩) (by first | assumption | trivial) ?_
                        simp only [List.setIfInBounds_toArray,List.set_cons_zero,List.set_cons_succ]
                        refine wpAnyT_take2 (i:=41) (v:=undef) rfl rfl (by kernel_rfl) (by kernel_rfl) (by kernel_rfl) (by kernel_rfl) (fun _ _ _ h=>h) (Or.inr ⟨by rfl,rfl⟩) (by first | assumption | trivial) ?_
                        simp only [List.setIfInBounds_toArray,List.set_cons_zero,List.set_cons_succ]
                        refine wpAnyT_take2 (i:=42) (v:=undef) rfl rfl (by kernel_rfl) (by kernel_rfl) (by kernel_rfl) (by kernel_rfl) (fun _ _ _ h=>h) (Or.inr ⟨by rfl,rfl⟩) (by first | assumption | trivial) ?_
                        simp only [List.setIfInBounds_toArray,List.set_cons_zero,List.set_cons_succ]
                        refine wpAnyT_take2 (i:=43) (v:=undef) rfl rfl (by kernel_rfl) (by kernel_rfl) (by kernel_rfl) (by kernel_rfl) (fun _ _ _ h=>h) (Or.inr ⟨by rfl,rfl⟩) (by first | assumption | trivial) ?_
                        simp only [List.setIfInBounds_toArray,List.set_cons_zero,List.set_cons_succ]
                        refine wpAnyT_take2 (i:=44) (v:=undef) rfl rfl (by kernel_rfl) (by kernel_rfl) (by kernel_rfl) (by kernel_rfl) (fun _ _ _ h=>h) (Or.inr ⟨by rfl,rfl⟩) (by first | assumption | trivial) ?_
                        simp only [List.setIfInBounds_toArray,List.set_cons_zero,List.set_cons_succ]
                        refine wpAnyT_take2 (i:=45) (v:=undef) rfl rfl (by kernel_rfl) (by kernel_rfl) (by kernel_rfl) (by kernel_rfl) (fun _ _ _ h=>h) (Or.inr ⟨by rfl,rfl⟩) (by first | assumption | trivial) ?_
                        simp only [List.setIfInBounds_toArray,List.set_cons_zero,List.set_cons_succ]
                        refine wpAnyT_take2 (i:=46) (v:=undef) rfl rfl (by kernel_rfl) (by kernel_rfl) (by kernel_rfl) (by kernel_rfl) (fun _ _ _ h=>h) (Or.inr ⟨by rfl,rfl⟩) (by first | assumption | trivial) ?_
                        simp only [List.setIfInBounds_toArray,List.set_cons_zero,List.set_cons_succ]
                        refine wpAnyT_take2 (i:=47) (v:=undef) rfl rfl (by kernel_rfl) (by kernel_rfl) (by kernel_rfl) (by kernel_rfl) (fun _ _ _ h=>h) (Or.inr ⟨by rfl,rfl⟩) (by first | assumption | trivial) ?_
                        simp only [List.setIfInBounds_toArray,List.set_cons_zero,List.set_cons_succ]
                        refine wpAnyT_take2 (i:=48) (v:=undef) rfl rfl (by kernel_rfl) (by kernel_rfl) (by kernel_rfl) (by kernel_rfl) (fun _ _ _ h=>h) (Or.inr ⟨by rfl,rfl⟩) (by first | assumption | trivial) ?_
                        simp only [List.setIfInBounds_toArray,List.set_cons_zero,List.set_cons_succ]
                        refine wpAnyT_take2 (i:=49) (v:=undef) rfl rfl (by kernel_rfl) (by kernel_rfl) (by kernel_rfl) (by kernel_rfl) (fun _ _ _ h=>h) (Or.inr ⟨by rfl,rfl⟩) (by first | assumption | trivial) ?_
                        simp only [List.setIfInBounds_toArray,List.set_cons_zero,List.set_cons_succ]
                        refine wpAnyT_take2 (i:=50) (v:=undef) rfl rfl (by kernel_rfl) (by kernel_rfl) (by kernel_rfl) (by kernel_rfl) (fun _ _ _ h=>h) (Or.inr ⟨by rfl,rfl⟩) (by first | assumption | trivial) ?_
                        simp only [List.setIfInBounds_toArray,List.set_cons_zero,List.set_cons_succ]
                        refine wpAnyT_take2 (i:=51) (v:=undef) rfl rfl (by kernel_rfl) (by kernel_rfl) (by kernel_rfl) (by kernel_rfl) (fun _ _ _ h=>h) (Or.inr ⟨by rfl,rfl⟩) (by first | assumption | trivial) ?_
                        simp only [List.setIfInBounds_toArray,List.set_cons_zero,List.set_cons_succ]
                        refine wpAnyT_take2 (i:=52) (v:=?_) rfl rfl (by kernel_rfl) (by kernel_rfl) (by kernel_rfl) (by kernel_rfl) (fun _ _ _ h=>h) (Or.inl ⟨by rfl, ?_⟩) (by first | assumption | trivial) ?_
                        rotate_left
                        · (intro w hSw; (try dsimp only at hSw); go_simp) <;> (with_reducible rfl)
                        simp only [List.setIfInBounds_toArray,List.set_cons_zero,List.set_cons_succ]
                        refine wpAnyT_done (by kernel_rfl) ?_ _
                        clear hHeld
                        go_wp2_with fail
                        go_roundw
                        case rel=>exact ⟨k+1,by omega,by go_num,HTS,HDR⟩
                        case measure=>simp [intOf]; omega
                    · have hke : n=k:=by omega
                      subst hke
                      have hkm' : ¬ (n : Int)<(n : Int):=by omega
                      have HT2 : Hid (TabM n n B wr A c G (midD D (v : Nat) (u+1) 0)):=Lib.hid (HT.out.congr (fun x y _ hy=>midD_line hy))
                      go_wp2_with fail
                      go_roundw
                      case rel=>exact ⟨u+1,by omega,by go_num,HT2,HU⟩
                      case measure=>simp [intOf]; omega
                · have hue : n=u:=by omega
                  subst hue
                  have hun' : ¬ (n : Int)<(n : Int):=by omega
                  have HT2:=Lib.hid (HTN.out _ (fun x y hx hy=>midD_end hx) _ _ _ HT.out)
                  go_wp2_with fail
                  go_roundw
                  case rel=>exact ⟨v+1,by omega,by go_num,HT2,HU⟩
                  case measure=>simp [intOf]; omega
            · have hve : n=v:=by omega
              subst hve
              have hvn' : ¬ (n : Int)<(n : Int):=by omega
              go_wp2_with fail
              go_ret
              exact ⟨A,c,rfl,⟨G,HT.out⟩,HU.out⟩
end Go.Proofs.Ytlbihfbeamlacaa
