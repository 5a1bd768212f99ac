/-
  Texts of this proof, part 31. No condition.
-/
import Derived.Test.YtmnbboleclchcaaGreatFTcS
set_option linter.unusedSimpArgs false
set_option linter.unusedVariables false
set_option maxRecDepth 100000
namespace Go.Am
open Go.Proofs
theorem zz1:cx0.fl 41=List.replicate 128 5:=by kernel_rfl
theorem ok5 {S:TY} {v:Value}:okC cx0 S 5 v↔U8 v:=by unfold okC; rfl
theorem zBp:sz cx0 41=128:=by grind[sz,zz1]
theorem zmz {S:TY} {l:List Value} (hl:l.length=128) (hu:U8s l):l.length=sz cx0 41/\zau cx0 S (zcO cx0 41) l:=by
 refine⟨by grind[zBp],λi T h=>?_⟩
 unfold zcO at h
 rw[zz1,List.getElem?_replicate] at h
 split at h
 ·cases h
  exact⟨l[i],by simp,ok5.2 (hu _ (by simp))⟩
 grind
theorem zsu {S:TY} {l:List Value} (hl:l.length=sz cx0 41) (ht:zau cx0 S (zcO cx0 41) l):l.length=128/\U8s l:=by
 rw[zBp] at hl
 refine⟨hl,λv hv=>?_⟩
 obtain⟨i,hi⟩:=List.mem_iff_getElem?.1 hv
 obtain⟨v',h1,h2⟩:=ht i 5 (by grind[zcO,zz1])
 grind[ok5]
theorem zBq {S:TY} {h:AH} {base:Nat}:gam cx0 S h L0 base (.tup []) (.tuple #[]):=by exact⟨[],rfl,rfl,trivial⟩
theorem gi {S:TY} {h:AH} {base:Nat} {k:IntKind} {c:Int} (r:InR k c):gam cx0 S h L0 base (.int k c) (.int k c):=zwz r
theorem v42:Vl 42 s42:=zaY λρ g Q H S hp vs hw hg=>by
 obtain⟨x,rfl,gx⟩:=zgy hg
 rw[zed gx]
 obtain⟨n,x,D,h1,h2,h3,h4⟩:=hw.2.2
 refine (zzT (xb rfl) D).mono ?_
 rintro _ h' ⟨rfl,rfl⟩
 have r:InR .i64 (n:Int):=⟨by grind[kLo],by grind[kHi]⟩
 exact za5 hw (Old.refl _) (gi r) rfl (H _ r)
theorem v68:Vl 68 s68:=zaY λρ g Q H S hp vs hw hg=>by
 obtain⟨x,rfl,gx⟩:=zgy hg
 rw[zed gx]
 obtain⟨n,x,D,h1,h2,h3,h4⟩:=hw.2.2
 refine (zxU (xb rfl) D).mono ?_
 rintro _ h' ⟨rfl,rfl⟩
 exact za5 hw (Old.refl _) (zit _) rfl (zdB (q:=λv=>Q v g) H _)
theorem v28:Vl 28 s28:=zaY λρ g Q H S hp vs hw hg=>by
 obtain⟨_,i,_⟩:=ρ
 obtain⟨x,y,rfl,gx,gy⟩:=zec (a:=.hp 79) (b:=.int .i64 i) hg
 rw[zed gx]
 obtain⟨rfl,_⟩:=gy
 obtain⟨n,x,D,h1,h2,h3,h4⟩:=hw.2.2
 refine (zwL (xb rfl) D _).mono ?_
 rintro _ h' ⟨q,rfl⟩
 obtain⟨x',e1,D',f⟩:=q.fr
 exact zgx hw h4 D' f (by omega) h2 h3 (λS'=>zBq) rfl H
theorem zDt:Vl 179 zAU:=zaY λρ g Q H S hp vs hw hg=>by
 obtain⟨_,i,_⟩:=ρ
 obtain⟨x,y,rfl,gx,gy⟩:=zec (a:=.hp 79) (b:=.int .i64 i) hg
 rw[zed gx]
 obtain⟨rfl,_⟩:=gy
 obtain⟨n,x,D,h1,h2,h3,h4⟩:=hw.2.2
 refine (zxW (xb rfl) (xb rfl) (xb rfl) D _).mono ?_
 rintro _ h' ⟨x',l,e,e1,D',f,hl,hu,he,rfl⟩
 have r:InR .i64 e:=⟨by grind[kLo],by grind[kHi]⟩
 refine zgx hw h4 D' f (by omega) h2 h3 (λS'=>?_) (r:=.tup [.aggT 41,.int .i64 e]) rfl (H _ r)
 exact⟨[.agg l.toArray,.int .i64 e],rfl,rfl,⟨l,rfl,zmz hl hu⟩,⟨rfl,r⟩,trivial⟩
theorem zDu:Vl 115 zAY:=zaY λρ g Q H S hp vs hw hg=>by
 obtain⟨_,i,_⟩:=ρ
 obtain⟨x,y,z,rfl,gx,gy,gz⟩:=zqd (a:=.hp 79) (b:=.int .i64 i) (c:=.aggT 41) hg
 rw[zed gx]
 obtain⟨rfl,_⟩:=gy
 obtain⟨l,rfl,k1,k2⟩:=gz
 obtain⟨hl,hu⟩:=zsu k1 k2
 obtain⟨n,x,D,h1,h2,h3,h4⟩:=hw.2.2
 obtain⟨b1,b2⟩:g+1<=1000000000/\∀g' : Int,g<=g'->g'<=g+1->AN .i64 λe=>Q (.int .i64 e) g':=H
 refine (zwM (xb rfl) (xb rfl) (xb rfl) (xb rfl) D (by omega) _ hl hu).mono ?_
 rintro _ h' ⟨x',e,e1,D',f,he,rfl⟩
 have r:InR .i64 e:=⟨by grind[kLo],by grind[kHi]⟩
 exact zgx hw h4 D' f (g':=g+1) (by omega) (by omega) h3 (λS'=>gi r) rfl (b2 _ (by omega) (by omega) _ r)
theorem zDv:Vl 114 zA5:=zaY λρ g Q H S hp vs hw hg=>by
 obtain⟨x,rfl,gx⟩:=zgy hg
 rw[zed gx]
 obtain⟨n,x,D,h1,h2,h3,h4⟩:=hw.2.2
 refine (zwN (xb rfl) (xb rfl) (xb rfl) D (by omega)).mono ?_
 rintro _ h' ⟨x',e,e1,D',f,he,rfl⟩
 have r:InR .i64 e:=⟨by grind[kLo],by grind[kHi]⟩
 exact zgx hw h4 D' f (g':=g) (by omega) h2 h3 (λS'=>gi r) rfl (H _ r)
theorem v31:Vl 31 s31:=zaY λρ g Q H S hp vs hw hg=>by
 obtain⟨_,i,_⟩:=ρ
 obtain⟨x,y,z,rfl,gx,gy,gz⟩:=zqd (a:=.hp 79) (b:=.int .i64 i) (c:=.aggT 41) hg
 rw[zed gx]
 obtain⟨rfl,_⟩:=gy
 obtain⟨l,rfl,k1,k2⟩:=gz
 obtain⟨hl,hu⟩:=zsu k1 k2
 obtain⟨n,x,D,h1,h2,h3,h4⟩:=hw.2.2
 refine (zzU (xb rfl) (xb rfl) D (by omega) _ hl hu).mono ?_
 rintro _ h' ⟨x',e,e1,D',f,he,rfl⟩
 have r:InR .i64 e:=⟨by grind[kLo],by grind[kHi]⟩
 exact zgx hw h4 D' f (g':=g) (by omega) h2 h3 (λS'=>gi r) rfl (H _ r)
theorem fl4:cx0.fl 4=[4]:=by kernel_rfl
theorem ck4:ck cx0 4=.bool:=by kernel_rfl
theorem v29:Vl 29 s29:=zaY λρ g Q H S hp vs hw hg=>by
 obtain⟨_,m,_⟩:=ρ
 obtain⟨x,y,rfl,gx,gy⟩:=zec (a:=.hp 79) (b:=.sl false false false 4 m) hg
 rw[zed gx]
 obtain⟨hm,p,c,rfl,gy⟩:=gy
 obtain⟨n,x,D,h1,h2,h3,h4⟩:=hw.2.2
 refine (zwO (xb rfl) D (by omega) _ _ _ λj hj=>?_).mono ?_
 ·rcases gy with ⟨_,q,_⟩ | ⟨b,off,ro,e,cc,rfl,k1,k2,_⟩
  ·omega
  ·obtain⟨m1,m2,cs,r',m3,m4,m5⟩:=hw.1 b ro e cc k1
   have hs:sz cx0 4=1:=by rfl
   have:=k2 j hj 0 4 (by rfl)
   obtain⟨v,q1,q2⟩:=m5 _ _ this
   grind[okC,ck4]
 ·rintro _ h' ⟨x',e1,D',f,rfl⟩
  exact zgx hw h4 D' f (g':=g) (by omega) h2 h3 (λS'=>zBq) rfl H.2
end Go.Am
