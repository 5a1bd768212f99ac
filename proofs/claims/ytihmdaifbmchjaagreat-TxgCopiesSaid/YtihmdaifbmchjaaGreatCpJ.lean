/-
  A BOOK WITHOUT ANYTHING, as bytes; how much room a state takes.
-/
import Derived.Test.YtihmdaifbmchjaaGreatCpF
import Derived.Test.YtihmdaifbmchjaaGreatCpG
import Derived.Test.YtihmdaifbmchjaaGreatCpI
import Derived.Test.YtihmdaifbmchjaaGreatVMet
import Derived.Test.YtihmdaifbmchjaaGreatCpD
set_option linter.unusedVariables false
set_option linter.unusedSimpArgs false
set_option maxRecDepth 100000
namespace Go.Am
open Go.Proofs
structure zfM (K:Xs):Prop where
 ku:KUb K
 kn:zrJ K
 fJoin:K 133=none
 fSplit:K 97=none
 fLength:K 130=none
 eBytes:K 99=none
 eRead:K 66=none
 bEqual:K 100=none
 mLen:K 105=none
 mSpace:K 108=none
 mSpaces:K 68=none
 mRecords:K 74=none
 mCost:K 76=none
 mSave:K 53=none
 mWrite:K 77=none
 mTable:K 116=none
 mLoad:K 44=none
 mHad:K 65=none
 mTold:K 64=none
 concat:K 69=none
 grow:K 109=none
 clone:K 38=none
 mMany:K 14=none
 mCount:K 22=none
 mAlloc:K 39=none
 mIs:K 56=none
 mSet:K 52=none
 mNew:K 31=none
 mChange:K 61=none
 mTake:K 46=none
 mCopy:K 35=none
 mCommit:K 81=none
 pNew:K 30=none
 pDev:K 34=none
 pMap:K 9=none
 pStamp:K 18=none
 pBase:K 36=none
 pNext:K 16=none
 pCommit:K 55=none
 pPut:K 15=none
 famRight:K 67=none
 xCopied:K 37=none
 xEach:K 45=none
 xFormat:K 7=none
 xImport:K 20=none
 xCopy:K 12=none
 xPile:K 8=none
 xBook:K 17=none
 xPut:K 13=none
 xUber:K 11=none
 xCommit:K 32=none
 eCopy:K 58=none
 setSame:K 19=none
 vNew:K 6=none
section
variable {K:Xs} {h:AH}
theorem zls (w x:Nat):enc [w] [x]=byB w x:=by simp[enc]
theorem put1 (kP:K 119=none) (kr:K 129=none) {w x:Nat} (hw:1≤w∧w≤8) (hx:x < 256 ^ w) {g0 g1:AH} {x' : Int} (ex:x'= (x:Int)) (e0:g0=h.alloc (.cells [.int .i64 (w:Nat)] 3 false)) (e1:g1=g0.alloc (.cells [.int .u64 x'] 22 false)):
 Wf Tryz.prog K 119 [.slice (some ⟨h.next,0,none⟩) 1 1,.slice (some ⟨g0.next,0,none⟩) 1 1] g1 fun v h'=>(∃b,v=.tuple #[.slice (some ⟨b,0,none⟩) w w,.int .i64 0]∧h.next+2≤b∧b < h'.next∧zaq h' (some ⟨b,0,none⟩) w 1 (zav .u8 (byB w x)))∧Old h h':=by
 subst ex
 have o0:=zaa e0
 have o1:=zaa e1
 have n0:=zab e0
 have n1:=zab e1
 refine (zep kP kr (ws:=[w]) (ns:=[x]) (za7 (l:=[w]) ((o1.2 _ (by omega)).trans (zac e0)) (by omega) rfl) (za7 (l:=[x]) (zac e1) (by omega) rfl) (by simpa using hw) (by simp) rfl (zAx hx)).mono ?_
 rintro v g ⟨⟨b,rfl,hb,S⟩,o⟩
 rw[zls] at S
 simp only[List.sum_cons,List.sum_nil,Nat.add_zero] at S ⊢
 exact⟨⟨b,rfl,by omega,S.blk (by omega),S⟩,(o0.trans o1).trans o⟩
def bk1:List Nat:=zgv [byB 8 1]
theorem zut:bk1.length=12:=by simp[bk1,zub,zaP]
theorem zxj {x:Nat} (h:x∈bk1):x < 256:=zwe (ts:=[byB 8 1]) (by intro t ht y hy; simp only[List.mem_singleton] at ht; subst ht; exact byB_lt hy) x h
theorem zql (kk:zfM K) {p:Option Addr} {c:Nat}:Wf Tryz.prog K 99 [.int .u64 1,.slice p 0 c] h fun v h'=>(∃b,v=.tuple #[.slice (some ⟨b,0,none⟩) 12 12,.int .i64 0]∧h.next≤b∧b < h'.next∧zaq h' (some ⟨b,0,none⟩) 12 1 (zav .u8 bk1))∧Old h h':=by
 refine zjs kk.eBytes _ _ _ _ h _ ⟨fun z=>absurd z (by decide),fun _=>⟨fun z=>absurd z (by show ¬(32:Int) < ((0:Nat):Int); decide),fun _ g0 e0 g1 e1=>?_⟩⟩
 refine (put1 kk.ku.ks.fPut kk.ku.ks.fRoom (w:=8) (x:=1) (by decide) (by decide) rfl e0 e1).mono ?_
 rintro _ g3 ⟨⟨b,rfl,hb,hb2,S⟩,o3⟩
 refine⟨_,_,_,_,rfl,fun _ g8 e8=>⟨fun p n c i k g=>p=some ⟨g3.next,0,none⟩∧n=1∧c=1∧i=0∧g=g8,⟨0,rfl,rfl,rfl,rfl,rfl⟩,?_⟩,fun z=>absurd rfl z⟩
 rintro k g p13 n14 c15 i ⟨rfl,rfl,rfl,rfl,rfl⟩
 refine⟨fun z=>absurd z (by decide),fun _=>?_⟩
 have o8:=zaa e8
 have n8:=zab e8
 have R:zrq g (some ⟨g3.next,0,none⟩) 1 [byB 8 1]:=by
  refine⟨rfl,[.slice (some ⟨b,0,none⟩) 8 8],⟨rfl,.inr ⟨_,0,_,_,_,rfl,by omega,zac e8,Nat.le_refl 1,rfl⟩⟩,fun i hi=>?_⟩
  obtain rfl:i=0:=by simp at hi; omega
  exact⟨_,_,_,rfl,.inr ⟨_,_,rfl⟩,by simp[zaP],by decide,S.old o8,fun x hx=>byB_lt hx⟩
 refine (zwg kk.fJoin R (by decide) (by simp[zaP])).mono ?_
 rintro _ g60 ⟨⟨b2,rfl,h2,h3,S2⟩,o60⟩
 have hl:(zgv [byB 8 1]).length=12:=zut
 rw[hl] at S2 ⊢
 exact⟨_,_,_,_,rfl,fun _=>⟨⟨b2,rfl,by have:=o3.1; omega,h3,S2⟩,(o3.trans o8).trans o60⟩,fun z=>absurd rfl z⟩
theorem zyQ (kk:zfM K) {p:Option Addr} {c:Nat}:Wf Tryz.prog K 74 [.agg #[.int .u64 1,.slice p 0 c]] h fun v h'=>(∃b,v=.tuple #[.slice (some ⟨b,0,none⟩) 12 12,.int .i64 0]∧h.next≤b∧b < h'.next∧zaq h' (some ⟨b,0,none⟩) 12 1 (zav .u8 bk1))∧Old h h':=by
 refine ziy kk.mRecords _ _ _ _ h _ fun g0 e0=>?_
 have o0:=zaa e0
 have n0:=zab e0
 refine⟨_,zah (zac e0) rfl,_,_,_,zah (zac e0) rfl,(zql kk).mono ?_⟩
 rintro _ g ⟨⟨b,rfl,h1,h2,S⟩,o⟩
 exact⟨_,_,_,_,rfl,fun _=>⟨fun z=>absurd z (by decide),fun _=>⟨⟨b,rfl,by omega,h2,S⟩,o0.trans o⟩⟩,fun z=>absurd rfl z⟩
def spL (n:Nat):Nat:=2+5 * ((n+1) / 2)
theorem zlt (kk:zfM K) {n:Nat} (h1:64≤n) (h2:n≤1024):Wf Tryz.prog K 105 [.int .i64 (n:Nat)] h fun v h'=>v=.int .i64 (spL n:Nat)∧h=h':=by
 refine zhc kk.mLen _ h _ ⟨fun z=>absurd z (by omega),fun _=>⟨fun z=>absurd z (by omega),fun _ i0 e0=>⟨by decide,fun i1 e1 i2 e2 i3 e3=>?_⟩⟩⟩
 have e0:=zaJ e0 (by omega) (by omega)
 subst e0
 rw[show ((n:Int)+1)=((n+1:Nat):Int) by omega,show (2:Int)=((2:Nat):Int) by rfl,zvT] at e1
 have e1:=zaJ e1 (by omega) (by omega)
 subst e1
 have e2:=zaJ e2 (by omega) (by omega)
 subst e2
 have e3:=zaJ e3 (by omega) (by omega)
 subst e3
 exact⟨by unfold spL; congr 1,rfl⟩
theorem znp {n:Nat} (h1:64≤n) (h2:n≤1024):162≤spL n∧spL n≤2562:=by unfold spL; omega
def zhi (n:Nat):Nat:=2+ze5 (spL n:Nat)
theorem zuu:ze5 (12:Nat)=1:=by
 unfold ze5
 rw[zdk (by decide) (by decide)]
 rw[show ((12+127) / 128:Nat)=1 by decide,zbR (by decide)]
 rfl
theorem ziX {n:Nat} (h1:64≤n) (h2:n≤1024):ze5 (spL n:Nat)≤27∧1≤ze5 (spL n:Nat)∧(n≤300→zhi n≤12):=by
 have:=znp h1 h2
 unfold zhi ze5
 rw[zdk (by omega) (by omega),List.sum_cons]
 have hu:=ziL (a:=(spL n+127) / 128) (by omega)
 refine⟨by omega,by omega,fun h3=>?_⟩
 have:spL n≤752:=by unfold spL; omega
 omega
theorem zwp (kk:zfM K) {p:Option Addr} {c n:Nat} (h1:64≤n) (h2:n≤1024):Wf Tryz.prog K 76 [.slice p 12 c,.int .i64 (n:Nat)] h fun v h'=>v=.int .i64 (zhi n:Nat)∧Old h h':=by
 have hn:=ziX h1 h2
 refine zm3 kk.mCost _ _ _ _ h _ ((zhw kk.ku.ks.bNeed kk.ku.ks.bLevels kk.ku.ks.bUp ((12:Nat):Int) h).mono ?_)
 rintro _ g ⟨rfl,o⟩
 rw[zuu]
 refine⟨_,rfl,fun i3 e3=>(zlt kk h1 h2).mono ?_⟩
 have e3:=zaJ e3 (by decide) (by decide)
 subst e3
 rintro _ g2 ⟨rfl,rfl⟩
 refine⟨_,rfl,(zhw kk.ku.ks.bNeed kk.ku.ks.bLevels kk.ku.ks.bUp (spL n:Nat) g).mono ?_⟩
 rintro _ g3 ⟨rfl,o3⟩
 refine⟨_,rfl,fun i10 e10=>?_⟩
 have e10:=zaJ e10 (by omega) (by omega)
 subst e10
 exact⟨by unfold zhi; congr 1,o.trans o3⟩
end
theorem zqm:∀{e:Int} {sp:List (Nat×Nat)} {n:Nat},Gap e sp→sp≠[]→(∀x∈exN sp,x < n)→e+2 * sp.length≤n
 | _,[],_,_,h,_=>absurd rfl h
 | e,[(s,l)],n,g,_,hx=>by
   obtain⟨g1,g2, -⟩:=g
   have:=hx (s+(l - 1)) (by simp only[exN,List.map_cons,List.map_nil,List.flatten_cons,List.flatten_nil,List.append_nil,List.mem_range'_1]; omega)
   simp only[List.length_singleton]
   omega
 | e,(s,l) :: q :: r,n,g,_,hx=>by
   obtain⟨g1,g2, -,g4⟩:=g
   have:=zqm g4 (by simp) fun x h=>hx x (by
    unfold exN at h ⊢
    rw[List.map_cons,List.flatten_cons]
    exact List.mem_append_right _ h)
   simp only[List.length_cons] at this ⊢
   omega
def spT (n:Nat) (sp:List (Nat×Nat)):List Nat:=byB 2 sp.length ++ mvB sp ++ List.replicate (spL n - 2 - sp.length * 5) 0
structure zxk (n:Nat) (sp:List (Nat×Nat)):Prop where
 gap:Gap (-1) sp
 ne:sp≠[]
 inn:∀x∈exN sp,4≤x∧x < n
theorem zxk.len {n:Nat} {sp:List (Nat×Nat)} (k:zxk n sp):1≤sp.length∧2+sp.length * 5≤spL n:=by
 have:=zqm k.gap k.ne fun x h=>(k.inn x h).2
 have:sp.length≠0:=fun z=>k.ne (List.eq_nil_of_length_eq_zero z)
 unfold spL
 omega
theorem zyR {n:Nat} {sp:List (Nat×Nat)} (k:zxk n sp):(spT n sp).length=spL n:=by
 have:=k.len
 simp only[spT,List.length_append,zaP,ziU,List.length_replicate]
 omega
theorem zAE {n:Nat} {sp:List (Nat×Nat)} {x:Nat} (h:x∈spT n sp):x < 256:=by
 simp only[spT,List.mem_append] at h
 rcases h with (h | h) | h
 ·exact byB_lt h
 ·exact zAA h
 ·rw[List.eq_of_mem_replicate h]; decide
section
variable {K:Xs} {h:AH}
def zrK (L:Nat) (A:List Nat):List Nat:=A ++ List.replicate (L - A.length) 0
theorem zyS {L:Nat} {A B:List Nat} (hl:A.length+B.length≤L):(zav .u8 (zrK L A)).take A.length ++ (zav .u8 B).take (L - A.length) ++ (zav .u8 (zrK L A)).drop (A.length+((zav .u8 B).take (L - A.length)).length)=zav .u8 (zrK L (A ++ B)):=by
 have e:(zav .u8 B).take (L - A.length)=zav .u8 B:=List.take_of_length_le (by rw[zam]; omega)
 rw[e,zam]
 unfold zrK
 rw[zaI,zaI,zaI]
 have h3:(zav .u8 A).length=A.length:=zam ..
 have e1:(zav .u8 A ++ zav .u8 (List.replicate (L - A.length) 0)).take A.length=zav .u8 A:=by rw[←h3,List.take_left]
 have e2:(zav .u8 A ++ zav .u8 (List.replicate (L - A.length) 0)).drop (A.length+B.length)=zav .u8 (List.replicate (L - (A ++ B).length) 0):=by
  rw[←List.drop_drop,show (zav .u8 A ++ zav .u8 (List.replicate (L - A.length) 0)).drop A.length=zav .u8 (List.replicate (L - A.length) 0) by rw[←h3,List.drop_left]]
  unfold zav
  rw[List.map_replicate,List.map_replicate,List.drop_replicate,List.length_append]
  congr 1
  omega
 rw[e1,e2]
theorem zDO {L b c m c' off:Nat} {A B:List Nat} {p:Option Addr} {e:TypeId} (hb:h.get b=some (.cells (zav .u8 (zrK L A)) e false)) (ho:A.length=off) (hl:off+B.length≤L) (h1:off < L) (S:zaq h p m 1 (zav .u8 B)) (hp:p=none∨∃b off,p=some ⟨b,off,none⟩):
 ∃i h',zal Tryz.prog h .copy #[53,53] [.slice (some ⟨b,off,none⟩) (L - off) c,.slice p m c']=some (.int .i64 i,h')∧za9 b h h'∧h'.get b=some (.cells (zav .u8 (zrK L (A ++ B))) e false):=by
 subst ho
 have hbl:(zav .u8 (zrK L A)).length=L:=by unfold zrK; rw[zam,List.length_append,List.length_replicate]; omega
 obtain⟨h',k,nr,g⟩:=zfy eBytes (off:=A.length) (n:=L - A.length) (c:=c) (c':=c') hb (by omega) (by omega) S hp 53
 rw[zyS hl] at g
 exact⟨_,h',k,nr,g⟩
theorem znq (kk:zfM K) {n:Nat} (h1:64≤n) (h2:n≤1024) {p:Option Addr} {m c:Nat} {sp:List (Nat×Nat)} (S:zaq h p m 2 (spC sp)) (k:zxk n sp):
 Wf Tryz.prog K 108 [.int .i64 (n:Nat),.slice p m c] h fun v h'=>(∃b,v=.tuple #[.slice (some ⟨b,0,none⟩) (spL n) (spL n),.int .i64 0]∧h.next≤b∧zaq h' (some ⟨b,0,none⟩) (spL n) 1 (zav .u8 (spT n sp)))∧Old h h':=by
 have hl:=k.len
 have hs:=znp h1 h2
 have hm:m=sp.length:=by have:=S.1; rw[zb1] at this; omega
 have hm2:m≤1000000:=by omega
 refine zk6 kk.mSpace _ _ _ _ h _ ((zlt kk h1 h2).mono ?_)
 rintro _ _ ⟨rfl,rfl⟩
 refine⟨_,rfl,fun z=>absurd z (by omega),fun _=>(zcJ kk.kn.sRight kk.kn.sSingle S k.gap hm2).mono ?_⟩
 rintro _ g4 ⟨rfl,o4⟩
 refine .inl ⟨rfl,fun _ i5 e5=>?_,fun z=>absurd (by omega) z⟩
 have e5:i5=((m - 1:Nat):Int):=by rw[zaJ e5 (by omega) (by omega)]; omega
 subst e5
 have S4:=S.old o4
 obtain⟨b,off,rfl,hld, -⟩:=S4.getN (i:=m - 1) (by omega)
 rw[zd8 sp (m - 1) (by omega)] at hld
 have hla:=k.gap.at (m - 1) (by omega)
 have hlx:sp[m - 1].1+(sp[m - 1].2 - 1) < n:=(k.inn _ (by
  unfold exN
  rw[List.mem_flatten]
  exact⟨_,List.mem_map.2 ⟨sp[m - 1],List.getElem_mem _,rfl⟩,by rw[List.mem_range'_1]; omega⟩)).2
 have hfx:4≤sp[0].1:=(k.inn _ (by
  have:=k.gap.at 0 (by omega)
  unfold exN
  rw[List.mem_flatten]
  exact⟨_,List.mem_map.2 ⟨sp[0],List.getElem_mem _,rfl⟩,by rw[List.mem_range'_1]; omega⟩)).1
 refine zae ⟨by omega,by omega,_,_,hld,fun g10 e10=>⟨rfl,_,zaB (zac e10) rfl,?_⟩⟩
 generalize sp[m - 1]=q at hla hlx
 obtain⟨s,l⟩:=q
 simp only at hla hlx ⊢
 have o11:=(zaa e10).near (zaj g4.next g10 (.cells [.int .i64 (s:Nat),.int .i64 (l:Nat)] 90 false)) (Nat.le_refl _)
 have w11:=zag g4.next g10 (.cells [.int .i64 (s:Nat),.int .i64 (l:Nat)] 90 false)
 have n11:(g10.set g4.next (.cells [.int .i64 (s:Nat),.int .i64 (l:Nat)] 90 false)).next=g4.next+1:=by rw[(zaj g4.next g10 _).1,zab e10]
 generalize g10.set g4.next (.cells [.int .i64 (s:Nat),.int .i64 (l:Nat)] 90 false)=g11 at o11 w11 n11
 have S11:=S4.old o11
 obtain⟨b',off',e', -,hld'⟩:=S11.getN (i:=0) (by omega)
 simp only[Option.some.injEq,Addr.mk.injEq,and_true] at e'
 obtain⟨rfl,rfl⟩:=e'
 have hld':=hld' 0 (by decide)
 have e0:(spC sp)[0 * 2+0]?= some (.int .i64 (sp[0].1:Nat)):=by
  have:=zd8 sp 0 (by omega)
  have:=congrArg (fun l=>l[0]?) this
  simpa[List.getElem?_take,List.getElem?_drop] using this
 rw[e0] at hld'
 refine zae ⟨by decide,by omega,_,by simpa using hld',fun z=>absurd z (by omega),fun _=>⟨_,zah w11 rfl,_,zah w11 rfl,fun i17 e17=>⟨fun z=>?_,fun _=>?_⟩⟩⟩
 ·rw[zaJ e17 (by omega) (by omega)] at z
  omega
 refine (zwm kk.kn S11 k.gap hm2).mono ?_
 rintro _ g19 ⟨p20,c20,rfl,G19,o19⟩
 refine⟨_,_,_,rfl,(zuq kk.kn G19.shows k.gap (by omega)).mono ?_⟩
 rintro _ g24 ⟨rfl,G24,o24⟩
 have o24h:=((o4.trans o11).trans o19).trans o24
 refine⟨_,_,_,_,rfl,fun _ i29 e29=>⟨fun z=>?_,fun _ g30 e30 i31 e31 g32 e32=>?_⟩,fun z=>absurd rfl z⟩
 ·rw[zaJ e29 (by omega) (by omega)] at z
  omega
 have e31:=zoz e31 (by omega) (by omega)
 refine (put1 kk.ku.ks.fPut kk.ku.ks.fRoom (w:=2) (x:=sp.length) (by decide) (by omega) e31 e30 e32).mono ?_
 rintro _ g34 ⟨⟨b2,rfl,hb2,hb3,S34⟩,o34⟩
 refine⟨_,_,_,_,rfl,fun _=>⟨⟨by omega,by omega,by omega,by omega⟩,fun g39 e39=>?_⟩,fun z=>absurd rfl z⟩
 have o39:=zaa e39
 have n39:=zab e39
 have w39:g39.get g34.next=some (.cells (zav .u8 (zrK (spL n) [])) 5 false):=by
  rw[zac e39]
  congr 2
  simp[zrK,zav,List.map_replicate]
 rw[show Int.toNat ((spL n:Nat):Int)=spL n by omega]
 obtain⟨i40,g41,k41,nr41,w41⟩:=zDO (L:=spL n) (off:=0) (A:=[]) (c:=spL n) (c':=2) w39 rfl (by rw[zaP]; omega) (by omega) (S34.old o39) (.inr ⟨_,_,rfl⟩)
 rw[Nat.sub_zero] at k41
 rw[List.nil_append] at w41
 have o41:=o39.near nr41 (Nat.le_refl _)
 obtain⟨p42,n43,k43,hp42, -⟩:=zdD (h:=g41) (b:=g34.next) (off:=0) (n:=spL n) (c:=spL n) (lo:=2) eBytes (by simp) (.inl ⟨Nat.le_refl _,by unfold zak; omega⟩) (by omega)
 obtain rfl:=hp42 (by omega)
 refine⟨_,_,k41,_,_,_,k43,?_⟩
 have S41:=G24.shows.old (o34.trans o41)
 obtain⟨i45,g46,k46,nr46,w46⟩:=zDO (L:=spL n) (off:=2) (c:=n43) (c':=sp.length * 5) w41 (zaP ..) (by rw[ziU]; omega) (by omega) S41 (.inr ⟨_,_,rfl⟩)
 have o46:=o41.near nr46 (Nat.le_refl _)
 have eT:zrK (spL n) (byB 2 sp.length ++ mvB sp)=spT n sp:=by
  unfold zrK spT
  rw[List.length_append,zaP,ziU,Nat.sub_sub]
 rw[eT] at w46
 have lo24:=o24h.1
 have lo34:=o34.1
 refine⟨_,_,k46,⟨_,rfl,by omega,?_⟩,(o24h.trans o34).trans o46⟩
 exact za7 w46 (by rw[nr46.1,nr41.1]; omega) (zyR k)
end
section
variable {K:Xs} {h:AH}
theorem zxl:∀data:List Nat,zaK (zav .u8 data)=some (data.map UInt8.ofNat)
 | []=>rfl
 | x :: xs=>by
   show (zaK (zav .u8 xs)).map (UInt8.ofNat ((x:Nat):Int).toNat :: ·)=_
   rw[zxl xs,Int.toNat_natCast]
   rfl
theorem zAF {p:Option Addr} {n c:Nat} {data:List Nat} (S:zaq h p n 1 (zav .u8 data)) (hp:p=none∨∃b off,p=some ⟨b,off,none⟩):zaH Tryz.prog h 53 9 (.slice p n c)=some (.string ⟨(data.map UInt8.ofNat).toArray⟩,h):=by
 unfold zaH
 rw[Tryz.underlying53,Tryz.underlying9]
 simp only[Tryz.underlying5,S.firstC hp,zxl]
theorem zxm (hk:K 100=none) {p p' : Option Addr} {n c n' c' : Nat} {data:List Nat} (S:zaq h p n 1 (zav .u8 data)) (hp:p=none∨∃b off,p=some ⟨b,off,none⟩) (S' : zaq h p' n' 1 (zav .u8 data)) (hp' : p'= none∨∃b off,p'= some ⟨b,off,none⟩):
 Wf Tryz.prog K 100 [.slice p n c,.slice p' n' c'] h fun v h'=>v=.bool true∧h=h':=
 zjt hk _ _ _ _ _ _ h _ ⟨_,zAF S hp,_,zAF S' hp',fun _=>⟨rfl,rfl⟩,fun z=>absurd rfl z⟩
theorem zuv {n:Nat} {sp:List (Nat×Nat)} (k:zxk n sp):(spT n sp).take 2=byB 2 sp.length∧((spT n sp).drop 2).take (sp.length * 5)=mvB sp:=by
 unfold spT
 rw[List.append_assoc]
 exact⟨List.take_left' (zaP ..),by rw[List.drop_left' (zaP ..)]; exact List.take_left' (ziU sp)⟩
theorem zrx (kk:zfM K) {n:Nat} (h1:64≤n) (h2:n≤1024) {b off c:Nat} {sp:List (Nat×Nat)} (S:zaq h (some ⟨b,off,none⟩) (spL n) 1 (zav .u8 (spT n sp))) (C:zbu Tryz.prog h 5 b (spL n) c) (k:zxk n sp):
 Wf Tryz.prog K 68 [.int .i64 (n:Nat),.slice (some ⟨b,off,none⟩) (spL n) c] h fun v h'=>∃p1 n1 c1,v=.tuple #[.slice p1 n1 c1,.int .i64 0]∧(p1=none∨∃b off,p1=some ⟨b,off,none⟩)∧zaq h' p1 n1 2 (spC sp)∧Old h h':=by
 have hl:=k.len
 have hs:=znp h1 h2
 have hb:=S.blk (by omega)
 obtain⟨q1,q2⟩:=zuv k
 refine zjr kk.mSpaces _ _ _ _ h _ ((zlt kk h1 h2).mono ?_)
 rintro _ _ ⟨rfl,rfl⟩
 refine⟨_,rfl,fun z=>absurd z (by omega),fun _=>⟨fun _ g3 e3=>?_,fun z=>absurd rfl z⟩⟩
 have o3:=zaa e3
 have n3:=zab e3
 have C3:=C.old o3 hb
 obtain⟨off4,c4,k4,ho4,C4⟩:=zno (off:=off) (hi:=2) eBytes (by simp) C3 (by omega)
 rw[ho4 (by omega)] at k4
 have S4:=(S.old o3).take (m:=2) (by omega)
 rw[Nat.mul_one,zcn,q1] at S4
 refine⟨_,_,_,k4,(zdx kk.kn.fGet kk.kn.fRoom (ws:=[2]) (za7 (zac e3) (by omega) rfl) S4 (by omega) C4 (by decide) (by decide) (fun x hx=>byB_lt hx) (zaP ..)).mono ?_⟩
 rintro _ g8 ⟨⟨b9,rfl,hb9,S9⟩,o8⟩
 have ed:dec [2] (byB 2 sp.length)=[sp.length]:=by
  have:=zdV [2] [sp.length] rfl (zAx (by omega))
  rwa [zls] at this
 rw[ed] at S9
 have o8h:=o3.trans o8
 obtain⟨b',off',e',hld⟩:=S9.get (i:=0) (by decide)
 simp only[Option.some.injEq,Addr.mk.injEq,and_true] at e'
 obtain⟨rfl,rfl⟩:=e'
 rw[show (zav .u64 [sp.length])[0]?= some (.int .u64 (sp.length:Nat)) from rfl] at hld
 refine⟨_,_,_,_,rfl,fun _=>zae ⟨by decide,by decide,_,hld,fun i16 e16=>⟨by decide,fun i17 e17 i18 e18=>⟨fun z=>?_,fun _=>zae ⟨by decide,by decide,_,hld,fun i22 e22 i23 e23 i24 e24=>?_⟩⟩⟩⟩,fun z=>absurd rfl z⟩
 ·have e16:i16=((spL n - 2:Nat):Int):=by rw[zaJ e16 (by omega) (by omega)]; omega
  subst e16
  rw[show (5:Int)=((5:Nat):Int) by rfl,zvT] at e17
  have e17:=zaJ e17 (by omega) (by omega)
  subst e17
  have e18:=zoz e18 (by omega) (by omega)
  subst e18
  omega
 have e22:=zaJ e22 (by omega) (by omega)
 subst e22
 have e23:=zaJ e23 (by omega) (by omega)
 subst e23
 have e24:i24=((2+sp.length * 5:Nat):Int):=by rw[zaJ e24 (by omega) (by omega)]; omega
 subst e24
 have C8:=C.old o8h hb
 obtain⟨off25,c25,k25,ho25,C25⟩:=zuo (off:=off) (lo:=2) (hi:=2+sp.length * 5) eBytes (by simp) C8 (by omega) (by omega)
 obtain rfl:=ho25 (by omega)
 have S25:=((S.old o8h).cut (lo:=2) (off2:=off+2 * 1) (by omega) (fun _=>rfl)).take (m:=2+sp.length * 5 - 2) (by omega)
 rw[Nat.mul_one,Nat.mul_one,Nat.add_sub_cancel_left,zdl,zcn,q2] at S25
 rw[Nat.mul_one,Nat.add_sub_cancel_left] at k25
 rw[Nat.add_sub_cancel_left] at C25
 refine⟨_,_,_,k25,(zwn kk.kn S25 C25 (by have:=o8h.1; omega) k.gap (by omega)).mono ?_⟩
 rintro _ g29 ⟨rfl,S30,o29⟩
 refine⟨_,_,_,_,rfl,fun _=>(zAD kk.kn S30 k.gap (by omega)).mono ?_,fun z=>absurd rfl z⟩
 rintro _ g35 ⟨_,rfl,⟨p36,n36,c36,sp',rfl,hp36,S36,gp',hn36,hm⟩,o35⟩
 obtain rfl:sp'= sp:=zgx gp' k.gap hm
 have o35h:=(o8h.trans o29).trans o35
 refine⟨_,_,_,_,rfl,fun _=>(znq kk h1 h2 S36 k).mono ?_,fun z=>absurd rfl z⟩
 rintro _ g41 ⟨⟨b42,rfl, -,S42⟩,o41⟩
 have o41h:=o35h.trans o41
 refine⟨_,_,_,_,rfl,fun _=>(zxm kk.bEqual S42 (.inr ⟨_,_,rfl⟩) (S.old o41h) (.inr ⟨_,_,rfl⟩)).mono ?_,fun z=>absurd rfl z⟩
 rintro _ g47 ⟨rfl,rfl⟩
 exact .inl ⟨rfl,_,_,_,rfl,hp36,S36.old o41,o41h⟩
theorem zyT (kk:zfM K) {b:Nat} (S:zaq h (some ⟨b,0,none⟩) 12 1 (zav .u8 bk1)):Wf Tryz.prog K 66 [.slice (some ⟨b,0,none⟩) 12 12] h fun v h'=>(∃b',v=.tuple #[.int .u64 1,.slice (some ⟨b',0,none⟩) 0 0,.int .i64 0])∧Old h h':=by
 have hb:=S.blk (by decide)
 have e:znl bk1=some [byB 8 1]:=zrp (by decide) (by simp[zaP])
 refine zk8 kk.eRead _ _ _ h _ ((zrt kk.fSplit kk.fLength (data:=bk1) ⟨.inr ⟨_,_,rfl⟩,zut.symm,by decide,S,fun x hx=>zxj hx⟩ (.inr ⟨_,_,rfl,.inl ⟨Nat.le_refl _,by decide⟩⟩) (fun a z=>by cases z; exact hb)).mono ?_)
 rintro v g1 ⟨sq,o1⟩
 rw[e] at sq
 obtain⟨p2,c4,rfl, -,cells,G,hrow⟩:=sq
 obtain⟨p',n',c',hc,T',C',hb'⟩:=hrow 0 (by decide)
 have hn' : n'= 8:=T'.2.1.trans (zaP ..)
 subst hn'
 obtain⟨b2,rfl⟩:=G.some (by decide)
 obtain⟨b2',off2,e2,hld⟩:=G.shows.get (i:=0) (by decide)
 simp only[Option.some.injEq,Addr.mk.injEq,and_true] at e2
 obtain⟨rfl,rfl⟩:=e2
 rw[hc] at hld
 obtain⟨z, -, -⟩ | ⟨b3,off3,rfl,C3⟩:=C'
 ·subst z
  have:=T'.2.2.2.1.2
  rcases this with z | ⟨_,_,_,_,_,z, -⟩
  ·cases z
  ·cases z
 have h3:b3 < g1.next:=(hb' _ rfl).2.1
 refine⟨_,_,_,_,rfl,fun _=>⟨fun z=>absurd z (by decide),fun _=>⟨fun z=>absurd z (by decide),fun _ g6 e6=>?_⟩⟩,fun z=>absurd rfl z⟩
 have o6:=zaa e6
 have n6:=zab e6
 have hbl:b2 < g1.next:=(G.block rfl).2
 have hld6:ld1 g6 b2 (0+0)=some (.slice (some ⟨b3,off3,none⟩) 8 c'):=by
  rw[←hld]
  unfold ld1
  rw[o6.2 _ hbl]
 refine zae ⟨by decide,by decide,_,_,_,hld6,(zdx kk.kn.fGet kk.kn.fRoom (ws:=[8]) (za7 (zac e6) (by omega) rfl) (T'.2.2.2.1.old o6) (by omega) (C3.old o6 h3) (by decide) (by decide) T'.2.2.2.2 (zaP ..)).mono ?_⟩
 rintro _ g13 ⟨⟨b14,rfl,hb14,S14⟩,o13⟩
 have ed:dec [8] (byB 8 1)=[1]:=by
  have:=zdV [8] [1] rfl (zAx (by decide))
  rwa [zls] at this
 rw[show ([byB 8 1]:List Bs)[0]=byB 8 1 from rfl,ed] at S14
 refine⟨_,_,_,_,rfl,fun _ i18 e18=>?_,fun z=>absurd rfl z⟩
 have e18:i18=0:=by rw[zaJ e18 (by decide) (by decide)]; decide
 subst e18
 refine⟨by decide,fun g19 e19=>?_⟩
 have o19:=zaa e19
 have o19g:=(o6.trans o13).trans o19
 obtain⟨off20,c20,k20, -, -⟩:=zdD (off:=0) (lo:=1) zxg (by simp) ((G.cutOk (P:=Tryz.prog) (by decide)).old o19g hbl) (by decide)
 refine⟨_,_,_,k20,fun p n c i k g=>p=some ⟨g13.next,0,none⟩∧n=0∧c=0∧i=0∧g=g19,⟨0,rfl,rfl,rfl,rfl,rfl⟩,?_⟩
 rintro k g p27 n28 c29 i ⟨rfl,rfl,rfl,rfl,rfl⟩
 have S19:=S14.old o19
 have hldn:∀{g'},Old g g'→ld1 g' b14 0=some (.int .u64 1):=fun o=>by
  obtain⟨b',off',e',hl⟩:=(S19.old o).get (i:=0) (by decide)
  simp only[Option.some.injEq,Addr.mk.injEq,and_true] at e'
  obtain⟨rfl,rfl⟩:=e'
  exact hl
 refine⟨fun z=>absurd z (by decide),fun _=>zae ⟨by decide,by decide,_,hldn (Old.refl _),(zql kk).mono ?_⟩⟩
 rintro _ g77 ⟨⟨b78,rfl, -, -,S78⟩,o77⟩
 have o77h:=(o1.trans o19g).trans o77
 refine⟨_,_,_,_,rfl,fun _=>(zxm kk.bEqual S78 (.inr ⟨_,_,rfl⟩) (S.old o77h) (.inr ⟨_,_,rfl⟩)).mono ?_,fun z=>absurd rfl z⟩
 rintro _ g83 ⟨rfl,rfl⟩
 exact .inl ⟨rfl,zae ⟨by decide,by decide,_,hldn o77,⟨_,rfl⟩,o77h⟩⟩
end
end Go.Am
