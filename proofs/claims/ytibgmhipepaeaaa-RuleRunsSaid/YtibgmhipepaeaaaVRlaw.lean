/-
  WEAKEST CONDITIONS of some functions of this program, printed by a program.
-/
import Derived.Test.YtibgmhipepaeaaaVAbb
import Derived.Test.YtibgmhipepaeaaaRows
set_option linter.unusedVariables false
set_option maxRecDepth 100000
namespace Go.Am
open Go.Proofs
abbrev aquiferlaw17_do_t1 (K : Xs) (Q : Value → AH → Prop) (h21 : AH) (h9999 : AH) (h1 : AH) (h3 : AH) (h2 : AH) (h5 : AH) (i20 : Int) : Prop :=
  (∃ i22 p23 n24 c25, ldN h21 h9999.next 0 2 = some (bC i22 p23 n24 c25) ∧
 ((2 = 2) ∧ ∃ h26, stN h21 h1.next 0 (bC i22 p23 n24 c25) = some h26 ∧
 (∃ i27 s28 b29 i30 i31 i32 i33 i34 i35 i36 p37 n38 c39, ldN h26 h3.next 0 11 = some (sC i27 s28 b29 i30 i31 i32 i33 i34 i35 i36 p37 n38 c39) ∧
 ((11 = 11) ∧ ∃ h40, stN h26 h2.next 0 (sC i27 s28 b29 i30 i31 i32 i33 i34 i35 i36 p37 n38 c39) = some h40 ∧
 ((ldN h21 h3.next 0 11 = some (sC i27 s28 b29 i30 i31 i32 i33 i34 i35 i36 p37 n38 c39)) ∧
 ((ldN h26 h3.next 0 11 = some (sC i27 s28 b29 i30 i31 i32 i33 i34 i35 i36 p37 n38 c39)) ∧
 (∃ i41 p42 n43 c44, ldN h40 h1.next 0 2 = some (bC i41 p42 n43 c44) ∧
 (∃ i45 s46 b47 i48 i49 i50 i51 i52 i53 i54 p55 n56 c57, ldN h40 h2.next 0 11 = some (sC i45 s46 b47 i48 i49 i50 i51 i52 i53 i54 p55 n56 c57) ∧
 (Q (.tuple #[.agg (bC i41 p42 n43 c44).toArray, .agg (sC i45 s46 b47 i48 i49 i50 i51 i52 i53 i54 p55 n56 c57).toArray, (.slice (some ⟨h5.next, 0, none⟩) 0 0), .int .i64 i20]) h40)))))))))
abbrev aquiferlaw17_do_t2 (K : Xs) (Q : Value → AH → Prop) (h348 : AH) (h9999 : AH) (h1 : AH) (h3 : AH) (h2 : AH) (p344 : Option Addr) (n345 : Nat) (c346 : Nat) (i347 : Int) : Prop :=
  (∃ i349 p350 n351 c352, ldN h348 h9999.next 0 2 = some (bC i349 p350 n351 c352) ∧
 ((2 = 2) ∧ ∃ h353, stN h348 h1.next 0 (bC i349 p350 n351 c352) = some h353 ∧
 (∃ i354 s355 b356 i357 i358 i359 i360 i361 i362 i363 p364 n365 c366, ldN h353 h3.next 0 11 = some (sC i354 s355 b356 i357 i358 i359 i360 i361 i362 i363 p364 n365 c366) ∧
 ((11 = 11) ∧ ∃ h367, stN h353 h2.next 0 (sC i354 s355 b356 i357 i358 i359 i360 i361 i362 i363 p364 n365 c366) = some h367 ∧
 ((ldN h348 h3.next 0 11 = some (sC i354 s355 b356 i357 i358 i359 i360 i361 i362 i363 p364 n365 c366)) ∧
 ((ldN h353 h3.next 0 11 = some (sC i354 s355 b356 i357 i358 i359 i360 i361 i362 i363 p364 n365 c366)) ∧
 (∃ i368 p369 n370 c371, ldN h367 h1.next 0 2 = some (bC i368 p369 n370 c371) ∧
 (∃ i372 s373 b374 i375 i376 i377 i378 i379 i380 i381 p382 n383 c384, ldN h367 h2.next 0 11 = some (sC i372 s373 b374 i375 i376 i377 i378 i379 i380 i381 p382 n383 c384) ∧
 (Q (.tuple #[.agg (bC i368 p369 n370 c371).toArray, .agg (sC i372 s373 b374 i375 i376 i377 i378 i379 i380 i381 p382 n383 c384).toArray, .slice p344 n345 c346, .int .i64 i347]) h367)))))))))
abbrev aquiferlaw17_do_t3 (K : Xs) (Q : Value → AH → Prop) (r212 : Value) (h213 : AH) (h9999 : AH) (h3 : AH) (h1 : AH) (h2 : AH) (h5 : AH) : Prop :=
  (∃ i214 p215 n216 c217 i218 s219 b220 i221 i222 i223 i224 i225 i226 i227 p228 n229 c230 i231, r212 = (.tuple #[.agg (bC i214 p215 n216 c217).toArray, .agg (sC i218 s219 b220 i221 i222 i223 i224 i225 i226 i227 p228 n229 c230).toArray, .int .i64 i231]) ∧
 ((2 = 2) ∧ ∃ h232, stN h213 h9999.next 0 (bC i214 p215 n216 c217) = some h232 ∧
 ((11 = 11) ∧ ∃ h233, stN h232 h3.next 0 (sC i218 s219 b220 i221 i222 i223 i224 i225 i226 i227 p228 n229 c230) = some h233 ∧
 (aquiferlaw17_do_t1 K Q h233 h9999 h1 h3 h2 h5 i231))))
theorem vc_aquiferlaw17_do {K : Xs} (hk : K 36 = none) (a : Int) (b : Option Addr) (d e : Nat) (f : Int) (g : Int) (i : ByteArray) (j : ByteArray) (k : Int) (l : Option Addr) (m n : Nat) (o : AH) (Q : Value → AH → Prop) (H :
 ∀ p, p = o.alloc (.cells (bC a b d e) 36 false) →
 ∀ q, q = p.alloc (.cells [.int .i64 f, .int .i64 g, .string i, .string j, .int .u64 k, .slice l m n] 58 false) →
 ∀ r, r = q.alloc (.cells [.int .u64 0, .slice none 0 0] 36 false) →
 ∀ s, s = r.alloc (.cells (zC) 28 false) →
 ∀ t, t = s.alloc (.cells (zC) 28 false) →
 (11 = 11) ∧ ∃ u, stN t s.next 0 (zC) = some u ∧
 (∀ v, v = u.alloc (.cells [] 25 false) →
 ∃ w, ld1 v p.next 0 = some (.int .i64 w) ∧
 (((w : Int) = 0 → ∃ x y z aa, ldN v o.next 0 2 = some (bC x y z aa) ∧
 (∃ ab, ld1 v p.next 2 = some (.string ab) ∧
 (∃ ac, ld1 v p.next 1 = some (.int .i64 ac) ∧
 (Wf Try.prog K 14 [.agg (bC x y z aa).toArray, .string ab, .int .i64 ac] v fun ad ae =>
 (∃ af ag ah ai aj, ad = (.tuple #[.agg (bC af ag ah ai).toArray, .int .i64 aj]) ∧
 ((2 = 2) ∧ ∃ ak, stN ae o.next 0 (bC af ag ah ai) = some ak ∧
 (aquiferlaw17_do_t1 K Q ak o q s r u aj))))))) ∧
 (¬ (w : Int) = 0 → ((w : Int) = 1 → ∃ al am an ao, ldN v o.next 0 2 = some (bC al am an ao) ∧
 (∃ ap, ld1 v p.next 2 = some (.string ap) ∧
 (∃ aq, ld1 v p.next 4 = some (.int .u64 aq) ∧
 (Wf Try.prog K 52 [.agg (bC al am an ao).toArray, .string ap, .int .u64 aq] v fun ar au =>
 (∃ av aw ax ay az, ar = (.tuple #[.agg (bC av aw ax ay).toArray, .int .i64 az]) ∧
 ((2 = 2) ∧ ∃ a0, stN au o.next 0 (bC av aw ax ay) = some a0 ∧
 (aquiferlaw17_do_t1 K Q a0 o q s r u az))))))) ∧
 (¬ (w : Int) = 1 → ((w : Int) = 2 → ∃ a1 a2 a3 a4, ldN v o.next 0 2 = some (bC a1 a2 a3 a4) ∧
 (∃ a5, ld1 v p.next 2 = some (.string a5) ∧
 (∃ a6, ld1 v p.next 3 = some (.string a6) ∧
 (Wf Try.prog K 60 [.agg (bC a1 a2 a3 a4).toArray, .string a5, .string a6] v fun a7 a8 =>
 (∃ a9 ba bb bc bd, a7 = (.tuple #[.agg (bC a9 ba bb bc).toArray, .int .i64 bd]) ∧
 ((2 = 2) ∧ ∃ be, stN a8 o.next 0 (bC a9 ba bb bc) = some be ∧
 (aquiferlaw17_do_t1 K Q be o q s r u bd))))))) ∧
 (¬ (w : Int) = 2 → ((w : Int) = 3 → ∃ bf bg bh bi, ldN v o.next 0 2 = some (bC bf bg bh bi) ∧
 (∃ bj, ld1 v p.next 2 = some (.string bj) ∧
 (Wf Try.prog K 61 [.agg (bC bf bg bh bi).toArray, .string bj] v fun bk bl =>
 (∃ bm bn bo bp bq, bk = (.tuple #[.agg (bC bm bn bo bp).toArray, .int .i64 bq]) ∧
 ((2 = 2) ∧ ∃ br, stN bl o.next 0 (bC bm bn bo bp) = some br ∧
 (aquiferlaw17_do_t1 K Q br o q s r u bq)))))) ∧
 (¬ (w : Int) = 3 → ((w : Int) = 4 → ∃ bs bt bu bv, ldN v o.next 0 2 = some (bC bs bt bu bv) ∧
 (∃ bw, ld1 v p.next 2 = some (.string bw) ∧
 (Wf Try.prog K 62 [.agg (bC bs bt bu bv).toArray, .string bw] v fun bx bz =>
 (aquiferlaw17_do_t3 K Q bx bz o s q r u)))) ∧
 (¬ (w : Int) = 4 → ((w : Int) = 5 → ∃ b0 b1 b2 b3, ldN v o.next 0 2 = some (bC b0 b1 b2 b3) ∧
 (∃ b4, ld1 v p.next 2 = some (.string b4) ∧
 (Wf Try.prog K 63 [.agg (bC b0 b1 b2 b3).toArray, .string b4] v fun b5 b6 =>
 (aquiferlaw17_do_t3 K Q b5 b6 o s q r u)))) ∧
 (¬ (w : Int) = 5 → ((w : Int) = 6 → ∃ b7 b8 b9 da, ldN v o.next 0 2 = some (bC b7 b8 b9 da) ∧
 (∃ db, ld1 v p.next 2 = some (.string db) ∧
 (Wf Try.prog K 64 [.agg (bC b7 b8 b9 da).toArray, .string db] v fun dc dd =>
 (∃ de df dg dh di dj dk dl, dc = (.tuple #[.agg (bC de df dg dh).toArray, .slice di dj dk, .int .i64 dl]) ∧
 ((2 = 2) ∧ ∃ dm, stN dd o.next 0 (bC de df dg dh) = some dm ∧
 (aquiferlaw17_do_t2 K Q dm o q s r di dj dk dl)))))) ∧
 (¬ (w : Int) = 6 → ((w : Int) = 7 → ∀ dn, dn = v.alloc (.cells [] 25 false) →
 ∃ dp dq dr, ld1 dn p.next 5 = some (.slice dp dq dr) ∧
 (∃ ds dt du dv, aBuiltin Try.prog dn .append #[26, 26] [(.slice (some ⟨v.next, 0, none⟩) 0 0), .slice dp dq dr] = some (.slice ds dt du, dv) ∧
 (∃ dw dx dy dz, ldN dv o.next 0 2 = some (bC dw dx dy dz) ∧
 (∃ d0, ld1 dv p.next 4 = some (.int .u64 d0) ∧
 (Wf Try.prog K 53 [.agg (bC dw dx dy dz).toArray, .int .u64 d0, .slice ds dt du] dv fun d1 d2 =>
 (∃ d3 d4 d5 d6 d7 d8 d9 ea, d1 = (.tuple #[.agg (bC d3 d4 d5 d6).toArray, .slice d7 d8 d9, .int .i64 ea]) ∧
 ((2 = 2) ∧ ∃ eb, stN d2 o.next 0 (bC d3 d4 d5 d6) = some eb ∧
 ((ldN dn o.next 0 2 = some (bC dw dx dy dz)) ∧
 ((ldN dv o.next 0 2 = some (bC dw dx dy dz)) ∧
 ((ld1 dn p.next 4 = some (.int .u64 d0)) ∧
 ((ld1 dv p.next 4 = some (.int .u64 d0)) ∧
 (aquiferlaw17_do_t2 K Q eb o q s r d7 d8 d9 ea)))))))))))) ∧
 (¬ (w : Int) = 7 → ∃ ec ed ee ef, ldN v o.next 0 2 = some (bC ec ed ee ef) ∧
 ((2 = 2) ∧ ∃ eg, stN v q.next 0 (bC ec ed ee ef) = some eg ∧
 (∃ eh ei ej ek el em en eo ep eq er es et, ldN eg s.next 0 11 = some (sC eh ei ej ek el em en eo ep eq er es et) ∧
 ((11 = 11) ∧ ∃ eu, stN eg r.next 0 (sC eh ei ej ek el em en eo ep eq er es et) = some eu ∧
 ((ldN v s.next 0 11 = some (sC eh ei ej ek el em en eo ep eq er es et)) ∧
 ((ldN eg s.next 0 11 = some (sC eh ei ej ek el em en eo ep eq er es et)) ∧
 (∃ ev ew ex ey, ldN eu q.next 0 2 = some (bC ev ew ex ey) ∧
 (∃ ez e0 e1 e2 e3 e4 e5 e6 e7 e8 e9 fa fb, ldN eu r.next 0 11 = some (sC ez e0 e1 e2 e3 e4 e5 e6 e7 e8 e9 fa fb) ∧
 (Q (.tuple #[.agg (bC ev ew ex ey).toArray, .agg (sC ez e0 e1 e2 e3 e4 e5 e6 e7 e8 e9 fa fb).toArray, (.slice (some ⟨u.next, 0, none⟩) 0 0), .int .i64 0]) eu))))))))))))))))))) :
 Wf Try.prog K 36 [.agg (bC a b d e).toArray, .agg #[.int .i64 f, .int .i64 g, .string i, .string j, .int .u64 k, .slice l m n]] o Q :=
  vcF_sound (hs := []) hk (Eq.mpr (by kernel_rfl) H)
abbrev aquiferlaw17_want_t1 (K : Xs) (Q : Value → AH → Prop) (ak : AH) (o : AH) (q : AH) (s : AH) (r : AH) (u : AH) (aj : Int) : Prop :=
  (∃ fc fd fe ff, ldN ak o.next 0 2 = some (bC fc fd fe ff) ∧
 ((2 = 2) ∧ ∃ fg, stN ak q.next 0 (bC fc fd fe ff) = some fg ∧
 (∃ fh fi fj fk fl fm fn fo fp fq fr fs ft, ldN fg s.next 0 11 = some (sC fh fi fj fk fl fm fn fo fp fq fr fs ft) ∧
 ((11 = 11) ∧ ∃ fu, stN fg r.next 0 (sC fh fi fj fk fl fm fn fo fp fq fr fs ft) = some fu ∧
 ((ldN ak s.next 0 11 = some (sC fh fi fj fk fl fm fn fo fp fq fr fs ft)) ∧
 ((ldN fg s.next 0 11 = some (sC fh fi fj fk fl fm fn fo fp fq fr fs ft)) ∧
 (∃ fv fw fx fy, ldN fu q.next 0 2 = some (bC fv fw fx fy) ∧
 (∃ fz f0 f1 f2 f3 f4 f5 f6 f7 f8 f9 ga gb, ldN fu r.next 0 11 = some (sC fz f0 f1 f2 f3 f4 f5 f6 f7 f8 f9 ga gb) ∧
 (Q (.tuple #[.agg (bC fv fw fx fy).toArray, .agg (sC fz f0 f1 f2 f3 f4 f5 f6 f7 f8 f9 ga gb).toArray, (.slice (some ⟨u.next, 0, none⟩) 0 0), .int .i64 aj]) fu)))))))))
abbrev aquiferlaw17_want_t2 (K : Xs) (Q : Value → AH → Prop) (dc : Value) (dd : AH) (o : AH) (q : AH) (s : AH) (r : AH) : Prop :=
  (∃ de df dg dh di dj dk dl, dc = (.tuple #[.agg (bC de df dg dh).toArray, .slice di dj dk, .int .i64 dl]) ∧
 ((2 = 2) ∧ ∃ dm, stN dd o.next 0 (bC de df dg dh) = some dm ∧
 (∃ gc gd ge gf, ldN dm o.next 0 2 = some (bC gc gd ge gf) ∧
 ((2 = 2) ∧ ∃ gg, stN dm q.next 0 (bC gc gd ge gf) = some gg ∧
 (∃ gh gi gj gk gl gm gn gp gq gr gs gt gu, ldN gg s.next 0 11 = some (sC gh gi gj gk gl gm gn gp gq gr gs gt gu) ∧
 ((11 = 11) ∧ ∃ gv, stN gg r.next 0 (sC gh gi gj gk gl gm gn gp gq gr gs gt gu) = some gv ∧
 ((ldN dm s.next 0 11 = some (sC gh gi gj gk gl gm gn gp gq gr gs gt gu)) ∧
 ((ldN gg s.next 0 11 = some (sC gh gi gj gk gl gm gn gp gq gr gs gt gu)) ∧
 (∃ gw gx gy gz, ldN gv q.next 0 2 = some (bC gw gx gy gz) ∧
 (∃ g0 g1 g2 g3 g4 g5 g6 g7 g8 g9 ia ib ic, ldN gv r.next 0 11 = some (sC g0 g1 g2 g3 g4 g5 g6 g7 g8 g9 ia ib ic) ∧
 (Q (.tuple #[.agg (bC gw gx gy gz).toArray, .agg (sC g0 g1 g2 g3 g4 g5 g6 g7 g8 g9 ia ib ic).toArray, .slice di dj dk, .int .i64 dl]) gv)))))))))))
abbrev aquiferlaw17_want_t3 (K : Xs) (Q : Value → AH → Prop) (bx : Value) (bz : AH) (o : AH) (s : AH) (q : AH) (r : AH) (u : AH) : Prop :=
  (∃ id ie ig ih ii ij ik il im io ip iq ir it iu iv iw ix, bx = (.tuple #[.agg (bC id ie ig ih).toArray, .agg (sC ii ij ik il im io ip iq ir it iu iv iw).toArray, .int .i64 ix]) ∧
 ((2 = 2) ∧ ∃ iy, stN bz o.next 0 (bC id ie ig ih) = some iy ∧
 ((11 = 11) ∧ ∃ iz, stN iy s.next 0 (sC ii ij ik il im io ip iq ir it iu iv iw) = some iz ∧
 (aquiferlaw17_want_t1 K Q iz o q s r u ix))))
theorem vc_aquiferlaw17_want {K : Xs} (hk : K 37 = none) (a : Int) (b : Option Addr) (d e : Nat) (f : Int) (g : Int) (i : ByteArray) (j : ByteArray) (k : Int) (l : Option Addr) (m n : Nat) (o : AH) (Q : Value → AH → Prop) (H :
 ∀ p, p = o.alloc (.cells (bC a b d e) 36 false) →
 ∀ q, q = p.alloc (.cells [.int .i64 f, .int .i64 g, .string i, .string j, .int .u64 k, .slice l m n] 58 false) →
 ∀ r, r = q.alloc (.cells [.int .u64 0, .slice none 0 0] 36 false) →
 ∀ s, s = r.alloc (.cells (zC) 28 false) →
 ∀ t, t = s.alloc (.cells (zC) 28 false) →
 (11 = 11) ∧ ∃ u, stN t s.next 0 (zC) = some u ∧
 (∀ v, v = u.alloc (.cells [] 25 false) →
 ∃ w, ld1 v p.next 0 = some (.int .i64 w) ∧
 (((w : Int) = 0 → ∃ x y z aa, ldN v o.next 0 2 = some (bC x y z aa) ∧
 (∃ ab, ld1 v p.next 2 = some (.string ab) ∧
 (∃ ac, ld1 v p.next 1 = some (.int .i64 ac) ∧
 (Wf Try.prog K 65 [.agg (bC x y z aa).toArray, .string ab, .int .i64 ac] v fun ad ae =>
 (∃ af ag ah ai aj, ad = (.tuple #[.agg (bC af ag ah ai).toArray, .int .i64 aj]) ∧
 ((2 = 2) ∧ ∃ ak, stN ae o.next 0 (bC af ag ah ai) = some ak ∧
 (aquiferlaw17_want_t1 K Q ak o q s r u aj))))))) ∧
 (¬ (w : Int) = 0 → ((w : Int) = 1 → ∃ al am an ao, ldN v o.next 0 2 = some (bC al am an ao) ∧
 (∃ ap, ld1 v p.next 2 = some (.string ap) ∧
 (∃ aq, ld1 v p.next 4 = some (.int .u64 aq) ∧
 (Wf Try.prog K 66 [.agg (bC al am an ao).toArray, .string ap, .int .u64 aq] v fun ar au =>
 (∃ av aw ax ay az, ar = (.tuple #[.agg (bC av aw ax ay).toArray, .int .i64 az]) ∧
 ((2 = 2) ∧ ∃ a0, stN au o.next 0 (bC av aw ax ay) = some a0 ∧
 (aquiferlaw17_want_t1 K Q a0 o q s r u az))))))) ∧
 (¬ (w : Int) = 1 → ((w : Int) = 2 → ∃ a1 a2 a3 a4, ldN v o.next 0 2 = some (bC a1 a2 a3 a4) ∧
 (∃ a5, ld1 v p.next 2 = some (.string a5) ∧
 (∃ a6, ld1 v p.next 3 = some (.string a6) ∧
 (Wf Try.prog K 67 [.agg (bC a1 a2 a3 a4).toArray, .string a5, .string a6] v fun a7 a8 =>
 (∃ a9 ba bb bc bd, a7 = (.tuple #[.agg (bC a9 ba bb bc).toArray, .int .i64 bd]) ∧
 ((2 = 2) ∧ ∃ be, stN a8 o.next 0 (bC a9 ba bb bc) = some be ∧
 (aquiferlaw17_want_t1 K Q be o q s r u bd))))))) ∧
 (¬ (w : Int) = 2 → ((w : Int) = 3 → ∃ bf bg bh bi, ldN v o.next 0 2 = some (bC bf bg bh bi) ∧
 (∃ bj, ld1 v p.next 2 = some (.string bj) ∧
 (Wf Try.prog K 68 [.agg (bC bf bg bh bi).toArray, .string bj] v fun bk bl =>
 (∃ bm bn bo bp bq, bk = (.tuple #[.agg (bC bm bn bo bp).toArray, .int .i64 bq]) ∧
 ((2 = 2) ∧ ∃ br, stN bl o.next 0 (bC bm bn bo bp) = some br ∧
 (aquiferlaw17_want_t1 K Q br o q s r u bq)))))) ∧
 (¬ (w : Int) = 3 → ((w : Int) = 4 → ∃ bs bt bu bv, ldN v o.next 0 2 = some (bC bs bt bu bv) ∧
 (∃ bw, ld1 v p.next 2 = some (.string bw) ∧
 (Wf Try.prog K 69 [.agg (bC bs bt bu bv).toArray, .string bw] v fun bx bz =>
 (aquiferlaw17_want_t3 K Q bx bz o s q r u)))) ∧
 (¬ (w : Int) = 4 → ((w : Int) = 5 → ∃ b0 b1 b2 b3, ldN v o.next 0 2 = some (bC b0 b1 b2 b3) ∧
 (∃ b4, ld1 v p.next 2 = some (.string b4) ∧
 (Wf Try.prog K 70 [.agg (bC b0 b1 b2 b3).toArray, .string b4] v fun b5 b6 =>
 (aquiferlaw17_want_t3 K Q b5 b6 o s q r u)))) ∧
 (¬ (w : Int) = 5 → ((w : Int) = 6 → ∃ b7 b8 b9 da, ldN v o.next 0 2 = some (bC b7 b8 b9 da) ∧
 (∃ db, ld1 v p.next 2 = some (.string db) ∧
 (Wf Try.prog K 71 [.agg (bC b7 b8 b9 da).toArray, .string db] v fun dc dd =>
 (aquiferlaw17_want_t2 K Q dc dd o q s r)))) ∧
 (¬ (w : Int) = 6 → ((w : Int) = 7 → ∃ de df dg dh, ldN v o.next 0 2 = some (bC de df dg dh) ∧
 (∃ di, ld1 v p.next 4 = some (.int .u64 di) ∧
 (∃ dj dk dl, ld1 v p.next 5 = some (.slice dj dk dl) ∧
 (Wf Try.prog K 72 [.agg (bC de df dg dh).toArray, .int .u64 di, .slice dj dk dl] v fun dm dn =>
 (aquiferlaw17_want_t2 K Q dm dn o q s r))))) ∧
 (¬ (w : Int) = 7 → ∃ dp dq dr ds, ldN v o.next 0 2 = some (bC dp dq dr ds) ∧
 ((2 = 2) ∧ ∃ dt, stN v q.next 0 (bC dp dq dr ds) = some dt ∧
 (∃ du dv dw dx dy dz d0 d1 d2 d3 d4 d5 d6, ldN dt s.next 0 11 = some (sC du dv dw dx dy dz d0 d1 d2 d3 d4 d5 d6) ∧
 ((11 = 11) ∧ ∃ d7, stN dt r.next 0 (sC du dv dw dx dy dz d0 d1 d2 d3 d4 d5 d6) = some d7 ∧
 ((ldN v s.next 0 11 = some (sC du dv dw dx dy dz d0 d1 d2 d3 d4 d5 d6)) ∧
 ((ldN dt s.next 0 11 = some (sC du dv dw dx dy dz d0 d1 d2 d3 d4 d5 d6)) ∧
 (∃ d8 d9 ea eb, ldN d7 q.next 0 2 = some (bC d8 d9 ea eb) ∧
 (∃ ec ed ee ef eg eh ei ej ek el em en eo, ldN d7 r.next 0 11 = some (sC ec ed ee ef eg eh ei ej ek el em en eo) ∧
 (Q (.tuple #[.agg (bC d8 d9 ea eb).toArray, .agg (sC ec ed ee ef eg eh ei ej ek el em en eo).toArray, (.slice (some ⟨u.next, 0, none⟩) 0 0), .int .i64 0]) d7))))))))))))))))))) :
 Wf Try.prog K 37 [.agg (bC a b d e).toArray, .agg #[.int .i64 f, .int .i64 g, .string i, .string j, .int .u64 k, .slice l m n]] o Q :=
  vcF_sound (hs := []) hk (Eq.mpr (by kernel_rfl) H)
theorem vc_aquiferlaw17_RuleRuns {K : Xs} (hk : K 10 = none) (a : Option Addr) (b d : Nat) (e : AH) (Q : Value → AH → Prop) (H :
 Wf Try.prog K 15 [] e fun f g =>
 (((f = (.bool true) ∧
 (((60 : Int) < ((b : Nat) : Int) → Q (.bool true) g) ∧
 (¬ (60 : Int) < ((b : Nat) : Int) → ∀ i, i = g.alloc (.cells [.int .u64 0, .slice none 0 0] 36 false) →
 (2 = 2) ∧ ∃ j, stN i g.next 0 [.int .u64 1, .slice none 0 0] = some j ∧
 (∀ k, k = j.alloc (.cells [.int .u64 0, .slice none 0 0] 36 false) →
 (2 = 2) ∧ ∃ l, stN k j.next 0 [.int .u64 1, .slice none 0 0] = some l ∧
 (∃ m : Int → Nat → AH → Prop, (∃ n, m 0 n l) ∧
 ∀ (o : Nat) (p : AH) (q : Int), m q o p →
 ((q : Int) < ((b : Nat) : Int) → derefP a fun r s => (((0 : Int) ≤ q) ∧ ((q : Int) < ((b : Nat) : Int)) ∧
 (∃ t u v w x y z aa, ldN p r (s + Int.toNat q * 6) 6 = some [.int .i64 t, .int .i64 u, .string v, .string w, .int .u64 x, .slice y z aa] ∧
 (∀ ab, ab = p.alloc (.cells [.int .i64 0, .int .i64 0, (.string (ByteArray.mk #[])), (.string (ByteArray.mk #[])), .int .u64 0, .slice none 0 0] 58 false) →
 (6 = 6) ∧ ∃ ac, stN ab p.next 0 [.int .i64 t, .int .i64 u, .string v, .string w, .int .u64 x, .slice y z aa] = some ac ∧
 (∃ ad ae af, ld1 ac p.next 5 = some (.slice ad ae af) ∧
 (((20 : Int) < ((ae : Nat) : Int) → ∀ ag : Int, ag = IntKind.wrap .i64 (q + 1) → ∃ ah, ah < o ∧ m ag ah ac) ∧
 (¬ (20 : Int) < ((ae : Nat) : Int) → ∃ ai aj ak al, ldN ac g.next 0 2 = some (bC ai aj ak al) ∧
 (∃ am an ao ap aq ar au av, ldN ac p.next 0 6 = some [.int .i64 am, .int .i64 an, .string ao, .string ap, .int .u64 aq, .slice ar au av] ∧
 (Wf Try.prog K 36 [.agg (bC ai aj ak al).toArray, .agg #[.int .i64 am, .int .i64 an, .string ao, .string ap, .int .u64 aq, .slice ar au av]] ac fun aw ax =>
 (∃ ay az a0 a1 a2 a3 a4 a5 a6 a7 a8 a9 ba bb bc bd be bf bg bh bi, aw = (.tuple #[.agg (bC ay az a0 a1).toArray, .agg (sC a2 a3 a4 a5 a6 a7 a8 a9 ba bb bc bd be).toArray, .slice bf bg bh, .int .i64 bi]) ∧
 (∀ bj, bj = ax.alloc (.cells [.int .u64 0, .slice none 0 0] 36 false) →
 ∀ bk, bk = bj.alloc (.cells (zC) 28 false) →
 (2 = 2) ∧ ∃ bl, stN bk ax.next 0 (bC ay az a0 a1) = some bl ∧
 ((11 = 11) ∧ ∃ bm, stN bl bj.next 0 (sC a2 a3 a4 a5 a6 a7 a8 a9 ba bb bc bd be) = some bm ∧
 (∃ bn bo bp bq, ldN bm j.next 0 2 = some (bC bn bo bp bq) ∧
 (∃ br bs bt bu bv bw bx bz, ldN bm p.next 0 6 = some [.int .i64 br, .int .i64 bs, .string bt, .string bu, .int .u64 bv, .slice bw bx bz] ∧
 (Wf Try.prog K 37 [.agg (bC bn bo bp bq).toArray, .agg #[.int .i64 br, .int .i64 bs, .string bt, .string bu, .int .u64 bv, .slice bw bx bz]] bm fun b0 b1 =>
 (∃ b2 b3 b4 b5 b6 b7 b8 b9 da db dc dd de df dg dh di dj dk dl dm, b0 = (.tuple #[.agg (bC b2 b3 b4 b5).toArray, .agg (sC b6 b7 b8 b9 da db dc dd de df dg dh di).toArray, .slice dj dk dl, .int .i64 dm]) ∧
 (∀ dn, dn = b1.alloc (.cells [.int .u64 0, .slice none 0 0] 36 false) →
 ∀ dp, dp = dn.alloc (.cells (zC) 28 false) →
 (2 = 2) ∧ ∃ dq, stN dp b1.next 0 (bC b2 b3 b4 b5) = some dq ∧
 ((11 = 11) ∧ ∃ dr, stN dq dn.next 0 (sC b6 b7 b8 b9 da db dc dd de df dg dh di) = some dr ∧
 (∃ ds dt du dv, ldN dr ax.next 0 2 = some (bC ds dt du dv) ∧
 (∃ dw dx dy dz, ldN dr b1.next 0 2 = some (bC dw dx dy dz) ∧
 (Wf Try.prog K 38 [.agg (bC ds dt du dv).toArray, .agg (bC dw dx dy dz).toArray] dr fun d0 d1 =>
 (((d0 = (.bool true) ∧
 (∃ d2 d3 d4 d5 d6 d7 d8 d9 ea eb ec ed ee, ldN d1 bj.next 0 11 = some (sC d2 d3 d4 d5 d6 d7 d8 d9 ea eb ec ed ee) ∧
 (∃ ef eg eh ei ej ek el em en eo ep eq er, ldN d1 dn.next 0 11 = some (sC ef eg eh ei ej ek el em en eo ep eq er) ∧
 (Wf Try.prog K 27 [.agg (sC d2 d3 d4 d5 d6 d7 d8 d9 ea eb ec ed ee).toArray, .agg (sC ef eg eh ei ej ek el em en eo ep eq er).toArray] d1 fun es et =>
 (((es = (.bool true) ∧
 (Wf Try.prog K 39 [.slice bf bg bh, .slice dj dk dl] et fun eu ev =>
 (((eu = (.bool true) ∧
 (((bi : Int) = dm → ∃ ew, ld1 ev ax.next 0 = some (.int .u64 ew) ∧
 (∃ ex ey ez, ld1 ev ax.next 1 = some (.slice ex ey ez) ∧
 (Wf Try.prog K 13 (bC ew ex ey ez) ev fun e0 e1 =>
 (((e0 = (.bool true) ∧
 (∃ e2 e3 e4 e5, ldN e1 ax.next 0 2 = some (bC e2 e3 e4 e5) ∧
 ((2 = 2) ∧ ∃ e6, stN e1 g.next 0 (bC e2 e3 e4 e5) = some e6 ∧
 (∃ e7 e8 e9 fa, ldN e6 b1.next 0 2 = some (bC e7 e8 e9 fa) ∧
 ((2 = 2) ∧ ∃ fb, stN e6 j.next 0 (bC e7 e8 e9 fa) = some fb ∧
 (∀ fc : Int, fc = IntKind.wrap .i64 (q + 1) → ∃ ah, ah < o ∧ m fc ah fb)))))) ∨ (e0 = (.bool false) ∧
 (Q (.bool false) e1))))))) ∧
 (¬ (bi : Int) = dm → Q (.bool false) ev))) ∨ (eu = (.bool false) ∧
 (Q (.bool false) ev)))))) ∨ (es = (.bool false) ∧
 (Q (.bool false) et)))))))) ∨ (d0 = (.bool false) ∧
 (Q (.bool false) d1))))))))))))))))))))))))) ∧
 (¬ (q : Int) < ((b : Nat) : Int) → Q (.bool true) p)))))) ∨ (f = (.bool false) ∧
 (Q (.bool false) g))))) :
 Wf Try.prog K 10 [.slice a b d] e Q :=
  vcF_sound (hs := [(8, [(24, .int .i64 0)])]) hk (Eq.mpr (by kernel_rfl) H)
end Go.Am
