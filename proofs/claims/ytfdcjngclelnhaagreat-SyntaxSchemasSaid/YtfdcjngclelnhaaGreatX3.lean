/- Part of a proof. -/
import Derived.Test.YtfdcjngclelnhaaGreatXS
set_option linter.unusedSectionVars false
set_option linter.unusedSimpArgs false
set_option linter.unusedVariables false
namespace Go.Proofs.YtfdcjngclelnhaaGreat
open Go Go.RowKit
set_option maxRecDepth 100000
set_option maxHeartbeats 4000000
noncomputable section
inductive Q5c where
 | e (s0:B74)
 | l0 (y0:B74) (y1:D)
 | l1 (y0:B74) (y1:Int) (y2:List D) (y3:Nat)
def Qgw:Q5c → Pth × List AV × Heap
 | .e s0=>([],startT Tryz.f31 [.ptr (some (0,0))],[b74 s0 0])
 | .l0 y0 y1=>([0,0,1,1,1,1],mkT 61 [(0,.ptr (some (0,0))),(2,.ptr (some (1,0))),(3,.ptr (some (2,0)))],[some (o74 y0 0),some (.cells 38 [.dat (.int .i64 0),.dat (.bool false),.dat .nils,.dat .nils,.dat .nils,.dat .nils,.dat .nils,.dat .nils,.dat (.int .i64 0),.dat .nils] 0),some (sbx 38 y1 10)])
 | .l1 y0 y1 y2 y3=>([0,0,1,1,1,1],mkT 61 [(0,.ptr (some (0,0))),(2,.ptr (some (1,0))),(3,.ptr (some (2,0)))],[some (o74 y0 0),some (.cells 38 [.dat (.int .i64 0),.dat (.bool false),.dat .nils,.dat .nils,.dat .nils,.dat .nils,.dat .nils,.dat .nils,.dat (.int .i64 0),.dat .nils] 0),some (.cells 38 [.dat (.int .i64 y1),.dat (.bool false),.dat .nils,.dat .nils,.dat .nils,.dat .nils,.dat .nils,.dat .nils,.dat (.int .i64 (-1)),.own .full y2] y3)])
def Ja (S:Q9) (r:D × B74 → Prop) (l:Q5c → Prop):Q5c → Prop
 | .e s0=>bn (S.p_down s0) fun x83=>cnd (x83.c4 != 0) (r ((.agg [.int .i64 0,.bool false,.nils,.nils,.nils,.nils,.nils,.nils,.int .i64 0,.nils]),(B74.mk x83.c0 x83.c1 (IntKind.i64.wrap (x83.c2 - 1)) x83.c3 x83.c4))) (bn (S.p_part x83) fun x84=>an (okG 38 x84.1) (fl x84.1 [2,3,4,5,6,7,9] (l (.l0 x84.2 x84.1))))
 | .l0 y0 y1=>cnd (y0.c4 == 0) (bn (S.p_is y0 [117,110,105,111,110]) fun x85=>cnd x85.1 (bn (S.p_take x85.2 [117,110,105,111,110]) fun x86=>cnd x86.1 (bn (S.p_take x86.2 [97,108,108]) fun x87=>cnd x87.1 (bn (S.p_part x87.2) fun x88=>an (okG 38 x88.1) (l (.l1 x88.2 3 [G 38 y1,G 38 x88.1] 20))) (bn (S.p_part x87.2) fun x89=>an (okG 38 x89.1) (l (.l1 x89.2 2 [G 38 y1,G 38 x89.1] 20)))) (bn (S.p_take x86.2 [101,120,99,101,112,116]) fun x90=>cnd x90.1 (bn (S.p_part x90.2) fun x91=>an (okG 38 x91.1) (l (.l1 x91.2 4 [G 38 y1,G 38 x91.1] 20))) (bn (S.p_must x90.2 [105,110,116,101,114,115,101,99,116]) fun x92=>bn (S.p_part x92) fun x93=>an (okG 38 x93.1) (l (.l1 x93.2 5 [G 38 y1,G 38 x93.1] 20))))) (bn (S.p_is x85.2 [101,120,99,101,112,116]) fun x94=>cnd x94.1 (bn (S.p_take x94.2 [117,110,105,111,110]) fun x95=>cnd x95.1 (bn (S.p_take x95.2 [97,108,108]) fun x96=>cnd x96.1 (bn (S.p_part x96.2) fun x97=>an (okG 38 x97.1) (l (.l1 x97.2 3 [G 38 y1,G 38 x97.1] 20))) (bn (S.p_part x96.2) fun x98=>an (okG 38 x98.1) (l (.l1 x98.2 2 [G 38 y1,G 38 x98.1] 20)))) (bn (S.p_take x95.2 [101,120,99,101,112,116]) fun x99=>cnd x99.1 (bn (S.p_part x99.2) fun x100=>an (okG 38 x100.1) (l (.l1 x100.2 4 [G 38 y1,G 38 x100.1] 20))) (bn (S.p_must x99.2 [105,110,116,101,114,115,101,99,116]) fun x101=>bn (S.p_part x101) fun x102=>an (okG 38 x102.1) (l (.l1 x102.2 5 [G 38 y1,G 38 x102.1] 20))))) (bn (S.p_is x94.2 [105,110,116,101,114,115,101,99,116]) fun x103=>cnd x103.1 (bn (S.p_take x103.2 [117,110,105,111,110]) fun x104=>cnd x104.1 (bn (S.p_take x104.2 [97,108,108]) fun x105=>cnd x105.1 (bn (S.p_part x105.2) fun x106=>an (okG 38 x106.1) (l (.l1 x106.2 3 [G 38 y1,G 38 x106.1] 20))) (bn (S.p_part x105.2) fun x107=>an (okG 38 x107.1) (l (.l1 x107.2 2 [G 38 y1,G 38 x107.1] 20)))) (bn (S.p_take x104.2 [101,120,99,101,112,116]) fun x108=>cnd x108.1 (bn (S.p_part x108.2) fun x109=>an (okG 38 x109.1) (l (.l1 x109.2 4 [G 38 y1,G 38 x109.1] 20))) (bn (S.p_must x108.2 [105,110,116,101,114,115,101,99,116]) fun x110=>bn (S.p_part x110) fun x111=>an (okG 38 x111.1) (l (.l1 x111.2 5 [G 38 y1,G 38 x111.1] 20))))) (fl y1 [2,3,4,5,6,7,9] (r ((G 38 y1),(B74.mk x103.2.c0 x103.2.c1 (IntKind.i64.wrap (x103.2.c2 - 1)) x103.2.c3 x103.2.c4))))))) (fl y1 [2,3,4,5,6,7,9] (r ((G 38 y1),(B74.mk y0.c0 y0.c1 (IntKind.i64.wrap (y0.c2 - 1)) y0.c3 y0.c4))))
 | .l1 y0 y1 y2 y3=>cnd (y0.c4 == 0) (bn (S.p_is y0 [117,110,105,111,110]) fun x112=>cnd x112.1 (bn (S.p_take x112.2 [117,110,105,111,110]) fun x113=>cnd x113.1 (bn (S.p_take x113.2 [97,108,108]) fun x114=>cnd x114.1 (bn (S.p_part x114.2) fun x115=>an (okG 38 x115.1) (l (.l1 x115.2 3 [.agg [.int .i64 y1,.bool false,.nils,.nils,.nils,.nils,.nils,.nils,.int .i64 (-1),D.slice y2],G 38 x115.1] (y3 + 10)))) (bn (S.p_part x114.2) fun x116=>an (okG 38 x116.1) (l (.l1 x116.2 2 [.agg [.int .i64 y1,.bool false,.nils,.nils,.nils,.nils,.nils,.nils,.int .i64 (-1),D.slice y2],G 38 x116.1] (y3 + 10))))) (bn (S.p_take x113.2 [101,120,99,101,112,116]) fun x117=>cnd x117.1 (bn (S.p_part x117.2) fun x118=>an (okG 38 x118.1) (l (.l1 x118.2 4 [.agg [.int .i64 y1,.bool false,.nils,.nils,.nils,.nils,.nils,.nils,.int .i64 (-1),D.slice y2],G 38 x118.1] (y3 + 10)))) (bn (S.p_must x117.2 [105,110,116,101,114,115,101,99,116]) fun x119=>bn (S.p_part x119) fun x120=>an (okG 38 x120.1) (l (.l1 x120.2 5 [.agg [.int .i64 y1,.bool false,.nils,.nils,.nils,.nils,.nils,.nils,.int .i64 (-1),D.slice y2],G 38 x120.1] (y3 + 10)))))) (bn (S.p_is x112.2 [101,120,99,101,112,116]) fun x121=>cnd x121.1 (bn (S.p_take x121.2 [117,110,105,111,110]) fun x122=>cnd x122.1 (bn (S.p_take x122.2 [97,108,108]) fun x123=>cnd x123.1 (bn (S.p_part x123.2) fun x124=>an (okG 38 x124.1) (l (.l1 x124.2 3 [.agg [.int .i64 y1,.bool false,.nils,.nils,.nils,.nils,.nils,.nils,.int .i64 (-1),D.slice y2],G 38 x124.1] (y3 + 10)))) (bn (S.p_part x123.2) fun x125=>an (okG 38 x125.1) (l (.l1 x125.2 2 [.agg [.int .i64 y1,.bool false,.nils,.nils,.nils,.nils,.nils,.nils,.int .i64 (-1),D.slice y2],G 38 x125.1] (y3 + 10))))) (bn (S.p_take x122.2 [101,120,99,101,112,116]) fun x126=>cnd x126.1 (bn (S.p_part x126.2) fun x127=>an (okG 38 x127.1) (l (.l1 x127.2 4 [.agg [.int .i64 y1,.bool false,.nils,.nils,.nils,.nils,.nils,.nils,.int .i64 (-1),D.slice y2],G 38 x127.1] (y3 + 10)))) (bn (S.p_must x126.2 [105,110,116,101,114,115,101,99,116]) fun x128=>bn (S.p_part x128) fun x129=>an (okG 38 x129.1) (l (.l1 x129.2 5 [.agg [.int .i64 y1,.bool false,.nils,.nils,.nils,.nils,.nils,.nils,.int .i64 (-1),D.slice y2],G 38 x129.1] (y3 + 10)))))) (bn (S.p_is x121.2 [105,110,116,101,114,115,101,99,116]) fun x130=>cnd x130.1 (bn (S.p_take x130.2 [117,110,105,111,110]) fun x131=>cnd x131.1 (bn (S.p_take x131.2 [97,108,108]) fun x132=>cnd x132.1 (bn (S.p_part x132.2) fun x133=>an (okG 38 x133.1) (l (.l1 x133.2 3 [.agg [.int .i64 y1,.bool false,.nils,.nils,.nils,.nils,.nils,.nils,.int .i64 (-1),D.slice y2],G 38 x133.1] (y3 + 10)))) (bn (S.p_part x132.2) fun x134=>an (okG 38 x134.1) (l (.l1 x134.2 2 [.agg [.int .i64 y1,.bool false,.nils,.nils,.nils,.nils,.nils,.nils,.int .i64 (-1),D.slice y2],G 38 x134.1] (y3 + 10))))) (bn (S.p_take x131.2 [101,120,99,101,112,116]) fun x135=>cnd x135.1 (bn (S.p_part x135.2) fun x136=>an (okG 38 x136.1) (l (.l1 x136.2 4 [.agg [.int .i64 y1,.bool false,.nils,.nils,.nils,.nils,.nils,.nils,.int .i64 (-1),D.slice y2],G 38 x136.1] (y3 + 10)))) (bn (S.p_must x135.2 [105,110,116,101,114,115,101,99,116]) fun x137=>bn (S.p_part x137) fun x138=>an (okG 38 x138.1) (l (.l1 x138.2 5 [.agg [.int .i64 y1,.bool false,.nils,.nils,.nils,.nils,.nils,.nils,.int .i64 (-1),D.slice y2],G 38 x138.1] (y3 + 10)))))) (r ((.agg [.int .i64 y1,.bool false,.nils,.nils,.nils,.nils,.nils,.nils,.int .i64 (-1),D.slice y2]),(B74.mk x130.2.c0 x130.2.c1 (IntKind.i64.wrap (x130.2.c2 - 1)) x130.2.c3 x130.2.c4)))))) (r ((.agg [.int .i64 y1,.bool false,.nils,.nils,.nils,.nils,.nils,.nils,.int .i64 (-1),D.slice y2]),(B74.mk y0.c0 y0.c1 (IntKind.i64.wrap (y0.c2 - 1)) y0.c3 y0.c4)))
theorem Qkw (S:Q9):KOk Tryz.prog [] 31 Tryz.f31 (Qg S) [([0,0,1,1,1,1],[(1,1),(4,57)],false)] 1 Qgw Jt (Ja S):=by intro K g v; cases v <;> kernel_rfl
theorem QjC {S:Q9}:Mono (Ja S):=fun _ _ _ hl v=>by cases v <;> (dsimp only [Ja]; repeat' first | apply Qv | apply QF | (refine QE fun _=>?_) | (refine Qr ?_ ?_ fun _ _=>?_) | apply Qs | exact hl _ | exact id)
def Q65 (S:Q9) (n:Nat) (s0:B74):Option (D × B74):=rawN Jt (Ja S) n (.e s0)
theorem Qgp {S:Q9} (hS:Qf S) (n:Nat):EntryOk Tryz.prog (e25 31 38 (Q65 S n)):=Je fun _ _ hr=>Qd Q7 Tryz.func31 rfl hS (Qkw S) QjC rfl rfl hr
inductive Q1S where
 | e (a0:List UInt8)
 | l0 (y0:List UInt8) (y1:Int)
 | l1 (y0:List UInt8) (y1:Int)
 | l2 (y0:List UInt8) (y1:List D) (y2:Int) (y3:D) (y4:Nat)
 | l3 (y0:List UInt8) (y1:List D) (y2:Int) (y3:D) (y4:Nat)
def QjZ:Q1S → Pth × List AV × Heap
 | .e a0=>([],startT Tryz.f51 [.dat (.str a0)],[])
 | .l0 y0 y1=>([0,0,1,1,1,1],mkT 86 [(0,.dat (.str y0)),(5,.dat .nils),(6,.dat (.int .i64 y1))],[])
 | .l1 y0 y1=>([0,0,0,1,0,1,0,1,0,0,0,1,1,1,1],mkT 86 [(0,.dat (.str y0)),(5,.dat .nils),(6,.dat (.int .i64 y1))],[])
 | .l2 y0 y1 y2 y3 y4=>([0,0,1,1,1,1],mkT 86 [(0,.dat (.str y0)),(5,.own (.tip 1) y1),(6,.dat (.int .i64 y2))],[some (sbx 107 y3 4),some (.tip 107 y4 4)])
 | .l3 y0 y1 y2 y3 y4=>([0,0,0,1,0,1,0,1,0,0,0,1,1,1,1],mkT 86 [(0,.dat (.str y0)),(5,.own (.tip 1) y1),(6,.dat (.int .i64 y2))],[some (sbx 107 y3 4),some (.tip 107 y4 4)])
def QK (S:Q9) (r:D × Int × Int → Prop) (l:Q1S → Prop):Q1S → Prop
 | .e a0=>cnd (decide (Int.ofNat a0.length > 20000)) (r (D.nils,0,8)) (l (.l0 a0 0))
 | .l0 y0 y1=>cnd (decide (y1 < Int.ofNat y0.length)) (cnd (decide (y1 < 0)) False (bn (y0[y1.toNat]?) fun x30=>bn (S.k_blank (Int.ofNat x30.toNat)) fun x31=>cnd x31 (l (.l0 y0 (IntKind.i64.wrap (y1 + 1)))) (cnd (decide (y1 < 0)) False (bn (y0[y1.toNat]?) fun x32=>cnd (Int.ofNat x32.toNat == 45) (cnd (decide (IntKind.i64.wrap (y1 + 1) < Int.ofNat y0.length)) (cnd (decide (IntKind.i64.wrap (y1 + 1) < 0)) False (bn (y0[(IntKind.i64.wrap (y1 + 1)).toNat]?) fun x33=>cnd (Int.ofNat x33.toNat == 45) (l (.l1 y0 y1)) (bn (S.k_one y0 y1) fun x34=>an (okG 107 x34.1) (cnd (x34.2.2.2 != 0) (r (D.nils,x34.2.2.1,x34.2.2.2)) (l (.l2 y0 [G 107 x34.1] x34.2.1 x34.1 1)))))) (bn (S.k_one y0 y1) fun x35=>an (okG 107 x35.1) (cnd (x35.2.2.2 != 0) (r (D.nils,x35.2.2.1,x35.2.2.2)) (l (.l2 y0 [G 107 x35.1] x35.2.1 x35.1 1))))) (bn (S.k_one y0 y1) fun x36=>an (okG 107 x36.1) (cnd (x36.2.2.2 != 0) (r (D.nils,x36.2.2.1,x36.2.2.2)) (l (.l2 y0 [G 107 x36.1] x36.2.1 x36.1 1)))))))) (r ((.slice [.agg [.int .i64 0,.str [],.int .i64 0,.int .i64 (Int.ofNat y0.length)]]),0,0))
 | .l1 y0 y1=>cnd (decide (y1 < Int.ofNat y0.length)) (cnd (decide (y1 < 0)) False (bn (y0[y1.toNat]?) fun x37=>cnd (Int.ofNat x37.toNat != 10) (l (.l1 y0 (IntKind.i64.wrap (y1 + 1)))) (l (.l0 y0 y1)))) (l (.l0 y0 y1))
 | .l2 y0 y1 y2 y3 y4=>cnd (decide (y2 < Int.ofNat y0.length)) (cnd (decide (y2 < 0)) False (bn (y0[y2.toNat]?) fun x38=>bn (S.k_blank (Int.ofNat x38.toNat)) fun x39=>cnd x39 (l (.l2 y0 y1 (IntKind.i64.wrap (y2 + 1)) y3 y4)) (cnd (decide (y2 < 0)) False (bn (y0[y2.toNat]?) fun x40=>cnd (Int.ofNat x40.toNat == 45) (cnd (decide (IntKind.i64.wrap (y2 + 1) < Int.ofNat y0.length)) (cnd (decide (IntKind.i64.wrap (y2 + 1) < 0)) False (bn (y0[(IntKind.i64.wrap (y2 + 1)).toNat]?) fun x41=>cnd (Int.ofNat x41.toNat == 45) (l (.l3 y0 y1 y2 y3 y4)) (bn (S.k_one y0 y2) fun x42=>an (okG 107 x42.1) (cnd (x42.2.2.2 != 0) (r (D.nils,x42.2.2.1,x42.2.2.2)) (cnd (decide (Int.ofNat y1.length ≥ 6000)) (r (D.nils,y2,8)) (an (y4 == y1.length) (an (roomOk (y4 + 1) 40) (l (.l2 y0 (y1 ++ [G 107 x42.1]) x42.2.1 y3 (y4 + 1)))))))))) (bn (S.k_one y0 y2) fun x43=>an (okG 107 x43.1) (cnd (x43.2.2.2 != 0) (r (D.nils,x43.2.2.1,x43.2.2.2)) (cnd (decide (Int.ofNat y1.length ≥ 6000)) (r (D.nils,y2,8)) (an (y4 == y1.length) (an (roomOk (y4 + 1) 40) (l (.l2 y0 (y1 ++ [G 107 x43.1]) x43.2.1 y3 (y4 + 1))))))))) (bn (S.k_one y0 y2) fun x44=>an (okG 107 x44.1) (cnd (x44.2.2.2 != 0) (r (D.nils,x44.2.2.1,x44.2.2.2)) (cnd (decide (Int.ofNat y1.length ≥ 6000)) (r (D.nils,y2,8)) (an (y4 == y1.length) (an (roomOk (y4 + 1) 40) (l (.l2 y0 (y1 ++ [G 107 x44.1]) x44.2.1 y3 (y4 + 1)))))))))))) (cnd (decide (Int.ofNat y1.length ≥ 6000)) (r (D.nils,(Int.ofNat y0.length),8)) (an (y4 == y1.length) (an (roomOk (y4 + 1) 40) (r ((.slice (y1 ++ [D.agg [.int .i64 0,.str [],.int .i64 0,.int .i64 (Int.ofNat y0.length)]])),0,0)))))
 | .l3 y0 y1 y2 y3 y4=>cnd (decide (y2 < Int.ofNat y0.length)) (cnd (decide (y2 < 0)) False (bn (y0[y2.toNat]?) fun x45=>cnd (Int.ofNat x45.toNat != 10) (l (.l3 y0 y1 (IntKind.i64.wrap (y2 + 1)) y3 y4)) (l (.l2 y0 y1 y2 y3 y4)))) (l (.l2 y0 y1 y2 y3 y4))
theorem Qpx (S:Q9):KOk Tryz.prog [] 51 Tryz.f51 (Qg S) [([0,0,1,1,1,1],[(1,4),(7,79)],false),([0,0,0,1,0,1,0,1,0,0,0,1,1,1,1],[(1,4),(7,79)],false)] 0 QjZ Q4r (QK S):=by intro K g v; cases v <;> kernel_rfl
theorem QoQ {S:Q9}:Mono (QK S):=fun _ _ _ hl v=>by cases v <;> (dsimp only [QK]; repeat' first | apply Qv | apply QF | (refine QE fun _=>?_) | (refine Qr ?_ ?_ fun _ _=>?_) | apply Qs | exact hl _ | exact id)
def Q9x (S:Q9) (n:Nat) (a0:List UInt8):Option (D × Int × Int):=rawN Q4r (QK S) n (.e a0)
theorem Ql1 {S:Q9} (hS:Qf S) (n:Nat):EntryOk Tryz.prog (e35 51 (Q9x S n)):=QcE fun _ _ hr=>Qd Q7 Tryz.func51 rfl hS (Qpx S) QoQ rfl rfl hr
inductive Q3V where
 | e (a0:List UInt8)
 | l0 (y0:List UInt8) (y1:List UInt8) (y2:Int) (y3:Nat)
 | l1 (y0:List UInt8) (y1:List UInt8) (y2:Int) (y3:Nat) (y4:List D) (y5:Nat)
def Qlh:Q3V → Pth × List AV × Heap
 | .e a0=>([],startT Tryz.f42 [.dat (.str a0)],[])
 | .l0 y0 y1 y2 y3=>([0,0,1,1,1],mkT 48 [(0,.dat (.str y0)),(5,.ptr (some (0,0)))],[some (.cells 132 [.dat (.str y1),.dat (.int .i64 y2),.dat .nils] y3)])
 | .l1 y0 y1 y2 y3 y4 y5=>([0,0,1,1,1],mkT 48 [(0,.dat (.str y0)),(5,.ptr (some (0,0)))],[some (.cells 132 [.dat (.str y1),.dat (.int .i64 y2),.own (.at 0 2 y3 107) y4] y5)])
def Jk (S:Q9) (r:D × Int × Int → Prop) (l:Q3V → Prop):Q3V → Prop
 | .e a0=>cnd (decide (Int.ofNat a0.length > 20000)) (r (D.nils,0,8)) (l (.l0 a0 a0 0 0))
 | .l0 y0 y1 y2 y3=>bn (S.t_pass (B132.mk y1 y2 GC.n y3)) fun x30=>gcas x30.c2 (cnd (x30.c1 == Int.ofNat y0.length) (bn (S.t_put (B132.mk x30.c0 x30.c1 GC.n x30.ver) (.agg [.int .i64 0,.str [],.int .i64 0,.int .i64 (Int.ofNat y0.length)])) fun x32=>gcas x32.2.c2 (cnd (x32.1 != 0) (r (D.nils,x32.2.c1,x32.1)) (r (D.nils,0,0))) False fun x33 w33=>cnd (x32.1 != 0) (r (D.nils,x32.2.c1,x32.1)) (r ((.slice x33),0,0))) (bn (S.t_next (B132.mk x30.c0 x30.c1 GC.n x30.ver)) fun x34=>gcas x34.2.c2 (cnd (x34.1 != 0) (r (D.nils,x34.2.c1,x34.1)) (l (.l0 y0 x34.2.c0 x34.2.c1 x34.2.ver))) False fun x35 w35=>cnd (x34.1 != 0) (r (D.nils,x34.2.c1,x34.1)) (l (.l1 y0 x34.2.c0 x34.2.c1 w35 x35 x34.2.ver)))) False fun x31 w31=>cnd (x30.c1 == Int.ofNat y0.length) (bn (S.t_put (B132.mk x30.c0 x30.c1 (GC.o x31 w31) x30.ver) (.agg [.int .i64 0,.str [],.int .i64 0,.int .i64 (Int.ofNat y0.length)])) fun x36=>gcas x36.2.c2 (cnd (x36.1 != 0) (r (D.nils,x36.2.c1,x36.1)) (r (D.nils,0,0))) False fun x37 w37=>cnd (x36.1 != 0) (r (D.nils,x36.2.c1,x36.1)) (r ((.slice x37),0,0))) (bn (S.t_next (B132.mk x30.c0 x30.c1 (GC.o x31 w31) x30.ver)) fun x38=>gcas x38.2.c2 (cnd (x38.1 != 0) (r (D.nils,x38.2.c1,x38.1)) (l (.l0 y0 x38.2.c0 x38.2.c1 x38.2.ver))) False fun x39 w39=>cnd (x38.1 != 0) (r (D.nils,x38.2.c1,x38.1)) (l (.l1 y0 x38.2.c0 x38.2.c1 w39 x39 x38.2.ver)))
 | .l1 y0 y1 y2 y3 y4 y5=>bn (S.t_pass (B132.mk y1 y2 (GC.o y4 y3) y5)) fun x40=>gcas x40.c2 (cnd (x40.c1 == Int.ofNat y0.length) (bn (S.t_put (B132.mk x40.c0 x40.c1 GC.n x40.ver) (.agg [.int .i64 0,.str [],.int .i64 0,.int .i64 (Int.ofNat y0.length)])) fun x42=>gcas x42.2.c2 (cnd (x42.1 != 0) (r (D.nils,x42.2.c1,x42.1)) (r (D.nils,0,0))) False fun x43 w43=>cnd (x42.1 != 0) (r (D.nils,x42.2.c1,x42.1)) (r ((.slice x43),0,0))) (bn (S.t_next (B132.mk x40.c0 x40.c1 GC.n x40.ver)) fun x44=>gcas x44.2.c2 (cnd (x44.1 != 0) (r (D.nils,x44.2.c1,x44.1)) (l (.l0 y0 x44.2.c0 x44.2.c1 x44.2.ver))) False fun x45 w45=>cnd (x44.1 != 0) (r (D.nils,x44.2.c1,x44.1)) (l (.l1 y0 x44.2.c0 x44.2.c1 w45 x45 x44.2.ver)))) False fun x41 w41=>cnd (x40.c1 == Int.ofNat y0.length) (bn (S.t_put (B132.mk x40.c0 x40.c1 (GC.o x41 w41) x40.ver) (.agg [.int .i64 0,.str [],.int .i64 0,.int .i64 (Int.ofNat y0.length)])) fun x46=>gcas x46.2.c2 (cnd (x46.1 != 0) (r (D.nils,x46.2.c1,x46.1)) (r (D.nils,0,0))) False fun x47 w47=>cnd (x46.1 != 0) (r (D.nils,x46.2.c1,x46.1)) (r ((.slice x47),0,0))) (bn (S.t_next (B132.mk x40.c0 x40.c1 (GC.o x41 w41) x40.ver)) fun x48=>gcas x48.2.c2 (cnd (x48.1 != 0) (r (D.nils,x48.2.c1,x48.1)) (l (.l0 y0 x48.2.c0 x48.2.c1 x48.2.ver))) False fun x49 w49=>cnd (x48.1 != 0) (r (D.nils,x48.2.c1,x48.1)) (l (.l1 y0 x48.2.c0 x48.2.c1 w49 x49 x48.2.ver)))
theorem QmY (S:Q9):KOk Tryz.prog [] 42 Tryz.f42 (Qg S) [([0,0,1,1,1],[(1,4),(6,42)],false)] 0 Qlh Q4r (Jk S):=by intro K g v; cases v <;> kernel_rfl
theorem QoI {S:Q9}:Mono (Jk S):=fun _ _ _ hl v=>by cases v <;> (dsimp only [Jk]; repeat' first | apply Qv | apply QF | (refine QE fun _=>?_) | (refine Qr ?_ ?_ fun _ _=>?_) | apply Qs | exact hl _ | exact id)
def Q75 (S:Q9) (n:Nat) (a0:List UInt8):Option (D × Int × Int):=rawN Q4r (Jk S) n (.e a0)
theorem Qky {S:Q9} (hS:Qf S) (n:Nat):EntryOk Tryz.prog (e35 42 (Q75 S n)):=QcE fun _ _ hr=>Qd Q7 Tryz.func42 rfl hS (QmY S) QoI rfl rfl hr
inductive Q7M where
 | en (s0:B132)
 | eo (s0:B132) (es0:List D) (w0:Nat)
def Qk2:Q7M → Pth × List AV × Heap
 | .en s0=>([],startT Tryz.f77 [.ptr (some (0,0))],[some (.cells 132 [.dat (.str (s0).c0),.dat (.int .i64 (s0).c1),.dat .nils] s0.ver)])
 | .eo s0 es0 w0=>([],startT Tryz.f77 [.ptr (some (0,0))],[some (.cells 132 [.dat (.str (s0).c0),.dat (.int .i64 (s0).c1),.own (.at 0 2 w0 107) es0] s0.ver)])
def Zb (S:Q9) (r:Int × B132 → Prop) (l:Q7M → Prop):Q7M → Prop
 | .en s0=>cnd (decide (s0.c1 < 0)) False (bn (s0.c0[s0.c1.toNat]?) fun x22=>bn (S.t_letter (Int.ofNat x22.toNat)) fun x23=>cnd x23 (bn (S.t_name (B132.mk s0.c0 s0.c1 GC.n s0.ver)) fun x24=>gcas x24.2.c2 (r (x24.1,(⟨x24.2.c0,x24.2.c1,.n,x24.2.ver⟩:B132))) False fun x25 w25=>r (x24.1,(⟨x24.2.c0,x24.2.c1,(.o x25 w25),x24.2.ver⟩:B132))) (bn (S.t_digit (Int.ofNat x22.toNat)) fun x26=>cnd x26 (bn (S.t_number (B132.mk s0.c0 s0.c1 GC.n s0.ver)) fun x27=>gcas x27.2.c2 (r (x27.1,(⟨x27.2.c0,x27.2.c1,.n,x27.2.ver⟩:B132))) False fun x28 w28=>r (x27.1,(⟨x27.2.c0,x27.2.c1,(.o x28 w28),x27.2.ver⟩:B132))) (cnd (Int.ofNat x22.toNat == 39) (bn (S.t_text (B132.mk s0.c0 s0.c1 GC.n s0.ver)) fun x29=>gcas x29.2.c2 (r (x29.1,(⟨x29.2.c0,x29.2.c1,.n,x29.2.ver⟩:B132))) False fun x30 w30=>r (x29.1,(⟨x29.2.c0,x29.2.c1,(.o x30 w30),x29.2.ver⟩:B132))) (bn (S.t_mark (B132.mk s0.c0 s0.c1 GC.n s0.ver)) fun x31=>gcas x31.2.c2 (r (x31.1,(⟨x31.2.c0,x31.2.c1,.n,x31.2.ver⟩:B132))) False fun x32 w32=>r (x31.1,(⟨x31.2.c0,x31.2.c1,(.o x32 w32),x31.2.ver⟩:B132))))))
 | .eo s0 es0 w0=>cnd (decide (s0.c1 < 0)) False (bn (s0.c0[s0.c1.toNat]?) fun x33=>bn (S.t_letter (Int.ofNat x33.toNat)) fun x34=>cnd x34 (bn (S.t_name (B132.mk s0.c0 s0.c1 (GC.o es0 w0) s0.ver)) fun x35=>gcas x35.2.c2 (r (x35.1,(⟨x35.2.c0,x35.2.c1,.n,x35.2.ver⟩:B132))) False fun x36 w36=>r (x35.1,(⟨x35.2.c0,x35.2.c1,(.o x36 w36),x35.2.ver⟩:B132))) (bn (S.t_digit (Int.ofNat x33.toNat)) fun x37=>cnd x37 (bn (S.t_number (B132.mk s0.c0 s0.c1 (GC.o es0 w0) s0.ver)) fun x38=>gcas x38.2.c2 (r (x38.1,(⟨x38.2.c0,x38.2.c1,.n,x38.2.ver⟩:B132))) False fun x39 w39=>r (x38.1,(⟨x38.2.c0,x38.2.c1,(.o x39 w39),x38.2.ver⟩:B132))) (cnd (Int.ofNat x33.toNat == 39) (bn (S.t_text (B132.mk s0.c0 s0.c1 (GC.o es0 w0) s0.ver)) fun x40=>gcas x40.2.c2 (r (x40.1,(⟨x40.2.c0,x40.2.c1,.n,x40.2.ver⟩:B132))) False fun x41 w41=>r (x40.1,(⟨x40.2.c0,x40.2.c1,(.o x41 w41),x40.2.ver⟩:B132))) (bn (S.t_mark (B132.mk s0.c0 s0.c1 (GC.o es0 w0) s0.ver)) fun x42=>gcas x42.2.c2 (r (x42.1,(⟨x42.2.c0,x42.2.c1,.n,x42.2.ver⟩:B132))) False fun x43 w43=>r (x42.1,(⟨x42.2.c0,x42.2.c1,(.o x43 w43),x42.2.ver⟩:B132))))))
theorem QeG (S:Q9):KOk Tryz.prog [true] 77 Tryz.f77 (Qg S) [] 1 Qk2 ZW (Zb S):=by intro K g v; cases v <;> kernel_rfl
def Q8J (S:Q9) (n:Nat) (s0:B132):Option (Int × B132):=gcas s0.c2 (rawN ZW (Zb S) n (.en s0)) (none) fun es0 w0=>rawN ZW (Zb S) n (.eo s0 es0 w0)
theorem Qma {S:Q9} (hS:Qf S) (n:Nat):EntryOk Tryz.prog (e37 77 (Q8J S n)):=HZ fun ⟨_,_,g0,_⟩ r hr=>by
 rcases g0 with _ | _ | ⟨_,_⟩
 ·exact Qd Q7 Tryz.func77 rfl hS (QeG S) (fun _ _ _ _ v=>by cases v <;> exact id) rfl rfl hr
 ·exact nomatch (show (none:Option (Int × B132)) = some r from hr)
 ·exact Qd Q7 Tryz.func77 rfl hS (QeG S) (fun _ _ _ _ v=>by cases v <;> exact id) rfl rfl hr
inductive HG where
 | e (s0:B105) (a3:D)
 | l0 (y0:D) (y1:B105) (y2:D) (y3:Nat)
 | l1 (y0:D) (y1:Int) (y2:Int) (y3:B105) (y4:D) (y5:Nat)
def Qdc:HG → Pth × List AV × Heap
 | .e s0 a3=>([],startT Tryz.f46 [.ptr (some (0,0)),.func (.func 47) [] [.ptr (some (1,0))],.func (.func 49) [.ptr (some (0,0))] [],.dat a3],[b105 s0 0,some (.cells 67 [.ptr (some (0,0))] 0)])
 | .l0 y0 y1 y2 y3=>([1,1,0,1],mkT 30 [(1,.func (.func 47) [] [.ptr (some (1,0))]),(2,.func (.func 49) [.ptr (some (0,0))] []),(3,.dat y0),(8,.ptr (some (2,0))),(9,.ptr (some (3,0)))],[some (o105 y1 0),some (.cells 67 [.ptr (some (0,0))] 0),some (.cells 26 [.dat (.int .i64 0),.dat (.int .i64 0),.dat (.str []),.dat (.str []),.dat .nils,.dat .nils] 0),some (sbx 26 y2 y3)])
 | .l1 y0 y1 y2 y3 y4 y5=>([0,1,0,1,1,0,1],mkT 30 [(1,.func (.func 47) [] [.ptr (some (1,0))]),(2,.func (.func 49) [.ptr (some (0,0))] []),(3,.dat y0),(8,.ptr (some (2,0))),(9,.ptr (some (3,0))),(14,.dat y0),(15,.dat (.int .i64 y1)),(16,.dat (.int .i64 y2))],[some (o105 y3 0),some (.cells 67 [.ptr (some (0,0))] 0),some (.cells 26 [.dat (.int .i64 0),.dat (.int .i64 0),.dat (.str []),.dat (.str []),.dat .nils,.dat .nils] 0),some (sbx 26 y4 y5)])
def Z2 (S:Q9) (r:D × B105 → Prop) (l:HG → Prop):HG → Prop
 | .e s0 a3=>bn (S.s_expr1 s0) fun x15=>an (okG 26 x15.1) (fl x15.1 [4,5] (l (.l0 a3 x15.2 x15.1 6)))
 | .l0 y0 y1 y2 y3=>bn (asL y0) fun x16=>l (.l1 y0 (Int.ofNat x16.length) 0 y1 y2 y3)
 | .l1 y0 y1 y2 y3 y4 y5=>cnd (decide (y2 < y1)) (bn (asL y0) fun x17=>bn (atD x17 y2) fun x18=>an x18.flat (bn (asS x18) fun x19=>bn (S.s_word y3 x19) fun x20=>cnd x20.1 (bn (S.s_expr1 x20.2) fun x21=>an (okG 26 x21.1) (an (okG 26 (G 26 y4)) (an (okG 26 (G 26 x21.1)) (bn (S.s_bin x19 (G 26 y4) (G 26 x21.1)) fun x22=>an (okG 26 x22) (fl x22 [4,5] (l (.l0 y0 x21.2 x22 (y5 + 6)))))))) (l (.l1 y0 y1 (IntKind.i64.wrap (y2 + 1)) x20.2 y4 y5)))) (fl y4 [4,5] (r ((G 26 y4),y3)))
theorem QdV (S:Q9):KOk Tryz.prog [] 46 Tryz.f46 (Qg S) [([1,1,0,1],[(0,1),(4,4),(10,20)],false),([0,1,0,1,1,0,1],[(0,1),(4,4),(10,4),(17,13)],false)] 2 Qdc Q6T (Z2 S):=by intro K g v; cases v <;> kernel_rfl
theorem QeX {S:Q9}:Mono (Z2 S):=fun _ _ _ hl v=>by cases v <;> (dsimp only [Z2]; repeat' first | apply Qv | apply QF | (refine QE fun _=>?_) | (refine Qr ?_ ?_ fun _ _=>?_) | apply Qs | exact hl _ | exact id)
def Q2A (S:Q9) (n:Nat) (s0:B105) (a3:D):Option (D × B105):=rawN Q6T (Z2 S) n (.e s0 a3)
theorem Qc7 {S:Q9} (hS:Qf S) (n:Nat):EntryOk Tryz.prog (e11 46 47 49 26 (Q2A S n)):=QmQ fun _ _ _ hr=>Qd Q7 Tryz.func46 rfl hS (QdV S) QeX rfl rfl hr
inductive Q4L where
 | e
def QgU:Q4L → Pth × List AV × Heap
 | .e=>([],startT Tryz.f129 [],[])
def Q8x (S:Q9) (r:D → Prop) (l:Q4L → Prop):Q4L → Prop
 | .e=>r (.slice [.str [97,108,108],.str [97,110,100],.str [97,115],.str [98,101,103,105,110],.str [98,101,103,105,110,115],.str [98,101,116,119,101,101,110],.str [98,121],.str [99,97,108,108],.str [99,97,115,101],.str [99,97,116,99,104],.str [99,111,109,109,105,116],.str [100,101,108,101,116,101],.str [100,101,115,99],.str [100,105,115,116,105,110,99,116],.str [101,108,115,101],.str [101,110,100],.str [101,120,99,101,112,116],.str [101,120,105,115,116,115],.str [102,111,114],.str [102,114,111,109],.str [103,114,111,117,112],.str [104,97,118,105,110,103],.str [104,105,100,101],.str [105,102],.str [105,110],.str [105,110,112,117,116],.str [105,110,115,101,114,116],.str [105,110,116],.str [105,110,116,111],.str [105,110,116,101,114,115,101,99,116],.str [105,115],.str [106,111,105,110],.str [107,101,121],.str [108,101,102,116],.str [108,101,118,101,108],.str [108,101,118,101,108,115],.str [108,105,109,105,116],.str [110,111,116],.str [110,117,108,108],.str [111,110],.str [111,114],.str [111,114,100,101,114],.str [112,114,105,110,99,105,112,97,108],.str [112,114,105,110,116],.str [112,114,111,99],.str [114,97,105,115,101],.str [114,111,108,108,98,97,99,107],.str [114,111,119,115],.str [115,101,108,101,99,116],.str [115,101,116],.str [116,97,98,108,101],.str [116,101,120,116],.str [116,104,101,110],.str [116,114,117,101],.str [116,114,121],.str [102,97,108,115,101],.str [98,111,111,108],.str [117,110,105,111,110],.str [117,112,100,97,116,101],.str [118,97,108,117,101,115],.str [118,97,114],.str [118,105,115,105,98,108,101],.str [119,104,101,110],.str [119,104,101,114,101],.str [119,104,105,108,101],.str [99,104,97,110,110,101,108],.str [115,107,105,112]])
theorem QlV (S:Q9):KOk Tryz.prog [] 129 Tryz.f129 (Qg S) [] 0 QgU Q3q (Q8x S):=by intro K g v; cases v <;> kernel_rfl
def Q6m (S:Q9) (n:Nat):Option (D):=rawN Q3q (Q8x S) n .e
theorem Qg0 {S:Q9} (hS:Qf S) (n:Nat):EntryOk Tryz.prog (e31 129 (Q6m S n)):=Qcj fun _ hr=>Qd Q7 Tryz.func129 rfl hS (QlV S) (fun _ _ _ _ v=>by cases v <;> exact id) rfl rfl hr
inductive Q04 where
 | e (a0:D) (a1:D)
 | l0 (y0:D) (y1:D) (y2:Int)
def Q7a:Q04 → Pth × List AV × Heap
 | .e a0 a1=>([],startT Tryz.f32 [.dat a0,.dat a1],[])
 | .l0 y0 y1 y2=>([0,1,0,1,1],mkT 77 [(0,.dat y0),(1,.dat y1),(5,.dat (.int .i64 y2))],[])
def Jv (S:Q9) (r:Bool → Prop) (l:Q04 → Prop):Q04 → Prop
 | .e a0 a1=>bn (asL a0) fun x18=>bn (asL a1) fun x19=>cnd (Int.ofNat x18.length != Int.ofNat x19.length) (r false) (l (.l0 a0 a1 0))
 | .l0 y0 y1 y2=>bn (asL y0) fun x20=>cnd (decide (y2 < Int.ofNat x20.length)) (bn (asL y0) fun x21=>bn (atD x21 y2) fun x22=>an (okG 65 x22) (bn (asL y1) fun x23=>bn (atD x23 y2) fun x24=>an (okG 65 x24) (fl x22 [4,5,6] (fl x24 [4,5,6] (cnd (cI x22 0 != cI x24 0) (r false) (cnd (!cS x22 1 == cS x24 1) (r false) (cnd (!cB x22 2 == cB x24 2) (r false) (cnd (!cS x22 3 == cS x24 3) (r false) (bn (S.r_SameQueries (cel x22 4) (cel x24 4)) fun x25=>cnd (!x25) (r false) (bn (S.r_SameFroms (cel x22 5) (cel x24 5)) fun x26=>cnd (!x26) (r false) (bn (S.r_SameExprs (cel x22 6) (cel x24 6)) fun x27=>cnd (!x27) (r false) (l (.l0 y0 y1 (IntKind.i64.wrap (y2 + 1))))))))))))))) (r true)
theorem Qan (S:Q9):KOk Tryz.prog [] 32 Tryz.f32 (Qg S) [([0,1,0,1,1],[(2,3),(6,71)],false)] 0 Q7a Hl (Jv S):=by intro K g v; cases v <;> kernel_rfl
theorem Q9Z {S:Q9}:Mono (Jv S):=fun _ _ _ hl v=>by cases v <;> (dsimp only [Jv]; repeat' first | apply Qv | apply QF | (refine QE fun _=>?_) | (refine Qr ?_ ?_ fun _ _=>?_) | apply Qs | exact hl _ | exact id)
def Q1g (S:Q9) (n:Nat) (a0:D) (a1:D):Option (Bool):=rawN Hl (Jv S) n (.e a0 a1)
theorem Q70 {S:Q9} (hS:Qf S) (n:Nat):EntryOk Tryz.prog (e30 32 (Q1g S n)):=Q0d fun _ _ _ hr=>Qd Q7 Tryz.func32 rfl hS (Qan S) Q9Z rfl rfl hr
inductive Q2d where
 | e (s0:B74)
 | l0 (y0:List D) (y1:B74)
 | l1 (y0:List D) (y1:B74) (y2:Nat)
def Qhu:Q2d → Pth × List AV × Heap
 | .e s0=>([],startT Tryz.f96 [.ptr (some (0,0))],[b74 s0 0])
 | .l0 y0 y1=>([0,0,1,1],mkT 15 [(0,.ptr (some (0,0))),(3,.own .full y0)],[some (o74 y1 0)])
 | .l1 y0 y1 y2=>([0,0,1,1],mkT 15 [(0,.ptr (some (0,0))),(3,.own (.tip 1) y0)],[some (o74 y1 0),some (.tip 26 y2 6)])
def Zu (S:Q9) (r:D × B74 → Prop) (l:Q2d → Prop):Q2d → Prop
 | .e s0=>bn (S.p_Expr s0) fun x5=>an (okG 26 x5.1) (l (.l0 [G 26 x5.1] x5.2))
 | .l0 y0 y1=>bn (S.p_take y1 [44]) fun x6=>cnd x6.1 (bn (S.p_Expr x6.2) fun x7=>an (okG 26 x7.1) (fl x7.1 [4,5] (an (sized 6 y0) (an (roomOk (y0.length + 1) 96) (l (.l1 (y0 ++ [G 26 x7.1]) x7.2 (y0.length + 1))))))) (r ((.slice y0),x6.2))
 | .l1 y0 y1 y2=>bn (S.p_take y1 [44]) fun x8=>cnd x8.1 (bn (S.p_Expr x8.2) fun x9=>an (okG 26 x9.1) (fl x9.1 [4,5] (an (y2 == y0.length) (an (roomOk (y2 + 1) 96) (l (.l1 (y0 ++ [G 26 x9.1]) x9.2 (y2 + 1))))))) (r ((.slice y0),x8.2))
theorem QkH (S:Q9):KOk Tryz.prog [] 96 Tryz.f96 (Qg S) [([0,0,1,1],[(1,2),(4,11)],false)] 1 Qhu Q3O (Zu S):=by intro K g v; cases v <;> kernel_rfl
theorem Qlp {S:Q9}:Mono (Zu S):=fun _ _ _ hl v=>by cases v <;> (dsimp only [Zu]; repeat' first | apply Qv | apply QF | (refine QE fun _=>?_) | (refine Qr ?_ ?_ fun _ _=>?_) | apply Qs | exact hl _ | exact id)
def Q5H (S:Q9) (n:Nat) (s0:B74):Option (D × B74):=rawN Q3O (Zu S) n (.e s0)
theorem Qhi {S:Q9} (hS:Qf S) (n:Nat):EntryOk Tryz.prog (e24 96 (Q5H S n)):=QcC fun _ _ hr=>Qd Q7 Tryz.func96 rfl hS (QkH S) Qlp rfl rfl hr
inductive YK where
 | e (a0:D) (a1:D)
 | l0 (y0:D) (y1:D) (y2:Int)
def Q4U:YK → Pth × List AV × Heap
 | .e a0 a1=>([],startT Tryz.f27 [.dat a0,.dat a1],[])
 | .l0 y0 y1 y2=>([0,1,0,1,1],mkT 27 [(0,.dat y0),(1,.dat y1),(5,.dat (.int .i64 y2))],[])
def J3 (S:Q9) (r:Bool → Prop) (l:YK → Prop):YK → Prop
 | .e a0 a1=>bn (asL a0) fun x14=>bn (asL a1) fun x15=>cnd (Int.ofNat x14.length != Int.ofNat x15.length) (r false) (l (.l0 a0 a1 0))
 | .l0 y0 y1 y2=>bn (asL y0) fun x16=>cnd (decide (y2 < Int.ofNat x16.length)) (bn (asL y0) fun x17=>bn (atD x17 y2) fun x18=>an (okG 38 x18) (bn (asL y1) fun x19=>bn (atD x19 y2) fun x20=>an (okG 38 x20) (an (okG 38 (G 38 x18)) (an (okG 38 (G 38 x20)) (bn (S.r_SameQuery (G 38 x18) (G 38 x20)) fun x21=>cnd (!x21) (r false) (l (.l0 y0 y1 (IntKind.i64.wrap (y2 + 1))))))))) (r true)
theorem Q6w (S:Q9):KOk Tryz.prog [] 27 Tryz.f27 (Qg S) [([0,1,0,1,1],[(2,3),(6,21)],false)] 0 Q4U Hl (J3 S):=by intro K g v; cases v <;> kernel_rfl
theorem Q6s {S:Q9}:Mono (J3 S):=fun _ _ _ hl v=>by cases v <;> (dsimp only [J3]; repeat' first | apply Qv | apply QF | (refine QE fun _=>?_) | (refine Qr ?_ ?_ fun _ _=>?_) | apply Qs | exact hl _ | exact id)
def HP (S:Q9) (n:Nat) (a0:D) (a1:D):Option (Bool):=rawN Hl (J3 S) n (.e a0 a1)
theorem Q5n {S:Q9} (hS:Qf S) (n:Nat):EntryOk Tryz.prog (e30 27 (HP S n)):=Q0d fun _ _ _ hr=>Qd Q7 Tryz.func27 rfl hS (Q6w S) Q6s rfl rfl hr
inductive Qd0 where
 | en (s0:B167)
 | em (s0:B167)
 | eo (s0:B167) (es0:List D) (w0:Nat)
def Qnh:Qd0 → Pth × List AV × Heap
 | .en s0=>([],startT Tryz.f136 [.ptr (some (0,0))],[some (.cells 167 [.ptr none,.dat .nils] s0.ver)])
 | .em s0=>([],startT Tryz.f136 [.ptr (some (0,0))],[some (.cells 167 [.ptr (some (0,0)),.dat .nils] s0.ver)])
 | .eo s0 es0 w0=>([],startT Tryz.f136 [.ptr (some (0,0))],[some (.cells 167 [.ptr (some (0,0)),.own (.at 0 1 w0 5) es0] s0.ver)])
def Q1q (S:Q9) (r:Int × B167 → Prop) (l:Qd0 → Prop):Qd0 → Prop
 | .en s0=>r (0,(⟨.n,s0.ver⟩:B167))
 | .em s0=>r (0,(⟨.m,s0.ver⟩:B167))
 | .eo s0 es0 w0=>r ((Int.ofNat es0.length),(⟨(.o es0 w0),s0.ver⟩:B167))
theorem Qc3 (S:Q9):KOk Tryz.prog [true] 136 Tryz.f136 (Qg S) [] 1 Qnh Q3v (Q1q S):=by intro K g v; cases v <;> kernel_rfl
def QaD (S:Q9) (n:Nat) (s0:B167):Option (Int × B167):=gcas s0.c1 (rawN Q3v (Q1q S) n (.en s0)) (rawN Q3v (Q1q S) n (.em s0)) fun es0 w0=>rawN Q3v (Q1q S) n (.eo s0 es0 w0)
theorem Qng {S:Q9} (hS:Qf S) (n:Nat):EntryOk Tryz.prog (e45 136 (QaD S n)):=Qmx fun ⟨g0,_⟩ r hr=>by
 rcases g0 with _ | _ | ⟨_,_⟩
 ·exact Qd Q7 Tryz.func136 rfl hS (Qc3 S) (fun _ _ _ _ v=>by cases v <;> exact id) rfl rfl hr
 ·exact Qd Q7 Tryz.func136 rfl hS (Qc3 S) (fun _ _ _ _ v=>by cases v <;> exact id) rfl rfl hr
 ·exact Qd Q7 Tryz.func136 rfl hS (Qc3 S) (fun _ _ _ _ v=>by cases v <;> exact id) rfl rfl hr
inductive Q2W where
 | e (s0:B105)
def QeO:Q2W → Pth × List AV × Heap
 | .e s0=>([],startT Tryz.f122 [.ptr (some (0,0))],[b105 s0 0])
def YD (S:Q9) (r:D × B105 → Prop) (l:Q2W → Prop):Q2W → Prop
 | .e s0=>bn (S.s_mark s0 [40]) fun x9=>cnd x9.1 (bn (S.s_query x9.2) fun x10=>an (okG 38 x10.1) (fl x10.1 [2,3,4,5,6,7,9] (bn (S.s_need x10.2 [41]) fun x11=>bn (S.s_must x11 [97,115]) fun x12=>bn (S.s_name x12) fun x13=>r ((.agg [.int .i64 2,.str [],.bool false,.str x13.1,D.slice [G 38 x10.1],.nils,.nils]),x13.2)))) (bn (S.s_name x9.2) fun x14=>bn (S.s_word x14.2 [118,105,115,105,98,108,101]) fun x15=>bn (S.s_word x15.2 [97,115]) fun x16=>cnd x16.1 (bn (S.s_name x16.2) fun x17=>r ((.agg [.int .i64 1,.str x14.1,.bool x15.1,.str x17.1,.nils,.nils,.nils]),x17.2)) (r ((.agg [.int .i64 1,.str x14.1,.bool x15.1,.str x14.1,.nils,.nils,.nils]),x16.2)))
theorem QfU (S:Q9):KOk Tryz.prog [] 122 Tryz.f122 (Qg S) [] 1 QeO Jj (YD S):=by intro K g v; cases v <;> kernel_rfl
def Q42 (S:Q9) (n:Nat) (s0:B105):Option (D × B105):=rawN Jj (YD S) n (.e s0)
theorem QdW {S:Q9} (hS:Qf S) (n:Nat):EntryOk Tryz.prog (e0 122 65 (Q42 S n)):=QR fun _ _ hr=>Qd Q7 Tryz.func122 rfl hS (QfU S) (fun _ _ _ _ v=>by cases v <;> exact id) rfl rfl hr
inductive Q5m where
 | e (s0:B74)
def Qii:Q5m → Pth × List AV × Heap
 | .e s0=>([],startT Tryz.f153 [.ptr (some (0,0))],[b74 s0 0])
def Hi (S:Q9) (r:D × B74 → Prop) (l:Q5m → Prop):Q5m → Prop
 | .e s0=>bn (S.p_take s0 [45]) fun x4=>cnd x4.1 (bn (S.p_down x4.2) fun x5=>cnd (x5.c4 == 0) (bn (S.p_unary x5) fun x6=>an (okG 26 x6.1) (r ((.agg [.int .i64 7,.int .i64 0,.str [],.str [],D.slice [G 26 x6.1],.nils]),(B74.mk x6.2.c0 x6.2.c1 (IntKind.i64.wrap (x6.2.c2 - 1)) x6.2.c3 x6.2.c4)))) (r ((.agg [.int .i64 0,.int .i64 0,.str [],.str [],.nils,.nils]),(B74.mk x5.c0 x5.c1 (IntKind.i64.wrap (x5.c2 - 1)) x5.c3 x5.c4)))) (bn (S.p_prim x4.2) fun x7=>an (okG 26 x7.1) (fl x7.1 [4,5] (r ((G 26 x7.1),x7.2))))
theorem Ql9 (S:Q9):KOk Tryz.prog [] 153 Tryz.f153 (Qg S) [] 1 Qii Jt (Hi S):=by intro K g v; cases v <;> kernel_rfl
def Q5K (S:Q9) (n:Nat) (s0:B74):Option (D × B74):=rawN Jt (Hi S) n (.e s0)
theorem Qij {S:Q9} (hS:Qf S) (n:Nat):EntryOk Tryz.prog (e25 153 26 (Q5K S n)):=Je fun _ _ hr=>Qd Q7 Tryz.func153 rfl hS (Ql9 S) (fun _ _ _ _ v=>by cases v <;> exact id) rfl rfl hr
inductive Q0c where
 | e (s0:B105) (a1:Int)
def Q7S:Q0c → Pth × List AV × Heap
 | .e s0 a1=>([],startT Tryz.f80 [.ptr (some (0,0)),.dat (.int .i64 a1),.func (.func 148) [.ptr (some (0,0))] []],[b105 s0 0])
def Zs (S:Q9) (r:D × B105 → Prop) (l:Q0c → Prop):Q0c → Prop
 | .e s0 a1=>bn (S.s_enter s0) fun x3=>cnd (!x3.1) (r ((.agg [.int .i64 0,.int .i64 0,.str [],.str [],.nils,.nils]),x3.2)) (bn (S.s_unary x3.2) fun x4=>an (okG 26 x4.1) (bn (S.s_leave x4.2) fun x5=>r ((.agg [.int .i64 a1,.int .i64 0,.str [],.str [],D.slice [G 26 x4.1],.nils]),x5)))
theorem Qak (S:Q9):KOk Tryz.prog [] 80 Tryz.f80 (Qg S) [] 1 Q7S Q4q (Zs S):=by intro K g v; cases v <;> kernel_rfl
def Q17 (S:Q9) (n:Nat) (s0:B105) (a1:Int):Option (D × B105):=rawN Q4q (Zs S) n (.e s0 a1)
theorem Q8a {S:Q9} (hS:Qf S) (n:Nat):EntryOk Tryz.prog (e13 80 148 26 (Q17 S n)):=Qc2 fun _ _ _ hr=>Qd Q7 Tryz.func80 rfl hS (Qak S) (fun _ _ _ _ v=>by cases v <;> exact id) rfl rfl hr
inductive Q9q where
 | e (a0:List UInt8)
def Qjr:Q9q → Pth × List AV × Heap
 | .e a0=>([],startT Tryz.f9 [.dat (.str a0)],[])
def QbD (S:Q9) (r:D × Int × Int → Prop) (l:Q9q → Prop):Q9q → Prop
 | .e a0=>bn (S.r_New a0 0) fun x3=>cnd (x3.c4 != 0) (r ((.agg [.int .i64 0,.int .i64 0,.str [],.str [],.nils,.nils]),x3.c3,x3.c4)) (bn (S.p_Expr x3) fun x4=>an (okG 26 x4.1) (fl x4.1 [4,5] (bn (S.p_End x4.2) fun x5=>cnd (x5.2.1 != 0) (r ((.agg [.int .i64 0,.int .i64 0,.str [],.str [],.nils,.nils]),x5.1,x5.2.1)) (fl x4.1 [4,5] (r ((G 26 x4.1),x5.1,x5.2.1))))))
theorem QmK (S:Q9):KOk Tryz.prog [] 9 Tryz.f9 (Qg S) [] 0 Qjr YC (QbD S):=by intro K g v; cases v <;> kernel_rfl
def Q81 (S:Q9) (n:Nat) (a0:List UInt8):Option (D × Int × Int):=rawN YC (QbD S) n (.e a0)
theorem QjN {S:Q9} (hS:Qf S) (n:Nat):EntryOk Tryz.prog (e17 9 26 (Q81 S n)):=YT fun _ _ hr=>Qd Q7 Tryz.func9 rfl hS (QmK S) (fun _ _ _ _ v=>by cases v <;> exact id) rfl rfl hr
inductive Q8P where
 | e (s0:B74)
def QjJ:Q8P → Pth × List AV × Heap
 | .e s0=>([],startT Tryz.f52 [.ptr (some (0,0))],[b74 s0 0])
def Yn (S:Q9) (r:B74 → Prop) (l:Q8P → Prop):Q8P → Prop
 | .e s0=>cnd (s0.c4 == 0) (cnd (decide (IntKind.i64.wrap (s0.c2 + 1) > 40)) (bn (S.p_bad (B74.mk s0.c0 s0.c1 (IntKind.i64.wrap (s0.c2 + 1)) s0.c3 s0.c4) 9) fun x1=>r x1) (r (B74.mk s0.c0 s0.c1 (IntKind.i64.wrap (s0.c2 + 1)) s0.c3 s0.c4))) (r (B74.mk s0.c0 s0.c1 (IntKind.i64.wrap (s0.c2 + 1)) s0.c3 s0.c4))
theorem Qo2 (S:Q9):KOk Tryz.prog [] 52 Tryz.f52 (Qg S) [] 1 QjJ Q6Y (Yn S):=by intro K g v; cases v <;> kernel_rfl
def Q7F (S:Q9) (n:Nat) (s0:B74):Option (B74):=rawN Q6Y (Yn S) n (.e s0)
theorem QlI {S:Q9} (hS:Qf S) (n:Nat):EntryOk Tryz.prog (e21 52 (Q7F S n)):=QmP fun _ _ hr=>Qd Q7 Tryz.func52 rfl hS (Qo2 S) (fun _ _ _ _ v=>by cases v <;> exact id) rfl rfl hr
inductive Q5r where
 | e (s0:B105)
def Qhe:Q5r → Pth × List AV × Heap
 | .e s0=>([],startT Tryz.f45 [.ptr (some (0,0))],[b105 s0 0])
def ZR (S:Q9) (r:Bool × B105 → Prop) (l:Q5r → Prop):Q5r → Prop
 | .e s0=>cnd (decide (IntKind.i64.wrap (s0.c2 + 1) > 40)) (bn (S.s_fail (B105.mk s0.c0 s0.c1 (IntKind.i64.wrap (s0.c2 + 1)) s0.c3 s0.c4) 9) fun x1=>r ((x1.c4 == 0),x1)) (r ((s0.c4 == 0),(B105.mk s0.c0 s0.c1 (IntKind.i64.wrap (s0.c2 + 1)) s0.c3 s0.c4)))
theorem QlE (S:Q9):KOk Tryz.prog [] 45 Tryz.f45 (Qg S) [] 1 Qhe QcU (ZR S):=by intro K g v; cases v <;> kernel_rfl
def Q6h (S:Q9) (n:Nat) (s0:B105):Option (Bool × B105):=rawN QcU (ZR S) n (.e s0)
theorem QgX {S:Q9} (hS:Qf S) (n:Nat):EntryOk Tryz.prog (e6 45 (Q6h S n)):=Qj6 fun _ _ hr=>Qd Q7 Tryz.func45 rfl hS (QlE S) (fun _ _ _ _ v=>by cases v <;> exact id) rfl rfl hr
inductive Q54 where
 | e (s0:B105)
def Qh2:Q54 → Pth × List AV × Heap
 | .e s0=>([],startT Tryz.f102 [.ptr (some (0,0))],[b105 s0 0])
def Q0U (S:Q9) (r:Bool × B105 → Prop) (l:Q54 → Prop):Q54 → Prop
 | .e s0=>cnd (s0.c4 == 0) (bn (S.s_now s0) fun x3=>an (okG 107 x3.1) (cnd (cI x3.1 0 == 1) (bn (S.s_now x3.2) fun x4=>an (okG 107 x4.1) (bn (S.t_Word (cS x4.1 1)) fun x5=>r ((!x5),x4.2))) (r (false,x3.2)))) (r (false,s0))
theorem QjV (S:Q9):KOk Tryz.prog [] 102 Tryz.f102 (Qg S) [] 1 Qh2 QcU (Q0U S):=by intro K g v; cases v <;> kernel_rfl
def Q6k (S:Q9) (n:Nat) (s0:B105):Option (Bool × B105):=rawN QcU (Q0U S) n (.e s0)
theorem Qgf {S:Q9} (hS:Qf S) (n:Nat):EntryOk Tryz.prog (e6 102 (Q6k S n)):=Qj6 fun _ _ hr=>Qd Q7 Tryz.func102 rfl hS (QjV S) (fun _ _ _ _ v=>by cases v <;> exact id) rfl rfl hr
inductive Q51 where
 | e (s0:B105)
def QfH:Q51 → Pth × List AV × Heap
 | .e s0=>([],startT Tryz.f47 [.ptr (some (1,0))],[b105 s0 0,some (.cells 67 [.ptr (some (0,0))] 0)])
def Hm (S:Q9) (r:D × B105 → Prop) (l:Q51 → Prop):Q51 → Prop
 | .e s0=>bn (S.s_left_and s0 (.slice [.str [97,110,100]])) fun x1=>an (okG 26 x1.1) (fl x1.1 [4,5] (r ((G 26 x1.1),x1.2)))
theorem Qki (S:Q9):KOk Tryz.prog [] 47 Tryz.f47 (Qg S) [] 2 QfH Q8G (Hm S):=by intro K g v; cases v <;> kernel_rfl
def Q5L (S:Q9) (n:Nat) (s0:B105):Option (D × B105):=rawN Q8G (Hm S) n (.e s0)
theorem Qhz {S:Q9} (hS:Qf S) (n:Nat):EntryOk Tryz.prog (e14 47 26 (Q5L S n)):=Qnt fun _ _ hr=>Qd Q7 Tryz.func47 rfl hS (Qki S) (fun _ _ _ _ v=>by cases v <;> exact id) rfl rfl hr
inductive Q8y where
 | e (s0:B105) (a1:Int)
def Qjx:Q8y → Pth × List AV × Heap
 | .e s0 a1=>([],startT Tryz.f44 [.ptr (some (0,0)),.dat (.int .i64 a1)],[b105 s0 0])
def Q2h (S:Q9) (r:B105 → Prop) (l:Q8y → Prop):Q8y → Prop
 | .e s0 a1=>cnd (s0.c4 == 0) (bn (S.s_now s0) fun x1=>an (okG 107 x1.1) (r (B105.mk x1.2.c0 x1.2.c1 x1.2.c2 (cI x1.1 3) a1))) (r s0)
theorem Qnk (S:Q9):KOk Tryz.prog [] 44 Tryz.f44 (Qg S) [] 1 Qjx Qia (Q2h S):=by intro K g v; cases v <;> kernel_rfl
def Q8b (S:Q9) (n:Nat) (s0:B105) (a1:Int):Option (B105):=rawN Qia (Q2h S) n (.e s0 a1)
theorem Qjv {S:Q9} (hS:Qf S) (n:Nat):EntryOk Tryz.prog (e1 44 (Q8b S n)):=QqY fun _ _ _ hr=>Qd Q7 Tryz.func44 rfl hS (Qnk S) (fun _ _ _ _ v=>by cases v <;> exact id) rfl rfl hr
inductive HV where
 | e (a0:List UInt8) (a1:Int)
def Q6V:HV → Pth × List AV × Heap
 | .e a0 a1=>([],startT Tryz.f107 [.dat (.str a0),.dat (.int .u8 a1)],[])
def Hr (S:Q9) (r:Int → Prop) (l:HV → Prop):HV → Prop
 | .e a0 a1=>bn (S.g_sIndexByte a0 a1) fun x1=>r x1
theorem Qa1 (S:Q9):KOk Tryz.prog [] 107 Tryz.f107 (Qg S) [] 0 Q6V Q3L (Hr S):=by intro K g v; cases v <;> kernel_rfl
def Q14 (S:Q9) (n:Nat) (a0:List UInt8) (a1:Int):Option (Int):=rawN Q3L (Hr S) n (.e a0 a1)
theorem Q7f {S:Q9} (hS:Qf S) (n:Nat):EntryOk Tryz.prog (e42 107 (Q14 S n)):=Q4D fun _ _ _ hr=>Qd Q7 Tryz.func107 rfl hS (Qa1 S) (fun _ _ _ _ v=>by cases v <;> exact id) rfl rfl hr
inductive Q9z where
 | e (s0:B105)
def Qle:Q9z → Pth × List AV × Heap
 | .e s0=>([],startT Tryz.f138 [.ptr (some (0,0))],[b105 s0 0])
def Q0n (S:Q9) (r:D × B105 → Prop) (l:Q9z → Prop):Q9z → Prop
 | .e s0=>bn (S.s_left_prod s0 (.slice [.str [42],.str [47],.str [37]])) fun x1=>an (okG 26 x1.1) (fl x1.1 [4,5] (r ((G 26 x1.1),x1.2)))
theorem QmM (S:Q9):KOk Tryz.prog [] 138 Tryz.f138 (Qg S) [] 1 Qle Jj (Q0n S):=by intro K g v; cases v <;> kernel_rfl
def Q8M (S:Q9) (n:Nat) (s0:B105):Option (D × B105):=rawN Jj (Q0n S) n (.e s0)
theorem Qk5 {S:Q9} (hS:Qf S) (n:Nat):EntryOk Tryz.prog (e0 138 26 (Q8M S n)):=QR fun _ _ hr=>Qd Q7 Tryz.func138 rfl hS (QmM S) (fun _ _ _ _ v=>by cases v <;> exact id) rfl rfl hr
inductive Q9j where
 | e (a0:List UInt8)
def QkM:Q9j → Pth × List AV × Heap
 | .e a0=>([],startT Tryz.f8 [.dat (.str a0)],[])
def QbE (S:Q9) (r:D × Int × Int → Prop) (l:Q9j → Prop):Q9j → Prop
 | .e a0=>bn (S.s_readE a0 0) fun x1=>an (okG 26 x1.1) (fl x1.1 [4,5] (r ((G 26 x1.1),x1.2.1,x1.2.2)))
theorem QnJ (S:Q9):KOk Tryz.prog [] 8 Tryz.f8 (Qg S) [] 0 QkM YC (QbE S):=by intro K g v; cases v <;> kernel_rfl
def Q7N (S:Q9) (n:Nat) (a0:List UInt8):Option (D × Int × Int):=rawN YC (QbE S) n (.e a0)
theorem QkY {S:Q9} (hS:Qf S) (n:Nat):EntryOk Tryz.prog (e17 8 26 (Q7N S n)):=YT fun _ _ hr=>Qd Q7 Tryz.func8 rfl hS (QnJ S) (fun _ _ _ _ v=>by cases v <;> exact id) rfl rfl hr
inductive Q5z where
 | e (a0:Int)
def Qhm:Q5z → Pth × List AV × Heap
 | .e a0=>([],startT Tryz.f118 [.dat (.int .u8 a0)],[])
def Q3c (S:Q9) (r:Bool → Prop) (l:Q5z → Prop):Q5z → Prop
 | .e a0=>cnd (decide (a0 ≥ 48)) (r (decide (a0 ≤ 57))) (r false)
theorem QjU (S:Q9):KOk Tryz.prog [] 118 Tryz.f118 (Qg S) [] 0 Qhm Yz (Q3c S):=by intro K g v; cases v <;> kernel_rfl
def Q5R (S:Q9) (n:Nat) (a0:Int):Option (Bool):=rawN Yz (Q3c S) n (.e a0)
theorem Qg1 {S:Q9} (hS:Qf S) (n:Nat):EntryOk Tryz.prog (e32 118 (Q5R S n)):=YQ fun _ _ hr=>Qd Q7 Tryz.func118 rfl hS (QjU S) (fun _ _ _ _ v=>by cases v <;> exact id) rfl rfl hr
end
end Go.Proofs.YtfdcjngclelnhaaGreat
