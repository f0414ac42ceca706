/- Part of a proof. -/
import Derived.Test.YtfdcjngclelnhaaGreatXS
set_option linter.unusedSectionVars false
set_option linter.unusedSimpArgs false
set_option linter.unusedVariables false
namespace Go.Proofs.YtfdcjngclelnhaaGreat
open Go Go.RowKit
set_option maxRecDepth 100000
set_option maxHeartbeats 4000000
noncomputable section
inductive Qdm where
 | e (a0:List UInt8) (a1:Int)
 | l0 (y0:List UInt8) (y1:Int) (y2:Int) (y3:Bool)
 | l1 (y0:List UInt8) (y1:Int) (y2:D) (y3:Int)
 | l2 (y0:List UInt8) (y1:Int) (y2:Int) (y3:D) (y4:Nat)
def Qnw:Qdm → Pth × List AV × Heap
 | .e a0 a1=>([],startT Tryz.f85 [.dat (.str a0),.dat (.int .i64 a1)],[])
 | .l0 y0 y1 y2 y3=>([0,0,1,0,1,0,1,1,1],mkT 166 [(0,.dat (.str y0)),(1,.dat (.int .i64 y1)),(4,.ptr (some (0,0))),(8,.ptr (some (1,0))),(9,.dat (.int .i64 y2)),(10,.dat (.bool y3))],[some (.cells 107 [.dat (.int .i64 0),.dat (.str []),.dat (.int .i64 0),.dat (.int .i64 0)] 0),some (.cells 107 [.dat (.int .i64 0),.dat (.str []),.dat (.int .i64 0),.dat (.int .i64 0)] 4)])
 | .l1 y0 y1 y2 y3=>([0,1,0,1,1,1,1,1,1],mkT 166 [(0,.dat (.str y0)),(1,.dat (.int .i64 y1)),(4,.ptr (some (0,0))),(8,.ptr (some (1,0))),(17,.dat y2),(18,.dat (.int .i64 y3))],[some (.cells 107 [.dat (.int .i64 0),.dat (.str []),.dat (.int .i64 0),.dat (.int .i64 0)] 0),some (.cells 107 [.dat (.int .i64 0),.dat (.str []),.dat (.int .i64 0),.dat (.int .i64 0)] 4)])
 | .l2 y0 y1 y2 y3 y4=>([0,1,0,1,1,1,1,1,1,0,1,0,1,1,1],mkT 166 [(0,.dat (.str y0)),(4,.ptr (some (0,0))),(9,.dat (.int .i64 y1)),(11,.ptr (some (2,0))),(12,.dat (.int .i64 y2))],[some (.cells 107 [.dat (.int .i64 0),.dat (.str []),.dat (.int .i64 0),.dat (.int .i64 0)] 0),some (.cells 107 [.dat (.int .i64 0),.dat (.str []),.dat (.int .i64 0),.dat (.int .i64 0)] 4),some (sbx 107 y3 y4)])
def J1 (S:Q9) (r:D × Int × Int × Int → Prop) (l:Qdm → Prop):Qdm → Prop
 | .e a0 a1=>cnd (decide (a1 < 0)) False (bn (a0[a1.toNat]?) fun x53=>bn (S.k_letter (Int.ofNat x53.toNat)) fun x54=>cnd x54 (cnd (decide (a1 < 0)) False (bn (a0[a1.toNat]?) fun x55=>bn (S.k_letter (Int.ofNat x55.toNat)) fun x56=>l (.l0 a0 a1 a1 x56))) (cnd (decide (a1 < 0)) False (bn (a0[a1.toNat]?) fun x57=>bn (S.k_digit (Int.ofNat x57.toNat)) fun x58=>cnd x58 (cnd (decide (a1 < 0)) False (bn (a0[a1.toNat]?) fun x59=>bn (S.k_letter (Int.ofNat x59.toNat)) fun x60=>l (.l0 a0 a1 a1 x60))) (cnd (decide (a1 < 0)) False (bn (a0[a1.toNat]?) fun x61=>cnd (Int.ofNat x61.toNat == 39) (bn (S.k_text a0 a1) fun x62=>cnd (x62.2.2.2 != 0) (r ((.agg [.int .i64 0,.str [],.int .i64 0,.int .i64 0]),0,x62.2.2.1,x62.2.2.2)) (r ((.agg [.int .i64 3,.str x62.2.1,.int .i64 0,.int .i64 a1]),x62.1,0,0))) (bn S.k_Marks fun x63=>l (.l1 a0 a1 x63 0)))))))
 | .l0 y0 y1 y2 y3=>cnd (decide (y2 < Int.ofNat y0.length)) (cnd (decide (y2 < 0)) False (bn (y0[y2.toNat]?) fun x64=>bn (S.k_digit (Int.ofNat x64.toNat)) fun x65=>cnd x65 (l (.l0 y0 y1 (IntKind.i64.wrap (y2 + 1)) y3)) (cnd y3 (cnd (decide (y2 < 0)) False (bn (y0[y2.toNat]?) fun x66=>bn (S.k_letter (Int.ofNat x66.toNat)) fun x67=>cnd x67 (l (.l0 y0 y1 (IntKind.i64.wrap (y2 + 1)) y3)) (an (decide (0 ≤ y2) && decide (y2 ≤ Int.ofNat y0.length)) (an (decide (0 ≤ y1) && decide (y1 ≤ Int.ofNat y2.toNat)) (cnd y3 (cnd (decide (IntKind.i64.wrap (y2 - y1) > 30)) (r ((.agg [.int .i64 0,.str [],.int .i64 0,.int .i64 0]),0,y1,10)) (r ((.agg [.int .i64 1,.str (List.take (y2.toNat - y1.toNat) (List.drop y1.toNat y0)),.int .i64 0,.int .i64 y1]),y2,0,0))) (cnd (decide (IntKind.i64.wrap (y2 - y1) > 18)) (r ((.agg [.int .i64 0,.str [],.int .i64 0,.int .i64 0]),0,y1,10)) (l (.l2 y0 y2 y1 (.agg [.int .i64 2,.str (List.take (y2.toNat - y1.toNat) (List.drop y1.toNat y0)),.int .i64 0,.int .i64 y1]) 5)))))))) (an (decide (0 ≤ y2) && decide (y2 ≤ Int.ofNat y0.length)) (an (decide (0 ≤ y1) && decide (y1 ≤ Int.ofNat y2.toNat)) (cnd y3 (cnd (decide (IntKind.i64.wrap (y2 - y1) > 30)) (r ((.agg [.int .i64 0,.str [],.int .i64 0,.int .i64 0]),0,y1,10)) (r ((.agg [.int .i64 1,.str (List.take (y2.toNat - y1.toNat) (List.drop y1.toNat y0)),.int .i64 0,.int .i64 y1]),y2,0,0))) (cnd (decide (IntKind.i64.wrap (y2 - y1) > 18)) (r ((.agg [.int .i64 0,.str [],.int .i64 0,.int .i64 0]),0,y1,10)) (l (.l2 y0 y2 y1 (.agg [.int .i64 2,.str (List.take (y2.toNat - y1.toNat) (List.drop y1.toNat y0)),.int .i64 0,.int .i64 y1]) 5))))))))) (an (decide (0 ≤ y2) && decide (y2 ≤ Int.ofNat y0.length)) (an (decide (0 ≤ y1) && decide (y1 ≤ Int.ofNat y2.toNat)) (cnd y3 (cnd (decide (IntKind.i64.wrap (y2 - y1) > 30)) (r ((.agg [.int .i64 0,.str [],.int .i64 0,.int .i64 0]),0,y1,10)) (r ((.agg [.int .i64 1,.str (List.take (y2.toNat - y1.toNat) (List.drop y1.toNat y0)),.int .i64 0,.int .i64 y1]),y2,0,0))) (cnd (decide (IntKind.i64.wrap (y2 - y1) > 18)) (r ((.agg [.int .i64 0,.str [],.int .i64 0,.int .i64 0]),0,y1,10)) (l (.l2 y0 y2 y1 (.agg [.int .i64 2,.str (List.take (y2.toNat - y1.toNat) (List.drop y1.toNat y0)),.int .i64 0,.int .i64 y1]) 5))))))
 | .l1 y0 y1 y2 y3=>bn (asL y2) fun x68=>cnd (decide (y3 < Int.ofNat x68.length)) (bn (asL y2) fun x69=>bn (atD x69 y3) fun x70=>an x70.flat (bn (asS x70) fun x71=>cnd (decide (IntKind.i64.wrap (Int.ofNat y0.length - y1) ≥ Int.ofNat x71.length)) (bn (asL y2) fun x72=>bn (atD x72 y3) fun x73=>an x73.flat (bn (asS x73) fun x74=>an (decide (0 ≤ IntKind.i64.wrap (y1 + Int.ofNat x74.length)) && decide (IntKind.i64.wrap (y1 + Int.ofNat x74.length) ≤ Int.ofNat y0.length)) (an (decide (0 ≤ y1) && decide (y1 ≤ Int.ofNat (IntKind.i64.wrap (y1 + ↑x74.length)).toNat)) (bn (asL y2) fun x75=>bn (atD x75 y3) fun x76=>an x76.flat (bn (asS x76) fun x77=>cnd (List.take ((IntKind.i64.wrap (y1 + Int.ofNat x74.length)).toNat - y1.toNat) (List.drop y1.toNat y0) == x77) (bn (asL y2) fun x78=>bn (atD x78 y3) fun x79=>an x79.flat (bn (asS x79) fun x80=>bn (asL y2) fun x81=>bn (atD x81 y3) fun x82=>an x82.flat (bn (asS x82) fun x83=>r ((.agg [.int .i64 4,.str x80,.int .i64 0,.int .i64 y1]),(IntKind.i64.wrap (y1 + Int.ofNat x83.length)),0,0)))) (l (.l1 y0 y1 y2 (IntKind.i64.wrap (y3 + 1))))))))) (l (.l1 y0 y1 y2 (IntKind.i64.wrap (y3 + 1)))))) (r ((.agg [.int .i64 0,.str [],.int .i64 0,.int .i64 0]),0,y1,10))
 | .l2 y0 y1 y2 y3 y4=>cnd (decide (y2 < y1)) (cnd (decide (y2 < 0)) False (bn (y0[y2.toNat]?) fun x84=>l (.l2 y0 y1 (IntKind.i64.wrap (y2 + 1)) (.agg [.int .i64 (cI y3 0),.str (cS y3 1),.int .i64 (IntKind.i64.wrap (IntKind.i64.wrap (IntKind.i64.wrap (10 * cI y3 2) + IntKind.i64.wrap (Int.ofNat x84.toNat)) - 48)),.int .i64 (cI y3 3)]) (y4 + 1)))) (r ((G 107 y3),y1,0,0))
theorem Qqk (S:Q9):KOk Tryz.prog [] 85 Tryz.f85 (Qg S) [([0,0,1,0,1,0,1,1,1],[(2,2),(5,3),(11,155)],false),([0,1,0,1,1,1,1,1,1,0,1,0,1,1,1],[(1,3),(5,4),(10,1),(13,153)],false),([0,1,0,1,1,1,1,1,1],[(2,2),(5,3),(9,8),(19,147)],false)] 0 Qnw Q7e (J1 S):=by intro K g v; cases v <;> kernel_rfl
theorem QqH {S:Q9}:Mono (J1 S):=fun _ _ _ hl v=>by cases v <;> (dsimp only [J1]; repeat' first | apply Qv | apply QF | (refine QE fun _=>?_) | (refine Qr ?_ ?_ fun _ _=>?_) | apply Qs | exact hl _ | exact id)
def Qb9 (S:Q9) (n:Nat) (a0:List UInt8) (a1:Int):Option (D × Int × Int × Int):=rawN Q7e (J1 S) n (.e a0 a1)
theorem Qny {S:Q9} (hS:Qf S) (n:Nat):EntryOk Tryz.prog (e34 85 107 (Qb9 S n)):=QpA fun _ _ _ hr=>Qd Q7 Tryz.func85 rfl hS (Qqk S) QqH rfl rfl hr
inductive Q4e where
 | e (a0:List UInt8) (a1:Int)
 | l0 (y0:List UInt8) (y1:Int) (y2:Int)
 | l1 (y0:List UInt8) (y1:Int) (y2:List D) (y3:Int) (y4:Nat)
def Qm9:Q4e → Pth × List AV × Heap
 | .e a0 a1=>([],startT Tryz.f119 [.dat (.str a0),.dat (.int .i64 a1)],[])
 | .l0 y0 y1 y2=>([0,1,0,1,1],mkT 65 [(0,.dat (.str y0)),(1,.dat (.int .i64 y1)),(8,.dat .nils),(9,.dat (.int .i64 y2))],[])
 | .l1 y0 y1 y2 y3 y4=>([0,1,0,1,1],mkT 65 [(0,.dat (.str y0)),(1,.dat (.int .i64 y1)),(8,.own (.tip 0) y2),(9,.dat (.int .i64 y3))],[some (.tip 5 y4 1)])
def Jm (S:Q9) (r:Int × List UInt8 × Int × Int → Prop) (l:Q4e → Prop):Q4e → Prop
 | .e a0 a1=>l (.l0 a0 a1 (IntKind.i64.wrap (a1 + 1)))
 | .l0 y0 y1 y2=>cnd (decide (y2 < Int.ofNat y0.length)) (cnd (decide (y2 < 0)) False (bn (y0[y2.toNat]?) fun x32=>cnd (decide (Int.ofNat x32.toNat < 32)) (cnd (decide (y2 < 0)) False (bn (y0[y2.toNat]?) fun x33=>cnd (Int.ofNat x33.toNat != 10) (r (0,[],y2,10)) (cnd (decide (y2 < 0)) False (bn (y0[y2.toNat]?) fun x34=>cnd (Int.ofNat x34.toNat != 39) (cnd (decide (y2 < 0)) False (bn (y0[y2.toNat]?) fun x35=>l (.l1 y0 y1 [.int .u8 (Int.ofNat x35.toNat)] (IntKind.i64.wrap (y2 + 1)) 1))) (cnd (decide (IntKind.i64.wrap (y2 + 1) < Int.ofNat y0.length)) (cnd (decide (IntKind.i64.wrap (y2 + 1) < 0)) False (bn (y0[(IntKind.i64.wrap (y2 + 1)).toNat]?) fun x36=>cnd (Int.ofNat x36.toNat == 39) (l (.l1 y0 y1 [.int .u8 39] (IntKind.i64.wrap (IntKind.i64.wrap (y2 + 1) + 1)) 1)) (r ((IntKind.i64.wrap (y2 + 1)),[],0,0)))) (r ((IntKind.i64.wrap (y2 + 1)),[],0,0))))))) (cnd (decide (y2 < 0)) False (bn (y0[y2.toNat]?) fun x37=>cnd (Int.ofNat x37.toNat != 39) (cnd (decide (y2 < 0)) False (bn (y0[y2.toNat]?) fun x38=>l (.l1 y0 y1 [.int .u8 (Int.ofNat x38.toNat)] (IntKind.i64.wrap (y2 + 1)) 1))) (cnd (decide (IntKind.i64.wrap (y2 + 1) < Int.ofNat y0.length)) (cnd (decide (IntKind.i64.wrap (y2 + 1) < 0)) False (bn (y0[(IntKind.i64.wrap (y2 + 1)).toNat]?) fun x39=>cnd (Int.ofNat x39.toNat == 39) (l (.l1 y0 y1 [.int .u8 39] (IntKind.i64.wrap (IntKind.i64.wrap (y2 + 1) + 1)) 1)) (r ((IntKind.i64.wrap (y2 + 1)),[],0,0)))) (r ((IntKind.i64.wrap (y2 + 1)),[],0,0))))))) (r (0,[],y1,10))
 | .l1 y0 y1 y2 y3 y4=>cnd (decide (y3 < Int.ofNat y0.length)) (cnd (decide (y3 < 0)) False (bn (y0[y3.toNat]?) fun x40=>cnd (decide (Int.ofNat x40.toNat < 32)) (cnd (decide (y3 < 0)) False (bn (y0[y3.toNat]?) fun x41=>cnd (Int.ofNat x41.toNat != 10) (r (0,[],y3,10)) (cnd (decide (y3 < 0)) False (bn (y0[y3.toNat]?) fun x42=>cnd (Int.ofNat x42.toNat != 39) (cnd (decide (y3 < 0)) False (bn (y0[y3.toNat]?) fun x43=>an (y4 == y2.length) (an (roomOk (y4 + 1) 1) (l (.l1 y0 y1 (y2 ++ [D.int .u8 (Int.ofNat x43.toNat)]) (IntKind.i64.wrap (y3 + 1)) (y4 + 1)))))) (cnd (decide (IntKind.i64.wrap (y3 + 1) < Int.ofNat y0.length)) (cnd (decide (IntKind.i64.wrap (y3 + 1) < 0)) False (bn (y0[(IntKind.i64.wrap (y3 + 1)).toNat]?) fun x44=>cnd (Int.ofNat x44.toNat == 39) (an (y4 == y2.length) (an (roomOk (y4 + 1) 1) (l (.l1 y0 y1 (y2 ++ [D.int .u8 39]) (IntKind.i64.wrap (IntKind.i64.wrap (y3 + 1) + 1)) (y4 + 1))))) (cnd (decide (Int.ofNat y2.length > 1000)) (r (0,[],y1,10)) (bn (bytesOf y2) fun x45=>r ((IntKind.i64.wrap (y3 + 1)),x45,0,0))))) (cnd (decide (Int.ofNat y2.length > 1000)) (r (0,[],y1,10)) (bn (bytesOf y2) fun x46=>r ((IntKind.i64.wrap (y3 + 1)),x46,0,0)))))))) (cnd (decide (y3 < 0)) False (bn (y0[y3.toNat]?) fun x47=>cnd (Int.ofNat x47.toNat != 39) (cnd (decide (y3 < 0)) False (bn (y0[y3.toNat]?) fun x48=>an (y4 == y2.length) (an (roomOk (y4 + 1) 1) (l (.l1 y0 y1 (y2 ++ [D.int .u8 (Int.ofNat x48.toNat)]) (IntKind.i64.wrap (y3 + 1)) (y4 + 1)))))) (cnd (decide (IntKind.i64.wrap (y3 + 1) < Int.ofNat y0.length)) (cnd (decide (IntKind.i64.wrap (y3 + 1) < 0)) False (bn (y0[(IntKind.i64.wrap (y3 + 1)).toNat]?) fun x49=>cnd (Int.ofNat x49.toNat == 39) (an (y4 == y2.length) (an (roomOk (y4 + 1) 1) (l (.l1 y0 y1 (y2 ++ [D.int .u8 39]) (IntKind.i64.wrap (IntKind.i64.wrap (y3 + 1) + 1)) (y4 + 1))))) (cnd (decide (Int.ofNat y2.length > 1000)) (r (0,[],y1,10)) (bn (bytesOf y2) fun x50=>r ((IntKind.i64.wrap (y3 + 1)),x50,0,0))))) (cnd (decide (Int.ofNat y2.length > 1000)) (r (0,[],y1,10)) (bn (bytesOf y2) fun x51=>r ((IntKind.i64.wrap (y3 + 1)),x51,0,0)))))))) (r (0,[],y1,10))
theorem QmN (S:Q9):KOk Tryz.prog [] 119 Tryz.f119 (Qg S) [([0,1,0,1,1],[(2,6),(10,55)],false)] 0 Qm9 Q7X (Jm S):=by intro K g v; cases v <;> kernel_rfl
theorem Qof {S:Q9}:Mono (Jm S):=fun _ _ _ hl v=>by cases v <;> (dsimp only [Jm]; repeat' first | apply Qv | apply QF | (refine QE fun _=>?_) | (refine Qr ?_ ?_ fun _ _=>?_) | apply Qs | exact hl _ | exact id)
def Q94 (S:Q9) (n:Nat) (a0:List UInt8) (a1:Int):Option (Int × List UInt8 × Int × Int):=rawN Q7X (Jm S) n (.e a0 a1)
theorem QjK {S:Q9} (hS:Qf S) (n:Nat):EntryOk Tryz.prog (e33 119 (Q94 S n)):=QmO fun _ _ _ hr=>Qd Q7 Tryz.func119 rfl hS (QmN S) Qof rfl rfl hr
inductive Q5d where
 | e (s0:B105)
 | l0 (y0:B105) (y1:D)
 | l1 (y0:B105) (y1:Int) (y2:List D) (y3:Nat)
def QhH:Q5d → Pth × List AV × Heap
 | .e s0=>([],startT Tryz.f30 [.ptr (some (0,0))],[b105 s0 0])
 | .l0 y0 y1=>([0,0,1,1,1,1],mkT 40 [(0,.ptr (some (0,0))),(2,.ptr (some (1,0))),(4,.ptr (some (3,0)))],[some (o105 y0 0),some (.cells 38 [.dat (.int .i64 0),.dat (.bool false),.dat .nils,.dat .nils,.dat .nils,.dat .nils,.dat .nils,.dat .nils,.dat (.int .i64 0),.dat .nils] 0),some (.cells 38 [.dat (.int .i64 0),.dat (.bool false),.dat .nils,.dat .nils,.dat .nils,.dat .nils,.dat .nils,.dat .nils,.dat (.int .i64 0),.dat .nils] 10),some (sbx 38 y1 10)])
 | .l1 y0 y1 y2 y3=>([0,0,1,1,1,1],mkT 40 [(0,.ptr (some (0,0))),(2,.ptr (some (1,0))),(4,.ptr (some (3,0)))],[some (o105 y0 0),some (.cells 38 [.dat (.int .i64 0),.dat (.bool false),.dat .nils,.dat .nils,.dat .nils,.dat .nils,.dat .nils,.dat .nils,.dat (.int .i64 0),.dat .nils] 0),some (.cells 38 [.dat (.int .i64 0),.dat (.bool false),.dat .nils,.dat .nils,.dat .nils,.dat .nils,.dat .nils,.dat .nils,.dat (.int .i64 0),.dat .nils] 10),some (.cells 38 [.dat (.int .i64 y1),.dat (.bool false),.dat .nils,.dat .nils,.dat .nils,.dat .nils,.dat .nils,.dat .nils,.dat (.int .i64 (-1)),.own .full y2] y3)])
def J8 (S:Q9) (r:D × B105 → Prop) (l:Q5d → Prop):Q5d → Prop
 | .e s0=>bn (S.s_enter s0) fun x32=>cnd (!x32.1) (r ((.agg [.int .i64 0,.bool false,.nils,.nils,.nils,.nils,.nils,.nils,.int .i64 0,.nils]),x32.2)) (bn (S.s_part x32.2) fun x33=>an (okG 38 x33.1) (fl x33.1 [2,3,4,5,6,7,9] (l (.l0 x33.2 x33.1))))
 | .l0 y0 y1=>cnd (y0.c4 == 0) (bn (S.s_word y0 [117,110,105,111,110]) fun x34=>cnd x34.1 (bn (S.s_word x34.2 [97,108,108]) fun x35=>cnd x35.1 (bn (S.s_part x35.2) fun x36=>an (okG 38 x36.1) (l (.l1 x36.2 3 [G 38 y1,G 38 x36.1] 20))) (bn (S.s_part x35.2) fun x37=>an (okG 38 x37.1) (l (.l1 x37.2 2 [G 38 y1,G 38 x37.1] 20)))) (bn (S.s_word x34.2 [101,120,99,101,112,116]) fun x38=>cnd x38.1 (bn (S.s_part x38.2) fun x39=>an (okG 38 x39.1) (l (.l1 x39.2 4 [G 38 y1,G 38 x39.1] 20))) (bn (S.s_word x38.2 [105,110,116,101,114,115,101,99,116]) fun x40=>cnd x40.1 (bn (S.s_part x40.2) fun x41=>an (okG 38 x41.1) (l (.l1 x41.2 5 [G 38 y1,G 38 x41.1] 20))) (bn (S.s_leave x40.2) fun x42=>fl y1 [2,3,4,5,6,7,9] (r ((G 38 y1),x42)))))) (bn (S.s_leave y0) fun x43=>fl y1 [2,3,4,5,6,7,9] (r ((G 38 y1),x43)))
 | .l1 y0 y1 y2 y3=>cnd (y0.c4 == 0) (bn (S.s_word y0 [117,110,105,111,110]) fun x44=>cnd x44.1 (bn (S.s_word x44.2 [97,108,108]) fun x45=>cnd x45.1 (bn (S.s_part x45.2) fun x46=>an (okG 38 x46.1) (l (.l1 x46.2 3 [.agg [.int .i64 y1,.bool false,.nils,.nils,.nils,.nils,.nils,.nils,.int .i64 (-1),D.slice y2],G 38 x46.1] (y3 + 10)))) (bn (S.s_part x45.2) fun x47=>an (okG 38 x47.1) (l (.l1 x47.2 2 [.agg [.int .i64 y1,.bool false,.nils,.nils,.nils,.nils,.nils,.nils,.int .i64 (-1),D.slice y2],G 38 x47.1] (y3 + 10))))) (bn (S.s_word x44.2 [101,120,99,101,112,116]) fun x48=>cnd x48.1 (bn (S.s_part x48.2) fun x49=>an (okG 38 x49.1) (l (.l1 x49.2 4 [.agg [.int .i64 y1,.bool false,.nils,.nils,.nils,.nils,.nils,.nils,.int .i64 (-1),D.slice y2],G 38 x49.1] (y3 + 10)))) (bn (S.s_word x48.2 [105,110,116,101,114,115,101,99,116]) fun x50=>cnd x50.1 (bn (S.s_part x50.2) fun x51=>an (okG 38 x51.1) (l (.l1 x51.2 5 [.agg [.int .i64 y1,.bool false,.nils,.nils,.nils,.nils,.nils,.nils,.int .i64 (-1),D.slice y2],G 38 x51.1] (y3 + 10)))) (bn (S.s_leave x50.2) fun x52=>r ((.agg [.int .i64 y1,.bool false,.nils,.nils,.nils,.nils,.nils,.nils,.int .i64 (-1),D.slice y2]),x52))))) (bn (S.s_leave y0) fun x53=>r ((.agg [.int .i64 y1,.bool false,.nils,.nils,.nils,.nils,.nils,.nils,.int .i64 (-1),D.slice y2]),x53))
theorem Qlo (S:Q9):KOk Tryz.prog [] 30 Tryz.f30 (Qg S) [([0,0,1,1,1,1],[(1,1),(3,1),(5,35)],false)] 1 QhH Jj (J8 S):=by intro K g v; cases v <;> kernel_rfl
theorem Ql0 {S:Q9}:Mono (J8 S):=fun _ _ _ hl v=>by cases v <;> (dsimp only [J8]; repeat' first | apply Qv | apply QF | (refine QE fun _=>?_) | (refine Qr ?_ ?_ fun _ _=>?_) | apply Qs | exact hl _ | exact id)
def Q69 (S:Q9) (n:Nat) (s0:B105):Option (D × B105):=rawN Jj (J8 S) n (.e s0)
theorem QgG {S:Q9} (hS:Qf S) (n:Nat):EntryOk Tryz.prog (e0 30 38 (Q69 S n)):=QR fun _ _ hr=>Qd Q7 Tryz.func30 rfl hS (Qlo S) Ql0 rfl rfl hr
inductive Q09 where
 | en (s0:B132)
 | eo (s0:B132) (es0:List D) (w0:Nat)
 | l0 (y0:Int) (y1:List UInt8) (y2:Int) (y3:Nat)
 | l1 (y0:Int) (y1:List UInt8) (y2:Int) (y3:Nat) (y4:List D) (y5:Nat)
def Q8B:Q09 → Pth × List AV × Heap
 | .en s0=>([],startT Tryz.f132 [.ptr (some (0,0)),.func (.func 111) [] []],[some (.cells 132 [.dat (.str (s0).c0),.dat (.int .i64 (s0).c1),.dat .nils] s0.ver)])
 | .eo s0 es0 w0=>([],startT Tryz.f132 [.ptr (some (0,0)),.func (.func 111) [] []],[some (.cells 132 [.dat (.str (s0).c0),.dat (.int .i64 (s0).c1),.own (.at 0 2 w0 107) es0] s0.ver)])
 | .l0 y0 y1 y2 y3=>([0,0,1,1],mkT 50 [(0,.ptr (some (0,0))),(1,.func (.func 111) [] []),(5,.dat (.int .i64 y0))],[some (.cells 132 [.dat (.str y1),.dat (.int .i64 y2),.dat .nils] y3)])
 | .l1 y0 y1 y2 y3 y4 y5=>([0,0,1,1],mkT 50 [(0,.ptr (some (0,0))),(1,.func (.func 111) [] []),(5,.dat (.int .i64 y0))],[some (.cells 132 [.dat (.str y1),.dat (.int .i64 y2),.own (.at 0 2 y3 107) y4] y5)])
def Jc (S:Q9) (r:List UInt8 × B132 → Prop) (l:Q09 → Prop):Q09 → Prop
 | .en s0=>l (.l0 s0.c1 s0.c0 s0.c1 s0.ver)
 | .eo s0 es0 w0=>l (.l1 s0.c1 s0.c0 s0.c1 w0 es0 s0.ver)
 | .l0 y0 y1 y2 y3=>cnd (decide (y2 < Int.ofNat y1.length)) (cnd (decide (y2 < 0)) False (bn (y1[y2.toNat]?) fun x8=>bn (S.t_digit (Int.ofNat x8.toNat)) fun x9=>cnd x9 (l (.l0 y0 y1 (IntKind.i64.wrap (y2 + 1)) (y3 + 1))) (an (decide (0 ≤ y2) && decide (y2 ≤ Int.ofNat y1.length)) (an (decide (0 ≤ y0) && decide (y0 ≤ Int.ofNat y2.toNat)) (r ((List.take (y2.toNat - y0.toNat) (List.drop y0.toNat y1)),(⟨y1,y2,.n,y3⟩:B132))))))) (an (decide (0 ≤ y2) && decide (y2 ≤ Int.ofNat y1.length)) (an (decide (0 ≤ y0) && decide (y0 ≤ Int.ofNat y2.toNat)) (r ((List.take (y2.toNat - y0.toNat) (List.drop y0.toNat y1)),(⟨y1,y2,.n,y3⟩:B132)))))
 | .l1 y0 y1 y2 y3 y4 y5=>cnd (decide (y2 < Int.ofNat y1.length)) (cnd (decide (y2 < 0)) False (bn (y1[y2.toNat]?) fun x10=>bn (S.t_digit (Int.ofNat x10.toNat)) fun x11=>cnd x11 (l (.l1 y0 y1 (IntKind.i64.wrap (y2 + 1)) y3 y4 (y5 + 1))) (an (decide (0 ≤ y2) && decide (y2 ≤ Int.ofNat y1.length)) (an (decide (0 ≤ y0) && decide (y0 ≤ Int.ofNat y2.toNat)) (r ((List.take (y2.toNat - y0.toNat) (List.drop y0.toNat y1)),(⟨y1,y2,(.o y4 y3),y5⟩:B132))))))) (an (decide (0 ≤ y2) && decide (y2 ≤ Int.ofNat y1.length)) (an (decide (0 ≤ y0) && decide (y0 ≤ Int.ofNat y2.toNat)) (r ((List.take (y2.toNat - y0.toNat) (List.drop y0.toNat y1)),(⟨y1,y2,(.o y4 y3),y5⟩:B132)))))
theorem Q2G (S:Q9):KOk Tryz.prog [true] 132 Tryz.f132 (Qg S) [([0,0,1,1],[(2,3),(6,44)],false)] 1 Q8B Q1u (Jc S):=by intro K g v; cases v <;> kernel_rfl
theorem Q2H {S:Q9}:Mono (Jc S):=fun _ _ _ hl v=>by cases v <;> (dsimp only [Jc]; repeat' first | apply Qv | apply QF | (refine QE fun _=>?_) | (refine Qr ?_ ?_ fun _ _=>?_) | apply Qs | exact hl _ | exact id)
def Q15 (S:Q9) (n:Nat) (s0:B132):Option (List UInt8 × B132):=gcas s0.c2 (rawN Q1u (Jc S) n (.en s0)) (none) fun es0 w0=>rawN Q1u (Jc S) n (.eo s0 es0 w0)
theorem Q8V {S:Q9} (hS:Qf S) (n:Nat):EntryOk Tryz.prog (e40 132 111 (Q15 S n)):=Qdl fun ⟨_,_,g0,_⟩ r hr=>by
 rcases g0 with _ | _ | ⟨_,_⟩
 ·exact Qd Q7 Tryz.func132 rfl hS (Q2G S) Q2H rfl rfl hr
 ·exact nomatch (show (none:Option (List UInt8 × B132)) = some r from hr)
 ·exact Qd Q7 Tryz.func132 rfl hS (Q2G S) Q2H rfl rfl hr
inductive Q0S where
 | e (s0:B105)
 | l0 (y0:Int) (y1:B105) (y2:D)
def Qa7:Q0S → Pth × List AV × Heap
 | .e s0=>([],startT Tryz.f81 [.ptr (some (0,0))],[b105 s0 0])
 | .l0 y0 y1 y2=>([0,1,0,1,1],mkT 52 [(0,.ptr (some (0,0))),(2,.ptr (some (1,0))),(3,.ptr (some (2,0))),(10,.dat (.agg [.str [61],.str [60,62],.str [60],.str [60,61],.str [62],.str [62,61]])),(11,.dat (.int .i64 y0))],[some (o105 y1 0),some (.cells 26 [.dat (.int .i64 0),.dat (.int .i64 0),.dat (.str []),.dat (.str []),.dat .nils,.dat .nils] 0),some (sbx 26 y2 6)])
def J7 (S:Q9) (r:D × B105 → Prop) (l:Q0S → Prop):Q0S → Prop
 | .e s0=>bn (S.s_sum s0) fun x18=>an (okG 26 x18.1) (fl x18.1 [4,5] (l (.l0 0 x18.2 x18.1)))
 | .l0 y0 y1 y2=>cnd (decide (y0 < 6)) (an (decide (0 ≤ y0) && decide (y0 < Int.ofNat 6)) (bn ([.str [61],.str [60,62],.str [60],.str [60,61],.str [62],.str [62,61]][y0.toNat * 1]?) fun x19=>bn (asS x19) fun x20=>bn (S.s_mark y1 x20) fun x21=>cnd x21.1 (bn (S.s_sum x21.2) fun x22=>an (okG 26 x22.1) (an (okG 26 (G 26 y2)) (an (okG 26 (G 26 x22.1)) (bn (S.s_bin x20 (G 26 y2) (G 26 x22.1)) fun x23=>an (okG 26 x23) (fl x23 [4,5] (r ((G 26 x23),x22.2))))))) (l (.l0 (IntKind.i64.wrap (y0 + 1)) x21.2 y2)))) (bn (S.s_word y1 [105,115]) fun x24=>cnd x24.1 (bn (S.s_word x24.2 [110,111,116]) fun x25=>cnd x25.1 (bn (S.s_must x25.2 [110,117,108,108]) fun x26=>r ((.agg [.int .i64 9,.int .i64 1,.str [],.str [],D.slice [G 26 y2],.nils]),x26)) (bn (S.s_must x25.2 [110,117,108,108]) fun x27=>r ((.agg [.int .i64 9,.int .i64 0,.str [],.str [],D.slice [G 26 y2],.nils]),x27))) (bn (S.s_word x24.2 [110,111,116]) fun x28=>cnd x28.1 (bn (S.s_must x28.2 [105,110]) fun x29=>bn (S.s_bracketed x29) fun x30=>an (okG 38 x30.1) (r ((.agg [.int .i64 13,.int .i64 1,.str [],.str [],D.slice [G 26 y2],D.slice [G 38 x30.1]]),x30.2))) (bn (S.s_word x28.2 [105,110]) fun x31=>cnd x31.1 (bn (S.s_bracketed x31.2) fun x32=>an (okG 38 x32.1) (r ((.agg [.int .i64 13,.int .i64 0,.str [],.str [],D.slice [G 26 y2],D.slice [G 38 x32.1]]),x32.2))) (fl y2 [4,5] (r ((G 26 y2),x31.2))))))
theorem Qd2 (S:Q9):KOk Tryz.prog [] 81 Tryz.f81 (Qg S) [([0,1,0,1,1],[(1,1),(4,6),(12,40)],false)] 1 Qa7 Jj (J7 S):=by intro K g v; cases v <;> kernel_rfl
theorem Qcc {S:Q9}:Mono (J7 S):=fun _ _ _ hl v=>by cases v <;> (dsimp only [J7]; repeat' first | apply Qv | apply QF | (refine QE fun _=>?_) | (refine Qr ?_ ?_ fun _ _=>?_) | apply Qs | exact hl _ | exact id)
def Q1y (S:Q9) (n:Nat) (s0:B105):Option (D × B105):=rawN Jj (J7 S) n (.e s0)
theorem QaA {S:Q9} (hS:Qf S) (n:Nat):EntryOk Tryz.prog (e0 81 26 (Q1y S n)):=QR fun _ _ hr=>Qd Q7 Tryz.func81 rfl hS (Qd2 S) Qcc rfl rfl hr
inductive H5 where
 | e (s0:B105) (a3:D)
 | l0 (y0:D) (y1:B105) (y2:D) (y3:Nat)
 | l1 (y0:D) (y1:Int) (y2:Int) (y3:B105) (y4:D) (y5:Nat)
def Qa9:H5 → Pth × List AV × Heap
 | .e s0 a3=>([],startT Tryz.f46 [.ptr (some (0,0)),.func (.func 138) [.ptr (some (0,0))] [],.func (.func 87) [.ptr (some (0,0))] [],.dat a3],[b105 s0 0])
 | .l0 y0 y1 y2 y3=>([1,1,0,1],mkT 30 [(1,.func (.func 138) [.ptr (some (0,0))] []),(2,.func (.func 87) [.ptr (some (0,0))] []),(3,.dat y0),(8,.ptr (some (1,0))),(9,.ptr (some (2,0)))],[some (o105 y1 0),some (.cells 26 [.dat (.int .i64 0),.dat (.int .i64 0),.dat (.str []),.dat (.str []),.dat .nils,.dat .nils] 0),some (sbx 26 y2 y3)])
 | .l1 y0 y1 y2 y3 y4 y5=>([0,1,0,1,1,0,1],mkT 30 [(1,.func (.func 138) [.ptr (some (0,0))] []),(2,.func (.func 87) [.ptr (some (0,0))] []),(3,.dat y0),(8,.ptr (some (1,0))),(9,.ptr (some (2,0))),(14,.dat y0),(15,.dat (.int .i64 y1)),(16,.dat (.int .i64 y2))],[some (o105 y3 0),some (.cells 26 [.dat (.int .i64 0),.dat (.int .i64 0),.dat (.str []),.dat (.str []),.dat .nils,.dat .nils] 0),some (sbx 26 y4 y5)])
def JK (S:Q9) (r:D × B105 → Prop) (l:H5 → Prop):H5 → Prop
 | .e s0 a3=>bn (S.s_prod s0) fun x15=>an (okG 26 x15.1) (fl x15.1 [4,5] (l (.l0 a3 x15.2 x15.1 6)))
 | .l0 y0 y1 y2 y3=>bn (asL y0) fun x16=>l (.l1 y0 (Int.ofNat x16.length) 0 y1 y2 y3)
 | .l1 y0 y1 y2 y3 y4 y5=>cnd (decide (y2 < y1)) (bn (asL y0) fun x17=>bn (atD x17 y2) fun x18=>an x18.flat (bn (asS x18) fun x19=>bn (S.s_mark y3 x19) fun x20=>cnd x20.1 (bn (S.s_prod x20.2) fun x21=>an (okG 26 x21.1) (an (okG 26 (G 26 y4)) (an (okG 26 (G 26 x21.1)) (bn (S.s_bin x19 (G 26 y4) (G 26 x21.1)) fun x22=>an (okG 26 x22) (fl x22 [4,5] (l (.l0 y0 x21.2 x22 (y5 + 6)))))))) (l (.l1 y0 y1 (IntKind.i64.wrap (y2 + 1)) x20.2 y4 y5)))) (fl y4 [4,5] (r ((G 26 y4),y3)))
theorem QcO (S:Q9):KOk Tryz.prog [] 46 Tryz.f46 (Qg S) [([1,1,0,1],[(0,1),(4,4),(10,20)],false),([0,1,0,1,1,0,1],[(0,1),(4,4),(10,4),(17,13)],false)] 1 Qa9 Q1T (JK S):=by intro K g v; cases v <;> kernel_rfl
theorem Qdr {S:Q9}:Mono (JK S):=fun _ _ _ hl v=>by cases v <;> (dsimp only [JK]; repeat' first | apply Qv | apply QF | (refine QE fun _=>?_) | (refine Qr ?_ ?_ fun _ _=>?_) | apply Qs | exact hl _ | exact id)
def Q1O (S:Q9) (n:Nat) (s0:B105) (a3:D):Option (D × B105):=rawN Q1T (JK S) n (.e s0 a3)
theorem Qah {S:Q9} (hS:Qf S) (n:Nat):EntryOk Tryz.prog (e12 46 138 87 26 (Q1O S n)):=Q4y fun _ _ _ hr=>Qd Q7 Tryz.func46 rfl hS (QcO S) Qdr rfl rfl hr
inductive Yt where
 | e (s0:B105)
 | l0 (y0:List D) (y1:B105)
 | l1 (y0:List D) (y1:B105) (y2:Nat)
def Q77:Yt → Pth × List AV × Heap
 | .e s0=>([],startT Tryz.f92 [.ptr (some (0,0)),.func (.func 22) [.ptr (some (0,0))] []],[b105 s0 0])
 | .l0 y0 y1=>([0,0,1,1],mkT 17 [(0,.ptr (some (0,0))),(1,.func (.func 22) [.ptr (some (0,0))] []),(5,.own .full y0)],[some (o105 y1 0)])
 | .l1 y0 y1 y2=>([0,0,1,1],mkT 17 [(0,.ptr (some (0,0))),(1,.func (.func 22) [.ptr (some (0,0))] []),(5,.own (.tip 1) y0)],[some (o105 y1 0),some (.tip 26 y2 6)])
def Jy (S:Q9) (r:D × B105 → Prop) (l:Yt → Prop):Yt → Prop
 | .e s0=>bn (S.s_expr s0) fun x5=>an (okG 26 x5.1) (l (.l0 [G 26 x5.1] x5.2))
 | .l0 y0 y1=>bn (S.s_mark y1 [44]) fun x6=>cnd x6.1 (bn (S.s_expr x6.2) fun x7=>an (okG 26 x7.1) (fl x7.1 [4,5] (an (sized 6 y0) (an (roomOk (y0.length + 1) 96) (l (.l1 (y0 ++ [G 26 x7.1]) x7.2 (y0.length + 1))))))) (r ((.slice y0),x6.2))
 | .l1 y0 y1 y2=>bn (S.s_mark y1 [44]) fun x8=>cnd x8.1 (bn (S.s_expr x8.2) fun x9=>an (okG 26 x9.1) (fl x9.1 [4,5] (an (y2 == y0.length) (an (roomOk (y2 + 1) 96) (l (.l1 (y0 ++ [G 26 x9.1]) x9.2 (y2 + 1))))))) (r ((.slice y0),x8.2))
theorem Qaq (S:Q9):KOk Tryz.prog [] 92 Tryz.f92 (Qg S) [([0,0,1,1],[(2,3),(6,11)],false)] 1 Q77 Hh (Jy S):=by intro K g v; cases v <;> kernel_rfl
theorem Qav {S:Q9}:Mono (Jy S):=fun _ _ _ hl v=>by cases v <;> (dsimp only [Jy]; repeat' first | apply Qv | apply QF | (refine QE fun _=>?_) | (refine Qr ?_ ?_ fun _ _=>?_) | apply Qs | exact hl _ | exact id)
def Q12 (S:Q9) (n:Nat) (s0:B105):Option (D × B105):=rawN Hh (Jy S) n (.e s0)
theorem Q6S {S:Q9} (hS:Qf S) (n:Nat):EntryOk Tryz.prog (e15 92 22 (Q12 S n)):=Q00 fun _ _ hr=>Qd Q7 Tryz.func92 rfl hS (Qaq S) Qav rfl rfl hr
inductive Q2R where
 | e (s0:B105)
def QdM:Q2R → Pth × List AV × Heap
 | .e s0=>([],startT Tryz.f156 [.ptr (some (0,0))],[b105 s0 0])
def YG (S:Q9) (r:D × B105 → Prop) (l:Q2R → Prop):Q2R → Prop
 | .e s0=>bn (S.s_name s0) fun x13=>bn (S.s_gathers x13.1) fun x14=>cnd x14 (bn (S.s_mark x13.2 [40]) fun x15=>cnd x15.1 (cnd (!x13.1 == [99,111,117,110,116]) (bn (S.s_expr x15.2) fun x16=>an (okG 26 x16.1) (bn (S.s_need x16.2 [41]) fun x17=>r ((.agg [.int .i64 15,.int .i64 0,.str x13.1,.str [],D.slice [G 26 x16.1],.nils]),x17))) (bn (S.s_mark x15.2 [42]) fun x18=>cnd (!x18.1) (bn (S.s_expr x18.2) fun x19=>an (okG 26 x19.1) (bn (S.s_need x19.2 [41]) fun x20=>r ((.agg [.int .i64 15,.int .i64 0,.str x13.1,.str [],D.slice [G 26 x19.1],.nils]),x20))) (bn (S.s_need x18.2 [41]) fun x21=>r ((.agg [.int .i64 15,.int .i64 0,.str x13.1,.str [],.nils,.nils]),x21)))) (bn (S.s_mark x15.2 [46]) fun x22=>cnd x22.1 (bn (S.s_name x22.2) fun x23=>r ((.agg [.int .i64 5,.int .i64 0,.str x23.1,.str x13.1,.nils,.nils]),x23.2)) (r ((.agg [.int .i64 5,.int .i64 0,.str x13.1,.str [],.nils,.nils]),x22.2)))) (bn (S.s_mark x13.2 [46]) fun x24=>cnd x24.1 (bn (S.s_name x24.2) fun x25=>r ((.agg [.int .i64 5,.int .i64 0,.str x25.1,.str x13.1,.nils,.nils]),x25.2)) (r ((.agg [.int .i64 5,.int .i64 0,.str x13.1,.str [],.nils,.nils]),x24.2)))
theorem QhG (S:Q9):KOk Tryz.prog [] 156 Tryz.f156 (Qg S) [] 1 QdM Jj (YG S):=by intro K g v; cases v <;> kernel_rfl
def Q3z (S:Q9) (n:Nat) (s0:B105):Option (D × B105):=rawN Jj (YG S) n (.e s0)
theorem Qf3 {S:Q9} (hS:Qf S) (n:Nat):EntryOk Tryz.prog (e0 156 26 (Q3z S n)):=QR fun _ _ hr=>Qd Q7 Tryz.func156 rfl hS (QhG S) (fun _ _ _ _ v=>by cases v <;> exact id) rfl rfl hr
inductive Q3x where
 | e (s0:B74)
 | l0 (y0:B74) (y1:D) (y2:Nat)
def QlS:Q3x → Pth × List AV × Heap
 | .e s0=>([],startT Tryz.f24 [.ptr (some (0,0))],[b74 s0 0])
 | .l0 y0 y1 y2=>([0,0,1,1,1],mkT 22 [(0,.ptr (some (0,0))),(2,.ptr (some (1,0))),(3,.ptr (some (2,0)))],[some (o74 y0 0),some (.cells 26 [.dat (.int .i64 0),.dat (.int .i64 0),.dat (.str []),.dat (.str []),.dat .nils,.dat .nils] 0),some (sbx 26 y1 y2)])
def JO (S:Q9) (r:D × B74 → Prop) (l:Q3x → Prop):Q3x → Prop
 | .e s0=>bn (S.p_down s0) fun x8=>bn (S.p_and x8) fun x9=>an (okG 26 x9.1) (fl x9.1 [4,5] (l (.l0 x9.2 x9.1 6)))
 | .l0 y0 y1 y2=>bn (S.p_take y0 [111,114]) fun x10=>cnd x10.1 (bn (S.p_and x10.2) fun x11=>an (okG 26 x11.1) (an (okG 26 (G 26 y1)) (an (okG 26 (G 26 x11.1)) (bn (S.r_bin [111,114] (G 26 y1) (G 26 x11.1)) fun x12=>an (okG 26 x12) (fl x12 [4,5] (l (.l0 x11.2 x12 (y2 + 6)))))))) (fl y1 [4,5] (r ((G 26 y1),(B74.mk x10.2.c0 x10.2.c1 (IntKind.i64.wrap (x10.2.c2 - 1)) x10.2.c3 x10.2.c4))))
theorem QnS (S:Q9):KOk Tryz.prog [] 24 Tryz.f24 (Qg S) [([0,0,1,1,1],[(1,1),(4,18)],false)] 1 QlS Jt (JO S):=by intro K g v; cases v <;> kernel_rfl
theorem Qoi {S:Q9}:Mono (JO S):=fun _ _ _ hl v=>by cases v <;> (dsimp only [JO]; repeat' first | apply Qv | apply QF | (refine QE fun _=>?_) | (refine Qr ?_ ?_ fun _ _=>?_) | apply Qs | exact hl _ | exact id)
def Q9k (S:Q9) (n:Nat) (s0:B74):Option (D × B74):=rawN Jt (JO S) n (.e s0)
theorem Qlj {S:Q9} (hS:Qf S) (n:Nat):EntryOk Tryz.prog (e25 24 26 (Q9k S n)):=Je fun _ _ hr=>Qd Q7 Tryz.func24 rfl hS (QnS S) Qoi rfl rfl hr
inductive Q0b where
 | e (a0:D) (a1:D)
 | l0 (y0:D) (y1:D) (y2:Int)
def Q8U:Q0b → Pth × List AV × Heap
 | .e a0 a1=>([],startT Tryz.f36 [.dat a0,.dat a1],[])
 | .l0 y0 y1 y2=>([0,1,0,1,1],mkT 26 [(0,.dat y0),(1,.dat y1),(5,.dat (.int .i64 y2))],[])
def Ju (S:Q9) (r:Bool → Prop) (l:Q0b → Prop):Q0b → Prop
 | .e a0 a1=>bn (asL a0) fun x16=>bn (asL a1) fun x17=>cnd (Int.ofNat x16.length != Int.ofNat x17.length) (r false) (l (.l0 a0 a1 0))
 | .l0 y0 y1 y2=>bn (asL y0) fun x18=>cnd (decide (y2 < Int.ofNat x18.length)) (bn (asL y0) fun x19=>bn (atD x19 y2) fun x20=>an x20.flat (bn (asS x20) fun x21=>bn (asL y1) fun x22=>bn (atD x22 y2) fun x23=>an x23.flat (bn (asS x23) fun x24=>cnd (!x21 == x24) (r false) (l (.l0 y0 y1 (IntKind.i64.wrap (y2 + 1))))))) (r true)
theorem Qab (S:Q9):KOk Tryz.prog [] 36 Tryz.f36 (Qg S) [([0,1,0,1,1],[(2,3),(6,20)],false)] 0 Q8U Hl (Ju S):=by intro K g v; cases v <;> kernel_rfl
theorem Qau {S:Q9}:Mono (Ju S):=fun _ _ _ hl v=>by cases v <;> (dsimp only [Ju]; repeat' first | apply Qv | apply QF | (refine QE fun _=>?_) | (refine Qr ?_ ?_ fun _ _=>?_) | apply Qs | exact hl _ | exact id)
def Q13 (S:Q9) (n:Nat) (a0:D) (a1:D):Option (Bool):=rawN Hl (Ju S) n (.e a0 a1)
theorem Q95 {S:Q9} (hS:Qf S) (n:Nat):EntryOk Tryz.prog (e30 36 (Q13 S n)):=Q0d fun _ _ _ hr=>Qd Q7 Tryz.func36 rfl hS (Qab S) Qau rfl rfl hr
inductive Q73 where
 | en (s0:B132) (a1:Int)
 | eo (s0:B132) (a1:Int) (es0:List D) (w0:Nat)
def QkW:Q73 → Pth × List AV × Heap
 | .en s0 a1=>([],startT Tryz.f134 [.ptr (some (0,0)),.dat (.int .i64 a1)],[some (.cells 132 [.dat (.str (s0).c0),.dat (.int .i64 (s0).c1),.dat .nils] s0.ver)])
 | .eo s0 a1 es0 w0=>([],startT Tryz.f134 [.ptr (some (0,0)),.dat (.int .i64 a1)],[some (.cells 132 [.dat (.str (s0).c0),.dat (.int .i64 (s0).c1),.own (.at 0 2 w0 107) es0] s0.ver)])
def Q5o (S:Q9) (r:Int × B132 → Prop) (l:Q73 → Prop):Q73 → Prop
 | .en s0 a1=>r (10,(⟨s0.c0,a1,.n,s0.ver + 1⟩:B132))
 | .eo s0 a1 es0 w0=>r (10,(⟨s0.c0,a1,(.o es0 w0),s0.ver + 1⟩:B132))
theorem QeB (S:Q9):KOk Tryz.prog [true] 134 Tryz.f134 (Qg S) [] 1 QkW Q6a (Q5o S):=by intro K g v; cases v <;> kernel_rfl
def Q7E (S:Q9) (n:Nat) (s0:B132) (a1:Int):Option (Int × B132):=gcas s0.c2 (rawN Q6a (Q5o S) n (.en s0 a1)) (none) fun es0 w0=>rawN Q6a (Q5o S) n (.eo s0 a1 es0 w0)
theorem QlG {S:Q9} (hS:Qf S) (n:Nat):EntryOk Tryz.prog (e39 134 (Q7E S n)):=Qns fun ⟨_,_,g0,_⟩ _ r hr=>by
 rcases g0 with _ | _ | ⟨_,_⟩
 ·exact Qd Q7 Tryz.func134 rfl hS (QeB S) (fun _ _ _ _ v=>by cases v <;> exact id) rfl rfl hr
 ·exact nomatch (show (none:Option (Int × B132)) = some r from hr)
 ·exact Qd Q7 Tryz.func134 rfl hS (QeB S) (fun _ _ _ _ v=>by cases v <;> exact id) rfl rfl hr
inductive Q5u where
 | e (s0:B105)
def QhI:Q5u → Pth × List AV × Heap
 | .e s0=>([],startT Tryz.f154 [.ptr (some (0,0))],[b105 s0 0])
def Hk (S:Q9) (r:D × B105 → Prop) (l:Q5u → Prop):Q5u → Prop
 | .e s0=>bn (S.s_must s0 [119,104,101,110]) fun x7=>bn (S.s_expr x7) fun x8=>an (okG 26 x8.1) (fl x8.1 [4,5] (bn (S.s_must x8.2 [116,104,101,110]) fun x9=>bn (S.s_expr x9) fun x10=>an (okG 26 x10.1) (fl x10.1 [4,5] (bn (S.s_must x10.2 [101,108,115,101]) fun x11=>bn (S.s_expr x11) fun x12=>an (okG 26 x12.1) (fl x12.1 [4,5] (bn (S.s_must x12.2 [101,110,100]) fun x13=>r ((.agg [.int .i64 11,.int .i64 0,.str [],.str [],D.slice [G 26 x8.1,G 26 x10.1,G 26 x12.1],.nils]),x13)))))))
theorem Qk8 (S:Q9):KOk Tryz.prog [] 154 Tryz.f154 (Qg S) [] 1 QhI Jj (Hk S):=by intro K g v; cases v <;> kernel_rfl
def Q6f (S:Q9) (n:Nat) (s0:B105):Option (D × B105):=rawN Jj (Hk S) n (.e s0)
theorem QgI {S:Q9} (hS:Qf S) (n:Nat):EntryOk Tryz.prog (e0 154 26 (Q6f S n)):=QR fun _ _ hr=>Qd Q7 Tryz.func154 rfl hS (Qk8 S) (fun _ _ _ _ v=>by cases v <;> exact id) rfl rfl hr
inductive Qdn where
 | e (s0:B74)
def Qov:Qdn → Pth × List AV × Heap
 | .e s0=>([],startT Tryz.f86 [.ptr (some (0,0))],[b74 s0 0])
def YF (S:Q9) (r:D × B74 → Prop) (l:Qdn → Prop):Qdn → Prop
 | .e s0=>cnd (s0.c4 != 0) (r ((.agg [.int .i64 0,.int .i64 0,.str [],.str [],.nils,.nils]),s0)) (bn (S.p_take s0 [110,111,116]) fun x4=>cnd x4.1 (bn (S.p_down x4.2) fun x5=>bn (S.p_not x5) fun x6=>an (okG 26 x6.1) (r ((.agg [.int .i64 8,.int .i64 0,.str [],.str [],D.slice [G 26 x6.1],.nils]),(B74.mk x6.2.c0 x6.2.c1 (IntKind.i64.wrap (x6.2.c2 - 1)) x6.2.c3 x6.2.c4)))) (bn (S.p_cmp x4.2) fun x7=>an (okG 26 x7.1) (fl x7.1 [4,5] (r ((G 26 x7.1),x7.2)))))
theorem Qqh (S:Q9):KOk Tryz.prog [] 86 Tryz.f86 (Qg S) [] 1 Qov Jt (YF S):=by intro K g v; cases v <;> kernel_rfl
def Qbr (S:Q9) (n:Nat) (s0:B74):Option (D × B74):=rawN Jt (YF S) n (.e s0)
theorem QnF {S:Q9} (hS:Qf S) (n:Nat):EntryOk Tryz.prog (e25 86 26 (Qbr S n)):=Je fun _ _ hr=>Qd Q7 Tryz.func86 rfl hS (Qqh S) (fun _ _ _ _ v=>by cases v <;> exact id) rfl rfl hr
inductive Q0D where
 | e (a0:D) (a1:D)
def Qa4:Q0D → Pth × List AV × Heap
 | .e a0 a1=>([],startT Tryz.f10 [.dat (G 26 a0),.dat (G 26 a1)],[])
def HW (S:Q9) (r:Bool → Prop) (l:Q0D → Prop):Q0D → Prop
 | .e a0 a1=>cnd (cI a0 0 == cI a1 0) (cnd (cI a0 1 == cI a1 1) (cnd (cS a0 2 == cS a1 2) (cnd (cS a0 3 == cS a1 3) (bn (S.r_SameExprs (cel a0 4) (cel a1 4)) fun x2=>cnd x2 (bn (S.r_SameQueries (cel a0 5) (cel a1 5)) fun x3=>r x3) (r false)) (r false)) (r false)) (r false)) (r false)
theorem Qdi (S:Q9):KOk Tryz.prog [] 10 Tryz.f10 (Qg S) [] 0 Qa4 Q1V (HW S):=by intro K g v; cases v <;> kernel_rfl
def Q27 (S:Q9) (n:Nat) (a0:D) (a1:D):Option (Bool):=rawN Q1V (HW S) n (.e a0 a1)
theorem Q9S {S:Q9} (hS:Qf S) (n:Nat):EntryOk Tryz.prog (e29 10 26 26 (Q27 S n)):=Q5j fun _ _ _ hr=>Qd Q7 Tryz.func10 rfl hS (Qdi S) (fun _ _ _ _ v=>by cases v <;> exact id) rfl rfl hr
inductive Q2V where
 | e (s0:B105)
def Qeq:Q2V → Pth × List AV × Heap
 | .e s0=>([],startT Tryz.f70 [.ptr (some (0,0))],[b105 s0 0])
def YA (S:Q9) (r:Int × B105 → Prop) (l:Q2V → Prop):Q2V → Prop
 | .e s0=>cnd (s0.c4 != 0) (bn (S.s_fail s0 10) fun x5=>r (0,x5)) (bn (S.s_now s0) fun x6=>an (okG 107 x6.1) (cnd (cI x6.1 0 != 2) (bn (S.s_fail x6.2 10) fun x7=>r (0,x7)) (bn (S.s_now x6.2) fun x8=>an (okG 107 x8.1) (bn (S.s_next x8.2) fun x9=>r ((cI x8.1 2),x9)))))
theorem QgL (S:Q9):KOk Tryz.prog [] 70 Tryz.f70 (Qg S) [] 1 Qeq Qdv (YA S):=by intro K g v; cases v <;> kernel_rfl
def Q4s (S:Q9) (n:Nat) (s0:B105):Option (Int × B105):=rawN Qdv (YA S) n (.e s0)
theorem Qey {S:Q9} (hS:Qf S) (n:Nat):EntryOk Tryz.prog (e8 70 (Q4s S n)):=QiX fun _ _ hr=>Qd Q7 Tryz.func70 rfl hS (QgL S) (fun _ _ _ _ v=>by cases v <;> exact id) rfl rfl hr
inductive Q30 where
 | e (a0:Int)
def QeW:Q30 → Pth × List AV × Heap
 | .e a0=>([],startT Tryz.f109 [.dat (.int .u8 a0)],[])
def Q22 (S:Q9) (r:Bool → Prop) (l:Q30 → Prop):Q30 → Prop
 | .e a0=>cnd (decide (a0 ≥ 97)) (cnd (decide (a0 ≤ 122)) (r true) (cnd (decide (a0 ≥ 65)) (cnd (decide (a0 ≤ 90)) (r true) (r (a0 == 95))) (r (a0 == 95)))) (cnd (decide (a0 ≥ 65)) (cnd (decide (a0 ≤ 90)) (r true) (r (a0 == 95))) (r (a0 == 95)))
theorem Qhg (S:Q9):KOk Tryz.prog [] 109 Tryz.f109 (Qg S) [] 0 QeW Yz (Q22 S):=by intro K g v; cases v <;> kernel_rfl
def Q3Z (S:Q9) (n:Nat) (a0:Int):Option (Bool):=rawN Yz (Q22 S) n (.e a0)
theorem QdD {S:Q9} (hS:Qf S) (n:Nat):EntryOk Tryz.prog (e32 109 (Q3Z S n)):=YQ fun _ _ hr=>Qd Q7 Tryz.func109 rfl hS (Qhg S) (fun _ _ _ _ v=>by cases v <;> exact id) rfl rfl hr
inductive QhQ where
 | e (s0:B74)
def QpH:QhQ → Pth × List AV × Heap
 | .e s0=>([],startT Tryz.f106 [.ptr (some (0,0))],[b74 s0 0])
def Q44 (S:Q9) (r:Int × B74 → Prop) (l:QhQ → Prop):QhQ → Prop
 | .e s0=>bn (S.p_take s0 [105,110,116]) fun x4=>cnd x4.1 (r (2,x4.2)) (bn (S.p_take x4.2 [98,111,111,108]) fun x5=>cnd x5.1 (r (1,x5.2)) (bn (S.p_take x5.2 [116,101,120,116]) fun x6=>cnd x6.1 (r (3,x6.2)) (bn (S.p_bad x6.2 10) fun x7=>r (0,x7))))
theorem QrV (S:Q9):KOk Tryz.prog [] 106 Tryz.f106 (Qg S) [] 1 QpH Q4c (Q44 S):=by intro K g v; cases v <;> kernel_rfl
def QeD (S:Q9) (n:Nat) (s0:B74):Option (Int × B74):=rawN Q4c (Q44 S) n (.e s0)
theorem Qqa {S:Q9} (hS:Qf S) (n:Nat):EntryOk Tryz.prog (e23 106 (QeD S n)):=Qc5 fun _ _ hr=>Qd Q7 Tryz.func106 rfl hS (QrV S) (fun _ _ _ _ v=>by cases v <;> exact id) rfl rfl hr
inductive Q59 where
 | e
def Qga:Q59 → Pth × List AV × Heap
 | .e=>([],startT Tryz.f120 [],[])
def Q92 (S:Q9) (r:D → Prop) (l:Q59 → Prop):Q59 → Prop
 | .e=>r (.slice [.str [124,124],.str [60,62],.str [60,61],.str [62,61],.str [40],.str [41],.str [44],.str [59],.str [46],.str [42],.str [43],.str [45],.str [47],.str [37],.str [61],.str [60],.str [62],.str [123],.str [125],.str [58]])
theorem Qls (S:Q9):KOk Tryz.prog [] 120 Tryz.f120 (Qg S) [] 0 Qga Q3q (Q92 S):=by intro K g v; cases v <;> kernel_rfl
def Q5S (S:Q9) (n:Nat):Option (D):=rawN Q3q (Q92 S) n .e
theorem Qie {S:Q9} (hS:Qf S) (n:Nat):EntryOk Tryz.prog (e31 120 (Q5S S n)):=Qcj fun _ hr=>Qd Q7 Tryz.func120 rfl hS (Qls S) (fun _ _ _ _ v=>by cases v <;> exact id) rfl rfl hr
inductive Hn where
 | e (a0:List UInt8) (a1:Int)
def Q6x:Hn → Pth × List AV × Heap
 | .e a0 a1=>([],startT Tryz.f130 [.dat (.str a0),.dat (.int .u8 a1)],[])
def YM (S:Q9) (r:Int → Prop) (l:Hn → Prop):Hn → Prop
 | .e a0 a1=>bn (S.g_IBS a0 a1) fun x1=>r x1
theorem Q8L (S:Q9):KOk Tryz.prog [] 130 Tryz.f130 (Qg S) [] 0 Q6x Q3L (YM S):=by intro K g v; cases v <;> kernel_rfl
def Q0B (S:Q9) (n:Nat) (a0:List UInt8) (a1:Int):Option (Int):=rawN Q3L (YM S) n (.e a0 a1)
theorem Q6r {S:Q9} (hS:Qf S) (n:Nat):EntryOk Tryz.prog (e42 130 (Q0B S n)):=Q4D fun _ _ _ hr=>Qd Q7 Tryz.func130 rfl hS (Q8L S) (fun _ _ _ _ v=>by cases v <;> exact id) rfl rfl hr
inductive QcZ where
 | e (a0:List UInt8) (a1:D) (a2:D)
def Qp7:QcZ → Pth × List AV × Heap
 | .e a0 a1 a2=>([],startT Tryz.f55 [.dat (.str a0),.dat (G 26 a1),.dat (G 26 a2)],[])
def Q6W (S:Q9) (r:D → Prop) (l:QcZ → Prop):QcZ → Prop
 | .e a0 a1 a2=>r (.agg [.int .i64 10,.int .i64 0,.str a0,.str [],D.slice [G 26 a1,G 26 a2],.nils])
theorem QpG (S:Q9):KOk Tryz.prog [] 55 Tryz.f55 (Qg S) [] 0 Qp7 Qco (Q6W S):=by intro K g v; cases v <;> kernel_rfl
def QbU (S:Q9) (n:Nat) (a0:List UInt8) (a1:D) (a2:D):Option (D):=rawN Qco (Q6W S) n (.e a0 a1 a2)
theorem Qmw {S:Q9} (hS:Qf S) (n:Nat):EntryOk Tryz.prog (e9 55 26 26 26 (QbU S n)):=QiV fun _ _ _ _ hr=>Qd Q7 Tryz.func55 rfl hS (QpG S) (fun _ _ _ _ v=>by cases v <;> exact id) rfl rfl hr
inductive Q5v where
 | e (a0:List UInt8)
def Qht:Q5v → Pth × List AV × Heap
 | .e a0=>([],startT Tryz.f11 [.dat (.str a0)],[])
def Q9C (S:Q9) (r:D × Int × Int → Prop) (l:Q5v → Prop):Q5v → Prop
 | .e a0=>bn (S.s_readQ a0 0) fun x1=>an (okG 38 x1.1) (fl x1.1 [2,3,4,5,6,7,9] (r ((G 38 x1.1),x1.2.1,x1.2.2)))
theorem QkF (S:Q9):KOk Tryz.prog [] 11 Tryz.f11 (Qg S) [] 0 Qht YC (Q9C S):=by intro K g v; cases v <;> kernel_rfl
def Q64 (S:Q9) (n:Nat) (a0:List UInt8):Option (D × Int × Int):=rawN YC (Q9C S) n (.e a0)
theorem QgB {S:Q9} (hS:Qf S) (n:Nat):EntryOk Tryz.prog (e17 11 38 (Q64 S n)):=YT fun _ _ hr=>Qd Q7 Tryz.func11 rfl hS (QkF S) (fun _ _ _ _ v=>by cases v <;> exact id) rfl rfl hr
inductive Qcq where
 | e (a0:List UInt8) (a1:Int)
def Qpa:Qcq → Pth × List AV × Heap
 | .e a0 a1=>([],startT Tryz.f23 [.dat (.str a0),.dat (.int .i64 a1)],[])
def Q6K (S:Q9) (r:B74 → Prop) (l:Qcq → Prop):Qcq → Prop
 | .e a0 a1=>bn (S.k_Scan a0) fun x1=>an x1.1.flat (r (B74.mk x1.1 0 a1 x1.2.1 x1.2.2))
theorem QqE (S:Q9):KOk Tryz.prog [] 23 Tryz.f23 (Qg S) [] 0 Qpa Q9L (Q6K S):=by intro K g v; cases v <;> kernel_rfl
def QbG (S:Q9) (n:Nat) (a0:List UInt8) (a1:Int):Option (B74):=rawN Q9L (Q6K S) n (.e a0 a1)
theorem Qpu {S:Q9} (hS:Qf S) (n:Nat):EntryOk Tryz.prog (e28 23 (QbG S n)):=Qpi fun _ _ _ hr=>Qd Q7 Tryz.func23 rfl hS (QqE S) (fun _ _ _ _ v=>by cases v <;> exact id) rfl rfl hr
inductive Q5a where
 | e (s0:B105)
def Qhk:Q5a → Pth × List AV × Heap
 | .e s0=>([],startT Tryz.f50 [.ptr (some (0,0))],[b105 s0 0])
def Q0V (S:Q9) (r:B105 → Prop) (l:Q5a → Prop):Q5a → Prop
 | .e s0=>r (B105.mk s0.c0 s0.c1 (IntKind.i64.wrap (s0.c2 - 1)) s0.c3 s0.c4)
theorem QlJ (S:Q9):KOk Tryz.prog [] 50 Tryz.f50 (Qg S) [] 1 Qhk QcX (Q0V S):=by intro K g v; cases v <;> kernel_rfl
def Q6d (S:Q9) (n:Nat) (s0:B105):Option (B105):=rawN QcX (Q0V S) n (.e s0)
theorem QfN {S:Q9} (hS:Qf S) (n:Nat):EntryOk Tryz.prog (e3 50 (Q6d S n)):=Qio fun _ _ hr=>Qd Q7 Tryz.func50 rfl hS (QlJ S) (fun _ _ _ _ v=>by cases v <;> exact id) rfl rfl hr
end
end Go.Proofs.YtfdcjngclelnhaaGreat
